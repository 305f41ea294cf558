/-
  A small evaluator of the model's code over data without memory, and the words for it. Nothing of the program is named here.
-/
import Derived.Orders
import Derived.Below
import Derived.Laws.AppendOwn
import Derived.Laws.Entries
import Derived.Laws.StructEq
import Derived.Laws.Slices
import Derived.Laws.Strings
import Derived.Laws.Concat
import Derived.Laws.BytesString
import Derived.Laws.MakeOwn
import Derived.IntWalk
/-
 A small evaluator of the model's code over data without memory,and the words for it. Nothing of the program is named here.
-/
namespace Go.Proofs.YtkhhclpkljikkaaDoor.Ev
open Go
open List (length length_append length_cons length_singleton length_replicate length_set length_take length_drop mem_cons_of_mem mem_cons_self getD replicate mem_append_left mem_append_right all_eq_true drop_eq_getElem_cons drop_eq_nil_of_le append_assoc mem_singleton getElem?_append_left getElem?_append_right getElem?_eq_none getElem?_take mem_append)
noncomputable section
theorem zT {p:Prop} [Decidable p] (h:p):decide p=true:=decide_eq_true h
theorem zF {p:Prop} [Decidable p] (h:¬p):decide p=false:=decide_eq_false h
theorem zB {n m:Nat} (h:Nat.beq n m=true):n=m:=Nat.eq_of_beq_eq_true h
theorem zG {α:Type} {l:List α} {i:Nat} {a:α}:l.getD i a=l[i]?.getD a:=List.getD_eq_getElem?_getD
theorem zE {α:Type} {l:List α} {i:Nat} (h:i<l.length):l[i]? = some l[i]:=List.getElem?_eq_getElem h
inductive Ty where
 | int (k:IntKind)
 | str
 | bool
 | list (t:Ty)
 | pair (a b:Ty)
 | struct (t:Ty)
 | unit
 | tree
 | map (k e:Ty)
 | ref (t:Ty)
inductive GTree where
 | node (sign:List UInt8) (rule:Int) (kids:List GTree)
def GTree.sign:GTree→List UInt8
 | .node s _ _=>s
def GTree.rule:GTree→Int
 | .node _ r _=>r
def GTree.kids:GTree→List GTree
 | .node _ _ k=>k
def Den:Ty→Type
 | .int _=>Int
 | .str=>List UInt8
 | .bool=>Bool
 | .list t=>List (Den t)
 | .pair a b=>Den a×Den b
 | .struct t=>Den t
 | .unit=>Unit
 | .tree=>GTree
 | .map k e=>List (Den k×Den e)
 | .ref t=>Den t
inductive R where
 | v (x:Value)
 | sl (sz n:Nat) (get:Nat→Nat→R)
 | rop (m:Nat) (get:Nat→R)
 | li (t:Ty) (l:List (Den t))
 | mp (k e:Ty) (m:List (Den k×Den e))
 | rf (t:Ty) (x:Den t)
inductive C where
 | r (x:R)
 | own (id:Nat)
 | ptr (id off:Nat)
 | eptr (id sz i off:Nat)
 | fn (f:FuncId) (caps:List Nat)
 | dsl (id:Nat) (p:List Nat)
 | dptr (id:Nat) (p:List Nat) (sz k off:Nat)
 | win (id sz k:Nat)
 | slf (id:Nat)
 | junk
inductive D where
 | one (c:C)
 | agg (cs:List C)
inductive T where
 | d (x:D)
 | tup (xs:List D)
 | when (s:Nat) (want:Bool) (x:D)
 | nilq (n:Nat)
 | und
 | unk
inductive Obj where
 | box (t:TypeId) (cells:List C)
 | arr (t:TypeId) (sz n:Nat) (get:Nat→Nat→R)
 | lis (t:TypeId) (e:Ty) (l:List (Den e))
 | map (k e:Ty) (m:List (Den k×Den e))
 | deep (ts:List TypeId) (e:Ty) (l:List (Den e))
abbrev Heap:=List (Nat×Option Obj)
abbrev Ups:=List (Nat×Option Obj)
structure St where
 env:List (Nat×T)
 heap:Heap
def look {α:Type}:List (Nat×α)→Nat→Option α
 | [],_=>none
 | (k,x)::l,t=>bif Nat.beq k t then some x else look l t
def branch {α:Type} (b:Bool) (x y:Option α):Option α:=bif b then x else y
structure TI where
 info:TypeInfo
 desc:TypeDesc
 ez:List R
 ty:Option Ty
def plain:Value→Bool
 | .string s=>Nat.ble s.data.toList.length 9223372036854775807
 | .int k n=>decide (k.wrap n=n)
 | .bool _ | .pointer none | .nilFunc | .nilIface | .map none | .slice none 0 0=>true
 |_=>false
abbrev mk (l:List UInt8):ByteArray:=⟨l.toArray⟩
def width:Ty→Nat
 | .int _ | .str | .bool | .list _=>1
 | .pair a b=>width a+width b
 | .struct t=>width t
 | .unit=>0
 | .tree=>3
 | .map _ _=>1
 | .ref _=>1
def dflt:(t:Ty)→Den t
 | .int _=>(0:Int)
 | .str=>([]:List UInt8)
 | .bool=>false
 | .list t=>([]:List (Den t))
 | .pair a b=>(dflt a,dflt b)
 | .struct t=>dflt t
 | .unit=>()
 | .tree => .node [] 0 []
 | .map k e=>([]:List (Den k×Den e))
 | .ref t=>dflt t
def z0:R := .v (.bool false)
def cellsR:(t:Ty)→Den t→List R
 | .int k,n=>[.v (.int k n)]
 | .str,s=>[.v (.string (mk s))]
 | .bool,b=>[.v (.bool b)]
 | .list t,l=>[.li t l]
 | .pair a b,x=>cellsR a x.1++cellsR b x.2
 | .struct t,x=>cellsR t x
 | .unit,_=>[]
 | .tree,x=>[.v (.string (mk (GTree.sign x))), .v (.int .i64 (GTree.rule x)), .li .tree (GTree.kids x)]
 | .map k e,m=>[.mp k e m]
 | .ref t,x=>[.rf t x]
def getL (t:Ty) (l:List (Den t)):Nat→Nat→R:=fun i j=>(cellsR t (l.getD i (dflt t))).getD j z0
def tyEq:(a b:Ty)→Option (PLift (a=b))
 | .int k, .int k'=>if h:k=k' then some ⟨by rw[h]⟩else none
 | .str, .str=>some ⟨rfl⟩
 | .bool, .bool=>some ⟨rfl⟩
 | .list a, .list b=>match tyEq a b with
  |some h=>some ⟨by rw[h.down]⟩
  |none=>none
 | .pair a b, .pair c d=>match tyEq a c,tyEq b d with
  |some h,some g=>some ⟨by rw[h.down,g.down]⟩
  |_,_=>none
 | .struct a, .struct b=>match tyEq a b with
  |some h=>some ⟨by rw[h.down]⟩
  |none=>none
 | .unit, .unit=>some ⟨rfl⟩
 | .tree, .tree=>some ⟨rfl⟩
 | .map a b, .map c d=>match tyEq a c,tyEq b d with
  |some h,some g=>some ⟨by rw[h.down,g.down]⟩
  |_,_=>none
 | .ref a, .ref b=>match tyEq a b with
  |some h=>some ⟨by rw[h.down]⟩
  |none=>none
 |_,_=>none
def castL (t e:Ty) (l:List (Den t)):Option (List (Den e)):=match tyEq t e with
 |some h=>some (h.down ▸ l)
 |none=>none
def intR (k:IntKind):R→Option Int
 | .v (.int k' n)=>match decide (k=k')with
  |true=>some n
  |false=>none
 |_=>none
def strR:R→Option (List UInt8)
 | .v (.string s)=>some s.data.toList
 |_=>none
def boolR:R→Option Bool
 | .v (.bool b)=>some b
 |_=>none
def listR (t:Ty):R→Option (List (Den t))
 | .li e l=>castL e t l
 | .v (.slice none 0 0)=>some []
 |_=>none
def castM (k e k' e':Ty) (m:List (Den k×Den e)):Option (List (Den k'×Den e')):=match tyEq k k',tyEq e e' with
 |some h,some g=>some (h.down ▸ g.down ▸ m)
 |_,_=>none
def mapR (k e:Ty):R→Option (List (Den k×Den e))
 | .mp k' e' m=>castM k' e' k e m
 |_=>none
def treeR:List R→Option (GTree×List R)
 |a::b::c::rs=>match strR a,intR .i64 b,listR .tree c with
  |some s,some n,some l=>some (.node s n l,rs)
  |_,_,_=>none
 |_=>none
def refC (t t':Ty) (x:Den t):Option (Den t'):=match tyEq t t' with
 |some h=>some (h.down ▸ x)
 |none=>none
def refR (t:Ty) (n:Nat) (f:List R→Option (Den t×List R)):R→Option (Den t)
 | .rf t' x=>refC t' t x
 | .rop m get=>match Nat.beq m n with
  |true=>match f ((List.range n).map get)with
   |some (x,[])=>some x
   |_=>none
  |false=>none
 |_=>none
def headR {α:Type} (f:R→Option α):List R→Option (α×List R)
 | []=>none
 |r::rs=>match f r with
  |some x=>some (x,rs)
  |none=>none
def parseR:(t:Ty)→List R→Option (Den t×List R)
 | .int k,rs=>headR (intR k) rs
 | .str,rs=>headR strR rs
 | .bool,rs=>headR boolR rs
 | .list t,rs=>headR (listR t) rs
 | .pair a b,rs=>match parseR a rs with
  |some (x,rs)=>match parseR b rs with
   |some (y,rs)=>some ((x,y),rs)
   |none=>none
  |none=>none
 | .struct t,rs=>parseR t rs
 | .unit,rs=>some ((),rs)
 | .tree,rs=>treeR rs
 | .map k e,rs=>headR (mapR k e) rs
 | .ref t,rs=>headR (refR t (width t) (parseR t)) rs
def asR (t:Ty) (rs:List R):Option (Den t):=match parseR t rs with
 |some (x,[])=>some x
 |_=>none
def cellOf (v:Value):Option C:=bif plain v then some (.r (.v v))else none
def evConst:Value→Option T
 | .agg cs=>(cs.toList.mapM cellOf).map fun l => .d (.agg l)
 |v=>(cellOf v).map fun c => .d (.one c)
def evOpd (env:List (Nat×T)):Operand→Option T
 | .tmp t=>look env t
 | .const v=>evConst v
 | .func f=>some (.d (.one (.fn f [])))
 | .global _=>none
def D.cells:D→List C
 | .one c=>[c]
 | .agg cs=>cs
/-! ### references -/
def C.refs:C→List Nat
 | .own i | .ptr i _ | .eptr i _ _ _ | .dsl i _ | .dptr i _ _ _ _ | .win i _ _ | .slf i=>[i]
 | .fn _ l=>l
 |_=>[]
def D.refs (d:D):List Nat:=d.cells.flatMap C.refs
def T.refs:T→List Nat
 | .d x=>x.refs
 | .tup xs=>xs.flatMap D.refs
 | .when _ _ x=>x.refs
 |_=>[]
def Obj.refs:Obj→List Nat
 | .box _ cs=>cs.flatMap C.refs
 | .arr ..=>[]
 | .lis ..=>[]
 | .map ..=>[]
 | .deep ..=>[]
def elemNat (i:Nat):List Nat→Bool
 | []=>false
 |a::l=>bif Nat.beq a i then true else elemNat i l
def addNew:List Nat→List Nat→List Nat
 |acc,[]=>acc
 |acc,i::l=>bif elemNat i acc then addNew acc l else addNew (acc++[i]) l
def hget (h:Nat→Option Obj) (i:Nat):List Nat:=match h i with | some o=>o.refs | none=>[]
def closure (h:Nat→Option Obj):Nat→List Nat→List Nat
 |0,l=>l
 |k+1,l=>closure h k (addNew l (l.flatMap (hget h)))
def live (h:Heap) (i:Nat):Option Obj:=match look h i with | some (some o)=>some o | _=>none
/-! ### read only forms -/
def toR (h:Nat→Option Obj):C→Option R
 | .r x=>some x
 | .own i=>match h i with
  |some (.arr _ sz n get)=>some (.sl sz n get)
  |some (.lis _ e l)=>some (.li e l)
  |some (.map k e m)=>some (.mp k e m)
  |_=>none
 | .dsl i []=>match h i with
  |some (.deep _ e l)=>some (.li e l)
  |_=>none
 |_=>none
def allR (h:Nat→Option Obj):List C→Option (List R)
 | []=>some []
 |c::cs=>match toR h c,allR h cs with
  |some r,some rs=>some (r::rs)
  |_,_=>none
def ownIds:List C→List Nat
 | []=>[]
 | .own i::l=>i::ownIds l
 | .dsl i _::l=>i::ownIds l
 |_::l=>ownIds l
def D.toR (h:Nat→Option Obj) (d:D):Option D :=
 match d with
 | .one (.ptr i off)=>match h i with
  |some (.box _ cs)=>(allR h (cs.drop off)).map fun rs => .one (.r (.rop rs.length fun j=>rs.getD j z0))
  |_=>none
 | .one (.fn f [])=>some (.one (.fn f []))
 | .one c=>(Ev.toR h c).map fun r => .one (.r r)
 | .agg cs=>(allR h cs).map fun rs => .agg (rs.map .r)
def C.flat:C→Bool
 | .r (.v _)=>true
 | .fn _ []=>true
 |_=>false
def D.flat (d:D):Bool:=d.cells.all C.flat
def T.flat:T→Bool
 | .d x=>x.flat
 | .tup xs=>xs.all D.flat
 | .when _ _ x=>x.flat
 |_=>true
/-! ### renaming -/
def C.ren (ρ:Nat→Option Nat):C→C
 | .own i=>match ρ i with |some j => .own j |none => .junk
 | .ptr i o=>match ρ i with |some j => .ptr j o |none => .junk
 | .eptr i s k o=>match ρ i with |some j => .eptr j s k o |none => .junk
 | .fn f l=>match l.mapM ρ with |some l' => .fn f l' |none => .junk
 | .dsl i p=>match ρ i with |some j => .dsl j p |none => .junk
 | .dptr i p s k o=>match ρ i with |some j => .dptr j p s k o |none => .junk
 | .win i s k=>match ρ i with |some j => .win j s k |none => .junk
 | .slf i=>match ρ i with |some j => .slf j |none => .junk
 |c=>c
def D.ren (ρ:Nat→Option Nat):D→D
 | .one c => .one (c.ren ρ)
 | .agg cs => .agg (cs.map (C.ren ρ))
def T.ren (ρ:Nat→Option Nat):T→T
 | .d x => .d (x.ren ρ)
 | .tup xs => .tup (xs.map (D.ren ρ))
 | .when s b x => .when s b (x.ren ρ)
 |x=>x
def Obj.ren (ρ:Nat→Option Nat):Obj→Obj
 | .box t cs => .box t (cs.map (C.ren ρ))
 |o=>o
/-! ### contracts of functions -/
abbrev Fin:=T×Heap
abbrev Fun:=List D→List Obj→Option (Option Bool×T×Heap)
structure Con where
 ro:Bool
 f:Fun
def sid (t k:Nat):Nat:=1000+64*t+k
def backTo (ids:List Nat) (t:Nat) (i:Nat):Option Nat:=bif Nat.blt i 1000 then ids[i]? else bif Nat.blt i 1064 then some (sid t (i-1000))else none
def idxOf (ids:List Nat) (i:Nat):Option Nat :=
 match ids with
 | []=>none
 |a::l=>bif Nat.beq a i then some 0 else(idxOf l i).map (· + 1)
def allSome {α:Type}:List (Option α)→Option (List α)
 | []=>some []
 |none::_=>none
 |some a::l=>(allSome l).map (a::·)
def renUps (ρ:Nat→Option Nat):Heap→Option Ups
 | []=>some []
 | (i,o)::l=>match ρ i,renUps ρ l with
  |some j,some r=>some ((j,o.map (Obj.ren ρ))::r)
  |_,_=>none
def nodupN:List Nat→Bool
 | []=>true
 |i::l => !elemNat i l&&nodupN l
def tyFlat:Ty→Bool
 | .list _=>false
 | .pair a b=>tyFlat a&&tyFlat b
 | .struct t=>tyFlat t
 | .tree=>false
 | .map _ _=>false
 | .ref _=>false
 |_=>true
def tyNest:Ty→Bool
 | .list t=>tyNest t
 |t=>tyFlat t
def C.fresh:C→Bool
 | .r (.v _)=>true
 | .own _=>true
 | .dsl _ []=>true
 |_=>false
def T.fresh:T→Bool
 | .d x=>x.cells.all C.fresh
 | .tup xs=>xs.all fun x=>x.cells.all C.fresh
 |_=>false
def objFresh:Nat×Option Obj→Bool
 | (_,some (.lis _ e _))=>tyFlat e
 | (_,some (.deep _ e _))=>tyNest e
 | (_,some (.map k e _))=>tyFlat k&&tyFlat e
 |_=>false
def evCall (con:Con) (t:Nat) (ds:List D) (h:Nat→Option Obj):Option (Option Bool×T×Ups) :=
 match con.ro with
 |true =>
  match allSome (ds.map (D.toR h))with
  |none=>none
  |some ds' =>
   match con.f ds' []with
   |none=>none
   |some (c,r,[]) =>
    match r.flat with
    |true=>some (c,r,[])
    |false=>some (c,r.ren (backTo [] t),(closure h 3 (addNew [] (ds.flatMap D.refs))).map fun i=>(i,none))
   |some (c,r,objs) =>
    match renUps (backTo [] t) objs with
    |none=>none
    |some ups=>match r.fresh&&objs.all objFresh with
     |true=>some (c,r.ren (backTo [] t),ups)
     |false=>some (c,r.ren (backTo [] t),ups++(closure h 3 (addNew [] (ds.flatMap D.refs))).map fun i=>(i,none))
 |false =>
  let ids:=closure h 3 (addNew [] (ds.flatMap D.refs))
  match allSome (ids.map h),nodupN ids&&Nat.ble ids.length 1000 with
  |some os,true =>
   match con.f (ds.map (D.ren (idxOf ids))) (os.map (Obj.ren (idxOf ids)))with
   |none=>none
   |some (c,r,objs) =>
    match renUps (backTo ids t) objs with
    |none=>none
    |some ups=>some (c,r.ren (backTo ids t),ups)
  |_,_=>none
/-! ### operations on plain values -/
def seq (x y:ByteArray):Bool:=decide (x.data.toList=y.data.toList)
def evBin:BinOp→Value→Value→Option (Option Bool×Value)
 | .shl, .int k x, .int _ y=>some (some (decide (0≤y)), .int k (k.wrap (x*2 ^ (min y.toNat k.bits))))
 | .shr, .int k x, .int _ y=>some (some (decide (0≤y)), .int k (x.fdiv (2 ^ (min y.toNat k.bits))))
 |op, .int k x, .int k' y =>
  match decide (k=k')with
  |false=>none
  |true =>
   match op with
   | .add=>some (none, .int k (k.wrap (x+y)))
   | .sub=>some (none, .int k (k.wrap (x-y)))
   | .mul=>some (none, .int k (k.wrap (x*y)))
   | .quo=>some (some (!decide (y=0)), .int k (k.wrap (x.tdiv y)))
   | .rem=>some (some (!decide (y=0)), .int k (x.tmod y))
   | .xor=>some (none, .int k (k.wrap ((BitVec.ofInt k.bits x) ^^^ (BitVec.ofInt k.bits y)).toNat))
   | .and=>some (none, .int k (k.wrap ((BitVec.ofInt k.bits x) &&& (BitVec.ofInt k.bits y)).toNat))
   | .or=>some (none, .int k (k.wrap ((BitVec.ofInt k.bits x) ||| (BitVec.ofInt k.bits y)).toNat))
   | .eql=>some (none, .bool (decide (x=y)))
   | .neq=>some (none, .bool (!decide (x=y)))
   | .lss=>some (none, .bool (decide (x<y)))
   | .leq=>some (none, .bool (decide (x≤y)))
   | .gtr=>some (none, .bool (decide (y<x)))
   | .geq=>some (none, .bool (decide (y≤x)))
   |_=>none
 |op, .string x, .string y =>
  match op with
  | .add=>some (some (decide (x.data.toList.length+y.data.toList.length≤9223372036854775807)), .string (mk (x.data.toList++y.data.toList)))
  | .eql=>some (none, .bool (seq x y))
  | .neq=>some (none, .bool (!seq x y))
  | .lss=>some (none, .bool (Op.bytesLess x.data.toList y.data.toList))
  | .leq=>some (none, .bool (Op.bytesLess x.data.toList y.data.toList||seq x y))
  | .gtr=>some (none, .bool (!(Op.bytesLess x.data.toList y.data.toList||seq x y)))
  | .geq=>some (none, .bool (!Op.bytesLess x.data.toList y.data.toList))
  |_=>none
 |_,_,_=>none
def evUn:UnOp→Value→Option Value
 | .neg, .int k n=>some (.int k (k.wrap (0-n)))
 | .not, .bool b=>some (.bool !b)
 |_,_=>none
def eqCell:TypeDesc→C→C→Option Bool
 | .int _, .r (.v (.int k x)), .r (.v (.int k' y))=>match decide (k=k')with |true=>some (decide (x=y)) |false=>none
 | .string, .r (.v (.string x)), .r (.v (.string y))=>some (seq x y)
 | .bool, .r (.v (.bool x)), .r (.v (.bool y))=>some (x==y)
 |_,_,_=>none
def eqCells:List TypeDesc→List C→List C→Option Bool
 | [],[],[]=>some true
 |t::ts,x::xs,y::ys=>match eqCell t x y,eqCells ts xs ys with
  |some b,some r=>some (b&&r)
  |_,_=>none
 |_,_,_=>none
def descs (TT:TypeId→Option TI):List Field→Nat→Option (List TypeDesc)
 | [],_=>some []
 |f::fs,k=>match TT f.type,descs TT fs (k+1),Nat.beq f.offset k with
  |some ti,some r,true=>match Nat.beq ti.info.size 1 with
   |true=>some (ti.desc::r)
   |false=>none
  |_,_,_=>none
def inb (i:Int) (n:Nat):Bool:=decide (0≤i∧i<(n:Int))
def inr (l h:Int) (n:Nat):Bool:=decide (0≤l∧l≤h∧h≤(n:Int))
def byteAt (s:List UInt8) (i:Int):Int:=((s.getD i.toNat 0).toNat:Int)
def fits (n bytes:Nat):Bool:=decide (n*bytes≤140737488355328)
def arrApp (n:Nat) (get:Nat→Nat→R) (get':Nat→Nat→R):Nat→Nat→R:=fun i=>if i<n then get i else get' (i-n)
def arrSet (get:Nat→Nat→R) (k:Nat) (off:Nat) (r:R):Nat→Nat→R:=fun i j=>if i=k∧j=off then r else get i j
def arrSetAll (get:Nat→Nat→R) (k:Nat) (off:Nat) (rs:List R):Nat→Nat→R:=fun i j=>if i=k∧off≤j∧j<off+rs.length then rs.getD (j-off) z0 else get i j
def ezAt (ez:List R):Nat→R:=fun j=>ez.getD j z0
def arrSub (get:Nat→Nat→R) (lo n:Nat) (ez:List R):Nat→Nat→R:=fun i=>if i<n then get (lo+i)else ezAt ez
def allInts:IntKind→List (List R)→Option (List Int)
 |_,[]=>some []
 |k,[.v (.int k' n)]::l=>match decide (k=k')with |true=>(allInts k l).map (n::·) |false=>none
 |_,_=>none
def allStrs:List (List R)→Option (List ByteArray)
 | []=>some []
 | [.v (.string s)]::l=>(allStrs l).map (s::·)
 |_=>none
def rowsGet (desc:TypeDesc) (ez:List R) (rows:List (List R)):Nat→Nat→R :=
 match desc with
 | .int k=>match allInts k rows with
  |some l=>fun i _ => .v (.int k (l.getD i 0))
  |none=>fun i j=>(rows.getD i ez).getD j z0
 | .string=>match allStrs rows with
  |some l=>fun i _ => .v (.string (l.getD i (mk [])))
  |none=>fun i j=>(rows.getD i ez).getD j z0
 |_=>fun i j=>(rows.getD i ez).getD j z0
def sliceIn (h:Nat→Option Obj) (sz:Nat) (ez:List R):C→Option (List Nat×Nat×(Nat→Nat→R))
 | .r (.sl s n get)=>match Nat.beq s sz with
  |true=>some ([],n,get)
  |false=>none
 | .r (.v (.slice none 0 0))=>some ([],0,fun _=>ezAt ez)
 | .own i=>match h i with
  |some (.arr _ s n get)=>match Nat.beq s sz with
   |true=>some ([i],n,get)
   |false=>none
  |_=>none
 |_=>none
def sliceLen (h:Nat→Option Obj):C→Option Nat
 | .r (.sl _ n _)=>some n
 | .r (.v (.slice none 0 0))=>some 0
 | .own i=>match h i with
  |some (.arr _ _ n _)=>some n
  |_=>none
 |_=>none
def byteOf:R→UInt8
 | .v (.int .u8 n)=>UInt8.ofNat n.toNat
 |_=>0
def isByte:R→Bool
 | .v (.int .u8 _)=>true
 |_=>false
def bytesOf (n:Nat) (get:Nat→Nat→R):List UInt8:=(List.range n).map fun i=>byteOf (get i 0)
def areBytes (n:Nat) (get:Nat→Nat→R):Bool:=(List.range n).all fun i=>isByte (get i 0)
def dropIds (l:List Nat):Ups:=l.map fun i=>(i,none)
def setCells:List C→Nat→List C→List C
 |cs,_,[]=>cs
 |cs,off,x::xs=>setCells (cs.set off x) (off+1) xs
def zeroCells (ti:TI):Option (List C) :=
 match ti.info.zero with
 |some z=>allSome (z.cells.toList.map cellOf)
 |none=>none
def D.mkOf (ti:TI) (cs:List C):Option D :=
 match ti.desc with
 | .struct _=>some (.agg cs)
 | .array _ _=>some (.agg cs)
 |_=>match cs with
  | [c]=>some (.one c)
  |_=>none
def cellsAt (h:Nat→Option Obj) (n:Nat):C→Option (List C)
 | .ptr i off=>match h i with
  |some (.box _ cs)=>match Nat.ble (off+n) cs.length with
   |true=>some ((cs.drop off).take n)
   |false=>none
  |_=>none
 | .eptr i s k off=>match h i with
  |some (.arr _ sz _ get)=>match Nat.ble (off+n) sz&&Nat.beq s sz with
   |true=>some ((List.range n).map fun j => .r (get k (off+j)))
   |false=>none
  |_=>none
 | .r (.rop m get)=>match Nat.ble n m with
  |true=>some ((List.range n).map fun j => .r (get j))
  |false=>none
 |_=>none
def fieldsOf (ti:TI):Option (Array Field):=match ti.desc with | .struct fs=>some fs | _=>none
def buildCells (TT:TypeId→Option TI) (fs:Array Field):List C→List (Nat×Operand)→List T→Option (List C)
 |cs,[],[]=>some cs
 |cs,(i,_)::ps, .d x::xs =>
  match fs[i]? with
  |some f=>match TT f.type with
   |some ti=>match Nat.beq x.cells.length ti.info.size,Nat.ble (f.offset+x.cells.length) cs.length with
    |true,true=>buildCells TT fs (setCells cs f.offset x.cells) ps xs
    |_,_=>none
   |none=>none
  |none=>none
 |_,_,_=>none
def sliceRows (h:Nat→Option Obj) (sz:Nat):List (List R)→List (Nat×Operand)→List T→Option (List (List R))
 |rows,[],[]=>some rows
 |rows,(i,_)::ps, .d x::xs =>
  match allR h x.cells with
  |some rs=>match Nat.beq rs.length sz,Nat.blt i rows.length with
   |true,true=>sliceRows h sz (rows.set i rs) ps xs
   |_,_=>none
  |none=>none
 |_,_,_=>none
def repl {α:Type} (x:α):Nat→List α
 |0=>[]
 |n+1=>x::repl x n
def intD:T→Option Int
 | .d (.one (.r (.v (.int _ n))))=>some n
 |_=>none
def foldMin:Value→List T→Option Value
 |v,[]=>some v
 | .int k x, .d (.one (.r (.v (.int k' y))))::l=>match decide (k=k')with
  |true=>foldMin (.int k (if y<x then y else x)) l
  |false=>none
 |_,_=>none
def foldMax:Value→List T→Option Value
 |v,[]=>some v
 | .int k x, .d (.one (.r (.v (.int k' y))))::l=>match decide (k=k')with
  |true=>foldMax (.int k (if y > x then y else x)) l
  |false=>none
 |_,_=>none
def dsOf:List T→Option (List D)
 | []=>some []
 | .d x::l=>(dsOf l).map (x::·)
 |_=>none
/-! ### one operation -/
abbrev Types:=TypeId→Option TI
abbrev Env:=FuncId→Option Con
def evAppend (ei:TI) (et:TypeId) (ez:List R) (t:Nat) (h:Nat→Option Obj) (x y:C):Option (Option Bool×T×Ups) :=
 match zeroCells ei,sliceIn h ei.info.size ez y with
 |some zs,some (_,m,get') =>
  match Nat.beq zs.length ei.info.size&&Nat.blt 0 ei.info.size&&Nat.blt 0 ei.info.bytes with
  |true =>
   match x with
   | .r (.v (.slice none 0 0))=>some (some (fits m ei.info.bytes), .d (.one (.own (sid t 0))),[(sid t 0,some (.arr et ei.info.size m get'))])
   | .own i=>match h i with
    |some (.arr at_ sz n get)=>match Nat.beq at_ et&&Nat.beq sz ei.info.size with
     |true=>some (some (fits (n+m) ei.info.bytes), .d (.one (.own (sid t 0))),[(i,none),(sid t 0,some (.arr et ei.info.size (n+m) (arrApp n get get')))])
     |false=>none
    |_=>none
   |_=>none
  |false=>none
 |_,_=>none
def isStr:TypeDesc→Bool
 | .string=>true
 |_=>false
def tri {α:Type} (lo hi mx:Option Int) (a:α) (b:Option Int→Option Int→α):Option α:=match mx with
 |none=>some (b lo hi)
 |some m=>match lo,hi,m with
  |none,some 0,0=>some a
  |_,_,_=>none
theorem tri_some {α:Type} {lo hi mx:Option Int} {a r:α} {b:Option Int→Option Int→α} (h:tri lo hi mx a b=some r):(lo=none∧hi=some 0∧mx=some 0∧r=a)∨(mx=none∧r=b lo hi):=by
 unfold tri at h
 split at h
 ·cases h;exact .inr ⟨rfl,rfl⟩
 ·split at h
  ·cases h;exact .inl ⟨rfl,rfl,rfl,rfl⟩
  ·cases h
def ownAt (h:Nat→Option Obj) (e:TypeId) (lo:Option Int) (c:C):Option Nat:=match lo,c with
 |none, .own i=>match h i with
  |some (.arr at_ _ _ _)=>match Nat.beq at_ e with
   |true=>some i
   |false=>none
  |_=>none
 |_,_=>none
def evSlice (TT:Types) (x:D) (xt:TypeId) (lo hi mx:Option Int) (h:Nat→Option Obj) (t:Nat):Option (Option Bool×T×Ups) :=
 match x with
 | .one (.r (.v (.string s)))=>match mx with
  |some _=>none
  |none=>match TT xt with
   |none=>none
   |some ti=>match isStr ti.desc with
   |false=>none
   |true =>
   let l:=lo.getD 0
   let r:=hi.getD (s.data.toList.length:Int)
   some (some (inr l r s.data.toList.length), .d (.one (.r (.v (.string (mk ((s.data.toList.drop l.toNat).take (r.toNat-l.toNat))))))),[])
 | .one c=>match (TT xt).bind fun ti=>match ti.desc with | .slice e=>(TT e).map fun ei=>(e,ei,ti.ez) |_=>none with
  |none=>none
  |some (e,ei,ez)=>match sliceIn h ei.info.size ez c with
   |none=>none
   |some (ids,n,get)=>tri lo hi mx (none, .d (.one (.own (sid t 0))),[(sid t 0,some (.arr e ei.info.size 0 fun _=>ezAt ez))])
     fun lo hi=>match ownAt h e lo c with
      |some i=>(some (inr 0 (hi.getD (n:Int)) n), .d (.one (.own (sid t 0))),[(i,none),(sid t 0,some (.arr e ei.info.size (hi.getD (n:Int)).toNat (arrSub get 0 (hi.getD (n:Int)).toNat ez)))])
      |none=>(some (inr (lo.getD 0) (hi.getD (n:Int)) n), .d (.one (.r (.sl ei.info.size ((hi.getD (n:Int)).toNat-(lo.getD 0).toNat) (arrSub get (lo.getD 0).toNat ((hi.getD (n:Int)).toNat-(lo.getD 0).toNat) ez)))),dropIds ids)
 |_=>none
def evStore (h:Nat→Option Obj) (a:C) (x:D) (n:Nat):Option (Ups) :=
 match Nat.beq x.cells.length n with
 |false=>none
 |true=>match a with
  | .ptr i off=>match h i with
   |some (.box t cs)=>match Nat.ble (off+n) cs.length with
    |true=>some [(i,some (.box t (setCells cs off x.cells)))]
    |false=>none
   |_=>none
  | .eptr i s k off=>match h i with
   |some (.arr t sz m get)=>match allR h x.cells,Nat.ble (off+n) sz&&Nat.beq s sz,elemNat i (ownIds x.cells)with
    |some rs,true,false=>some ((i,some (.arr t sz m (match rs with | [r]=>arrSet get k off r |rs=>arrSetAll get k off rs)))::dropIds (ownIds x.cells))
    |_,_,_=>none
   |_=>none
  |_=>none
def evConv (byt:Bool) (d:TypeDesc) (ez:List R) (h:Nat→Option Obj):C→Option (Option Bool×C)
 | .r (.v (.int _ n))=>match d with
  | .int k'=>some (none, .r (.v (.int k' (k'.wrap n))))
  | .string=>some (none, .r (.v (.string (Utf8.encode n))))
  |_=>none
 | .r (.v (.string x))=>match d with
  | .string=>some (none, .r (.v (.string x)))
  |_=>none
 |c=>match byt,d with
  |true, .string=>match sliceIn h 1 ez c with
   |some (_,n,get)=>some (some (areBytes n get), .r (.v (.string (mk (bytesOf n get)))))
   |none=>none
  |_,_=>none
def isBytes (TT:Types):TypeDesc→Bool
 | .slice e=>match TT e with
  |some ei=>match ei.desc with
   | .int .u8=>Nat.beq ei.info.size 1
   |_=>false
  |none=>false
 |_=>false
def evLen (h:Nat→Option Obj):TypeDesc→T→Option Int
 | .string, .d (.one (.r (.v (.string s))))=>some (s.data.toList.length:Int)
 | .slice _, .d (.one c)=>match sliceLen h c with
  |some n=>some (n:Int)
  |none=>none
 |_,_=>none
def evBuiltin (TT:Types) (b:Builtin) (ats:Array TypeId) (t:Nat) (xs:List T) (h:Nat→Option Obj):Option (Option Bool×T×Ups) :=
 match b,xs with
 | .len,[x]=>match (ats[0]?).bind TT with
  |some ti=>(evLen h ti.desc x).map fun n=>(none, .d (.one (.r (.v (.int .i64 n)))),[])
  |none=>none
 | .append,[.d (.one x), .d (.one y)] =>
  match(match ats.toList with | [t1,t2]=>(bif Nat.beq t1 t2 then some t1 else none) | _=>none)with
  |none=>none
  |some st=>match TT st with
   |none=>none
   |some ti=>match ti.desc with
    | .slice e=>match TT e with
     |some ei=>evAppend ei e ti.ez t h x y
     |none=>none
    |_=>none
 | .min, .d (.one (.r (.v (.int k x))))::l=>(foldMin (.int k x) l).map fun v=>(none, .d (.one (.r (.v v))),[])
 | .max, .d (.one (.r (.v (.int k x))))::l=>(foldMax (.int k x) l).map fun v=>(none, .d (.one (.r (.v v))),[])
 |_,_=>none
def pickOpt (flag:Option Operand) (xs:List T):Option (Option Int×List T) :=
 match flag,xs with
 |none,xs=>some (none,xs)
 |some _,x::xs=>(intD x).map fun n=>(some n,xs)
 |some _,[]=>none
def isThere (h:Nat→Option Obj):C→Bool
 | .ptr i _=>match h i with |some (.box _ _)=>true |_=>false
 | .eptr i _ _ _=>match h i with |some _=>true |none=>false
 | .r (.rop _ _)=>true
 | .r (.rf _ _)=>true
 | .fn _ []=>true
 |_=>false
def areBoxes (h:Nat→Option Obj):List Nat→Bool
 | []=>true
 |i::l=>match h i with
  |some (.box _ _)=>areBoxes h l
  |_=>false
def isBool:TypeDesc→Bool
 | .bool=>true
 |_=>false
def pickBool (c:Operand) (want:Bool) (_:Operand):T→Option Bool
 | .d (.one (.r (.v (.bool b))))=>some b
 | .when s w (.one (.r (.v (.bool b))))=>match c with
  | .tmp t=>match Nat.beq s t&&(w==want)with
   |true=>some b
   |false=>none
  |_=>none
 |_=>none
def evArr (TT:Types) (ty:TypeId) (c:C) (i:Int) (h:Nat→Option Obj):Option (Option Bool×T×Ups) :=
 match(TT ty).bind fun ti=>match ti.desc with | .array n e=>(TT e).map fun ei=>(n,ei.info.size) | _=>none with
 |some (n,es)=>match c with
  | .r (.rop m get)=>match Nat.ble (n*es) m with
   |true=>some (some (inb i n), .d (.one (.r (.rop es fun j=>get (i.toNat*es+j)))),[])
   |false=>none
  | .ptr id off=>match h id with
   |some (.box _ cs)=>match Nat.ble (off+n*es) cs.length with
    |true=>some (some (inb i n), .d (.one (.ptr id (off+i.toNat*es))),[])
    |false=>none
   |_=>none
  |_=>none
 |none=>none
def evOp (TT:Types) (Γ:Env) (o:Oper) (xs:List T) (h:Nat→Option Obj):Option (Option Bool×T×Ups) :=
 let t:=o.dst.getD 0
 match o.op,xs with
 | .move _,[.d x]=>some (none, .d x,[])
 | .move _,[.tup x]=>some (none, .tup x,[])
 | .assign _,[.d x]=>some (none, .d x,[])
 | .assign _,[.tup x]=>some (none, .tup x,[])
 | .pick c a b,[.d (.one (.r (.v (.bool t)))),x,y]=>match pickBool c true a x,pickBool c false b y with
  |some x,some y=>some (none, .d (.one (.r (.v (.bool (bif t then x else y))))),[])
  |none,some q=>match x with
   | .und=>some (some (!t), .d (.one (.r (.v (.bool q)))),[])
   |_=>none
  |some p,none=>match y with
   | .und=>some (some t, .d (.one (.r (.v (.bool p)))),[])
   |_=>none
  |_,_=>none
 | .box e _,[.d x]=>match TT e with
  |some ti=>match Nat.beq x.cells.length ti.info.size with
   |true=>some (none, .d (.one (.ptr (sid t 0) 0)),[(sid t 0,some (.box e x.cells))])
   |false=>none
  |none=>none
 | .alloc e,[]=>match TT e with
  |some ti=>match zeroCells ti with
   |some cs=>some (none, .d (.one (.ptr (sid t 0) 0)),[(sid t 0,some (.box e cs))])
   |none=>none
  |none=>none
 | .build ty ps,xs=>match TT ty with
  |some ti=>match fieldsOf ti,zeroCells ti with
   |some fs,some z=>match fs.toList.all (fun f=>(TT f.type).isSome),buildCells TT fs z ps.toList xs with
    |true,some cs=>some (none, .d (.agg cs),[])
    |_,_=>none
   |_,_=>none
  |none=>none
 | .buildSlice ty n ps,xs=>match TT ty with
  |some ti=>match ti.desc with
   | .slice e=>match TT e with
    |some ei=>match zeroCells ei with
     |some z=>match allR (fun _=>none) z with
      |some zr=>match Nat.ble (n*ei.info.size) 16777216&&Nat.beq zr.length ei.info.size&&Nat.blt 0 ei.info.size,sliceRows h ei.info.size (repl zr n) ps.toList xs with
       |true,some rows=>some (none, .d (.one (.own (sid t 0))),(sid t 0,some (.arr e ei.info.size n (rowsGet ei.desc ti.ez rows)))::dropIds (xs.flatMap T.refs))
       |_,_=>none
      |none=>none
     |none=>none
    |none=>none
   |_=>none
  |none=>none
 | .load ty _,[.d (.one a)]=>match TT ty with
  |some ti=>match cellsAt h ti.info.size a with
   |some cs=>(D.mkOf ti cs).map fun d=>(none, .d d,[])
   |none=>none
  |none=>none
 | .store ty _ _,[.d (.one a), .d x]=>match TT ty with
  |some ti=>(evStore h a x ti.info.size).map fun u=>(none, .und,u)
  |none=>none
 | .nilCheck _,[.d (.one c)]=>match isThere h c with
  |true=>some (none, .d (.one c),[])
  |false=>none
 | .binOp op ty _ _ _,[.d (.one (.r (.v (.bool x)))), .d (.one (.r (.v (.bool y))))]=>match (match TT ty with |some ti=>isBool ti.desc |none=>false)with
  |true=>match op with
   | .eql=>some (none, .d (.one (.r (.v (.bool (x==y))))),[])
   | .neq=>some (none, .d (.one (.r (.v (.bool (!(x==y)))))),[])
   |_=>none
  |false=>none
 | .binOp op _ _ _ _,[.d (.one (.r (.v x))), .d (.one (.r (.v y)))]=>(evBin op x y).map fun(c,v)=>(c, .d (.one (.r (.v v))),[])
 | .binOp op ty _ _ _,[.d (.agg x), .d (.agg y)]=>match TT ty with
  |some ti=>match fieldsOf ti with
   | some fs => match descs TT fs.toList 0, fs.toList.all (fun f => f.name != "_") with
    |some ts,true=>match eqCells ts x y with
     |some b=>match op with
      | .eql=>some (none, .d (.one (.r (.v (.bool b)))),[])
      | .neq=>some (none, .d (.one (.r (.v (.bool !b)))),[])
      |_=>none
     |none=>none
    |_,_=>none
   |none=>none
  |none=>none
 | .unOp op _ _,[.d (.one (.r (.v x)))]=>(evUn op x).map fun v=>(none, .d (.one (.r (.v v))),[])
 | .convert s d _,[.d (.one c)]=>match TT s,TT d with
  |some si,some di=>(evConv (isBytes TT si.desc) di.desc si.ez h c).map fun(b,c)=>(b, .d (.one c),[])
  |_,_=>none
 | .makeFunc (.func f) _ cap,xs=>match dsOf xs with
  |some ds=>match allSome (ds.map fun | .one (.ptr i 0)=>some i |_=>none),Nat.beq cap.size xs.length with
   |some ids,true=>some (none, .d (.one (.fn f ids)),[])
   |_,_=>none
  |none=>none
 | .makeSlice ty _ _,[n,c]=>match TT ty,intD n,intD c with
  |some ti,some n,some c=>match ti.desc with
   | .slice e=>match TT e with
    |some ei=>match zeroCells ei with
     |some z=>match allR (fun _=>none) z with
      |some zr=>match Nat.beq zr.length ei.info.size&&Nat.blt 0 ei.info.size with
       |true=>some (some (decide (0≤n∧n≤c∧c*ei.info.bytes≤140737488355328∧c≤9223372036854775807)), .d (.one (.own (sid t 0))),[(sid t 0,some (.arr e ei.info.size n.toNat fun i=>if i<n.toNat then ezAt zr else ezAt ti.ez))])
       |false=>none
      |none=>none
     |none=>none
    |none=>none
   |_=>none
  |_,_,_=>none
 | .slice ty _ lo hi mx, .d x::xs=>match pickOpt lo xs with
  |some (lo,xs)=>match pickOpt hi xs with
   |some (hi,xs)=>match pickOpt mx xs with
    |some (mx,[])=>evSlice TT x ty lo hi mx h t
    |_=>none
   |none=>none
  |none=>none
 | .fieldAddr s _ k,[.d (.one a)]=>match TT s with
  |some ti=>match (fieldsOf ti).bind (·[k]?)with
   |some f=>match (match TT f.type with |some fi=>Nat.blt 0 fi.info.size |none=>false)&&isThere h a,a with
    |true, .ptr i off=>some (none, .d (.one (.ptr i (off+f.offset))),[])
    |true, .eptr i sz n off=>some (none, .d (.one (.eptr i sz n (off+f.offset))),[])
    |true, .r (.rop m get)=>match Nat.ble f.offset m with
     |true=>some (none, .d (.one (.r (.rop (m-f.offset) fun j=>get (f.offset+j)))),[])
     |false=>none
    |_,_=>none
   |none=>none
  |none=>none
 | .field s _ k,[.d (.agg cs)]=>match TT s with
  |some ti=>match (fieldsOf ti).bind (·[k]?)with
   |some f=>match TT f.type with
    |some fi=>match Nat.ble (f.offset+fi.info.size) cs.length with
     |true=>(D.mkOf fi ((cs.drop f.offset).take fi.info.size)).map fun d=>(none, .d d,[])
     |false=>none
    |none=>none
   |none=>none
  |none=>none
 | .indexAddr ty _ _,[.d (.one c),i]=>match (TT ty).bind fun ti=>match ti.desc with | .slice e=>(TT e).map (·.info.size) |_=>none,intD i with
  |some es,some i=>match c with
   | .r (.sl sz n get)=>match Nat.beq es sz with
    |true=>some (some (inb i n), .d (.one (.r (.rop sz (get i.toNat)))),[])
    |false=>none
   | .own id=>match h id with
    |some (.arr _ sz n _)=>match Nat.beq es sz with
     |true=>some (some (inb i n), .d (.one (.eptr id sz i.toNat 0)),[])
     |false=>none
    |_=>none
   |_=>none
  |none,some i=>evArr TT ty c i h
  |_,_=>none
 | .index ty _ _,[.d (.one (.r (.v (.string s)))),i]=>match (match TT ty with |some ti=>isStr ti.desc |none=>false),intD i with
  |true,some i=>some (some (inb i s.data.toList.length), .d (.one (.r (.v (.int .u8 (byteAt s.data.toList i))))),[])
  |_,_=>none
 | .extract _ k,[.tup xs]=>match xs[k]? with
  |some x=>some (none, .d x,[])
  |none=>none
 | .call c,xs=>match c.callee,xs with
  | .builtin b,xs=>evBuiltin TT b c.argTypes t xs h
  | .value _, .d (.one (.fn f caps))::xs=>match Γ f,dsOf xs,areBoxes h caps with
   |some con,some ds,true=>evCall con t (ds++caps.map fun i => .one (.ptr i 0)) h
   |_,_,_=>none
  |_,_=>none
 |_,_=>none
/-! ### typed data -/
def Obj.er:Obj→Obj
 | .lis t e l => .arr t (width e) l.length (getL e l)
 |o=>o
def T.er:T→T
 | .d (.one (.r (.rf t x))) => .d (.one (.r (.rop (width t) fun j=>(cellsR t x).getD j z0)))
 | .d (.one (.r (.li e l))) => .d (.one (.r (.sl (width e) l.length (getL e l))))
 |x=>x
structure Pay where
 t:Ty
 l:List (Den t)
def payOf (h:Nat→Option Obj) (e:Ty):C→Option (List (Den e))
 | .r (.li t l)=>castL t e l
 | .r (.v (.slice none 0 0))=>some []
 | .own i=>match h i with
  |some (.lis _ t l)=>castL t e l
  |_=>none
 |_=>none
def allDen (t:Ty):List (List R)→Option (List (Den t))
 | []=>some []
 |rs::l=>match asR t rs,allDen t l with
  |some x,some xs=>some (x::xs)
  |_,_=>none
def isStruct:Ty→Bool
 | .struct _ | .pair _ _ | .unit | .tree=>true
 |_=>false
def ofD:(t:Ty)→Den t→D
 | .int k,n => .one (.r (.v (.int k n)))
 | .str,s => .one (.r (.v (.string (mk s))))
 | .bool,b => .one (.r (.v (.bool b)))
 | .list t,l => .one (.r (.li t l))
 | .struct t,x => .agg ((cellsR t x).map .r)
 | .pair a b,x => .agg ((cellsR (.pair a b) x).map .r)
 | .unit,_ => .agg []
 | .tree,x => .agg ((cellsR .tree x).map .r)
 | .map k e,m => .one (.r (.mp k e m))
 | .ref t,x => .one (.r (.rf t x))
def rOfC:C→Option R
 | .r x=>some x
 |_=>none
def asD (t:Ty) (d:D):Option (Den t):=match isStruct t,d with
 |true, .agg cs=>match allSome (cs.map rOfC)with
  |some rs=>asR t rs
  |none=>none
 |false, .one (.r r)=>asR t [r]
 |_,_=>none
/-! ### maps -/
def eqI (a b:Int):Bool:=decide (a=b)
def eqS (a b:List UInt8):Bool:=decide (a=b)
def eqB (a b:Bool):Bool:=a==b
def eqDen:(t:Ty)→Den t→Den t→Bool
 | .int _,a,b=>eqI a b
 | .str,a,b=>eqS a b
 | .bool,a,b=>eqB a b
 | .pair s t,a,b=>eqDen s a.1 b.1&&eqDen t a.2 b.2
 | .struct t,a,b=>eqDen t a b
 | .unit,_,_=>true
 |_,_,_=>false
def mget (k e:Ty) (x:Den k):List (Den k×Den e)→Option (Den e)
 | []=>none
 | (a,v)::m=>bif eqDen k x a then some v else mget k e x m
def mset (k e:Ty) (x:Den k) (v:Den e):List (Den k×Den e)→List (Den k×Den e)
 | []=>[(x,v)]
 | (a,u)::m=>bif eqDen k x a then(x,v)::m else(a,u)::mset k e x v m
def keyFs (TT:TypeId→Option TI) (kb:TypeId→Ty→Bool):List Field→Nat→Ty→Bool
 | [],_, .unit=>true
 | [f],off,t=>keyF TT kb f off t
 |f::fs,off, .pair a b=>keyF TT kb f off a&&keyFs TT kb fs (off+width a) b
 |_,_,_=>false
where
 keyF (TT:TypeId→Option TI) (kb:TypeId→Ty→Bool) (f:Field) (off:Nat) (t:Ty):Bool :=
  kb f.type t && Nat.beq f.offset off && f.name != "_" && (match TT f.type with | some ti => Nat.beq ti.info.size (width t) | none => false)
def keyB (TT:TypeId→Option TI):Nat→TypeId→Ty→Bool
 |0,_,_=>false
 |n+1,kt,k=>match TT kt with
  |none=>false
  |some ti=>match ti.desc,k with
   | .int a, .int b=>decide (a=b)
   | .string, .str=>true
   | .bool, .bool=>true
   | .struct fs, .struct s=>keyFs TT (keyB TT n) fs.toList 0 s
   |_,_=>false
def isAggV:Value→Bool
 | .agg _=>true
 |_=>false
def mapTy (TT:TypeId→Option TI) (ty:TypeId):Option (TypeId×Ty×TI×Ty):=match TT ty with
 |some ti=>match ti.desc with
  | .map kt et=>match TT kt,TT et with
   |some ki,some ei=>match ki.ty,ei.ty,ei.info.zero with
    |some k,some e,some z=>bif keyB TT 4 kt k&&tyFlat k&&(isAggV z==isStruct e)then some (kt,k,ei,e)else none
    |_,_,_=>none
   |_,_=>none
  |_=>none
 |none=>none
def zeroDen (ei:TI) (e:Ty):Option (Den e):=match zeroCells ei with
 |some z=>match allR (fun _=>none) z with
  |some zr=>asR e zr
  |none=>none
 |none=>none
def mapOf (h:Nat→Option Obj) (k e:Ty):C→Option (List (Den k×Den e))
 | .own i=>match h i with
  |some (.map k' e' m)=>castM k' e' k e m
  |_=>none
 | .r (.mp k' e' m)=>castM k' e' k e m
 |_=>none
def denOf (h:Nat→Option Obj) (t:Ty) (d:D):Option (Den t):=match isStruct t,d with
 |true, .agg cs=>match allR h cs with
  |some rs=>asR t rs
  |none=>none
 |false, .one c=>match allR h [c]with
  |some rs=>asR t rs
  |none=>none
 |_,_=>none
/-! ### slices of slices of the call's own -/
def setR:List R→Nat→List R→List R
 |cs,_,[]=>cs
 |cs,off,x::xs=>setR (cs.set off x) (off+1) xs
def subPay:List Nat→Pay→Option Pay
 | [],P=>some P
 |k::p,⟨.list e,l⟩=>subPay p ⟨e,getD l k ([]:List (Den e))⟩
 |_::_,_=>none
def setSub:List Nat→(e:Ty)→List (Den e)→Nat→Nat→List R→Option (List (Den e))
 | [],e,l,k,off,rs=>match asR e (setR (cellsR e (l.getD k (dflt e))) off rs)with
  |some y=>some (l.set k y)
  |none=>none
 |k0::p, .list e,l,k,off,rs=>match setSub p e (getD l k0 ([]:List (Den e))) k off rs with
  |some m=>some (List.set l k0 m)
  |none=>none
 |_::_,_,_,_,_,_=>none
def tsOf (TT:TypeId→Option TI):Ty→TypeId→Option (List TypeId)
 | .list e,t=>match TT t with
  |some ti=>match ti.desc with
   | .slice t'=>match tsOf TT e t' with
    |some l=>bif Nat.beq ti.info.size 1 then some (t::l)else none
    |none=>none
   |_=>none
  |none=>none
 |e,t=>match TT t with
  |some ti=>bif tyFlat e&&Nat.beq ti.info.size (width e)then some [t] else none
  |none=>none
def eqNats:List Nat→List Nat→Bool
 | [],[]=>true
 |a::l,b::m=>Nat.beq a b&&eqNats l m
 |_,_=>false
def isDeepLeaf:Ty→Bool
 | .int _ | .str | .bool | .pair _ _ | .struct _=>true
 |_=>false
def rowOf (h:Nat→Option Obj):C→Option (Nat×List TypeId×Pay)
 | .own i=>match h i with
  |some (.lis t e l)=>bif tyFlat e&&isDeepLeaf e then some (i,[t],⟨e,l⟩)else none
  |_=>none
 | .dsl i []=>match h i with
  |some (.deep ts e l)=>some (i,ts,⟨e,l⟩)
  |_=>none
 |_=>none
def sliceOf (TT:TypeId→Option TI) (ty:TypeId):Option (TypeId×TI):=match TT ty with
 |some ti=>match ti.desc with
  | .slice e=>match TT e with
   |some ei=>some (e,ei)
   |none=>none
  |_=>none
 |none=>none
def isSliceD:TypeDesc→Bool
 | .slice _=>true
 |_=>false
def isListTy:Ty→Bool
 | .list _=>true
 |_=>false
def elemTy (TT:Types) (ty:TypeId):Option (TI×Ty):=match TT ty with
 |some ti=>match ti.desc with
  | .slice e=>match TT e with
   |some ei=>match ei.ty with
    |some t=>match Nat.beq (width t) ei.info.size with
     |true=>some (ei,t)
     |false=>none
    |none=>none
   |none=>none
  |_=>none
 |none=>none
def payOp (TT:Types) (o:Oper) (xs:List T) (h:Nat→Option Obj):Option Pay :=
 match o.op,xs with
 | .buildSlice ty n ps,xs=>match elemTy TT ty with
  |some (ei,t)=>match zeroCells ei with
   |some z=>match allR (fun _=>none) z with
    |some zr=>match sliceRows h ei.info.size (repl zr n) ps.toList xs with
     |some rows=>match allDen t rows with
      |some l=>some ⟨t,l⟩
      |none=>none
     |none=>none
    |none=>none
   |none=>none
  |none=>none
 | .makeSlice ty _ _,[n,_]=>match elemTy TT ty,intD n with
  |some (ei,t),some n=>match zeroCells ei with
   |some z=>match allR (fun _=>none) z with
    |some zr=>match asR t zr with
     |some x=>some ⟨t,replicate n.toNat x⟩
     |none=>none
    |none=>none
   |none=>none
  |_,_=>none
 | .slice ty _ lo hi mx, .d (.one c)::xs=>match elemTy TT ty with
  |some (_,t)=>match payOf h t c,pickOpt lo xs with
   |some l,some (lo,xs)=>match pickOpt hi xs with
    |some (hi,xs)=>match pickOpt mx xs with
     |some (mx,[])=>tri lo hi mx ⟨t,[]⟩ fun lo hi=>⟨t,(l.drop (lo.getD 0).toNat).take ((hi.getD (l.length:Int)).toNat-(lo.getD 0).toNat)⟩
     |_=>none
    |none=>none
   |_,_=>none
  |none=>none
 | .store _ _ _,[.d (.one (.eptr i _ k off)), .d x]=>match h i,allR h x.cells with
  |some (.lis _ t l),some rs=>match asR t (setR (cellsR t (l.getD k (dflt t))) off rs)with
   |some y=>some ⟨t,l.set k y⟩
   |none=>none
  |_,_=>none
 | .call c,[.d (.one x), .d (.one y)]=>match c.callee,(c.argTypes[0]?).bind (elemTy TT)with
  | .builtin .append,some (_,t)=>match payOf h t x,payOf h t y with
   |some l,some m=>some ⟨t,l++m⟩
   |_,_=>none
  |_,_=>none
 |_,_=>none
def clrL {e:Ty} (l:List (Den e)) (k:Nat):List (Den e):=List.take k l++replicate (length l-k) (dflt e)
def intL (s:List UInt8):List Int:=s.map fun b=>(b.toNat:Int)
def xOp (TT:Types) (o:Oper) (xs:List T) (h:Nat→Option Obj):Option (Option Bool×T×Ups) :=
 let t:=o.dst.getD 0
 match o.op,xs with
 | .makeMap ty none,[]=>match mapTy TT ty with
  |some (_,k,_,e)=>some (none, .d (.one (.own (sid t 0))),[(sid t 0,some (.map k e []))])
  |none=>none
 | .lookup ty _ _ ok,[.d (.one c), .d key]=>match mapTy TT ty with
  |some (_,k,ei,e)=>match mapOf h k e c,denOf h k key,zeroDen ei e,ownIds key.cells with
   |some m,some x,some z,[]=>match ok with
    |true=>some (none, .tup [ofD e ((mget k e x m).getD z), .one (.r (.v (.bool (mget k e x m).isSome)))],[])
    |false=>some (none, .d (ofD e ((mget k e x m).getD z)),[])
   |_,_,_,_=>none
  |none=>none
 | .mapUpdate ty _ _ _,[.d (.one (.own i)), .d key, .d x] | .insert ty _ _ _,[.d (.one (.own i)), .d key, .d x]=>match mapTy TT ty with
  |some (_,k,_,e)=>match mapOf h k e (.own i),denOf h k key,denOf h e x,elemNat i (ownIds x.cells),ownIds key.cells with
   |some m,some y,some v,false,[]=>some (none, .und,(i,some (.map k e (mset k e y v m)))::dropIds (ownIds x.cells))
   |_,_,_,_,_=>none
  |none=>none
 | .convert s d _,[.d (.one (.r (.v (.string x))))]=>match TT s,sliceOf TT d with
  |some _,some (et,ei)=>match ei.desc with
   | .int .u8=>some (none, .d (.one (.own (sid t 0))),[(sid t 0,some (.lis et (.int .u8) (intL x.data.toList)))])
   |_=>none
  |_,_=>none
 | .indexAddr ty _ _,[.d (.one (.dsl i p)),n]=>match h i,sliceOf TT ty,intD n with
  |some (.deep _ e l),some (_,ei),some n=>match subPay p ⟨e,l⟩with
   |some q=>bif Nat.beq ei.info.size (width q.t)then some (some (inb n q.l.length), .d (.one (.dptr i p ei.info.size n.toNat 0)),[])else none
   |none=>none
  |_,_,_=>none
 | .slice ty _ (some _) none none,[.d (.one (.own i)),lo]=>match h i,sliceOf TT ty,intD lo with
  |some (.lis t e l),some (et,ei),some k=>bif Nat.beq t et&&Nat.beq ei.info.size (width e)then some (some (inr k (length l:Int) (length l)), .d (.one (.win i (width e) k.toNat)),[])else none
  |_,_,_=>none
 | .indexAddr ty _ _,[.d (.one (.win i s k)),n]=>match h i,sliceOf TT ty,intD n with
  |some (.lis _ e l),some (_,ei),some n=>bif Nat.beq ei.info.size s&&Nat.beq s (width e)then some (some (inb n (length l-k)), .d (.one (.eptr i s (k+n.toNat) 0)),[])else none
  |_,_,_=>none
 | .load ty _,[.d (.one (.dptr i p sz k off))]=>match h i,TT ty with
  |some (.deep _ e l),some ti=>match subPay p ⟨e,l⟩with
   |some ⟨.list _,_⟩=>bif Nat.beq off 0&&Nat.beq sz 1&&Nat.beq ti.info.size 1&&isSliceD ti.desc then some (none, .d (.one (.dsl i (p++[k]))),[])else none
   |some q=>bif Nat.ble (off+ti.info.size) (width q.t)&&Nat.beq sz (width q.t)&&tyFlat q.t then(D.mkOf ti ((((cellsR q.t (q.l.getD k (dflt q.t))).drop off).take ti.info.size).map .r)).map fun d=>(none, .d d,[])else none
   |none=>none
  |_,_=>none
 | .store ty _ _,[.d (.one (.dptr i p sz k off)), .d x]=>match h i,TT ty with
  |some (.deep ts e l),some ti=>match subPay p ⟨e,l⟩,allR (fun _=>none) x.cells with
   |some q,some rs=>match Nat.beq rs.length ti.info.size&&Nat.ble (off+rs.length) (width q.t)&&Nat.beq sz (width q.t)&&tyFlat q.t,setSub p e l k off rs with
    |true,some l'=>some (none, .und,[(i,some (.deep ts e l'))])
    |_,_=>none
   |_,_=>none
  |_,_=>none
 | .call c,xs=>match c.callee,xs with
  | .builtin .len,[.d (.one (.dsl i p))]=>match h i,(c.argTypes[0]?).bind (sliceOf TT)with
   |some (.deep _ e l),some _=>match subPay p ⟨e,l⟩with
    |some q=>some (none, .d (.one (.r (.v (.int .i64 (q.l.length:Int))))),[])
    |none=>none
   |_,_=>none
  | .builtin .len,[.d (.one (.win i _ k))]=>match h i,(c.argTypes[0]?).bind (sliceOf TT)with
   |some (.lis _ _ l),some _=>some (none, .d (.one (.r (.v (.int .i64 ((length l-k:Nat):Int))))),[])
   |_,_=>none
  | .builtin .clear,[.d (.one (.win i s k))]=>match h i,(c.argTypes[0]?).bind (sliceOf TT)with
   |some (.lis t (.int ik) l),some (_,ei)=>match ei.info.zero with
    |some (.int k' m)=>bif decide (k'=ik)&&decide (m=0)&&Nat.beq s 1 then some (some (Nat.blt k (length l)), .tup [],[(i,some (.lis t (.int ik) (clrL l k)))])else none
    |_=>none
   |_,_=>none
  | .builtin .append,[.d (.one a), .d (.one (.dsl j []))]=>match c.argTypes.toList,h j with
   | [t1,t2],some (.deep (et::ts) e m)=>match sliceOf TT t1 with
    |some (et',ei)=>match zeroCells ei with
     |some zs=>match Nat.beq t1 t2&&Nat.beq et et'&&Nat.beq ei.info.size 1&&Nat.beq zs.length 1&&Nat.blt 0 ei.info.bytes&&isListTy e,a with
      |true, .r (.v (.slice none 0 0))=>some (some (fits (length m) ei.info.bytes), .d (.one (.dsl (sid t 0) [])),[(j,none),(sid t 0,some (.deep (et::ts) e m))])
      |true, .dsl i []=>match h i with
       |some (.deep ts' e' l)=>match castL e' e l,eqNats ts' (et::ts) && !Nat.beq i j with
        |some l,true=>some (some (fits (length l+length m) ei.info.bytes), .d (.one (.dsl (sid t 0) [])),[(i,none),(j,none),(sid t 0,some (.deep (et::ts) e (l++m)))])
        |_,_=>none
       |_=>none
      |_,_=>none
     |none=>none
    |none=>none
   |_,_=>none
  |_,_=>none
 | .buildSlice ty n ps,xs=>match sliceOf TT ty,(elemTy TT ty)with
  |some (et,ei),some (_, .list e)=>match tsOf TT (.list e) et,zeroCells ei with
   |some ts,some zs=>match n,ps.toList,xs,Nat.beq zs.length 1 with
    |0,[],[],true=>some (none, .d (.one (.dsl (sid t 0) [])),[(sid t 0,some (.deep ts (.list e) []))])
    |1,[(0,_)],[.d (.one c)],true=>match rowOf h c with
     |some (i,ts',q)=>match castL q.t e q.l,eqNats (et::ts') ts with
      |some l,true=>some (none, .d (.one (.dsl (sid t 0) [])),[(i,none),(sid t 0,some (.deep ts (.list e) [l]))])
      |_,_=>none
     |none=>none
    |_,_,_,_=>none
   |_,_=>none
  |_,_=>none
 |_,_=>none
def retO (p:Pay):Nat×Option Obj→Nat×Option Obj
 | (i,some (.arr t _ _ _))=>(i,some (.lis t p.t p.l))
 |q=>q
def retX (p:Pay):T→T
 | .d (.one (.r (.sl _ _ _))) => .d (.one (.r (.li p.t p.l)))
 |x=>x
def erases (o:Oper):Bool:=match o.op with
 | .load _ _ | .store _ _ _ | .slice _ _ _ _ _ | .indexAddr _ _ _ | .convert _ _ _=>true
 | .call c=>match c.callee with | .builtin _=>true |_=>false
 |_=>false
def erasesX (o:Oper):Bool:=match o.op with
 | .slice _ _ _ _ _ | .indexAddr _ _ _ | .convert _ _ _ | .load _ _ | .fieldAddr _ _ _=>true
 | .call c=>match c.callee with | .builtin _=>true |_=>false
 |_=>false
def byteL (l:List Int):List UInt8:=l.map fun n=>UInt8.ofNat n.toNat
def bytesPay (o:Oper) (xs:List T) (h:Nat→Option Obj):Option (List (Den (.int .u8))):=match o.op,xs with
 | .convert _ _ _,[.d (.one (.r (.li t l)))]=>castL t (.int .u8) l
 | .convert _ _ _,[.d (.one (.own i))]=>match h i with
  |some (.lis _ t l)=>castL t (.int .u8) l
  |_=>none
 |_,_=>none
def isSlc (TT:Types) (ty:TypeId):Bool:=match TT ty with
 |some ti=>match ti.desc with
  | .slice _=>true
  |_=>false
 |none=>false
def nilOp (TT:Types) (o:Oper) (xs:List T):Option T:=match o.op,xs with
 | .binOp .eql ty _ _ _,[.d (.one c), .d (.one (.r (.v (.slice none 0 0))))]=>match isSlc TT ty with
  |true=>match c with
   | .r (.li _ l)=>some (.nilq l.length)
   | .r (.sl _ n _)=>some (.nilq n)
   | .r (.v (.slice none 0 0))=>some (.d (.one (.r (.v (.bool true)))))
   |_=>none
  |false=>none
 |_,_=>none
def evOpT (TT:Types) (Γ:Env) (o:Oper) (xs:List T) (h:Nat→Option Obj):Option (Option Bool×T×Ups) :=
 match nilOp TT o xs with
 |some x=>some (none,x,[])
 |none =>
 match xOp TT o xs h with
 |some r=>some r
 |none =>
 match evOp TT Γ o (bif erasesX o then xs.map T.er else xs) (bif erases o then fun i=>(h i).map Obj.er else h)with
 |some (c,x,ups)=>match bytesPay o xs h with
  |some l=>some (none, .d (.one (.r (.v (.string (mk (byteL l)))))),ups)
  |none=>match payOp TT o xs h with
   |some p=>some (c,retX p x,ups.map (retO p))
   |none=>some (c,x,ups)
 |none=>none
def foot (o:Oper) (xs:List T) (h:Nat→Option Obj):List Nat :=
 match o.op with
 | .move _ | .assign _ | .pick _ _ _ | .build _ _ | .extract _ _ | .field _ _ _ | .makeFunc _ _ _ | .alloc _ | .box _ _=>[]
 | .call c=>match c.callee with
  | .builtin _=>addNew [] (xs.flatMap T.refs)
  |_=>closure h 3 (addNew [] (xs.flatMap T.refs))
 |_=>addNew [] (xs.flatMap T.refs)
def within (h:Nat→Option Obj) (ids:List Nat):Nat→Option Obj:=fun i=>bif elemNat i ids then h i else none
def isNew (t:Nat) (i:Nat):Bool:=Nat.ble (sid t 0) i&&Nat.blt i (sid t 64)
def missing (h:Heap) (i:Nat):Bool:=match look h i with | none=>true | some _=>false
def upsOk (ids:List Nat) (o:Oper) (h:Heap):Ups→Bool
 | []=>true
 | (i,_)::l=>(match o.dst with |some t=>(bif isNew t i then missing h i else elemNat i ids && !missing h i) |none=>bif isNew 0 i then false else elemNat i ids && !missing h i)&&upsOk ids o h l
structure Marks where
 op:Oper
 seen:List Nat
 wrote:List Nat
def St.put (st:St) (dst:Option Nat) (x:T):St:=match dst with | some t=>{ st with env:=(t,x)::st.env } | none=>st
def unwrap (g:Option (Nat×Bool)):T→T
 | .when s w x=>match g with
  |some (s',w')=>bif Nat.beq s s'&&(w==w')then .d x else .when s w x
  |none => .when s w x
 |x=>x
def opds (env:List (Nat×T)) (g:Option (Nat×Bool)) (o:Oper):Option (List T):=allSome (o.op.operands.toList.map fun x=>(evOpd env x).map (unwrap g))
inductive Ex where
 | normal
 | exit (id:Nat)
 | ret
abbrev Cont:=Ex→St→Option Fin
structure Cx where
 TT:Types
 Γ:Env
 size:Nat
 heads:List (Nat×List Nat)
 ends:List (Nat×List Nat)
 parts:List Nat
 nils:List (Nat×List (Nat×TypeId×Ty))
 loops:Nat→Option (St→Cont→Option Fin)
def choice (c:Option Bool) (x:Option Fin):Option Fin:=match c with | none=>x | some b=>branch b x none
def noWhen (t:Nat):List (Nat×T)→Bool
 | []=>true
 | (_, .when s _ _)::l=>bif Nat.beq s t then false else noWhen t l
 |_::l=>noWhen t l
def putOk (gd:Bool) (cx:Cx) (o:Oper) (env:List (Nat×T)):Bool:=match o.dst with
 |some t=>Nat.blt t cx.size&&(bif gd then noWhen t env&&(match look env t with |some (.when _ _ _)=>false |_=>true)else true)
 |none=>true
def isWhen:T→Bool
 | .when _ _ _=>true
 |_=>false
def run1 (cx:Cx) (gd:Bool) (o:Oper) (st:St) (K:St→Marks→Option Fin):Option Fin :=
 match opds st.env none o with
 |none=>none
 |some xs =>
  let ids:=foot o xs (live st.heap)
  match evOpT cx.TT cx.Γ o xs (within (live st.heap) ids)with
  |none=>none
  |some (c,x,ups)=>match upsOk ids o st.heap ups&&putOk gd cx o st.env && !isWhen x with
   |true=>choice c (K ((St.mk st.env (ups++st.heap)).put o.dst x) ⟨o,ids,ups.map (·.1)⟩)
   |false=>none
def holds (env:List (Nat×T)):Nat→Nat→Bool→Option Bool
 |0,_,_=>none
 |k+1,s,w=>match look env s with
  |some .und=>some false
  |some (.d (.one (.r (.v (.bool b)))))=>some (b==w)
  |some (.when s' w' (.one (.r (.v (.bool b)))))=>match holds env k s' w' with
   |some v=>some (v&&(b==w))
   |none=>none
  |_=>none
def choiceIf (v:Bool) (c:Option Bool) (x:Option Fin):Option Fin:=match c with | none=>x | some b=>branch (bif v then b else true) x none
def dstNe (o:Oper) (s:Nat):Bool:=match o.dst with | some t => !Nat.beq t s | none=>true
def run2 (cx:Cx) (s:Nat) (w:Bool) (o:Oper) (st:St) (K:St→Marks→Option Fin):Option Fin :=
 match holds st.env 20 s w with
 |none=>none
 |some v =>
  match opds st.env (some (s,w)) o with
  |none=>none
  |some xs =>
   let ids:=foot o xs (live st.heap)
   match evOpT cx.TT cx.Γ o xs (within (live st.heap) ids)with
   |some (c, .d x,[])=>match putOk true cx o st.env&&dstNe o s with
    |true=>choiceIf v c (K (st.put o.dst (.when s w x)) ⟨o,ids,[]⟩)
    |false=>none
   |_=>none
def boolD:T→Option Bool
 | .d (.one (.r (.v (.bool b))))=>some b
 |_=>none
def know (d:Nat) (b:Bool) (st:St):St:=match look st.env d with
 |some (.d (.one (.r (.v (.bool _)))))=>⟨(d, .d (.one (.r (.v (.bool b)))))::st.env,st.heap⟩
 |_=>st
def step (cx:Cx) (gd part:Bool) (ops:Array Oper) (o:Oper) (st:St) (K:St→Marks→Option Fin):Option Fin :=
 match o.guard with
 |none=>run1 cx gd o st K
 |some (g,want)=>match (ops[g]?).bind (·.dst)with
  |none=>none
  |some d=>match part with
   |false=>run2 cx d want o st K
   |true=>match holds st.env 20 d want with
    |some v=>branch v (run1 cx true o (know d want st) K) (bif putOk true cx o st.env then K ((know d (!want) st).put o.dst .und) ⟨o,[],[]⟩else none)
    |none=>none
def steps (cx:Cx) (gd part:Bool) (ops:Array Oper):List Oper→St→(St→List Marks→Option Fin)→Option Fin
 | [],st,K=>K st []
 |o::l,st,K=>step cx gd part ops o st fun st m=>steps cx gd part ops l st fun st ms=>K st (m::ms)
def disj (a b:List Nat):Bool:=a.all fun i => !elemNat i b
def indep (ops:Array Oper) (x y:Marks):Bool :=
 x.op.apart ops y.op&&disj x.wrote y.seen&&disj x.wrote y.wrote&&disj y.wrote x.seen
def befOf (acc:List Nat):List Edge→Nat
 | []=>0
 |e::l=>(bif Region.binds .any e then(2 ^ e.on ||| acc.getD e.on 0)else 0) ||| befOf acc l
def befs:List Oper→List Nat→List Nat
 | [],acc=>acc
 |o::l,acc=>befs l (acc++[befOf acc o.after.toList])
def okAfter (ops:Array Oper) (bs:List Nat) (i:Nat) (m:Marks):Nat→List Marks→Bool
 |_,[]=>true
 |k,x::xs=>((bs.getD k 0).testBit i||indep ops m x)&&okAfter ops bs i m (k+1) xs
def okOrder (ops:Array Oper) (bs:List Nat):Nat→List Marks→Bool
 |_,[]=>true
 |i,m::ms=>okAfter ops bs i m (i+1) ms&&okOrder ops bs (i+1) ms
def edgesOk:Nat→List Oper→Bool
 |_,[]=>true
 |i,o::l=>o.after.toList.all (fun e => !Region.binds .any e||Nat.blt e.on i)&&edgesOk (i+1) l
def dropWhen:List (Nat×T)→List (Nat×T)
 | []=>[]
 | (t, .when _ _ _)::l=>(t, .unk)::dropWhen l
 |x::l=>x::dropWhen l
def guarded:List Oper→Bool
 | []=>false
 |o::l=>match o.guard with |some _=>true |none=>guarded l
def region (cx:Cx) (id:Nat) (ops:Array Oper) (draw:Bool) (st:St) (K:St→Option Fin):Option Fin :=
 match guarded ops.toList with
 |false=>steps cx false false ops ops.toList st fun st ms=>tail draw ms (K st)
 |true=>steps cx true (elemNat id cx.parts) ops ops.toList st fun st ms=>tail draw ms (K ⟨dropWhen st.env,st.heap⟩)
where
 tail (draw:Bool) (ms:List Marks) (x:Option Fin):Option Fin:=match draw with
  |false=>x
  |true=>match edgesOk 0 ops.toList&&okOrder ops (befs ops.toList []) 0 ms with
   |true=>x
   |false=>none
/-! ### what is kept where code meets again -/
def rootsOf (env:List (Nat×T)):List Nat→List Nat
 | []=>[]
 |t::l=>(match look env t with |some x=>x.refs |none=>[])++rootsOf env l
def keepEnv (env:List (Nat×T)) (ρ:Nat→Option Nat):List Nat→List (Nat×T)
 | []=>[]
 |t::l=>match look env t with
  |some x=>(t,x.ren ρ)::keepEnv env ρ l
  |none=>keepEnv env ρ l
def freshAt (k:Nat):List Nat→List (Nat×Nat)
 | []=>[]
 |i::l=>bif Nat.blt i 1000 then(i,i)::freshAt k l else(i,500000+k)::freshAt (k+1) l
def liveOnly (h:Heap):List Nat→List Nat
 | []=>[]
 |i::l=>match live h i with |some _=>i::liveOnly h l |none=>liveOnly h l
def keepHeap (h:Heap) (ρ:Nat→Option Nat):List (Nat×Nat)→Heap
 | []=>[]
 | (i,j)::l=>match live h i with
  |some o=>(j,some (o.ren ρ))::keepHeap h ρ l
  |none=>keepHeap h ρ l
def passed (h:Heap):List Nat:=addNew [] (h.filterMap fun(i,o)=>bif Nat.blt i 1000 then(match o with | some _=>some i | none=>none)else none)
def tabOk (tab:List (Nat×Nat)):Bool:=nodupN (tab.map (·.1))&&nodupN (tab.map (·.2))
def prune (keep:List Nat) (st:St):St :=
 let tab:=freshAt 0 (liveOnly st.heap (closure (live st.heap) 4 (addNew [] (rootsOf st.env keep++passed st.heap))))
 match tabOk tab with
 |true=>⟨keepEnv st.env (look tab) keep,keepHeap st.heap (look tab) tab⟩
 |false=>⟨[],[]⟩
def firstRegion:Code→Option Nat
 | .region id _ _=>some id
 | .seq a b=>match firstRegion a with |some i=>some i |none=>firstRegion b
 | .cond _ a b=>match firstRegion a with |some i=>some i |none=>firstRegion b
 | .block _ c=>firstRegion c
 | .loop c=>match firstRegion c with |some i=>some (i+1000000) |none=>none
 | .scope c=>firstRegion c
 |_=>none
def pruneAt (l:List (Nat×List Nat)) (i:Nat) (st:St):St:=match look l i with | some keep=>prune keep st | none=>st
def cellNil (s:Nat) (t:TypeId) (e:Ty) (st:St):St:=match look st.env (s % 100000)with
 |some (.d (.one (.ptr i 0)))=>match look st.heap i with
  |some (some (.box bt cs))=>match cs[s / 100000-1]? with
   |some (.r (.v (.slice none 0 0)))=>match missing st.heap (450000+s % 100000)with
    |true=>⟨st.env,(i,some (.box bt (cs.set (s / 100000-1) (.own (450000+s % 100000)))))::(450000+s % 100000,some (.lis t e []))::st.heap⟩
    |false=>st
   |_=>st
  |_=>st
 |_=>st
def cellNilD (s:Nat) (t:TypeId) (e:Ty) (st:St):St:=match e with
 | .list e'=>match look st.env (s % 100000)with
  |some (.d (.one (.ptr i 0)))=>match look st.heap i with
   |some (some (.box bt cs))=>match cs[s % 100000000 / 100000-1]? with
    |some (.r (.v (.slice none 0 0)))=>match missing st.heap (460000+s % 100000)with
     |true=>⟨st.env,(i,some (.box bt (cs.set (s % 100000000 / 100000-1) (.dsl (460000+s % 100000) []))))::(460000+s % 100000,some (.deep [t,s / 100000000-1] (.list e') []))::st.heap⟩
     |false=>st
    |_=>st
   |_=>st
  |_=>st
 |_=>st
def ownNils:List (Nat×TypeId×Ty)→St→St
 | [],st=>st
 | (s,t,e)::l,st=>bif Nat.ble 100000000 s then ownNils l (cellNilD s t e st)else bif Nat.ble 100000 s then ownNils l (cellNil s t e st)else match look st.env s with
  |some (.d (.one (.r (.v (.slice none 0 0)))))=>match missing st.heap (400000+s)with
   |true=>ownNils l ⟨(s, .d (.one (.own (400000+s))))::st.env,(400000+s,some (.lis t e []))::st.heap⟩
   |false=>ownNils l st
  |_=>ownNils l st
def headAt (cx:Cx) (id:Nat) (st:St):St:=pruneAt cx.heads id (match look cx.nils id with | some l=>ownNils l st | none=>st)
def iter (f:St→Cont→Option Fin) (head:St→St):Nat→St→Cont→Option Fin
 |0,_,_=>none
 |n+1,st,K=>f st fun e st'=>match e with
  | .normal=>iter f head n (head st') K
  |e=>K e st'
def nilD:T→Option Nat
 | .nilq n=>some n
 |_=>none
open Classical in
def both (x y:Option Fin):Option Fin:=if x=y then x else none
def evC (cx:Cx):Code→St→Cont→Option Fin
 | .skip,st,K=>K .normal st
 | .region id ops draw,st,K=>region cx id ops draw st fun st=>K .normal st
 | .seq a b,st,K=>evC cx a st fun e st'=>match e with
  | .normal=>evC cx b st' K
  |e=>K e st'
 | .cond c a b,st,K=>match (evOpd st.env c).bind nilD with
  |some n=>branch (Nat.blt 0 n) (evC cx b st K) (both (evC cx a st K) (evC cx b st K))
  |none=>match (evOpd st.env c).bind boolD with
   |some t=>branch t (evC cx a st K) (evC cx b st K)
   |none=>none
 | .block id c,st,K=>evC cx c st fun e st'=>match e with
  | .exit i=>bif Nat.beq i id then K .normal st' else K (.exit i) st'
  |e=>K e st'
 | .loop c,st,K=>match cx.loops ((firstRegion c).getD 0)with
  |some g=>g (headAt cx ((firstRegion c).getD 0) st) K
  |none=>none
 | .exit id,st,K=>K (.exit id) (pruneAt cx.ends id st)
 | .ret,st,K=>K .ret (pruneAt cx.ends 1000000 st)
 |_,_,_=>none
def loopsOf:Code→List (Nat×Code)
 | .seq a b=>loopsOf a++loopsOf b
 | .cond _ a b=>loopsOf a++loopsOf b
 | .block _ c=>loopsOf c
 | .loop c=>((firstRegion c).getD 0,c)::loopsOf c
 |_=>[]
/-! ### a function -/
def resOf (st:St):ResultVar→Types→Option D
 | .tmp t,_=>match look st.env t with |some (.d x)=>some x |_=>none
 | .cell a ty,TT=>match look st.env a,TT ty with
  |some (.d (.one a)),some ti=>(cellsAt (live st.heap) ti.info.size a).bind (D.mkOf ti)
  |_,_=>none
def resAll (TT:Types) (st:St):List ResultVar→Option (List D)
 | []=>some []
 |r::l=>match resOf st r TT,resAll TT st l with
  |some d,some ds=>some (d::ds)
  |_,_=>none
def nilCell (TT:Types) (ti:TI):C→C
 | .r (.v (.slice none 0 0))=>match ti.desc with
  | .slice e=>match TT e with
   |some ei=>match ei.ty with
    |some t => .r (.li t [])
    |none => .r (.sl ei.info.size 0 fun _=>ezAt ti.ez)
   |none => .r (.v (.slice none 0 0))
  |_ => .r (.v (.slice none 0 0))
 |c=>c
def nilCells (TT:Types):List Field→List C→List C
 |f::fs,c::cs=>(match TT f.type with |some ti=>(bif Nat.beq ti.info.size 1 then nilCell TT ti c else c) |none=>c)::nilCells TT fs cs
 |_,cs=>cs
def D.nils (TT:Types) (ty:TypeId):D→D
 | .one c=>match TT ty with |some ti => .one (nilCell TT ti c) |none => .one c
 | .agg cs=>match TT ty with
  |some ti=>match ti.desc with
   | .struct fs=>bif fs.toList.all (fun f=>match TT f.type with |some fi=>Nat.beq fi.info.size 1 |none=>false)then .agg (nilCells TT fs.toList cs)else .agg cs
   |_ => .agg cs
  |none => .agg cs
def nilsAll (TT:Types):List TypeId→List D→List D
 |t::ts,d::ds=>d.nils TT t::nilsAll TT ts ds
 |_,ds=>ds
def mkRes:List D→T
 | [d] => .d d
 |ds => .tup ds
def startEnv:Nat→List D→List (Nat×T)
 |_,[]=>[]
 |k,d::ds=>(k, .d d)::startEnv (k+1) ds
def ownCell (TT:Types) (ty:TypeId) (c:C) (hp:Heap) (k:Nat):Option (C×Heap):=match c,TT ty with
 | .r (.v (.slice none 0 0)),some ti=>match ti.desc with
  | .slice e=>match TT e with
   |some ei=>match ei.ty with
    |some t=>match missing hp (600000+k)with
     |true=>some (.own (600000+k),(600000+k,some (.lis e t []))::hp)
     |false=>none
    |none=>none
   |none=>none
  |_=>none
 |_,_=>none
def ownCells (TT:Types):List TypeId→List C→Heap→Nat→List C×Heap
 |t::ts,c::cs,hp,k=>match ownCell TT t c hp k with
  |some (c',hp')=>let r:=ownCells TT ts cs hp' (k+1);(c'::r.1,r.2)
  |none=>let r:=ownCells TT ts cs hp (k+1);(c::r.1,r.2)
 |_,cs,hp,_=>(cs,hp)
def cellTys (TT:Types) (ty:TypeId):List TypeId:=match TT ty with
 |some ti=>match ti.desc with
  | .struct fs=>bif fs.toList.all (fun f=>match TT f.type with |some fi=>Nat.beq fi.info.size 1 |none=>false)then fs.toList.map (·.type)else []
  |_=>[ty]
 |none=>[]
def ownRes (TT:Types):List TypeId→List D→Heap→Nat→List D×Heap
 |t::ts, .one c::ds,hp,k=>match ownCells TT (cellTys TT t) [c] hp (k*64)with
  | ([c'],hp')=>let r:=ownRes TT ts ds hp' (k+1);(.one c'::r.1,r.2)
  |_=>(.one c::ds,hp)
 |t::ts, .agg cs::ds,hp,k=>let q:=ownCells TT (cellTys TT t) cs hp (k*64);let r:=ownRes TT ts ds q.2 (k+1);(.agg q.1::r.1,r.2)
 |_,ds,hp,_=>(ds,hp)
def startHeap:Nat→List Obj→Heap
 |_,[]=>[]
 |k,o::os=>(k,some o)::startHeap (k+1) os
def backIds (k:Nat):List Nat→List (Nat×Nat)
 | []=>[]
 |i::l=>bif Nat.blt i 1000 then(i,i)::backIds k l else(i,1000+k)::backIds (k+1) l
def gone (h:Heap):Nat→Heap
 |0=>[]
 |n+1=>(match live h n with |some _=>[] |none=>[(n,none)])++gone h n
def sameIds (m:Nat):List (Nat×Nat):=(List.range m).map fun i=>(i,i)
def fin (TT:Types) (fn:Func) (ro:Bool) (m:Nat) (st:St):Option Fin :=
 match resAll TT st fn.results.toList with
 |none=>none
 |some ds =>
  match ro with
  |true=>match allSome (ds.map (D.toR (live st.heap)))with
   |some rs =>
    let h:=dropIds (closure (live st.heap) 3 (addNew [] (ds.flatMap D.refs)))++st.heap
    some (mkRes (nilsAll TT fn.resultTypes.toList rs),keepHeap h (look (sameIds m)) (sameIds m)++gone h m)
   |none=>none
  |false =>
   let q:=ownRes TT fn.resultTypes.toList ds st.heap 0
   let tab:=backIds 0 (liveOnly q.2 (closure (live q.2) 4 (addNew [] (q.1.flatMap D.refs++List.range m))))
   match tabOk tab with
   |true=>some (mkRes (nilsAll TT fn.resultTypes.toList (q.1.map (D.ren (look tab)))),keepHeap q.2 (look tab) tab++gone q.2 m)
   |false=>none
def evFn (cx:Cx) (fn:Func) (ro:Bool) (ds:List D) (os:List Obj):Option Fin :=
 match fn.body with
 |some c=>match Nat.ble ds.length cx.size&&Nat.ble os.length 1000 with
  |true=>evC cx c ⟨startEnv 0 ds,startHeap 0 os⟩ fun e st=>match e with
   | .exit _=>none
   |_=>fin cx.TT fn ro os.length st
  |false=>none
 |none=>none
end
/-
 How data stand for what lies in the model's memory,and what an operation may turn.
-/
noncomputable section
open Go
inductive All2 {α β:Type} (p:α→β→Prop):List α→List β→Prop
 | nil:All2 p [] []
 | cons {a b l m}:p a b→All2 p l m→All2 p (a::l) (b::m)
namespace All2
variable {α β:Type} {p q:α→β→Prop}
theorem len {l:List α} {m:List β} (h:All2 p l m):l.length=m.length:=by
 induction h with
 |nil=>rfl
 |cons _ _ ih=>simp[ih]
theorem get {l:List α} {m:List β} (h:All2 p l m):∀ {j:Nat} {x:α},l[j]? = some x→∃y,m[j]? = some y∧p x y:=by
 induction h with
 |nil=>intro j x hx;simp at hx
 |cons hab _ ih =>
  intro j x hx
  cases j with
  |zero=>simp at hx;subst hx;exact ⟨_,rfl,hab⟩
  |succ j=>simp at hx ⊢;exact ih hx
theorem getR {l:List α} {m:List β} (h:All2 p l m):∀ {j:Nat} {y:β},m[j]? = some y→∃x,l[j]? = some x∧p x y:=by
 induction h with
 |nil=>intro j x hx;simp at hx
 |cons hab _ ih =>
  intro j x hx
  cases j with
  |zero=>simp at hx;subst hx;exact ⟨_,rfl,hab⟩
  |succ j=>simp at hx ⊢;exact ih hx
theorem mono {l:List α} {m:List β} (hpq:∀a b,p a b→q a b) (h:All2 p l m):All2 q l m:=by
 induction h with
 |nil=>exact .nil
 |cons hab _ ih=>exact .cons (hpq _ _ hab) ih
theorem of_get {l:List α} {m:List β} (hl:l.length=m.length) (h:∀(j:Nat) (x:α),l[j]? = some x→∃y,m[j]? = some y∧p x y):All2 p l m:=by
 induction l generalizing m with
 |nil=>cases m with
  |nil=>exact .nil
  |cons _ _=>simp at hl
 |cons a l ih=>cases m with
  |nil=>simp at hl
  |cons b m =>
   refine .cons ?_ (ih (by simpa using hl) fun j x hx => ?_)
   ·obtain ⟨y,hy,hp⟩:=h 0 a rfl;simp at hy;subst hy;exact hp
   ·obtain ⟨y,hy,hp⟩:=h (j+1) x (by simpa using hx);exact ⟨y,by simpa using hy,hp⟩
theorem append {l l':List α} {m m':List β} (h:All2 p l m) (h':All2 p l' m'):All2 p (l++l') (m++m'):=by
 induction h with
 |nil=>exact h'
 |cons hab _ ih=>exact .cons hab ih
theorem drop {l:List α} {m:List β} (h:All2 p l m) (k:Nat):All2 p (l.drop k) (m.drop k):=by
 induction h generalizing k with
 |nil=>simp;exact .nil
 |cons hab ht ih=>cases k with
  |zero=>exact .cons hab ht
  |succ k=>simpa using ih k
theorem take {l:List α} {m:List β} (h:All2 p l m) (k:Nat):All2 p (l.take k) (m.take k):=by
 induction h generalizing k with
 |nil=>simp;exact .nil
 |cons hab _ ih=>cases k with
  |zero=>simp;exact .nil
  |succ k=>simpa using .cons hab (ih k)
theorem set {l:List α} {m:List β} (h:All2 p l m) (k:Nat) {a:α} {b:β} (hab:p a b):All2 p (l.set k a) (m.set k b):=by
 induction h generalizing k with
 |nil=>simp;exact .nil
 |cons h0 ht ih=>cases k with
  |zero=>exact .cons hab ht
  |succ k=>exact .cons h0 (ih k)
theorem map_l {γ:Type} {f:γ→α} {l:List γ} {m:List β}:All2 p (l.map f) m↔All2 (fun a b=>p (f a) b) l m:=by
 constructor
 ·intro h
  induction l generalizing m with
  |nil=>cases h;exact .nil
  |cons a l ih=>cases h with |cons h0 ht=>exact .cons h0 (ih ht)
 ·intro h
  induction h with
  |nil=>exact .nil
  |cons h0 _ ih=>exact .cons h0 ih
theorem map_r {γ:Type} {f:γ→β} {l:List α} {m:List γ}:All2 p l (m.map f)↔All2 (fun a b=>p a (f b)) l m:=by
 constructor
 ·intro h
  induction m generalizing l with
  |nil=>cases h;exact .nil
  |cons a m ih=>cases h with |cons h0 ht=>exact .cons h0 (ih ht)
 ·intro h
  induction h with
  |nil=>exact .nil
  |cons h0 _ ih=>exact .cons h0 ih
theorem flatMap {α' β':Type} {p':α'→β'→Prop} {f:α→List α'} {g:β→List β'} {l:List α} {m:List β} (h:All2 p l m) (hfg:∀a b,p a b→All2 p' (f a) (g b)) :
  All2 p' (l.flatMap f) (m.flatMap g):=by
 induction h with
 |nil=>exact .nil
 |cons hab _ ih=>simp only[List.flatMap_cons];exact (hfg _ _ hab).append ih
end All2
abbrev HF:=Nat→Option (Option Obj)
def blk:Value→Option Nat
 | .pointer (some a)=>some a.block
 | .slice (some a) _ c=>if c=0 then none else some a.block
 | .map (some b)=>some b
 |_=>none
def hd:Value→Value
 | .tuple us=>us.getD 0 (.bool false)
 |v=>v
def skAt:List Nat→Value→Option Value
 | [],v=>some (hd v)
 |k::p, .tuple us=>match us[k+1]? with
  |some s=>skAt p s
  |none=>none
 |_::_,_=>none
def Blk (v:Value) (b:Nat):Prop:=∃p u,skAt p v=some u∧blk u=some b
def isTup:Value→Bool
 | .tuple _=>true
 |_=>false
theorem Blk_iff {v:Value} {b:Nat} (h:isTup v=false):Blk v b↔blk v=some b:=by
 constructor
 ·rintro ⟨p,u,h1,h2⟩
  cases p with
  |nil =>
   have:hd v=v:=by cases v<;>first | rfl | simp[isTup]at h
   simp only[skAt,this,Option.some.injEq]at h1;rw[h1];exact h2
  |cons k p=>cases v<;>simp[skAt,isTup]at h1 h
 ·intro hb;refine⟨[],v, ?_,hb⟩;have:hd v=v:=by cases v<;>first | rfl | simp[isTup]at h
  simp only[skAt,this]
@[simp] theorem Blk_pointer {a:Option Addr} {b:Nat}:Blk (.pointer a) b↔blk (.pointer a)=some b:=Blk_iff rfl
@[simp] theorem Blk_slice {a:Option Addr} {n c:Nat} {b:Nat}:Blk (.slice a n c) b↔blk (.slice a n c)=some b:=Blk_iff rfl
@[simp] theorem Blk_map {a:Option Nat} {b:Nat}:Blk (.map a) b↔blk (.map a)=some b:=Blk_iff rfl
inductive RoT (w:World) (F:Nat→Prop):GTree→List Value→Prop
 | node {s:List UInt8} {r:Int} {ks:List GTree} {a:Option Addr} {cap:Nat} (ys:Nat→List Value) (h1:plain (.string (mk s))=true) (h2:plain (.int .i64 r)=true) (h3:length ks≤cap) (h4:cap≤maxLen)
   (h5:length ks=0∨∃b o,a=some ⟨b,o,none⟩∧F b∧∀i,i<length ks→∀j,j<3→∃y,(ys i)[j]? = some y∧w.cell? ⟨b,o+(i*3+j),none⟩=some y)
   (h6:∀i,i<length ks→RoT w F (getD ks i (.node [] 0 [])) (ys i)):RoT w F (.node s r ks) [.string (mk s), .int .i64 r, .slice a (length ks) cap]
abbrev formV (t:Ty) (v:Value):Prop:=(isStruct t=true→∃us,v = .agg us)∧(isStruct t=false→v.oneCell'=true)
def RoL (w:World) (F:Nat→Prop):(t:Ty)→Den t→List Value→Prop
 | .int k,n,us=>us=[.int k n]∧plain (.int k n)=true
 | .str,s,us=>us=[.string (mk s)]∧plain (.string (mk s))=true
 | .bool,b,us=>us=[.bool b]
 | .list t,l,us=>∃a cap,us=[.slice a (length l) cap]∧length l≤cap∧cap≤maxLen ∧
   (length l=0∨∃b o,a=some ⟨b,o,none⟩∧F b∧∀i,i<length l→∃ys,RoL w F t (getD l i (dflt t)) ys∧∀j,j<width t→∃y,ys[j]? = some y∧w.cell? ⟨b,o+(i*width t+j),none⟩=some y)
 | .pair a b,x,us=>∃us1 us2,us=us1++us2∧RoL w F a x.1 us1∧RoL w F b x.2 us2
 | .struct t,x,us=>RoL w F t x us
 | .unit,_,us=>us=[]
 | .tree,x,us=>RoT w F x us
 | .map k e,m,us=>∃b es clock,us=[.map (some b)]∧F b∧w.heap[b]? = some (.map es clock) ∧
   All2 (fun (p:Den k×Den e) (en:MapEntry)=>(RoL w F k p.1 en.key.cells.toList∧formV k en.key)∧RoL w F e p.2 en.val.cells.toList∧formV e en.val) m es.toList
 | .ref t,x,us=>∃b o,us=[.pointer (some ⟨b,o,none⟩)]∧F b∧∃ys,RoL w F t x ys∧∀j,j<width t→∃y,ys[j]? = some y∧w.cell? ⟨b,o+j,none⟩=some y
theorem RoT.mono {w w':World} {F F':Nat→Prop} (hb:∀b,F b→w'.heap[b]? = w.heap[b]?) (hF:∀b,F b→F' b) {x:GTree} {us:List Value} (h:RoT w F x us):RoT w' F' x us:=by
 induction h with
 |node ys h1 h2 h3 h4 h5 _ ih =>
  refine .node ys h1 h2 h3 h4 ?_ ih;rcases h5 with h5 | ⟨b,o,e,hf,h5⟩
  ·exact .inl h5
  ·refine .inr ⟨b,o,e,hF b hf,fun i hi j hj => ?_⟩;obtain⟨y,g1,g2⟩:=h5 i hi j hj;exact⟨y,g1,by rw[World.cell?_of_block (w:=w) (hb b hf)];exact g2⟩
theorem RoT_iff {w:World} {F:Nat→Prop} {x:GTree} {us:List Value}:RoT w F x us↔∃u,us=[.string (mk (GTree.sign x)), .int .i64 (GTree.rule x),u]∧plain (.string (mk (GTree.sign x)))=true∧plain (.int .i64 (GTree.rule x))=true∧RoL w F (.list .tree) (GTree.kids x) [u]:=by
 constructor
 ·intro h
  cases h with
  |node ys h1 h2 h3 h4 h5 h6 =>
   refine⟨_,rfl,h1,h2,_,_,rfl,h3,h4, ?_⟩;rcases h5 with h5 | ⟨b,o,e,hf,h5⟩
   ·exact .inl h5
   ·exact .inr ⟨b,o,e,hf,fun i hi=>⟨ys i,h6 i hi,h5 i hi⟩⟩
 ·rintro ⟨u,rfl,h1,h2,a,cap,e,h3,h4,h5⟩;obtain⟨s,r,ks⟩:=x;simp only[GTree.sign,GTree.rule,GTree.kids]at *;simp only[List.cons.injEq,and_true]at e;subst e;rcases h5 with h5 | ⟨b,o,rfl,hf,h5⟩
  ·exact .node (fun _=>[]) h1 h2 h3 h4 (.inl h5) (fun i hi=>absurd hi (by have h5:length ks=0:=h5;omega))
  ·have hch:∃ys:Nat→List Value,∀i,i<length ks→RoT w F (getD ks i (.node [] 0 [])) (ys i)∧∀j,j<3→∃y,(ys i)[j]? = some y∧w.cell? ⟨b,o+(i*3+j),none⟩=some y:=by
    refine⟨fun i=>if h:i<length ks then(h5 i h).choose else [],fun i hi => ?_⟩;simp only[hi,dif_pos];exact(h5 i hi).choose_spec
   obtain⟨ys,hys⟩:=hch;exact .node ys h1 h2 h3 h4 (.inr ⟨b,o,rfl,hf,fun i hi=>(hys i hi).2⟩) fun i hi=>(hys i hi).1
theorem RoL.mono {w w':World} {F F':Nat→Prop} (hb:∀b,F b→w'.heap[b]? = w.heap[b]?) (hF:∀b,F b→F' b) {t:Ty}:∀ {x:Den t} {us:List Value},RoL w F t x us→RoL w' F' t x us:=by
 induction t with
 |int k=>exact fun h=>h
 |str=>exact fun h=>h
 |bool=>exact fun h=>h
 |unit=>exact fun h=>h
 |struct t ih=>exact fun {x us} h=>ih (x:=x) h
 |tree =>
  exact fun h=>RoT.mono hb hF h
 |map k e ihk ihe =>
  rintro m us ⟨b,es,clock,h1,h2,h3,h4⟩;exact⟨b,es,clock,h1,hF b h2,by rw[hb b h2];exact h3,h4.mono fun p en h=>⟨⟨ihk h.1.1,h.1.2⟩,ihe h.2.1,h.2.2⟩⟩
 |ref t ih =>
  rintro x us ⟨b,o,h1,h2,ys,h3,h4⟩;refine⟨b,o,h1,hF b h2,ys,ih h3,fun j hj => ?_⟩;obtain⟨y,g1,g2⟩:=h4 j hj;exact⟨y,g1,by rw[World.cell?_of_block (w:=w) (hb b h2)];exact g2⟩
 |pair a b iha ihb =>
  rintro x us ⟨us1,us2,h1,h2,h3⟩;exact⟨us1,us2,h1,iha h2,ihb h3⟩
 |list t ih =>
  rintro l us ⟨a,cap,h0,h1,h2,h3⟩;refine⟨a,cap,h0,h1,h2, ?_⟩;rcases h3 with h3 | ⟨b,o,rfl,hf,h3⟩
  ·exact .inl h3
  ·refine .inr ⟨b,o,rfl,hF b hf,fun i hi => ?_⟩;obtain⟨ys,hy,hr⟩:=h3 i hi;refine⟨ys,ih hy,fun j hj => ?_⟩;obtain⟨y,g1,g2⟩:=hr j hj;exact⟨y,g1,by rw[World.cell?_of_block (w:=w) (hb b hf)];exact g2⟩
def Ro (w:World) (F:Nat→Prop):R→Value→Prop
 | .li t l,u=>RoL w F (.list t) l [u]
 | .mp k e m,u=>RoL w F (.map k e) m [u]
 | .rf t x,u=>RoL w F (.ref t) x [u]
 | .v x,u=>u=x∧plain x=true
 | .sl sz n get,u=>∃a cap,u = .slice a n cap∧n≤cap∧cap≤maxLen ∧
   (n=0∨∃b o,a=some ⟨b,o,none⟩∧F b∧∀i,i<n→∀j,j<sz→∃y,w.cell? ⟨b,o+(i*sz+j),none⟩=some y∧Ro w F (get i j) y)
 | .rop m get,u=>∃b o,u = .pointer (some ⟨b,o,none⟩)∧F b∧∀j,j<m→∃y,w.cell? ⟨b,o+j,none⟩=some y∧Ro w F (get j) y
theorem Ro.one {w:World} {F:Nat→Prop} {x:R} {u:Value} (h:Ro w F x u):u.oneCell'=true:=by
 cases x with
 |v x=>obtain ⟨rfl,h⟩:=h;cases u<;>simp_all [plain,Value.oneCell']
 |sl sz n get=>obtain ⟨a,cap,rfl,_⟩:=h;rfl
 |rop m get=>obtain ⟨b,o,rfl,_⟩:=h;rfl
 |li t l=>obtain ⟨a,cap,e,_⟩:=h;simp only[List.cons.injEq,and_true]at e;subst e;rfl
 |mp k e m=>obtain ⟨b,es,clock,e,_⟩:=h;simp only[List.cons.injEq,and_true]at e;subst e;rfl
 |rf t x=>obtain ⟨b,o,e,_⟩:=h;simp only[List.cons.injEq,and_true]at e;subst e;rfl
theorem Ro.mono {w w':World} {F F':Nat→Prop} (hb:∀b,F b→w'.heap[b]? = w.heap[b]?) (hF:∀b,F b→F' b) {x:R}:∀ {u:Value},Ro w F x u→Ro w' F' x u:=by
 induction x with
 |v x=>exact fun h=>h
 |sl sz n get ih =>
  rintro u ⟨a,cap,rfl,h1,h2,h3⟩;refine⟨a,cap,rfl,h1,h2, ?_⟩;rcases h3 with h3 | ⟨b,o,rfl,hf,h3⟩
  ·exact .inl h3
  ·refine .inr ⟨b,o,rfl,hF b hf,fun i hi j hj => ?_⟩;obtain⟨y,hy,hr⟩:=h3 i hi j hj;exact⟨y,by rw[World.cell?_of_block (w:=w) (hb b hf)];exact hy,ih i j hr⟩
 |rop m get ih =>
  rintro u ⟨b,o,rfl,hf,h3⟩;refine⟨b,o,rfl,hF b hf,fun j hj => ?_⟩;obtain⟨y,hy,hr⟩:=h3 j hj;exact⟨y,by rw[World.cell?_of_block (w:=w) (hb b hf)];exact hy,ih j hr⟩
 |li t l=>exact fun h=>RoL.mono hb hF h
 |mp k e m=>exact fun h=>RoL.mono hb hF h
 |rf t x=>exact fun h=>RoL.mono hb hF h
def WinAt (v:Value) (sz k:Nat) (u:Value):Prop:=(∃a,v = .slice a 0 0∧k=0∧u = .slice a 0 0) ∨
 ∃b n cap,v = .slice (some ⟨b,0,none⟩) n cap∧k≤n∧0<cap∧u = .slice (if cap=k then some ⟨b,0,none⟩else some ⟨b,k*sz,none⟩) (n-k) (cap-k)
def RepC (w:World) (F:Nat→Prop) (h:HF) (β:Nat→Value):C→Value→Prop
 | .r x,u=>Ro w F x u
 | .own i,u=>u.oneCell'=true∧(∃q,h i=some q)∧∀o,h i=some (some o)→u=β i
 | .ptr i off,u=>u.oneCell'=true∧(∃q,h i=some q)∧∀o,h i=some (some o)→∃b,β i = .pointer (some ⟨b,0,none⟩)∧u = .pointer (some ⟨b,off,none⟩)
 | .eptr i sz k off,u=>u.oneCell'=true∧(∃q,h i=some q)∧∀o,h i=some (some o)→∃b n cap,β i = .slice (some ⟨b,0,none⟩) n cap∧k<n∧u = .pointer (some ⟨b,k*sz+off,none⟩)
 | .fn f l,u=>u.oneCell'=true∧(∀i∈l,∃q,h i=some q)∧((∀i∈l,∃o,h i=some (some o))→u = .func (.func f) #[] (l.map β).toArray)
 | .dsl i p,u=>u.oneCell'=true∧(∃q,h i=some q)∧∀o,h i=some (some o)→skAt p (β i)=some u
 | .dptr i p sz k off,u=>u.oneCell'=true∧(∃q,h i=some q)∧∀o,h i=some (some o)→∃b n cap,skAt p (β i)=some (.slice (some ⟨b,0,none⟩) n cap)∧k<n∧u = .pointer (some ⟨b,k*sz+off,none⟩)
 | .win i sz k,u=>u.oneCell'=true∧(∃q,h i=some q)∧∀o,h i=some (some o)→WinAt (β i) sz k u
 | .slf i,u=>u.oneCell'=true∧(∃q,h i=some q)∧∀o,h i=some (some o)→u = .pointer none∨∃b,β i = .pointer (some ⟨b,0,none⟩)∧u = .pointer (some ⟨b,0,none⟩)
 | .junk,u=>u.oneCell'=true
theorem RepC.one {w:World} {F:Nat→Prop} {h:HF} {β:Nat→Value} {c:C} {u:Value} (hc:RepC w F h β c u):u.oneCell'=true:=by
 cases c with
 |r x=>exact Ro.one hc
 |junk=>exact hc
 |_=>exact hc.1
def RepD (w:World) (F:Nat→Prop) (h:HF) (β:Nat→Value):D→Value→Prop
 | .one c,u=>RepC w F h β c u
 | .agg cs,u=>∃us:Array Value,u = .agg us∧All2 (RepC w F h β) cs us.toList
theorem cells_one {u:Value} (h:u.oneCell'=true):u.cells=#[u]:=by
 cases u<;>simp_all [Value.cells,Value.oneCell']
theorem RepD.cells {w:World} {F:Nat→Prop} {h:HF} {β:Nat→Value} {d:D} {u:Value} (hd:RepD w F h β d u):All2 (RepC w F h β) d.cells u.cells.toList:=by
 cases d with
 |one c =>
  have h1:=RepC.one hd;rw[cells_one h1];exact .cons hd .nil
 |agg cs=>obtain ⟨us,rfl,h⟩:=hd;exact h
def RowAt (w:World) (b:Nat) (cur:Array Value) (t:TypeId):Prop:=∃m:Nat×Nat,w.heap[b]? = some (.cells cur t m)∧(m=(0,0)∨m=(cur.size,cur.size+1))
theorem RowAt.new {w:World} {b:Nat} {cur:Array Value} {t:TypeId} (h:w.heap[b]? = some (.cells cur t (0,0))):RowAt w b cur t:=⟨_,h, .inl rfl⟩
theorem RowAt.lt {w:World} {b:Nat} {cur:Array Value} {t:TypeId} (h:RowAt w b cur t):b<w.heap.size:=by
 obtain⟨m,h,_⟩:=h;exact(Array.getElem?_eq_some_iff.1 h).1
theorem RowAt.cell {w:World} {b:Nat} {cur:Array Value} {t:TypeId} (h:RowAt w b cur t) (j:Nat):w.cell? ⟨b,j,none⟩=cur[j]? := by
 obtain⟨m,h,_⟩:=h;exact cell_of_row w b j cur t m h
theorem RowAt.mono {w w':World} {b:Nat} {cur:Array Value} {t:TypeId} (e:w'.heap[b]? = w.heap[b]?) (h:RowAt w b cur t):RowAt w' b cur t:=by
 obtain⟨m,h,hm⟩:=h;exact⟨m,e.trans h,hm⟩
theorem RowAt.set {w:World} {b:Nat} {cur:Array Value} {t:TypeId} (h:RowAt w b cur t) {new:Array Value} (hs:new.size=cur.size):RowAt (w.setRow b new) b new t:=by
 obtain⟨m,h,hm⟩:=h;exact⟨m,setRow_heap w b cur new t m h,by rw[hs];exact hm⟩
theorem RowAt.eq {w:World} {b:Nat} {cur cur':Array Value} {t t':TypeId} (h:RowAt w b cur t) (h':RowAt w b cur' t'):cur=cur'∧t=t':=by
 obtain⟨m,h,_⟩:=h;obtain⟨m',h',_⟩:=h';rw[h]at h'
 cases h'
 exact⟨rfl,rfl⟩
theorem RowAt.free {w:World} {b:Nat} {cur:Array Value} {t:TypeId} (h:RowAt w b cur t) {j:Nat} (hj:j<cur.size):w.frozen? ⟨b,j,none⟩=false:=by
 obtain⟨m,h,hm⟩:=h;simp only[World.frozen?,h];rcases hm with rfl | rfl
 ·simp
 ·simp;omega
def LeafAt (w:World) (F:Nat→Prop) (t:TypeId) (e:Ty) (l:List (Den e)) (v:Value):Prop :=
 (∃a,v = .slice a 0 0∧length l=0) ∨
   ∃b cap cur,v = .slice (some ⟨b,0,none⟩) (length l) cap∧0<cap∧RowAt w b cur t∧length l≤cap∧cap≤maxLen∧cur.size=cap*width e ∧
    ∀k,k<length l→∀j,j<width e→∃y,cur[k*width e+j]? = some y∧Ro w F (getL e l k j) y
def DeepAt (w:World) (F:Nat→Prop):(e:Ty)→List TypeId→List (Den e)→Value→Prop
 | .list e,ts,l,sk=>∃t ts' us ad cap,ts=t::ts'∧sk = .tuple us∧us.size=length l+1∧us[0]? = some (.slice ad (length l) cap)∧length l≤cap∧cap≤maxLen ∧
   ((cap=0)∨∃b cur,ad=some ⟨b,0,none⟩∧0<cap∧RowAt w b cur t∧cur.size=cap∧∀k,k<length l→∃s,us[k+1]? = some s∧cur[k]? = some (hd s)) ∧
   ∀k,k<length l→∃s,us[k+1]? = some s∧DeepAt w F e ts' (getD l k ([]:List (Den e))) s
 | .int k,ts,l,sk=>∃t u,ts=[t]∧sk = .tuple #[u]∧LeafAt w F t (.int k) l u
 | .str,ts,l,sk=>∃t u,ts=[t]∧sk = .tuple #[u]∧LeafAt w F t .str l u
 | .bool,ts,l,sk=>∃t u,ts=[t]∧sk = .tuple #[u]∧LeafAt w F t .bool l u
 | .pair a b,ts,l,sk=>∃t u,ts=[t]∧sk = .tuple #[u]∧LeafAt w F t (.pair a b) l u
 | .struct a,ts,l,sk=>∃t u,ts=[t]∧sk = .tuple #[u]∧LeafAt w F t (.struct a) l u
 |_,_,_,_=>False
def Inj (sk:Value):Prop:=∀p q u u' b,skAt p sk=some u→skAt q sk=some u'→blk u=some b→blk u'=some b→p=q
def RepO (w:World) (F:Nat→Prop) (h:HF) (β:Nat→Value) (i:Nat):Obj→Prop
 | .box t cs=>∃b us,β i = .pointer (some ⟨b,0,none⟩)∧RowAt w b us t∧All2 (RepC w F h β) cs us.toList
 | .arr t sz n get=>(∃a,β i = .slice a 0 0∧n=0) ∨
   ∃b cap cur,β i = .slice (some ⟨b,0,none⟩) n cap∧0<cap∧RowAt w b cur t∧n≤cap∧cap≤maxLen∧cur.size=cap*sz ∧
    ∀k,k<n→∀j,j<sz→∃y,cur[k*sz+j]? = some y∧Ro w F (get k j) y
 | .lis t e l=>(∃a,β i = .slice a 0 0∧l.length=0) ∨
   ∃b cap cur,β i = .slice (some ⟨b,0,none⟩) l.length cap∧0<cap∧RowAt w b cur t∧l.length≤cap∧cap≤maxLen∧cur.size=cap*width e ∧
    ∀k,k<l.length→∀j,j<width e→∃y,cur[k*width e+j]? = some y∧Ro w F (getL e l k j) y
 | .map k e m=>∃b es clock,β i = .map (some b)∧w.heap[b]? = some (.map es clock) ∧
   All2 (fun (p:Den k×Den e) (en:MapEntry)=>(RoL w F k p.1 en.key.cells.toList∧formV k en.key)∧RoL w F e p.2 en.val.cells.toList∧formV e en.val) m es.toList
 | .deep ts e l=>isListTy e=true∧DeepAt w F e ts l (β i)∧Inj (β i)
theorem RepO.leaf {w:World} {F:Nat→Prop} {h:HF} {β:Nat→Value} {i:Nat} {t:TypeId} {e:Ty} {l:List (Den e)}:RepO w F h β i (.lis t e l)↔LeafAt w F t e l (β i):=Iff.rfl
theorem LeafAt.mono {w w':World} {F F':Nat→Prop} (hb:∀b,F b→w'.heap[b]? = w.heap[b]?) (hF:∀b,F b→F' b) {t:TypeId} {e:Ty} {l:List (Den e)} {v:Value} (hv:∀b,blk v=some b→w'.heap[b]? = w.heap[b]?) (h:LeafAt w F t e l v):LeafAt w' F' t e l v:=by
 rcases h with⟨x,h1,h2⟩ | ⟨b,cap,cur,h1,h2,h3,h4,h5,h6,h7⟩
 ·exact .inl ⟨x,h1,h2⟩
 ·refine .inr ⟨b,cap,cur,h1,h2, ?_,h4,h5,h6,fun k hk j hj => ?_⟩
  ·exact h3.mono (hv b (by rw[h1];simp[blk];omega))
  ·obtain ⟨y,hy,hr⟩:=h7 k hk j hj;exact⟨y,hy,Ro.mono hb hF hr⟩
theorem skAt_hd {us:Array Value} {u:Value} (h:us[0]? = some u):skAt [] (.tuple us)=some u:=by
 have:hd (.tuple us)=u:=by
  show us.getD 0 (.bool false)=u;have h0:0<us.size:=(Array.getElem?_eq_some_iff.1 h).1;simp only[Array.getD,h0,dif_pos];exact(Array.getElem?_eq_some_iff.1 h).2
 simp only[skAt,this]
theorem Blk_sub {us:Array Value} {k:Nat} {s:Value} (h:us[k+1]? = some s) {b:Nat} (hb:Blk s b):Blk (.tuple us) b:=by
 obtain⟨p,u,h1,h2⟩:=hb;exact⟨k::p,u,by simp only[skAt,h];exact h1,h2⟩
theorem DeepAt.mono {w w':World} {F F':Nat→Prop} (hb:∀b,F b→w'.heap[b]? = w.heap[b]?) (hF:∀b,F b→F' b) {e:Ty}:∀ {ts:List TypeId} {l:List (Den e)} {sk:Value},(∀b,Blk sk b→w'.heap[b]? = w.heap[b]?)→DeepAt w F e ts l sk→DeepAt w' F' e ts l sk:=by
 have leaf:∀ {e:Ty} {t:TypeId} {l:List (Den e)} {u:Value},(∀b,Blk (.tuple #[u]) b→w'.heap[b]? = w.heap[b]?)→LeafAt w F t e l u→LeafAt w' F' t e l u:=fun hv h =>
  h.mono hb hF fun b hbb=>hv b ⟨[],_,skAt_hd rfl,hbb⟩
 induction e with
 |list e ih =>
  rintro ts l sk hv ⟨t,ts',us,ad,cap,rfl,rfl,h1,h2,h3,h4,h5,h6⟩;refine⟨t,ts',us,ad,cap,rfl,rfl,h1,h2,h3,h4, ?_,fun k hk => ?_⟩
  ·rcases h5 with h5 | ⟨b,cur,rfl,g0,g1,g2,g3⟩
   ·exact .inl h5
   ·refine .inr ⟨b,cur,rfl,g0, ?_,g2,g3⟩;exact g1.mono (hv b ⟨[],_,skAt_hd h2,by simp[blk];omega⟩)
  ·obtain ⟨s,g1,g2⟩:=h6 k hk;exact⟨s,g1,ih (fun b hbb=>hv b (Blk_sub g1 hbb)) g2⟩
 |int k=>rintro ts l sk hv ⟨t,u,rfl,rfl,h⟩;exact ⟨t,u,rfl,rfl,leaf hv h⟩
 |str=>rintro ts l sk hv ⟨t,u,rfl,rfl,h⟩;exact ⟨t,u,rfl,rfl,leaf hv h⟩
 |bool=>rintro ts l sk hv ⟨t,u,rfl,rfl,h⟩;exact ⟨t,u,rfl,rfl,leaf hv h⟩
 |pair a b _ _=>rintro ts l sk hv ⟨t,u,rfl,rfl,h⟩;exact ⟨t,u,rfl,rfl,leaf hv h⟩
 |struct a _=>rintro ts l sk hv ⟨t,u,rfl,rfl,h⟩;exact ⟨t,u,rfl,rfl,leaf hv h⟩
 |unit=>rintro ts l sk hv h;exact h
 |tree=>rintro ts l sk hv h;exact h
 |map k e _ _=>rintro ts l sk hv h;exact h
 |ref t _=>rintro ts l sk hv h;exact h
theorem LeafAt.lt {w:World} {F:Nat→Prop} {t:TypeId} {e:Ty} {l:List (Den e)} {v:Value} (h:LeafAt w F t e l v) {b:Nat} (hb:blk v=some b):b<w.heap.size:=by
 rcases h with⟨x,h1,h2⟩ | ⟨g,cap,cur,h1,h2,h3,h4⟩
 ·rw[h1]at hb;cases x<;>simp[blk]at hb
 ·rw[h1]at hb;simp[blk]at hb;obtain⟨_,rfl⟩:=hb;exact h3.lt
theorem DeepAt.lt {w:World} {F:Nat→Prop} {e:Ty}:∀ {ts:List TypeId} {l:List (Den e)} {sk:Value},DeepAt w F e ts l sk→∀ {b:Nat},Blk sk b→b<w.heap.size:=by
 have leaf:∀ {e:Ty} {t:TypeId} {l:List (Den e)} {u:Value},LeafAt w F t e l u→∀ {b:Nat},Blk (.tuple #[u]) b→b<w.heap.size:=by
  rintro e t l u h b ⟨p,u',h1,h2⟩
  cases p with
  |nil=>rw[skAt_hd rfl]at h1;cases h1;exact h.lt h2
  |cons k p =>
   simp only[skAt]at h1
   split at h1
   ·rename_i s hs;simp at hs
   ·cases h1
 induction e with
 |list e ih =>
  rintro ts l sk ⟨t,ts',us,ad,cap,rfl,rfl,h1,h2,h3,h4,h5,h6⟩ b ⟨p,u,g1,g2⟩
  cases p with
  |nil =>
   rw[skAt_hd h2]at g1
   cases g1
   rcases h5 with h5 | ⟨b',cur,rfl,q0,q1,_⟩
   ·subst h5;cases ad<;>simp[blk]at g2
   ·simp[blk]at g2;obtain⟨_,rfl⟩:=g2;exact q1.lt
  |cons k p =>
   simp only[skAt]at g1
   split at g1
   ·rename_i s hs;have hk:k<length l:=by have:=(Array.getElem?_eq_some_iff.1 hs).1;omega
    obtain⟨s',e1,e2⟩:=h6 k hk;rw[hs]at e1
    cases e1
    exact ih e2 ⟨p,u,g1,g2⟩
   ·cases g1
 |int k=>rintro ts l sk ⟨t,u,rfl,rfl,h⟩ b hb;exact leaf h hb
 |str=>rintro ts l sk ⟨t,u,rfl,rfl,h⟩ b hb;exact leaf h hb
 |bool=>rintro ts l sk ⟨t,u,rfl,rfl,h⟩ b hb;exact leaf h hb
 |pair a b _ _=>rintro ts l sk ⟨t,u,rfl,rfl,h⟩ b hb;exact leaf h hb
 |struct a _=>rintro ts l sk ⟨t,u,rfl,rfl,h⟩ b hb;exact leaf h hb
 |unit=>rintro ts l sk h;exact h.elim
 |tree=>rintro ts l sk h;exact h.elim
 |map k e _ _=>rintro ts l sk h;exact h.elim
 |ref t _=>rintro ts l sk h;exact h.elim
theorem RepO.lis {w:World} {F:Nat→Prop} {h:HF} {β:Nat→Value} {i:Nat} {t:TypeId} {e:Ty} {l:List (Den e)}:RepO w F h β i (.lis t e l)↔RepO w F h β i (.arr t (width e) l.length (getL e l)):=Iff.rfl
structure Per (w:World) (F:Nat→Prop) (h:HF) (β:Nat→Value) (w':World) (F':Nat→Prop) (h':HF) (β':Nat→Value):Prop where
 blocks:∀b,F b→w'.heap[b]? = w.heap[b]?
 sub:∀b,F b→F' b
 pres:∀i q,h i=some q→∃q',h' i=some q'
 back:∀i q o,h i=some q→h' i=some (some o)→(∃o',q=some o')∧β' i=β i
section
variable {w w' w'':World} {F F' F'':Nat→Prop} {h h' h'':HF} {β β' β'':Nat→Value}
theorem Per.refl (w:World) (F:Nat→Prop) (h:HF) (β:Nat→Value):Per w F h β w F h β :=
 ⟨fun _ _=>rfl,fun _ h=>h,fun _ q h=>⟨q,h⟩,fun _ q o h h'=>by rw[h]at h';cases h';exact ⟨⟨o,rfl⟩,rfl⟩⟩
theorem Per.trans (a:Per w F h β w' F' h' β') (b:Per w' F' h' β' w'' F'' h'' β''):Per w F h β w'' F'' h'' β'':=by
 refine⟨fun k hk=>(b.blocks k (a.sub k hk)).trans (a.blocks k hk),fun k hk=>b.sub k (a.sub k hk),fun i q hi => ?_,fun i q o hi ho => ?_⟩
 ·obtain ⟨q',hq'⟩:=a.pres i q hi;exact b.pres i q' hq'
 ·obtain ⟨q',hq'⟩:=a.pres i q hi;obtain⟨⟨o',rfl⟩,e⟩:=b.back i q' o hq' ho;obtain⟨ho',e'⟩:=a.back i q o' hi hq';exact⟨ho',e.trans e'⟩
theorem Per.repC (a:Per w F h β w' F' h' β') {c:C} {u:Value} (hc:RepC w F h β c u):RepC w' F' h' β' c u:=by
 cases c with
 |r x=>exact Ro.mono a.blocks a.sub hc
 |own i =>
  obtain⟨h1,⟨q,hq⟩,h3⟩:=hc;refine⟨h1,a.pres i q hq,fun o ho => ?_⟩;obtain⟨⟨o',rfl⟩,e⟩:=a.back i q o hq ho;rw[e];exact h3 o' hq
 |ptr i off =>
  obtain⟨h1,⟨q,hq⟩,h3⟩:=hc;refine⟨h1,a.pres i q hq,fun o ho => ?_⟩;obtain⟨⟨o',rfl⟩,e⟩:=a.back i q o hq ho;rw[e];exact h3 o' hq
 |eptr i sz k off =>
  obtain⟨h1,⟨q,hq⟩,h3⟩:=hc;refine⟨h1,a.pres i q hq,fun o ho => ?_⟩;obtain⟨⟨o',rfl⟩,e⟩:=a.back i q o hq ho;rw[e];exact h3 o' hq
 |win i sz k =>
  obtain⟨h1,⟨q,hq⟩,h3⟩:=hc;refine⟨h1,a.pres i q hq,fun o ho => ?_⟩;obtain⟨⟨o',rfl⟩,e⟩:=a.back i q o hq ho;rw[e];exact h3 o' hq
 |slf i =>
  obtain⟨h1,⟨q,hq⟩,h3⟩:=hc;refine⟨h1,a.pres i q hq,fun o ho => ?_⟩;obtain⟨⟨o',rfl⟩,e⟩:=a.back i q o hq ho;rw[e];exact h3 o' hq
 |dsl i p =>
  obtain⟨h1,⟨q,hq⟩,h3⟩:=hc;refine⟨h1,a.pres i q hq,fun o ho => ?_⟩;obtain⟨⟨o',rfl⟩,e⟩:=a.back i q o hq ho;rw[e];exact h3 o' hq
 |dptr i p sz k off =>
  obtain⟨h1,⟨q,hq⟩,h3⟩:=hc;refine⟨h1,a.pres i q hq,fun o ho => ?_⟩;obtain⟨⟨o',rfl⟩,e⟩:=a.back i q o hq ho;rw[e];exact h3 o' hq
 |fn f l =>
  obtain⟨h1,h2,h3⟩:=hc;refine⟨h1,fun i hi => ?_,fun hall => ?_⟩
  ·obtain ⟨q,hq⟩:=h2 i hi;exact a.pres i q hq
  ·have hb:∀i∈l,(∃o,h i=some (some o))∧β' i=β i:=fun i hi=>by
    obtain⟨q,hq⟩:=h2 i hi;obtain⟨o,ho⟩:=hall i hi;obtain⟨⟨o',rfl⟩,e⟩:=a.back i q o hq ho;exact⟨⟨o',hq⟩,e⟩
   rw[h3 fun i hi=>(hb i hi).1]
   congr 2
   exact(List.map_congr_left fun i hi=>(hb i hi).2).symm
 |junk=>exact hc
theorem Per.repD (a:Per w F h β w' F' h' β') {d:D} {u:Value} (hd:RepD w F h β d u):RepD w' F' h' β' d u:=by
 cases d with
 |one c=>exact a.repC hd
 |agg cs=>obtain ⟨us,rfl,hh⟩:=hd;exact ⟨us,rfl,hh.mono fun _ _=>a.repC⟩
theorem Per.repO (a:Per w F h β w' F' h' β') {i:Nat} {o:Obj} (hb:∀b,Blk (β i) b→w'.heap[b]? = w.heap[b]?) (e:β' i=β i) (ho:RepO w F h β i o) :
  RepO w' F' h' β' i o:=by
 have arr:∀ {t sz n get},RepO w F h β i (.arr t sz n get)→RepO w' F' h' β' i (.arr t sz n get):=by
  intro t sz n get ho;rcases ho with⟨x,h1,h2⟩ | ⟨b,cap,cur,h1,h2,h3,h4,h5,h6,h7⟩
  ·exact .inl ⟨x,e.trans h1,h2⟩
  ·refine .inr ⟨b,cap,cur,e.trans h1,h2, ?_,h4,h5,h6,fun k hk j hj => ?_⟩
   ·exact h3.mono (hb b (by rw[h1];simp[blk];omega))
   ·obtain ⟨y,hy,hr⟩:=h7 k hk j hj;exact⟨y,hy,Ro.mono a.blocks a.sub hr⟩
 cases o with
 |box t cs =>
  obtain⟨b,us,h1,h2,h3⟩:=ho;exact⟨b,us,e.trans h1,h2.mono (hb b (by rw[h1];exact Blk_pointer.2 rfl)),h3.mono fun _ _=>a.repC⟩
 |arr t sz n get=>exact arr ho
 |lis t e' l=>exact RepO.lis.2 (arr (RepO.lis.1 ho))
 |map k e' m =>
  obtain⟨b,es,clock,h1,h2,h3⟩:=ho;exact⟨b,es,clock,e.trans h1,by rw[hb b (by rw[h1];exact Blk_map.2 rfl)];exact h2,h3.mono fun p en h=>⟨⟨RoL.mono a.blocks a.sub h.1.1,h.1.2⟩,RoL.mono a.blocks a.sub h.2.1,h.2.2⟩⟩
 |deep ts e' l =>
  obtain⟨h0,h1,h2⟩:=ho;refine⟨h0, ?_,by rw[e];exact h2⟩;rw[e];exact h1.mono a.blocks a.sub hb
end
structure Inv (w0:World) (O0 F0:Nat→Prop) (w:World) (F:Nat→Prop) (h:HF) (β:Nat→Value):Prop where
 obj:∀i o,h i=some (some o)→RepO w F h β i o
 apart:∀i j o o' b,h i=some (some o)→h j=some (some o')→Blk (β i) b→Blk (β j) b→i=j
 notF:∀i o b,h i=some (some o)→Blk (β i) b→¬F b
 low:∀b,F b→b<w.heap.size
 os:w.os=w0.os
 tape:w.tape=w0.tape
 output:w.output=w0.output
 size:w0.heap.size≤w.heap.size
 kept:∀k,k<w0.heap.size→¬O0 k→w.heap[k]? = w0.heap[k]?
 fromO:∀i o b,h i=some (some o)→Blk (β i) b→O0 b∨w0.heap.size≤b
 fromF:∀b,F b→F0 b∨O0 b∨w0.heap.size≤b
 inF:∀b,F0 b→F b
def setH (h:HF) (i:Nat) (q:Option Obj):HF:=fun j=>if j=i then some q else h j
def setB (β:Nat→Value) (i:Nat) (v:Value):Nat→Value:=fun j=>if j=i then v else β j
theorem blk_lt {w:World} {F:Nat→Prop} {h:HF} {β:Nat→Value} {i:Nat} {o:Obj} (ho:RepO w F h β i o) {b:Nat} (hb:Blk (β i) b):b<w.heap.size:=by
 have arr:∀ {t sz n get},RepO w F h β i (.arr t sz n get)→b<w.heap.size:=by
  intro t sz n get ho;rcases ho with⟨x,h1,h2⟩ | ⟨g,cap,cur,h1,h2,h3,h4⟩
  ·rw[h1]at hb
   cases x<;>simp[blk]at hb
  ·rw[h1]at hb;simp[blk]at hb;obtain⟨_,rfl⟩:=hb;exact h3.lt
 cases o with
 |box t cs =>
  obtain⟨g,us,h1,h2,h3⟩:=ho;rw[h1]at hb;simp[blk]at hb;subst hb;exact h2.lt
 |arr t sz n get=>exact arr ho
 |lis t e l=>exact arr (RepO.lis.1 ho)
 |map k e m =>
  obtain⟨g,es,clock,h1,h2,_⟩:=ho;rw[h1]at hb;simp[blk]at hb;subst hb;exact(Array.getElem?_eq_some_iff.1 h2).1
 |deep ts e l=>exact ho.2.1.lt hb
section
variable {w0 w w':World} {O0 F0 F F':Nat→Prop} {h:HF} {β:Nat→Value}
theorem Inv.turn (H:Inv w0 O0 F0 w F h β) (i:Nat) (q:Option Obj) (v:Value)
  (hos:w'.os=w.os) (htape:w'.tape=w.tape) (hout:w'.output=w.output) (hsz:w.heap.size≤w'.heap.size)
  (X:Nat→Prop) (hX:∀b,X b→¬F b∧(∀j o,j≠i→h j=some (some o)→¬Blk (β j) b)∧(O0 b∨w0.heap.size≤b))
  (hblk:∀b,b<w.heap.size→¬X b→w'.heap[b]? = w.heap[b]?)
  (hF1:∀b,F b→F' b) (hF2:∀b,F' b→F b∨(X b∧q=none∧b<w'.heap.size))
  (hold:∀q0 o,h i=some q0→q=some o→(∃o',q0=some o')∧v=β i)
  (hq:Per w F h β w' F' (setH h i q) (setB β i v)→∀o,q=some o→RepO w' F' (setH h i q) (setB β i v) i o∧∀b,Blk v b→X b∨w.heap.size≤b) :
  Inv w0 O0 F0 w' F' (setH h i q) (setB β i v)∧Per w F h β w' F' (setH h i q) (setB β i v):=by
 have hFb:∀b,F b→¬X b:=fun b hb hx=>(hX b hx).1 hb;have P:Per w F h β w' F' (setH h i q) (setB β i v):=by
  refine⟨fun b hb=>hblk b (H.low b hb) (hFb b hb),hF1,fun j q0 hj => ?_,fun j q0 o hj ho => ?_⟩
  ·by_cases e:j=i
   ·exact ⟨q,by simp[setH,e]⟩
   ·exact ⟨q0,by simp[setH,e,hj]⟩
  ·by_cases e:j=i
   ·subst e;simp[setH]at ho;have:=hold q0 o hj ho;exact⟨this.1,by simp[setB,this.2]⟩
   ·simp[setH,e]at ho;rw[hj]at ho
    cases ho
    exact⟨⟨o,rfl⟩,by simp[setB,e]⟩
 have hq:=hq P;refine⟨⟨?_, ?_, ?_, ?_,hos.trans H.os,htape.trans H.tape,hout.trans H.output,Nat.le_trans H.size hsz, ?_, ?_, ?_,fun b hb=>hF1 b (H.inF b hb)⟩,P⟩
 ·intro j o hj
  by_cases e:j=i
  ·subst e;exact(hq o (by simpa [setH]using hj)).1
  ·have hj':h j=some (some o):=by simpa [setH,e]using hj
   refine P.repO (fun b hb=>hblk b (blk_lt (H.obj j o hj') hb) fun hx=>(hX b hx).2.1 j o e hj' hb) (by simp[setB,e]) (H.obj j o hj')
 ·intro j k o o' b hj hk hbj hbk
  by_cases e:j=i
  ·by_cases e':k=i
   ·exact e.trans e'.symm
   ·have hk':h k=some (some o'):=by simpa [setH,e']using hk
    have hqo:q=some o:=by simpa [setH,e]using hj
    simp[setB,e]at hbj;simp[setB,e']at hbk;rcases(hq o hqo).2 b hbj with hx | hx
    ·exact absurd hbk ((hX b hx).2.1 k o' e' hk')
    ·have:=blk_lt (H.obj k o' hk') hbk;omega
  ·have hj':h j=some (some o):=by simpa [setH,e]using hj
   simp[setB,e]at hbj
   by_cases e':k=i
   ·have hqo:q=some o':=by simpa [setH,e']using hk
    simp[setB,e']at hbk;rcases(hq o' hqo).2 b hbk with hx | hx
    ·exact absurd hbj ((hX b hx).2.1 j o e hj')
    ·have:=blk_lt (H.obj j o hj') hbj;omega
   ·have hk':h k=some (some o'):=by simpa [setH,e']using hk
    simp[setB,e']at hbk;exact H.apart j k o o' b hj' hk' hbj hbk
 ·intro j o b hj hb hf
  by_cases e:j=i
  ·have hqo:q=some o:=by simpa [setH,e]using hj
   simp[setB,e]at hb;rcases hF2 b hf with hf | ⟨_,hqn,_⟩
   ·rcases (hq o hqo).2 b hb with hx | hx
    ·exact (hX b hx).1 hf
    ·have:=H.low b hf;omega
   ·rw[hqo]at hqn;cases hqn
  ·have hj':h j=some (some o):=by simpa [setH,e]using hj
   simp[setB,e]at hb;rcases hF2 b hf with hf | ⟨hx,_⟩
   ·exact H.notF j o b hj' hb hf
   ·exact (hX b hx).2.1 j o e hj' hb
 ·intro b hf;rcases hF2 b hf with hf | ⟨_,_,hx⟩
  ·exact Nat.lt_of_lt_of_le (H.low b hf) hsz
  ·exact hx
 ·intro k hk ho;have hkx:¬X k:=fun hx=>by rcases(hX k hx).2.2 with h1 | h1;exact ho h1;omega
  rw[hblk k (Nat.lt_of_lt_of_le hk H.size) hkx];exact H.kept k hk ho
 ·intro j o b hj hb
  by_cases e:j=i
  ·have hqo:q=some o:=by simpa [setH,e]using hj
   simp[setB,e]at hb;rcases(hq o hqo).2 b hb with hx | hx
   ·exact (hX b hx).2.2
   ·exact .inr (Nat.le_trans H.size hx)
  ·have hj':h j=some (some o):=by simpa [setH,e]using hj
   simp[setB,e]at hb;exact H.fromO j o b hj' hb
 ·intro b hf;rcases hF2 b hf with hf | ⟨hx,_⟩
  ·exact H.fromF b hf
  ·rcases (hX b hx).2.2 with h1 | h1
   ·exact .inr (.inl h1)
   ·exact .inr (.inr h1)
theorem Inv.same (H:Inv w0 O0 F0 w F h β) (hh:w'.heap=w.heap) (hos:w'.os=w.os) (htape:w'.tape=w.tape) (hout:w'.output=w.output) :
  Inv w0 O0 F0 w' F h β∧Per w F h β w' F h β:=by
 have P:Per w F h β w' F h β:=⟨fun b _=>by rw[hh],fun _ h=>h,fun _ q h=>⟨q,h⟩,fun _ q o h h'=>by rw[h]at h';cases h';exact ⟨⟨o,rfl⟩,rfl⟩⟩;exact⟨⟨fun i o hi=>P.repO (fun b _=>by rw[hh]) rfl (H.obj i o hi),H.apart,H.notF,fun b hb=>by rw[hh];exact H.low b hb,hos.trans H.os,htape.trans H.tape,hout.trans H.output,by rw[hh];exact H.size,
  fun k hk ho=>by rw[hh];exact H.kept k hk ho,H.fromO,H.fromF,H.inF⟩,P⟩
theorem Inv.new (H:Inv w0 O0 F0 w F h β) {i:Nat} (hi:h i=none) (x:Go.Obj) (o:Obj) (v:Value) (hv:∀b,Blk v b→b=w.heap.size)
  (hq:Per w F h β (w.alloc x) F (setH h i (some o)) (setB β i v)→RepO (w.alloc x) F (setH h i (some o)) (setB β i v) i o) :
  Inv w0 O0 F0 (w.alloc x) F (setH h i (some o)) (setB β i v)∧Per w F h β (w.alloc x) F (setH h i (some o)) (setB β i v) :=
 H.turn i (some o) v rfl rfl rfl (by simp) (fun _=>False) (fun _ h=>h.elim) (fun b hb _=>heap_alloc_old w x b hb) (fun _ h=>h) (fun _ h => .inl h)
  (fun q0 o h0=>by rw[hi]at h0;cases h0) fun P o' ho=>by
   cases ho
   exact⟨hq P,fun b hb => .inr (by rw[hv b hb];exact Nat.le_refl _)⟩
theorem Inv.kill (H:Inv w0 O0 F0 w F h β) (i:Nat):Inv w0 O0 F0 w F (setH h i none) (setB β i (β i))∧Per w F h β w F (setH h i none) (setB β i (β i)) :=
 H.turn i none (β i) rfl rfl rfl (Nat.le_refl _) (fun _=>False) (fun _ h=>h.elim) (fun _ _ _=>rfl) (fun _ h=>h) (fun _ h => .inl h) (fun _ _ _ h=>by cases h) fun _ _ h=>by cases h
theorem Inv.freeze (H:Inv w0 O0 F0 w F h β) (i:Nat) (o:Obj) (ho:h i=some (some o)) :
  Inv w0 O0 F0 w (fun b=>F b∨Blk (β i) b) (setH h i none) (setB β i (β i))∧Per w F h β w (fun b=>F b∨Blk (β i) b) (setH h i none) (setB β i (β i)) :=
 H.turn i none (β i) rfl rfl rfl (Nat.le_refl _) (fun b=>Blk (β i) b)
  (fun b hb=>⟨H.notF i o b ho hb,fun j o' hj h' hb'=>hj (H.apart j i o' o b h' ho hb' hb),H.fromO i o b ho hb⟩)
  (fun _ _ _=>rfl) (fun _ h => .inl h)
  (fun b hb=>hb.elim .inl fun hb => .inr ⟨hb,rfl,blk_lt (H.obj i o ho) hb⟩) (fun _ _ _ h=>by cases h) fun _ _ h=>by cases h
theorem setB_self (β:Nat→Value) (i:Nat):setB β i (β i)=β:=by
 funext j;simp only[setB];split<;>simp_all
end
end
/-
 Operations that turn no memory do what the evaluator tells.
-/
noncomputable section
open Go
theorem look_append {α:Type} (a b:List (Nat×α)) (i:Nat):look (a++b) i=match look a i with | some x=>some x | none=>look b i:=by
 induction a with
 |nil=>rfl
 |cons p l ih =>
  obtain⟨k,x⟩:=p;simp only[List.cons_append,look]
  cases Nat.beq k i
  ·exact ih
  ·rfl
def RepX (tm:Array Value) (w:World) (F:Nat→Prop) (h:HF) (β:Nat→Value):T→Value→Prop
 | .d x,u=>RepD w F h β x u
 | .tup xs,u=>∃us:Array Value,u = .tuple us∧All2 (RepD w F h β) xs us.toList
 | .when s b x,u=>(tm[s]? = some (.bool b)→RepD w F h β x u)∧(tm[s]? ≠ some (.bool b)→u=undef)
 | .nilq n,u=>∃b,u = .bool b∧(0<n→b=false)
 | .und,u=>u=undef
 | .unk,_=>True
theorem Per.repX {tm:Array Value} {w w':World} {F F':Nat→Prop} {h h':HF} {β β':Nat→Value} (a:Per w F h β w' F' h' β') {t:T} {u:Value}
  (ht:RepX tm w F h β t u):RepX tm w' F' h' β' t u:=by
 cases t with
 |d x=>exact a.repD ht
 |tup xs=>obtain ⟨us,rfl,hh⟩:=ht;exact ⟨us,rfl,hh.mono fun _ _=>a.repD⟩
 |when s b x=>exact ⟨fun e=>a.repD (ht.1 e),ht.2⟩
 |nilq n=>exact ht
 |und=>exact ht
 |unk=>trivial
structure TTok (P:Program) (TT:Types):Prop where
 info:∀t ti,TT t=some ti→P.info? t=some ti.info
 under:∀t ti,TT t=some ti→P.underlying t=some ti.desc
 held:∀t ti fs,TT t=some ti→ti.desc = .struct fs→P.stoodInHeld t=false∧P.eqGuardType P.depth t=false
theorem wp_val {P:Program} {o:Oper} {a:Act} {w w':World} {K:Act→World→Prop} {Q:Exit→Act→World→Prop} {v:Value}
  (h:(execOp a.eval o).run P w = .ok (.value v) w') (hk:K (a.put o.dst v) w'):o.wp P a w K Q:=by
 unfold Oper.wp;rw[h];exact hk
theorem wp_skp {P:Program} {o:Oper} {a:Act} {w w':World} {K:Act→World→Prop} {Q:Exit→Act→World→Prop}
  (h:(execOp a.eval o).run P w = .ok .skip w') (hk:K (a.put o.dst undef) w'):o.wp P a w K Q:=by
 unfold Oper.wp;rw[h];exact hk
section
variable {P:Program} {TT:Types} (ht:TTok P TT) {t:TypeId} {ti:TI}
include ht
theorem TTok.run_info (h:TT t=some ti) (w:World):(typeInfo t).run P w = .ok ti.info w:=by
 simp[typeInfo,ht.info t ti h]
theorem TTok.run_size (h:TT t=some ti) (w:World):(sizeOf t).run P w = .ok ti.info.size w:=by
 simp[sizeOf,ht.run_info h]
theorem TTok.run_under (h:TT t=some ti) (w:World):(underlying t).run P w = .ok ti.desc w:=run_underlying (ht.under t ti h) w
end
def aggDesc:TypeDesc→Bool
 | .struct _ | .array _ _=>true
 |_=>false
theorem TTok.run_agg {P:Program} {TT:Types} (ht:TTok P TT) {t:TypeId} {ti:TI} (h:TT t=some ti) (w:World):(isAgg t).run P w = .ok (aggDesc ti.desc) w:=by
 simp only[isAgg,Sem.run_bind,ht.run_under h,Result.andThen_ok]
 cases ti.desc<;>rfl
theorem mkOf_agg {ti:TI} (h:aggDesc ti.desc=true) (cs:List C):D.mkOf ti cs=some (.agg cs):=by
 unfold D.mkOf
 split
 ·rfl
 ·rfl
 ·rename_i h1 h2;unfold aggDesc at h
  split at h
  ·exact absurd (by assumption) (h1 _)
  ·exact absurd (by assumption) (h2 _ _)
  ·cases h
theorem mkOf_one {ti:TI} (h:aggDesc ti.desc=false) {cs:List C} {d:D} (hd:D.mkOf ti cs=some d):∃c,cs=[c]∧d = .one c:=by
 unfold D.mkOf at hd
 split at hd
 ·rename_i e;simp[aggDesc,e]at h
 ·rename_i e;simp[aggDesc,e]at h
 ·split at hd
  ·cases hd;exact ⟨_,rfl,rfl⟩
  ·cases hd
theorem inb_iff {i:Int} {n:Nat}:inb i n=true↔0≤i∧i<(n:Int):=by simp[inb]
section quiet
variable {P:Program} {TT:Types} {w:World} {F:Nat→Prop} {h:HF} {β:Nat→Value} {a:Act} {o:Oper}
theorem run_seq_eq (x y:ByteArray):(x.toList==y.toList)=seq x y:=by
 rw[ByteArray.toList_eq,ByteArray.toList_eq,Bool.eq_iff_iff,beq_iff_eq,seq,decide_eq_true_iff]
theorem mk_append (x y:ByteArray):x++y=mk (x.data.toList++y.data.toList):=by
 obtain⟨⟨x⟩⟩:=x;obtain⟨⟨y⟩⟩:=y
 apply ByteArray.ext
 simp
theorem size_list (x:ByteArray):x.size=x.data.toList.length:=by
 obtain⟨⟨x⟩⟩:=x;rfl
theorem wrap_wrap (k:IntKind) (n:Int):k.wrap (k.wrap n)=k.wrap n:=by
 cases k<;>simp only[IntKind.wrap,IntKind.bits,IntKind.signed]<;>simp<;>omega
theorem tmod_bound (x y:Int):(0≤x→0≤x.tmod y∧x.tmod y≤x)∧(x≤0→x≤x.tmod y∧x.tmod y≤0):=by
 have pos:∀x:Int,0≤x→0≤x.tmod y∧x.tmod y≤x:=fun x hx=>by
  refine⟨Int.tmod_nonneg _ hx, ?_⟩;have h1:(x.tmod y).natAbs≤x.natAbs:=by rw[Int.natAbs_tmod];exact Nat.mod_le _ _
  have h2:=Int.tmod_nonneg y hx;omega
 refine⟨pos x,fun hx => ?_⟩;have:=pos (-x) (by omega);rw[Int.neg_tmod]at this;omega
theorem wrap_rem {k:IntKind} {x:Int} (y:Int) (h:k.wrap x=x):k.wrap (x.tmod y)=x.tmod y:=by
 have b:=tmod_bound x y;rcases Int.le_total 0 x with hx | hx
 ·obtain ⟨b1,b2⟩:=b.1 hx
  cases k<;>simp only[IntKind.wrap,IntKind.bits,IntKind.signed]at h ⊢<;>simp at h ⊢<;>omega
 ·obtain ⟨b1,b2⟩:=b.2 hx
  cases k<;>simp only[IntKind.wrap,IntKind.bits,IntKind.signed]at h ⊢<;>simp at h ⊢<;>omega
theorem fdiv_bound (x:Int) (n:Nat):(0≤x→0≤x.fdiv (2 ^ n)∧x.fdiv (2 ^ n)≤x)∧(x≤0→x≤x.fdiv (2 ^ n)∧x.fdiv (2 ^ n)≤0):=by
 have hp:(0:Int)<2 ^ n:=Int.pow_pos (by omega);rw[Int.fdiv_eq_ediv_of_nonneg _ (Int.le_of_lt hp)];have h1:x / 2 ^ n*2 ^ n≤x:=Int.ediv_mul_le x (Int.ne_of_gt hp);refine⟨fun h=>⟨Int.ediv_nonneg h (Int.le_of_lt hp),Int.ediv_le_self _ h⟩,fun h=>⟨?_, ?_⟩⟩
 ·refine (Int.le_ediv_iff_mul_le hp).2 ?_;have:x*2 ^ n≤x*1:=Int.mul_le_mul_of_nonpos_left h (by omega);omega
 ·have:=Int.ediv_le_ediv hp h
  simpa using this
theorem wrap_shr {k:IntKind} {x:Int} (n:Nat) (h:k.wrap x=x):k.wrap (x.fdiv (2 ^ n))=x.fdiv (2 ^ n):=by
 have b:=fdiv_bound x n
 generalize x.fdiv (2 ^ n)=q at *
 rcases Int.le_total 0 x with hx | hx
 ·obtain ⟨b1,b2⟩:=b.1 hx
  cases k<;>simp only[IntKind.wrap,IntKind.bits,IntKind.signed]at h ⊢<;>simp at h ⊢<;>omega
 ·obtain ⟨b1,b2⟩:=b.2 hx
  cases k<;>simp only[IntKind.wrap,IntKind.bits,IntKind.signed]at h ⊢<;>simp at h ⊢<;>omega
theorem plain_wrap (k:IntKind) (n:Int):plain (.int k (k.wrap n))=true:=by simp[plain,wrap_wrap]
theorem plain_u8 (b:UInt8):plain (.int .u8 (b.toNat:Int))=true:=by
 have:=b.toNat_lt;refine zT ?_;rw[IntKind.wrap_u8];omega
theorem plain_i64 {n:Int} (h1 : -9223372036854775808≤n) (h2:n≤9223372036854775807):plain (.int .i64 n)=true:=by
 simp only[plain,decide_eq_true_eq];rw[IntKind.wrap_i64];omega
theorem evBin_sound {op:BinOp} {x y:Value} {c:Option Bool} {v:Value} (he:evBin op x y=some (c,v)) (hc:c=none∨c=some true) (hpx:plain x=true) (ty:TypeId) (X Y:Operand) :
  (do eqGuard op ty X Y x y;binOp op ty x y:Sem Value).run P w = .ok v w∧plain v=true:=by
 unfold evBin at he
 split at he
 ·rename_i k n k' m
  cases he
  have hy:¬m<0:=by simp at hc;omega
  rw[Sem.run_bind,show eqGuard .shl ty X Y (.int k n) (.int k' m)=pure ()from rfl];simp only[Sem.run_pure,Result.andThen_ok];exact⟨by simp[binOp,Op.shift,hy],plain_wrap _ _⟩
 ·rename_i k n k' m
  cases he
  have hy:¬m<0:=by simp at hc;omega
  rw[Sem.run_bind,show eqGuard .shr ty X Y (.int k n) (.int k' m)=pure ()from rfl];simp only[Sem.run_pure,Result.andThen_ok];refine⟨by simp[binOp,Op.shift,hy], ?_⟩;simp only[plain,decide_eq_true_eq]at hpx ⊢;exact wrap_shr _ hpx
 ·rename_i k n k' m _ _
  split at he
  ·cases he
  ·rename_i hk;have hk:k=k':=by simpa using hk
   subst hk;rw[Sem.run_bind,show eqGuard op ty X Y (.int k n) (.int k m)=pure ()by cases op<;>rfl];simp only[Sem.run_pure,Result.andThen_ok]
   cases op<;>simp only[]at he<;>cases he
   case h_2.add.refl=>exact ⟨by simp[binOp,Op.intArith],plain_wrap _ _⟩
   case h_2.sub.refl=>exact ⟨by simp[binOp,Op.intArith],plain_wrap _ _⟩
   case h_2.mul.refl=>exact ⟨by simp[binOp,Op.intArith],plain_wrap _ _⟩
   case h_2.quo.refl=>simp at hc;exact ⟨by simp[binOp,Op.intDiv,hc],plain_wrap _ _⟩
   case h_2.rem.refl=>simp at hc;exact ⟨by simp[binOp,Op.intDiv,hc],by simp only[plain,decide_eq_true_eq]at hpx ⊢;exact wrap_rem _ hpx⟩
   case h_2.and.refl=>exact ⟨by simp[binOp,Op.intBits],plain_wrap _ _⟩
   case h_2.or.refl=>exact ⟨by simp[binOp,Op.intBits],plain_wrap _ _⟩
   case h_2.xor.refl=>exact ⟨by simp[binOp,Op.intBits],plain_wrap _ _⟩
   case h_2.eql.refl=>exact ⟨by simp[binOp,Op.intCmp];rfl,rfl⟩
   case h_2.neq.refl=>exact ⟨by simp[binOp,Op.intCmp];rfl,rfl⟩
   case h_2.lss.refl=>exact ⟨by simp[binOp,Op.intCmp],rfl⟩
   case h_2.leq.refl=>exact ⟨by simp[binOp,Op.intCmp],rfl⟩
   case h_2.gtr.refl=>exact ⟨by simp[binOp,Op.intCmp],rfl⟩
   case h_2.geq.refl=>exact ⟨by simp[binOp,Op.intCmp],rfl⟩
 ·rename_i x y;rw[Sem.run_bind,show eqGuard op ty X Y (.string x) (.string y)=pure ()by cases op<;>rfl];simp only[Sem.run_pure,Result.andThen_ok]
  cases op<;>simp only[]at he<;>cases he<;>simp only[binOp,Op.stringOp,run_seq_eq]<;>(try simp only[ByteArray.toList_eq])
  case h_4.add.refl =>
   have hc':¬(((x.size+y.size:Nat):Int) > IntKind.i64.max):=by
    simp only[reduceCtorEq,Option.some.injEq,decide_eq_true_eq,false_or]at hc;rw[size_list,size_list,IntKind.max_i64];omega
   rw[if_neg hc',mk_append];refine⟨rfl, ?_⟩;simp only[reduceCtorEq,Option.some.injEq,decide_eq_true_eq,false_or]at hc
   simpa [plain]using hc
  all_goals exact⟨rfl,rfl⟩
 ·cases he
end quiet
end
/-
 More words on objects that turn,and on what is read.
-/
noncomputable section
open Go
def upd (ups:Ups) (h:HF):HF:=fun i=>match look ups i with | some q=>some q | none=>h i
theorem upd_nil (h:HF):upd [] h=h:=rfl
theorem upd_cons (i:Nat) (q:Option Obj) (l:Ups) (h:HF):upd ((i,q)::l) h=setH (upd l h) i q:=by
 funext j
 simp only[upd,setH,look]
 by_cases e:j=i
 ·subst e;simp
 ·rw[if_neg e];have:Nat.beq i j=false:=by
   cases hb:Nat.beq i j
   ·rfl
   ·exact absurd (zB hb).symm e
  rw[this];rfl
theorem upd_append (a b:Ups) (h:HF):upd (a++b) h=upd a (upd b h):=by
 induction a with
 |nil=>rfl
 |cons p l ih=>obtain ⟨i,q⟩:=p;rw[List.cons_append,upd_cons,upd_cons,ih]
theorem look_upd (ups:Ups) (H:Heap):look (ups++H)=upd ups (look H):=by
 funext i;rw[look_append];unfold upd;cases look ups i<;>rfl
theorem setH_comm (h:HF) {i j:Nat} (hij:i≠j) (p q:Option Obj):setH (setH h i p) j q=setH (setH h j q) i p:=by
 funext k
 simp only[setH]
 split<;>split<;>simp_all
theorem sid_new (t k:Nat) (hk:k<64):isNew t (sid t k)=true:=by
 simp only[isNew,sid,Bool.and_eq_true,Nat.ble_eq,Nat.blt_eq];omega
theorem elemNat_iff {i:Nat} {l:List Nat}:elemNat i l=true↔i∈l:=by
 induction l with
 |nil=>simp[elemNat]
 |cons a l ih =>
  simp only[elemNat,List.mem_cons]
  cases hb:Nat.beq a i
  ·have:i≠a:=fun e=>by subst e;simp at hb
   simp[this,ih]
  ·have:=zB hb;simp[this]
theorem mem_addNew {l:List Nat}:∀ {acc:List Nat} {i:Nat},i∈addNew acc l↔i∈acc∨i∈l:=by
 induction l with
 |nil=>intro acc i;simp[addNew]
 |cons a l ih =>
  intro acc i;simp only[addNew]
  cases hb:elemNat a acc
  ·simp only[cond_false,ih,mem_append,List.mem_cons,List.not_mem_nil,or_false]
   constructor
   ·rintro ((h | h) | h)<;>simp[h]
   ·rintro (h | h | h)<;>simp[h]
  ·have:=elemNat_iff.1 hb;simp only[cond_true,ih,List.mem_cons]
   constructor
   ·rintro (h | h)<;>simp[h]
   ·rintro (h | h | h)
    ·exact .inl h
    ·exact .inl (h ▸ this)
    ·exact .inr h
theorem closure_self (h:Nat→Option Obj):∀(k:Nat) (l:List Nat) (i:Nat),i∈l→i∈closure h k l
 |0,_,_,hi=>hi
 |k+1,_,i,hi=>closure_self h k _ i (mem_addNew.2 (.inl hi))
theorem closure_step (h:Nat→Option Obj):∀(k:Nat) (l:List Nat) (i j:Nat),i∈l→j∈hget h i→j∈closure h (k+1) l :=
 fun k _ i j hi hj=>closure_self h k _ j (mem_addNew.2 (.inr (List.mem_flatMap.2 ⟨i,hi,hj⟩)))
theorem look_dropIds (l:List Nat) (i:Nat):look (dropIds l) i=if i∈l then some none else none:=by
 induction l with
 |nil=>rfl
 |cons a l ih =>
  simp only[dropIds,List.map_cons,look,List.mem_cons]
  cases hb:Nat.beq a i
  ·have:i≠a:=fun e=>by subst e;simp at hb
   simp only[cond_false,this,false_or];exact ih
  ·have:=zB hb;simp[this]
section
variable {w0 w w':World} {O0 F0 F F':Nat→Prop} {h:HF} {β:Nat→Value}
theorem Inv.freezes (H:Inv w0 O0 F0 w F h β):∀(l:List Nat),(∀i∈l,∃q,h i=some q) →
  ∃F',Inv w0 O0 F0 w F' (upd (dropIds l) h) β∧Per w F h β w F' (upd (dropIds l) h) β∧∀i∈l,∀o b,h i=some (some o)→Blk (β i) b→F' b
 | [],_=>⟨F,H,Per.refl w F h β,fun _ hi=>by simp at hi⟩
 |i::l,hall=>by
  obtain⟨F1,H1,P1,hb1⟩:=H.freezes l fun j hj=>hall j (mem_cons_of_mem _ hj);rw[show dropIds (i::l)=(i,none)::dropIds l from rfl,upd_cons]
  cases hq:upd (dropIds l) h i with
  |none =>
   exfalso;obtain⟨q,hiq⟩:=hall i (mem_cons_self ..);simp only[upd]at hq
   split at hq
   ·cases hq
   ·rw[hiq]at hq;cases hq
  |some q =>
   cases q with
   |none =>
    have e:setH (upd (dropIds l) h) i none=upd (dropIds l) h:=by
     funext k;simp only[setH];split
     ·rename_i e;rw[e,hq]
     ·rfl
    rw[e];refine⟨F1,H1,P1,fun j hj o b ho hb => ?_⟩;rcases List.mem_cons.1 hj with rfl | hj
    ·simp only[upd,look_dropIds]at hq
     by_cases hm:j∈l
     ·exact hb1 j hm o b ho hb
     ·simp[hm,ho]at hq
    ·exact hb1 j hj o b ho hb
   |some o =>
    obtain⟨H2,P2⟩:=H1.freeze i o hq;rw[setB_self]at H2 P2;refine⟨_,H2,P1.trans P2,fun j hj o' b ho hb => ?_⟩;rcases List.mem_cons.1 hj with rfl | hj
    ·exact .inr hb
    ·exact .inl (hb1 j hj o' b ho hb)
theorem list_of {n:Nat} {p:Nat→Value→Prop} (hp:∀j,j<n→∃y,p j y):∃us:List Value,us.length=n∧∀j y,us[j]? = some y→p j y:=by
 induction n with
 |zero=>exact ⟨[],rfl,fun j y hy=>by simp at hy⟩
 |succ n ih =>
  obtain⟨us,hl,hu⟩:=ih fun j hj=>hp j (by omega);obtain⟨y,hy⟩:=hp n (by omega);refine⟨us++[y],by simp[hl],fun j z hz => ?_⟩;rw[List.getElem?_append]at hz
  split at hz
  ·exact hu j z hz
  ·have:j-us.length=0:=by
    rcases Nat.eq_zero_or_pos (j-us.length)with e | e
    ·exact e
    ·rw[getElem?_eq_none (by simp;omega)]at hz;cases hz
   rw[this]at hz;simp at hz;subst hz;have:j=n:=by omega
   rw[this];exact hy
theorem RoL_cells {w:World} {F:Nat→Prop} {t:Ty}:∀ {x:Den t} {us:List Value},RoL w F t x us↔All2 (Ro w F) (cellsR t x) us:=by
 have one:∀ {r:R} {us:List Value} {p:Value→Prop},(∀u,Ro w F r u↔p u)→(All2 (Ro w F) [r] us↔∃u,us=[u]∧p u):=fun {r us p} hp=>by
  constructor
  ·intro h
   cases h with
   |cons h1 h2=>cases h2;exact ⟨_,rfl,(hp _).1 h1⟩
  ·rintro ⟨u,rfl,h1⟩;exact .cons ((hp _).2 h1) .nil
 induction t with
 |int k =>
  intro x us;refine Iff.trans ?_ (one fun u=>Iff.rfl).symm
  constructor
  ·intro h;exact ⟨_,h.1,rfl,h.2⟩
  ·rintro ⟨u,rfl,rfl,h⟩;exact ⟨rfl,h⟩
 |str =>
  intro x us;refine Iff.trans ?_ (one fun u=>Iff.rfl).symm
  constructor
  ·intro h;exact ⟨_,h.1,rfl,h.2⟩
  ·rintro ⟨u,rfl,rfl,h⟩;exact ⟨rfl,h⟩
 |bool =>
  intro x us;refine Iff.trans ?_ (one fun u=>Iff.rfl).symm
  constructor
  ·intro h;exact ⟨_,h,rfl,rfl⟩
  ·rintro ⟨u,rfl,rfl,_⟩;rfl
 |list t ih =>
  intro x us;refine Iff.trans ?_ (one fun u=>Iff.rfl).symm
  constructor
  ·intro h;obtain⟨a,cap,e,h1⟩:=h;exact⟨_,e,a,cap,rfl,h1⟩
  ·rintro ⟨u,rfl,h⟩;exact h
 |struct t ih=>intro x us;exact ih (x:=x)
 |unit =>
  intro x us
  constructor
  ·intro h;have:us=[]:=h;subst this;exact .nil
  ·intro h;cases h;rfl
 |tree =>
  intro x us;refine RoT_iff.trans ?_
  constructor
  ·rintro ⟨u,rfl,h1,h2,h3⟩;exact .cons ⟨rfl,h1⟩ (.cons ⟨rfl,h2⟩ (.cons h3 .nil))
  ·intro h
   cases h with
   |cons h1 h =>
    cases h with
    |cons h2 h =>
     cases h with
     |cons h3 h =>
      cases h
      obtain⟨rfl,h1⟩:=h1;obtain⟨rfl,h2⟩:=h2;exact⟨_,rfl,h1,h2,h3⟩
 |map k e _ _ =>
  intro x us;refine Iff.trans ?_ (one fun u=>Iff.rfl).symm
  constructor
  ·intro h;obtain⟨b,es,clock,e,h1⟩:=h;exact⟨_,e,b,es,clock,rfl,h1⟩
  ·rintro ⟨u,rfl,h⟩;exact h
 |ref t _ =>
  intro x us;refine Iff.trans ?_ (one fun u=>Iff.rfl).symm
  constructor
  ·intro h;obtain⟨b,o,e,h1⟩:=h;exact⟨_,e,b,o,rfl,h1⟩
  ·rintro ⟨u,rfl,h⟩;exact h
 |pair a b iha ihb =>
  intro x us
  constructor
  ·rintro ⟨us1,us2,rfl,h1,h2⟩;exact(iha.1 h1).append (ihb.1 h2)
  ·intro h;have e:us=us.take (cellsR a x.1).length++us.drop (cellsR a x.1).length:=(List.take_append_drop _ _).symm;have ht:=h.take (cellsR a x.1).length;have hd:=h.drop (cellsR a x.1).length;refine⟨_,_,e,iha.2 ?_,ihb.2 ?_⟩
   ·simpa [cellsR]using ht
   ·simpa [cellsR]using hd
theorem cellsR_len:∀ {t:Ty} {x:Den t},(cellsR t x).length=width t
 | .int _,_=>rfl
 | .str,_=>rfl
 | .bool,_=>rfl
 | .list _,_=>rfl
 | .pair a b,x=>by simp only[cellsR,length_append,cellsR_len (t:=a),cellsR_len (t:=b),width]
 | .struct t,x=>cellsR_len (t:=t) (x:=x)
 | .unit,_=>rfl
 | .tree,_=>rfl
 | .map _ _,_=>rfl
 | .ref _,_=>rfl
theorem Ro_rf {w:World} {F:Nat→Prop} {t:Ty} {x:Den t} {u:Value}:Ro w F (.rf t x) u↔Ro w F (.rop (width t) fun j=>(cellsR t x).getD j z0) u:=by
 constructor
 ·rintro ⟨b,o,e,hf,ys,h1,h2⟩;simp only[List.cons.injEq,and_true]at e;refine⟨b,o,e,hf,fun j hj => ?_⟩;obtain⟨y,g1,g2⟩:=h2 j hj;obtain⟨r,g3,g4⟩:=(RoL_cells.1 h1).getR g1;refine⟨y,g2, ?_⟩;show Ro w F (getD (cellsR t x) j z0) y;rw[zG,g3];exact g4
 ·rintro ⟨b,o,rfl,hf,h⟩;obtain⟨ys,g1,g2⟩:=list_of h;refine⟨b,o,rfl,hf,ys,RoL_cells.2 (All2.of_get (by rw[cellsR_len,g1]) fun j r hr => ?_),fun j hj => ?_⟩
  ·have hj:j<width t:=by
    rcases Nat.lt_or_ge j (width t)with h | h
    ·exact h
    ·rw[getElem?_eq_none (by rw[cellsR_len];exact h)]at hr;cases hr
   refine⟨ys[j]'(by omega),by simp[g1,hj], ?_⟩;have:Ro w F (getD (cellsR t x) j z0) (ys[j]'(by omega)):=(g2 j _ (zE (by omega))).2;rw[zG,hr]at this;exact this
  ·exact ⟨ys[j]'(by omega),by simp[g1,hj],(g2 j _ (List.getElem?_eq_getElem (by omega))).1⟩
theorem Ro_li {w:World} {F:Nat→Prop} {t:Ty} {l:List (Den t)} {u:Value}:Ro w F (.li t l) u↔Ro w F (.sl (width t) l.length (getL t l)) u:=by
 constructor
 ·rintro ⟨a,cap,e,h1,h2,h3⟩;simp only[List.cons.injEq,and_true]at e;refine⟨a,cap,e,h1,h2, ?_⟩;rcases h3 with h3 | ⟨b,o,e1,hf,h3⟩
  ·exact .inl h3
  ·refine .inr ⟨b,o,e1,hf,fun i hi j hj => ?_⟩;obtain⟨ys,g1,g2⟩:=h3 i hi;obtain⟨y,g3,g4⟩:=g2 j hj;obtain⟨r,g5,g6⟩:=(RoL_cells.1 g1).getR g3;refine⟨y,g4, ?_⟩;simp only[getL,getD]at g5 ⊢;rw[g5];exact g6
 ·rintro ⟨a,cap,e,h1,h2,h3⟩;refine⟨a,cap,by rw[e],h1,h2, ?_⟩;rcases h3 with h3 | ⟨b,o,e1,hf,h3⟩
  ·exact .inl h3
  ·refine .inr ⟨b,o,e1,hf,fun i hi => ?_⟩;obtain⟨ys,g1,g2⟩:=list_of (h3 i hi);refine⟨ys,RoL_cells.2 (All2.of_get (by rw[cellsR_len,g1]) fun j x hx => ?_),fun j hj => ?_⟩
   ·have hj:j<width t:=by
     rcases Nat.lt_or_ge j (width t)with h | h
     ·exact h
     ·rw[getElem?_eq_none (by rw[cellsR_len];exact h)]at hx;cases hx
    refine⟨ys[j]'(by omega),by simp[g1,hj], ?_⟩;have:=(g2 j _ (zE (by omega))).2;have e2:getL t l i j=x:=by
     simp only[getL];rw[zG,hx];rfl
    rw[e2]at this;exact this
   ·exact ⟨ys[j]'(by omega),by simp[g1,hj],(g2 j _ (List.getElem?_eq_getElem (by omega))).1⟩
theorem ro_of_arr {i:Nat} {t:TypeId} {sz n:Nat} {get:Nat→Nat→R} (ho:RepO w F h β i (.arr t sz n get)) (hF:∀b,F b→F' b) (hb:∀b,Blk (β i) b→F' b) :
  Ro w F' (.sl sz n get) (β i):=by
 rcases ho with⟨x,h1,h2⟩ | ⟨b,cap,cur,h1,h2,h3,h4,h5,h6,h7⟩
 ·exact ⟨x,0,by rw[h1,h2],by omega,by simp[maxLen], .inl h2⟩
 ·refine ⟨some ⟨b,0,none⟩,cap,h1,h4,h5, .inr ⟨b,0,rfl,hb b (by rw[h1];simp[blk];omega),fun k hk j hj => ?_⟩⟩;obtain⟨y,hy,hr⟩:=h7 k hk j hj;refine⟨y, ?_,Ro.mono (fun _ _=>rfl) hF hr⟩;rw[h3.cell]
  simpa using hy
theorem LeafAt.ro {t:TypeId} {e:Ty} {l:List (Den e)} {v:Value} (h:LeafAt w F t e l v) (hF:∀b,F b→F' b) (hb:∀b,blk v=some b→F' b):RoL w F' (.list e) l [v]:=by
 refine(show Ro w F' (.li e l) v↔RoL w F' (.list e) l [v] from Iff.rfl).1 (Ro_li.2 ?_);rcases h with⟨x,h1,h2⟩ | ⟨b,cap,cur,h1,h2,h3,h4,h5,h6,h7⟩
 ·exact ⟨x,0,by rw[h1,h2],by omega,by simp[maxLen], .inl h2⟩
 ·refine ⟨some ⟨b,0,none⟩,cap,h1,h4,h5, .inr ⟨b,0,rfl,hb b (by rw[h1];simp[blk];omega),fun k hk j hj => ?_⟩⟩;obtain⟨y,hy,hr⟩:=h7 k hk j hj;refine⟨y, ?_,Ro.mono (fun _ _=>rfl) hF hr⟩;rw[h3.cell]
  simpa using hy
theorem DeepAt.ro (hF:∀b,F b→F' b) {e:Ty}:∀ {ts:List TypeId} {l:List (Den e)} {sk:Value},DeepAt w F e ts l sk→(∀b,Blk sk b→F' b)→RoL w F' (.list e) l [hd sk]:=by
 have leaf:∀ {e:Ty} {t:TypeId} {l:List (Den e)} {u:Value},LeafAt w F t e l u→(∀b,Blk (.tuple #[u]) b→F' b)→RoL w F' (.list e) l [u]:=fun h hb =>
  h.ro hF fun b hbb=>hb b ⟨[],_,skAt_hd rfl,hbb⟩
 induction e with
 |list e ih =>
  rintro ts l sk ⟨t,ts',us,ad,cap,rfl,rfl,h1,h2,h3,h4,h5,h6⟩ hb;have hhd:hd (.tuple us) = .slice ad (length l) cap:=by
   have:=skAt_hd h2
   simpa only[skAt,Option.some.injEq]using this
  refine⟨ad,cap,by rw[hhd],h3,h4, ?_⟩;rcases h5 with h5 | ⟨b,cur,rfl,g0,g1,g2,g3⟩
  ·exact .inl (by have h3:length l≤cap:=h3;omega)
  ·refine .inr ⟨b,0,rfl,hb b ⟨[],_,skAt_hd h2,by simp[blk];omega⟩,fun i hi => ?_⟩;obtain⟨s,e1,e2⟩:=g3 i hi;obtain⟨s',e3,e4⟩:=h6 i hi;rw[e1]at e3
   cases e3
   refine⟨[hd s],ih e4 fun b' hbb=>hb b' (Blk_sub e1 hbb),fun j hj => ?_⟩;have hj0:j=0:=by have hj:j<1:=hj;omega
   subst hj0;refine⟨hd s,rfl, ?_⟩;rw[g1.cell];show cur[0+(i*1+0)]? = _;rw[show 0+(i*1+0)=i by omega];exact e2
 |int k=>rintro ts l sk ⟨t,u,rfl,rfl,h⟩ hb;exact leaf h hb
 |str=>rintro ts l sk ⟨t,u,rfl,rfl,h⟩ hb;exact leaf h hb
 |bool=>rintro ts l sk ⟨t,u,rfl,rfl,h⟩ hb;exact leaf h hb
 |pair a b _ _=>rintro ts l sk ⟨t,u,rfl,rfl,h⟩ hb;exact leaf h hb
 |struct a _=>rintro ts l sk ⟨t,u,rfl,rfl,h⟩ hb;exact leaf h hb
 |unit=>rintro ts l sk h;exact h.elim
 |tree=>rintro ts l sk h;exact h.elim
 |map k e _ _=>rintro ts l sk h;exact h.elim
 |ref t _=>rintro ts l sk h;exact h.elim
theorem toR_sound (H:Inv w0 O0 F0 w F h β) {hh:Nat→Option Obj} (hhh:∀i ob,hh i=some ob→h i=some (some ob)) (hF:∀b,F b→F' b)
  {c:C} {r:R} {u:Value} (hc:RepC w F h β c u) (hr:toR hh c=some r) (hfr:∀i∈c.refs,∀o b,h i=some (some o)→Blk (β i) b→F' b):Ro w F' r u:=by
 unfold toR at hr
 split at hr
 ·cases hr;exact Ro.mono (fun _ _=>rfl) hF hc
 ·rename_i i
  split at hr
  ·rename_i t sz n get hi
   cases hr
   have hi':=hhh _ _ hi;rw[hc.2.2 _ hi'];exact ro_of_arr (H.obj _ _ hi') hF fun b hb=>hfr i (by simp[C.refs]) _ b hi' hb
  ·rename_i t e l hi
   cases hr
   have hi':=hhh _ _ hi;rw[hc.2.2 _ hi'];exact Ro_li.2 (ro_of_arr (RepO.lis.1 (H.obj _ _ hi')) hF fun b hb=>hfr i (by simp[C.refs]) _ b hi' hb)
  ·rename_i k e m hi
   cases hr
   have hi':=hhh _ _ hi;rw[hc.2.2 _ hi'];obtain⟨b,es,clock,h1,h2,h3⟩:=H.obj _ _ hi';exact⟨b,es,clock,by rw[h1],hfr i (by simp[C.refs]) _ b hi' (by rw[h1];exact Blk_map.2 rfl),h2,h3.mono fun p en h=>⟨⟨RoL.mono (fun _ _=>rfl) hF h.1.1,h.1.2⟩,RoL.mono (fun _ _=>rfl) hF h.2.1,h.2.2⟩⟩
  ·cases hr
 ·rename_i i
  split at hr
  ·rename_i ts e l hi
   cases hr
   have hi':=hhh _ _ hi;have hu:=hc.2.2 _ hi';simp only[skAt,Option.some.injEq]at hu;rw[← hu];exact(H.obj _ _ hi').2.1.ro hF fun b hb=>hfr i (by simp[C.refs]) _ b hi' hb
  ·cases hr
 ·cases hr
theorem allR_sound (H:Inv w0 O0 F0 w F h β) {hh:Nat→Option Obj} (hhh:∀i ob,hh i=some ob→h i=some (some ob)) (hF:∀b,F b→F' b) :
  ∀ {cs:List C} {rs:List R} {us:List Value},All2 (RepC w F h β) cs us→allR hh cs=some rs →
   (∀i∈cs.flatMap C.refs,∀o b,h i=some (some o)→Blk (β i) b→F' b)→All2 (Ro w F') rs us
 | [],rs,us,hc,hr,_=>by cases hc;simp[allR]at hr;subst hr;exact .nil
 |c::cs,rs,us,hc,hr,hfr=>by
  cases hc with
  |cons h1 h2 =>
   simp only[allR]at hr
   split at hr
   ·rename_i r rs' e1 e2
    cases hr
    exact .cons (toR_sound H hhh hF h1 e1 fun i hi=>hfr i (List.mem_flatMap.2 ⟨c,mem_cons_self ..,hi⟩))
     (allR_sound H hhh hF h2 e2 fun i hi=>hfr i (by simp only[List.flatMap_cons,mem_append];exact .inr hi))
   ·cases hr
theorem pres_of_refs {c:C} {u:Value} (hc:RepC w F h β c u):∀i∈c.refs,∃q,h i=some q:=by
 cases c with
 |r x=>intro i hi;simp[C.refs]at hi
 |own i=>intro j hj;simp[C.refs]at hj;subst hj;exact hc.2.1
 |ptr i off=>intro j hj;simp[C.refs]at hj;subst hj;exact hc.2.1
 |eptr i s k off=>intro j hj;simp[C.refs]at hj;subst hj;exact hc.2.1
 |win i s k=>intro j hj;simp[C.refs]at hj;subst hj;exact hc.2.1
 |slf i=>intro j hj;simp[C.refs]at hj;subst hj;exact hc.2.1
 |fn f l=>intro j hj;exact hc.2.1 j hj
 |dsl i p=>intro j hj;simp[C.refs]at hj;subst hj;exact hc.2.1
 |dptr i p s k off=>intro j hj;simp[C.refs]at hj;subst hj;exact hc.2.1
 |junk=>intro i hi;simp[C.refs]at hi
theorem All2.pres {cs:List C} {us:List Value} (hc:All2 (RepC w F h β) cs us):∀i∈cs.flatMap C.refs,∃q,h i=some q:=by
 induction hc with
 |nil=>intro i hi;simp at hi
 |cons h1 _ ih =>
  intro i hi;simp only[List.flatMap_cons,mem_append]at hi;rcases hi with hi | hi
  ·exact pres_of_refs h1 i hi
  ·exact ih i hi
theorem RepD.pres {d:D} {u:Value} (hd:RepD w F h β d u):∀i∈d.refs,∃q,h i=some q:=All2.pres hd.cells
def CellsAt (w:World) (b o:Nat) (us:List Value):Prop:=∀j u,us[j]? = some u→w.cell? ⟨b,o+j,none⟩=some u
theorem CellsAt.take {b o:Nat} {us:List Value} (hc:CellsAt w b o us) (n:Nat):CellsAt w b o (us.take n):=fun j u hu=>by
 rw[getElem?_take]at hu
 split at hu
 ·exact hc j u hu
 ·cases hu
theorem CellsAt.drop {b o:Nat} {us:List Value} (hc:CellsAt w b o us) (n:Nat):CellsAt w b (o+n) (us.drop n):=fun j u hu=>by
 rw[List.getElem?_drop]at hu;rw[Nat.add_assoc];exact hc _ u hu
theorem run_loadCells_at {P:Program} {b o:Nat} {us:List Value} (hc:CellsAt w b o us):(loadCells ⟨b,o,none⟩ us.length).run P w = .ok us.toArray w :=
 run_loadCells_list (P:=P) w ⟨b,o,none⟩ us fun j v hv=>by rw[Addr.add_lit];exact hc j v hv
theorem cellsAt_sound (H:Inv w0 O0 F0 w F h β) {hh:Nat→Option Obj} (hhh:∀i ob,hh i=some ob→h i=some (some ob)) {n:Nat} {c:C} {cs:List C} {u:Value}
  (hc:RepC w F h β c u) (hcs:cellsAt hh n c=some cs):∃b o us,u = .pointer (some ⟨b,o,none⟩)∧us.length=n∧CellsAt w b o us∧All2 (RepC w F h β) cs us:=by
 unfold cellsAt at hcs
 split at hcs
 ·rename_i i off
  split at hcs
  ·rename_i t xs hi
   split at hcs
   ·rename_i hle
    cases hcs
    have hi':=hhh _ _ hi;obtain⟨b,h1,h2⟩:=hc.2.2 _ hi';obtain⟨b',us,h3,h4,h5⟩:=H.obj _ _ hi';rw[h1]at h3
    cases h3
    have hlen:=h5.len;have hle':off+n≤xs.length:=by simpa using hle
    refine⟨b,off,(us.toList.drop off).take n,h2, ?_, ?_,(h5.drop off).take n⟩
    ·simp only[length_take,length_drop];omega
    ·refine CellsAt.take ?_ n;have:CellsAt w b 0 us.toList:=fun j v hv=>by
      rw[h4.cell];simpa using hv
     have:=this.drop off
     simpa using this
   ·cases hcs
  ·cases hcs
 ·rename_i i s k off
  split at hcs
  ·rename_i t sz m get hi
   split at hcs
   ·rename_i hle
    cases hcs
    have hi':=hhh _ _ hi;obtain⟨b,n',cap,h1,hkn,h2⟩:=hc.2.2 _ hi';rcases H.obj _ _ hi' with⟨x,h3,h4⟩ | ⟨b',cap',cur,h3,h4,h5,h6,h7,h8,h9⟩
    ·rw[h1]at h3;cases h3;omega
    ·rw[h1]at h3
     cases h3
     have hle':off+n≤sz∧s=sz:=by simpa [Nat.ble_eq]using hle
     obtain⟨hle1,rfl⟩:=hle';obtain⟨us,hl,hu⟩:=list_of (n:=n) (p:=fun j y=>cur[k*s+(off+j)]? = some y∧Ro w F (get k (off+j)) y) fun j hj=>h9 k hkn (off+j) (by omega);refine⟨b,k*s+off,us,h2,hl,fun j v hv => ?_, ?_⟩
     ·rw[h5.cell,Nat.add_assoc];exact (hu j v hv).1
     ·rw[All2.map_l];refine All2.of_get (by simp[hl]) fun j x hx => ?_;have hj:j<n:=by
       rcases Nat.lt_or_ge j n with hj | hj
       ·exact hj
       ·rw[getElem?_eq_none (by simpa using hj)]at hx;cases hx
      rw[List.getElem?_range hj]at hx
      cases hx
      exact⟨us[j]'(by omega),by simp[hl,hj],(hu j _ (by simp[hl,hj])).2⟩
   ·cases hcs
  ·cases hcs
 ·rename_i m get
  split at hcs
  ·rename_i hle
   cases hcs
   obtain⟨b,o,rfl,hf,hy⟩:=hc;have hle':n≤m:=by simpa using hle
   obtain⟨us,hl,hu⟩:=list_of fun j hj=>hy j (Nat.lt_of_lt_of_le hj hle');refine⟨b,o,us,rfl,hl,fun j v hv=>(hu j v hv).1, ?_⟩;rw[All2.map_l];refine All2.of_get (by simp[hl]) fun j x hx => ?_;have hj:j<n:=by
    rcases Nat.lt_or_ge j n with hj | hj
    ·exact hj
    ·rw[getElem?_eq_none (by simpa using hj)]at hx;cases hx
   rw[List.getElem?_range hj]at hx
   cases hx
   exact⟨us[j]'(by omega),by simp[hl,hj],(hu j _ (by simp[hl,hj])).2⟩
  ·cases hcs
 ·cases hcs
end
end
/-
 Operations that turn no memory,one by one.
-/
noncomputable section
open Go
def Out (w0:World) (O0 F0:Nat→Prop) (w:World) (F:Nat→Prop) (h:HF) (β:Nat→Value) (tm:Array Value) (ups:Ups) (x:T) (v:Value) (w':World):Prop :=
 ∃F' β',Inv w0 O0 F0 w' F' (upd ups h) β'∧Per w F h β w' F' (upd ups h) β'∧RepX tm w' F' (upd ups h) β' x v
section
variable {P:Program} {TT:Types} {w0 w:World} {O0 F0 F:Nat→Prop} {h:HF} {β:Nat→Value} {a:Act} {o:Oper} {K:Act→World→Prop} {Q:Exit→Act→World→Prop} {x:T} {v:Value}
theorem op_quiet (H:Inv w0 O0 F0 w F h β) (hr:(execOp a.eval o).run P w = .ok (.value v) w) (hx:RepX a.tmps w F h β x v)
  (hK:∀v w',Out w0 O0 F0 w F h β a.tmps [] x v w'→K (a.put o.dst v) w'):o.wp P a w K Q :=
 wp_val hr (hK v w ⟨F,β,H,Per.refl w F h β,hx⟩)
theorem rep_v {tm:Array Value} {u:Value} (hu:plain u=true):RepX tm w F h β (.d (.one (.r (.v u)))) u:=⟨rfl,hu⟩
theorem intD_sound {tm:Array Value} {y:T} {n:Int} {u:Value} (hn:intD y=some n) (hy:RepX tm w F h β y u):∃k,u = .int k n:=by
 unfold intD at hn
 split at hn
 ·cases hn;exact ⟨_,hy.1⟩
 ·cases hn
theorem rep_mk {ti:TI} {cs:List C} {d:D} {us:List Value} (hd:D.mkOf ti cs=some d) (hc:All2 (RepC w F h β) cs us) :
  (aggDesc ti.desc=true∧RepD w F h β d (.agg us.toArray))∨(aggDesc ti.desc=false∧∃y,us=[y]∧RepD w F h β d y):=by
 cases ha:aggDesc ti.desc
 ·obtain ⟨c,rfl,rfl⟩:=mkOf_one ha hd
  cases hc with | cons h1 h2=>cases h2;exact .inr ⟨rfl,_,rfl,h1⟩
 ·rw[mkOf_agg ha]at hd
  cases hd
  exact .inl ⟨rfl,us.toArray,rfl,by simpa using hc⟩
theorem part_sound (ht:TTok P TT) {t:TypeId} {ti:TI} (hti:TT t=some ti) {cs:List C} {us:Array Value} {off:Nat} {d:D} (hc:All2 (RepC w F h β) cs us.toList)
  (hd:D.mkOf ti ((cs.drop off).take ti.info.size)=some d) :
  ∃v,(part t us off).run P w = .ok v w∧RepD w F h β d v:=by
 have hlen:=hc.len;have e:(us.extract off (off+ti.info.size)).toList=(us.toList.drop off).take ti.info.size:=by
  simp[Array.toList_extract,List.extract_eq_take_drop]
 rcases rep_mk hd ((hc.drop off).take ti.info.size)with⟨ha,hr⟩ | ⟨ha,y,hy,hr⟩
 ·refine ⟨_, ?_,hr⟩;simp only[part,Sem.run_bind,ht.run_agg hti,ha,Result.andThen_ok,if_true,ht.run_size hti,Sem.run_pure];rw[← e,Array.toArray_toList]
 ·refine ⟨y, ?_,hr⟩;have hs:us[off]? = some y:=by
   have h0:((us.toList.drop off).take ti.info.size)[0]? = some y:=by rw[hy];rfl
   rw[getElem?_take]at h0
   split at h0
   ·rw[List.getElem?_drop]at h0;simpa using h0
   ·cases h0
  simp only[part,Sem.run_bind,ht.run_agg hti,ha,Result.andThen_ok,Bool.false_eq_true,if_false,hs,Sem.run_pure]
theorem load_sound (ht:TTok P TT) {t:TypeId} {ti:TI} (hti:TT t=some ti) {cs:List C} {us:List Value} {b off:Nat} {d:D} (hc:All2 (RepC w F h β) cs us)
  (hl:us.length=ti.info.size) (hat:CellsAt w b off us) (hd:D.mkOf ti cs=some d) :
  ∃v,(loadVar t ⟨b,off,none⟩).run P w = .ok v w∧RepD w F h β d v:=by
 rcases rep_mk hd hc with⟨ha,hr⟩ | ⟨ha,y,hy,hr⟩
 ·refine ⟨_, ?_,hr⟩;have:=run_loadCells_at (P:=P) hat;rw[hl]at this;simp only[loadVar,Sem.run_bind,ht.run_agg hti,ha,Result.andThen_ok,if_true,ht.run_size hti,Sem.run_pure,this]
 ·refine ⟨y, ?_,hr⟩;have h0:=hat 0 y (by rw[hy];rfl);simp only[Nat.add_zero]at h0;simp only[loadVar,Sem.run_bind,ht.run_agg hti,ha,Result.andThen_ok,Bool.false_eq_true,if_false,run_load,h0]
theorem plain_rep {u:Value} (hu:plain u=true):RepC w F h β (.r (.v u)) u:=⟨rfl,hu⟩
theorem cellOf_sound {u:Value} {c:C} (hc:cellOf u=some c):RepC w F h β c u:=by
 unfold cellOf at hc
 cases hp:plain u<;>simp[hp]at hc
 subst hc;exact plain_rep hp
theorem mapM_cells {us:List Value}:∀ {cs:List C},us.mapM cellOf=some cs→All2 (RepC w F h β) cs us:=by
 induction us with
 |nil=>intro cs hc;simp at hc;subst hc;exact .nil
 |cons u us ih =>
  intro cs hc;simp only[List.mapM_cons,Option.bind_eq_bind,Option.bind_eq_some_iff,Option.pure_def,Option.some.injEq]at hc;obtain⟨c,h1,cs',h2,rfl⟩:=hc;exact .cons (cellOf_sound h1) (ih h2)
theorem allSome_map {α γ:Type} {f:α→Option γ}:∀ {l:List α} {m:List γ},allSome (l.map f)=some m→All2 (fun y x=>f x=some y) m l
 | [],m,hm=>by simp[allSome]at hm;subst hm;exact .nil
 |a::l,m,hm=>by
  simp only[List.map_cons]at hm
  cases ha:f a with
  |none=>simp[ha,allSome]at hm
  |some y =>
   simp only[ha,allSome,Option.map_eq_some_iff]at hm;obtain⟨m',h1,rfl⟩:=hm;exact .cons ha (allSome_map h1)
theorem evConst_sound {tm:Array Value} {u:Value} {t:T} (hc:evConst u=some t):RepX tm w F h β t u:=by
 unfold evConst at hc
 split at hc
 ·simp only[Option.map_eq_some_iff]at hc;obtain⟨l,h1,rfl⟩:=hc;exact⟨_,rfl,mapM_cells h1⟩
 ·simp only[Option.map_eq_some_iff]at hc;obtain⟨c,h1,rfl⟩:=hc;exact cellOf_sound h1
/-! ### the operations -/
theorem op_move (H:Inv w0 O0 F0 w F h β) {X:Operand} (ho:o.op = .move X∨o.op = .assign X) (hx:RepX a.tmps w F h β x (a.eval X))
  (hK:∀v w',Out w0 O0 F0 w F h β a.tmps [] x v w'→K (a.put o.dst v) w'):o.wp P a w K Q :=
 op_quiet H (by rcases ho with ho | ho<;>simp[execOp,ho]) hx hK
theorem pickBool_sound {c Y:Operand} {want b t:Bool} {y:T} (hb:pickBool c want Y y=some b) (hc:a.eval c = .bool t) (ht:t=want) {u:Value} (hy:RepX a.tmps w F h β y u):u = .bool b:=by
 unfold pickBool at hb
 split at hb
 ·cases hb;exact hy.1
 ·split at hb
  ·split at hb
   ·rename_i hst
    cases hb
    simp only[Bool.and_eq_true,beq_iff_eq,Nat.beq_eq]at hst;obtain⟨rfl,rfl⟩:=hst;refine(hy.1 ?_).1;rename_i s w' b' t';simp only[Act.eval,Array.getD_eq_getD_getElem?]at hc
    revert hc
    generalize (a.tmps:Array Value)[(_:Nat)]? = q
    cases q with
    |none=>intro hc;simp[undef]at hc
    |some q=>intro hc;simp at hc;rw[hc,ht]
   ·cases hb
  ·cases hb
 ·cases hb
theorem op_pick (H:Inv w0 O0 F0 w F h β) {c X Y:Operand} (ho:o.op = .pick c X Y) {t p q:Bool} (hc:a.eval c = .bool t) {x y:T}
  (hx:RepX a.tmps w F h β x (a.eval X)) (hy:RepX a.tmps w F h β y (a.eval Y)) (h1:pickBool c true X x=some p) (h2:pickBool c false Y y=some q)
  (hK:∀v w',Out w0 O0 F0 w F h β a.tmps [] (.d (.one (.r (.v (.bool (bif t then p else q)))))) v w'→K (a.put o.dst v) w'):o.wp P a w K Q:=by
 refine op_quiet H (v := .bool (bif t then p else q)) ?_ (rep_v rfl) hK
 cases t
 ·have:=pickBool_sound h2 hc rfl hy;simp[execOp,ho,hc,asBool,this]
 ·have:=pickBool_sound h1 hc rfl hx;simp[execOp,ho,hc,asBool,this]
theorem op_pickF (H:Inv w0 O0 F0 w F h β) {c X Y:Operand} (ho:o.op = .pick c X Y) {t q:Bool} (hc:a.eval c = .bool t) (ht:(!t)=true) {y:T} (hy:RepX a.tmps w F h β y (a.eval Y)) (h2:pickBool c false Y y=some q)
  (hK:∀v w',Out w0 O0 F0 w F h β a.tmps [] (.d (.one (.r (.v (.bool q))))) v w'→K (a.put o.dst v) w'):o.wp P a w K Q:=by
 refine op_quiet H (v := .bool q) ?_ (rep_v rfl) hK
 cases t
 ·have:=pickBool_sound h2 hc rfl hy;simp[execOp,ho,hc,asBool,this]
 ·cases ht
theorem op_pickT (H:Inv w0 O0 F0 w F h β) {c X Y:Operand} (ho:o.op = .pick c X Y) {t p:Bool} (hc:a.eval c = .bool t) (ht:t=true) {x:T} (hx:RepX a.tmps w F h β x (a.eval X)) (h1:pickBool c true X x=some p)
  (hK:∀v w',Out w0 O0 F0 w F h β a.tmps [] (.d (.one (.r (.v (.bool p))))) v w'→K (a.put o.dst v) w'):o.wp P a w K Q:=by
 refine op_quiet H (v := .bool p) ?_ (rep_v rfl) hK;subst ht;have:=pickBool_sound h1 hc rfl hx;simp[execOp,ho,hc,asBool,this]
theorem op_nilCheck (H:Inv w0 O0 F0 w F h β) {X:Operand} (ho:o.op = .nilCheck X) (hp:(∃ad,a.eval X = .pointer (some ad))∨∃f c,a.eval X = .func (.func f) #[] c) (hx:RepX a.tmps w F h β x (a.eval X))
  (hK:∀v w',Out w0 O0 F0 w F h β a.tmps [] x v w'→K (a.put o.dst v) w'):o.wp P a w K Q:=by
 refine op_quiet H (v:=a.eval X) ?_ hx hK;rcases hp with⟨ad,hp⟩ | ⟨f,c,hp⟩<;>simp[execOp,ho,hp]
theorem op_binOp (H:Inv w0 O0 F0 w F h β) {op:BinOp} {ty ty2:TypeId} {X Y:Operand} (ho:o.op = .binOp op ty X Y ty2) {u1 u2 r:Value} {c:Option Bool} (he:evBin op u1 u2=some (c,r)) (hc:c=none∨c=some true)
  (hpx:plain u1=true) (hX:a.eval X=u1) (hY:a.eval Y=u2) (hK:∀v w',Out w0 O0 F0 w F h β a.tmps [] (.d (.one (.r (.v r)))) v w'→K (a.put o.dst v) w'):o.wp P a w K Q:=by
 obtain⟨h1,h2⟩:=evBin_sound (P:=P) (w:=w) he hc hpx ty X Y;refine op_quiet H (v:=r) ?_ (rep_v h2) hK;simp only[execOp,ho,hX,hY];rw[Sem.run_bind,h1];rfl
theorem op_boolEq (H:Inv w0 O0 F0 w F h β) (ht:TTok P TT) {op:BinOp} {ty ty2:TypeId} {ti:TI} {X Y:Operand} (ho:o.op = .binOp op ty X Y ty2) (hti:TT ty=some ti) (hb:isBool ti.desc=true) {p q r:Bool}
  (hX:a.eval X = .bool p) (hY:a.eval Y = .bool q) (hr:(op = .eql∧r=(p==q))∨(op = .neq∧r = !(p==q)))
  (hK:∀v w',Out w0 O0 F0 w F h β a.tmps [] (.d (.one (.r (.v (.bool r))))) v w'→K (a.put o.dst v) w'):o.wp P a w K Q:=by
 have hd:ti.desc = .bool:=by unfold isBool at hb;split at hb<;>first | assumption | cases hb
 have hu:P.underlying ty=some .bool:=hd ▸ ht.under ty ti hti;refine op_quiet H (v := .bool r) ?_ (rep_v rfl) hK;rcases hr with⟨rfl,rfl⟩ | ⟨rfl,rfl⟩
 ·simp only[execOp,ho,hX,hY,eqGuard_at_bool,binOp,Op.equal,Op.maxDepth];simp[run_equalIn_bool' w 9999 ty p q hu]
 ·simp only[execOp,ho,hX,hY,eqGuard_at_bool,binOp,Op.equal,Op.maxDepth];simp[run_equalIn_bool' w 9999 ty p q hu]
theorem run_nilEq {P:Program} (w:World) (d:Nat) (t e:TypeId) (a:Option Addr) (n c:Nat) (h:P.underlying t=some (.slice e)):(Op.equalIn (d+1) t (.slice a n c) (.slice none 0 0)).run P w = .ok a.isNone w:=by
 simp only[Op.equalIn,Sem.run_bind,run_underlying h,Result.andThen_ok]
 cases a<;>rfl
theorem op_nilEq (H:Inv w0 O0 F0 w F h β) (ht:TTok P TT) {ty ty2:TypeId} {X Y:Operand} (ho:o.op = .binOp .eql ty X Y ty2) (hs:isSlc TT ty=true) {ad:Option Addr} {n cap:Nat}
  (hX:a.eval X = .slice ad n cap) (hY:a.eval Y = .slice none 0 0) (hr:RepX a.tmps w F h β x (.bool ad.isNone))
  (hK:∀v w',Out w0 O0 F0 w F h β a.tmps [] x v w'→K (a.put o.dst v) w'):o.wp P a w K Q:=by
 obtain⟨e,hu⟩:∃e,P.underlying ty=some (.slice e):=by
  unfold isSlc at hs
  split at hs
  ·rename_i ti hti
   split at hs
   ·rename_i e hd;exact ⟨e,hd ▸ ht.under ty ti hti⟩
   ·cases hs
  ·cases hs
 refine op_quiet H (v := .bool ad.isNone) ?_ hr hK;simp only[execOp,ho,hX,hY,eqGuard_at_slice,binOp,Op.equal,Op.maxDepth];simp[run_nilEq w 9999 ty e ad n cap hu]
theorem op_unOp (H:Inv w0 O0 F0 w F h β) {op:UnOp} {ty:TypeId} {X:Operand} (ho:o.op = .unOp op ty X) {u r:Value} (he:evUn op u=some r) (hX:a.eval X=u)
  (hK:∀v w',Out w0 O0 F0 w F h β a.tmps [] (.d (.one (.r (.v r)))) v w'→K (a.put o.dst v) w'):o.wp P a w K Q:=by
 have hp:plain r=true:=by
  unfold evUn at he;split at he<;>first | (cases he;exact plain_wrap _ _) | (cases he;rfl) | cases he
 refine op_quiet H (v:=r) ?_ (rep_v hp) hK;unfold evUn at he
 split at he
 ·cases he;simp[execOp,ho,hX,Op.unary,Op.intArith]
 ·cases he;simp[execOp,ho,hX,Op.unary]
 ·cases he
theorem op_extract (H:Inv w0 O0 F0 w F h β) {X:Operand} {k:Nat} (ho:o.op = .extract X k) {xs:List D} {d:D} (hd:xs[k]? = some d) (hx:RepX a.tmps w F h β (.tup xs) (a.eval X))
  (hK:∀v w',Out w0 O0 F0 w F h β a.tmps [] (.d d) v w'→K (a.put o.dst v) w'):o.wp P a w K Q:=by
 obtain⟨us,hu,hh⟩:=hx;obtain⟨y,hy,hr⟩:=hh.get hd;refine op_quiet H (x := .d d) (v:=y) ?_ hr hK;have hy':us[k]? = some y:=by simpa using hy
 simp[execOp,ho,hu,Instr.extract,hy']
theorem fieldsOf_some {ti:TI} {fs:Array Field} (hf:fieldsOf ti=some fs):ti.desc = .struct fs:=by
 unfold fieldsOf at hf;split at hf
 ·rename_i e;cases hf;exact e
 ·cases hf
theorem op_field (H:Inv w0 O0 F0 w F h β) (ht:TTok P TT) {s:TypeId} {X:Operand} {k:Nat} (ho:o.op = .field s X k) {ti fi:TI} {fs:Array Field} {f:Field} (hti:TT s=some ti) (hfs:fieldsOf ti=some fs) (hf:fs[k]? = some f)
  (hfi:TT f.type=some fi) {cs:List C} {d:D} (hd:D.mkOf fi ((cs.drop f.offset).take fi.info.size)=some d) (hx:RepX a.tmps w F h β (.d (.agg cs)) (a.eval X))
  (hK:∀v w',Out w0 O0 F0 w F h β a.tmps [] (.d d) v w'→K (a.put o.dst v) w'):o.wp P a w K Q:=by
 obtain⟨us,hu,hh⟩:=hx;obtain⟨v,hv,hr⟩:=part_sound ht hfi hh hd;refine op_quiet H (x := .d d) (v:=v) ?_ hr hK;have e:=fieldsOf_some hfs;simp only[execOp,ho,Instr.field,Sem.run_bind,ht.run_under hti,e,Result.andThen_ok,hf,hu,asAgg,Sem.run_pure,hv]
theorem op_fieldAddr (H:Inv w0 O0 F0 w F h β) (ht:TTok P TT) {s:TypeId} {X:Operand} {k:Nat} (ho:o.op = .fieldAddr s X k) {ti fi:TI} {fs:Array Field} {f:Field} (hti:TT s=some ti) (hfs:fieldsOf ti=some fs) (hf:fs[k]? = some f)
  (hfi:TT f.type=some fi) (hpos:0<fi.info.size) {b off:Nat} (hu:a.eval X = .pointer (some ⟨b,off,none⟩)) {c:C} (hx:RepC w F h β c (.pointer (some ⟨b,off+f.offset,none⟩)))
  (hK:∀v w',Out w0 O0 F0 w F h β a.tmps [] (.d (.one c)) v w'→K (a.put o.dst v) w'):o.wp P a w K Q:=by
 refine op_quiet H (x := .d (.one c)) (v := .pointer (some ⟨b,off+f.offset,none⟩)) ?_ hx hK;have e:=fieldsOf_some hfs;have hz:¬fi.info.size=0:=by omega
 simp only[execOp,ho,Instr.fieldAt,Sem.run_bind,ht.run_under hti,e,Result.andThen_ok,hf,hu,Instr.sureAddr,Sem.run_pure,fieldPlace,ht.run_size hfi,hz,if_false,Addr.add_lit]
theorem op_index (H:Inv w0 O0 F0 w F h β) (ht:TTok P TT) {ty:TypeId} {ti:TI} {X Y:Operand} (ho:o.op = .index ty X Y) (hti:TT ty=some ti) (hs:isStr ti.desc=true) {s:ByteArray} {k:IntKind} {i:Int}
  (hX:a.eval X = .string s) (hY:a.eval Y = .int k i) (hb:inb i s.data.toList.length=true)
  (hK:∀v w',Out w0 O0 F0 w F h β a.tmps [] (.d (.one (.r (.v (.int .u8 (byteAt s.data.toList i)))))) v w'→K (a.put o.dst v) w'):o.wp P a w K Q:=by
 have hd:ti.desc = .string:=by unfold isStr at hs;split at hs<;>first | assumption | cases hs
 obtain⟨h0,h1⟩:=inb_iff.1 hb;have hlt:i.toNat<s.data.toList.length:=by omega
 refine op_quiet H (v := .int .u8 (byteAt s.data.toList i)) ?_ (rep_v (plain_u8 _)) hK;have hget:s[i.toNat]? = some (s.data.toList[i.toNat]):=by
  obtain⟨⟨l⟩⟩:=s;rw[getElem?_pos (⟨⟨l⟩⟩:ByteArray) i.toNat (show i.toNat<(⟨⟨l⟩⟩:ByteArray).size from hlt)];rfl
 have e:byteAt s.data.toList i=((s.data.toList[i.toNat]).toNat:Int):=by
  simp only[byteAt,getD,zE hlt,Option.getD_some]
 rw[e];simp only[execOp,ho,hX,hY,Instr.index,Sem.run_bind,asIntOf,Sem.run_pure,Result.andThen_ok,ht.run_under hti,hd,h0,if_true,hget]
end
end
/-
 More operations that turn no memory.
-/
noncomputable section
open Go
section
variable {P:Program} {TT:Types} {w0 w:World} {O0 F0 F:Nat→Prop} {h:HF} {β:Nat→Value} {a:Act} {o:Oper} {K:Act→World→Prop} {Q:Exit→Act→World→Prop} {x:T} {v:Value}
theorem run_indexAt_in (ht:TTok P TT) {ty e:TypeId} {ti ei:TI} (hti:TT ty=some ti) (hd:ti.desc = .slice e) (hei:TT e=some ei) {b off n cap:Nat} {k:IntKind} {i:Int} (h0:0≤i) (h1:i<(n:Int)) (w:World) :
  (Instr.indexAt ty (.slice (some ⟨b,off,none⟩) n cap) (.int k i)).run P w = .ok (.pointer (some ⟨b,off+i.toNat*ei.info.size,none⟩)) w:=by
 simp only[Instr.indexAt,Sem.run_bind,asIntOf,Sem.run_pure,Result.andThen_ok,ht.run_under hti,hd,h0,h1,and_self,if_true,ht.run_size hei,Addr.add_lit]
theorem op_indexAddr_ro (H:Inv w0 O0 F0 w F h β) (ht:TTok P TT) {ty e:TypeId} {ti ei:TI} {X Y:Operand} (ho:o.op = .indexAddr ty X Y) (hti:TT ty=some ti) (hd:ti.desc = .slice e) (hei:TT e=some ei)
  {sz n:Nat} {get:Nat→Nat→R} (hsz:ei.info.size=sz) (hx:RepX a.tmps w F h β (.d (.one (.r (.sl sz n get)))) (a.eval X)) {k:IntKind} {i:Int} (hY:a.eval Y = .int k i) (hb:inb i n=true)
  (hK:∀v w',Out w0 O0 F0 w F h β a.tmps [] (.d (.one (.r (.rop sz (get i.toNat))))) v w'→K (a.put o.dst v) w'):o.wp P a w K Q:=by
 obtain⟨h0,h1⟩:=inb_iff.1 hb;obtain⟨ad,cap,hu,hnc,hcm,hh⟩:=hx;rcases hh with hh | ⟨b,off,rfl,hf,hh⟩
 ·omega
 ·refine op_quiet H (x := .d (.one (.r (.rop sz (get i.toNat))))) (v := .pointer (some ⟨b,off+i.toNat*ei.info.size,none⟩)) ?_ ⟨b,_,rfl,hf,fun j hj => ?_⟩ hK
  ·simp only[execOp,ho,hu,hY,Sem.run_bind,run_indexAt_in ht hti hd hei h0 h1 w,Result.andThen_ok,Sem.run_pure]
  ·rw[hsz,Nat.add_assoc];exact hh i.toNat (by omega) j hj
theorem op_indexAddr_own (H:Inv w0 O0 F0 w F h β) (ht:TTok P TT) {ty e:TypeId} {ti ei:TI} {X Y:Operand} (ho:o.op = .indexAddr ty X Y) (hti:TT ty=some ti) (hd:ti.desc = .slice e) (hei:TT e=some ei)
  {id sz n:Nat} {t:TypeId} {get:Nat→Nat→R} (hsz:ei.info.size=sz) (hid:h id=some (some (.arr t sz n get))) (hx:RepX a.tmps w F h β (.d (.one (.own id))) (a.eval X)) {k:IntKind} {i:Int} (hY:a.eval Y = .int k i) (hb:inb i n=true)
  (hK:∀v w',Out w0 O0 F0 w F h β a.tmps [] (.d (.one (.eptr id sz i.toNat 0))) v w'→K (a.put o.dst v) w'):o.wp P a w K Q:=by
 obtain⟨h0,h1⟩:=inb_iff.1 hb;have hu:=hx.2.2 _ hid;rcases H.obj _ _ hid with⟨ad,h2,h3⟩ | ⟨b,cap,cur,h2,h3,h4,h5,h6,h7,h8⟩
 ·omega
 ·refine op_quiet H (x := .d (.one (.eptr id sz i.toNat 0))) (v := .pointer (some ⟨b,0+i.toNat*ei.info.size,none⟩)) ?_ ⟨rfl,⟨_,hid⟩,fun ob _=>⟨b,n,cap,h2,by omega, ?_⟩⟩ hK
  ·simp only[execOp,ho,hu,h2,hY,Sem.run_bind,run_indexAt_in ht hti hd hei h0 h1 w,Result.andThen_ok,Sem.run_pure]
  ·rw[hsz];simp
theorem run_indexAt_arr (ht:TTok P TT) {ty e:TypeId} {ti ei:TI} {n:Nat} (hti:TT ty=some ti) (hd:ti.desc = .array n e) (hei:TT e=some ei) {b off:Nat} {k:IntKind} {i:Int} (h0:0≤i) (h1:i<(n:Int)) (w:World) :
  (Instr.indexAt ty (.pointer (some ⟨b,off,none⟩)) (.int k i)).run P w = .ok (.pointer (some ⟨b,off+i.toNat*ei.info.size,none⟩)) w:=by
 simp only[Instr.indexAt,Sem.run_bind,asIntOf,Sem.run_pure,Result.andThen_ok,ht.run_under hti,hd,Instr.sureAddr,h0,h1,and_self,if_true,ht.run_size hei,Addr.add_lit]
theorem op_arr (H:Inv w0 O0 F0 w F h β) (ht:TTok P TT) {hh:Nat→Option Obj} (hhh:∀i ob,hh i=some ob→h i=some (some ob)) {ty:TypeId} {X Y:Operand} (ho:o.op = .indexAddr ty X Y)
  {cc:C} {k:IntKind} {i:Int} {c:Option Bool} {ups:Ups} (he:evArr TT ty cc i hh=some (c,x,ups)) (hc:c=none∨c=some true) (hx:RepC w F h β cc (a.eval X)) (hY:a.eval Y = .int k i)
  (hK:∀v w',Out w0 O0 F0 w F h β a.tmps ups x v w'→K (a.put o.dst v) w'):o.wp P a w K Q:=by
 unfold evArr at he
 split at he
 ·rename_i n es hty;simp only[Option.bind_eq_some_iff]at hty;obtain⟨ti,hti,hty⟩:=hty
  split at hty
  ·rename_i n' e hd;simp only[Option.map_eq_some_iff,Prod.mk.injEq]at hty;obtain⟨ei,hei,rfl,rfl⟩:=hty
   split at he
   ·rename_i m get
    split at he
    ·rename_i hle
     cases he
     simp only[reduceCtorEq,Option.some.injEq,false_or]at hc;obtain⟨h0,h1⟩:=inb_iff.1 hc;have hle:n'*ei.info.size≤m:=Nat.le_of_ble_eq_true hle;obtain⟨b,off,hu,hf,hcell⟩:=hx;have hi2:i.toNat*ei.info.size+ei.info.size≤n'*ei.info.size:=by
      have:i.toNat+1≤n':=by omega
      calc i.toNat*ei.info.size+ei.info.size=(i.toNat+1)*ei.info.size:=by rw[Nat.add_mul,Nat.one_mul]
       _≤n'*ei.info.size:=Nat.mul_le_mul_right _ this
     refine op_quiet H (x := .d (.one (.r (.rop ei.info.size fun j=>get (i.toNat*ei.info.size+j))))) (v := .pointer (some ⟨b,off+i.toNat*ei.info.size,none⟩)) ?_ ⟨b,_,rfl,hf,fun j hj => ?_⟩ hK
     ·simp only[execOp,ho,hu,hY,Sem.run_bind,run_indexAt_arr ht hti hd hei h0 h1 w,Result.andThen_ok,Sem.run_pure]
     ·rw[Nat.add_assoc];exact hcell _ (by omega)
    ·cases he
   ·rename_i id off
    split at he
    ·rename_i cs hid
     split at he
     ·cases he
      simp only[reduceCtorEq,Option.some.injEq,false_or]at hc;obtain⟨h0,h1⟩:=inb_iff.1 hc;have hid':=hhh _ _ hid;obtain⟨b,e1,e2⟩:=hx.2.2 _ hid';refine op_quiet H (x := .d (.one (.ptr id (off+i.toNat*ei.info.size)))) (v := .pointer (some ⟨b,off+i.toNat*ei.info.size,none⟩)) ?_ ⟨rfl,⟨_,hid'⟩,fun ob _=>⟨b,e1,rfl⟩⟩ hK;simp only[execOp,ho,e2,hY,Sem.run_bind,run_indexAt_arr ht hti hd hei h0 h1 w,Result.andThen_ok,Sem.run_pure]
     ·cases he
    ·cases he
   ·cases he
  ·cases hty
 ·cases he
theorem op_load (H:Inv w0 O0 F0 w F h β) (ht:TTok P TT) {hh:Nat→Option Obj} (hhh:∀i ob,hh i=some ob→h i=some (some ob)) {ty:TypeId} {ti:TI} {X:Operand} (ho:o.op = .load ty X) (hti:TT ty=some ti)
  {c:C} {cs:List C} {d:D} (hcs:cellsAt hh ti.info.size c=some cs) (hd:D.mkOf ti cs=some d) (hx:RepC w F h β c (a.eval X))
  (hK:∀v w',Out w0 O0 F0 w F h β a.tmps [] (.d d) v w'→K (a.put o.dst v) w'):o.wp P a w K Q:=by
 obtain⟨b,off,us,hu,hl,hat,hc⟩:=cellsAt_sound H hhh hx hcs;obtain⟨v,hv,hr⟩:=load_sound ht hti hc hl hat hd;refine op_quiet H (x := .d d) (v:=v) ?_ hr hK;simp only[execOp,ho,hu,Instr.loadAt,Instr.sureAddr,Sem.run_bind,Sem.run_pure,Result.andThen_ok,hv]
/-! ### equality of structs -/
theorem eqCell_sound (d:Nat) {t:TypeId} {ti:TI} (hu:P.underlying t=some ti.desc) {x y:C} {u1 u2:Value} {b:Bool} (he:eqCell ti.desc x y=some b) (hx:RepC w F h β x u1) (hy:RepC w F h β y u2) :
  (Op.equalIn (d+1) t u1 u2).run P w = .ok b w:=by
 unfold eqCell at he
 split at he
 ·rename_i hd;obtain⟨rfl,_⟩:=hx;obtain⟨rfl,_⟩:=hy
  split at he
  ·rename_i hk
   cases he
   have hk:_=_:=of_decide_eq_true hk;subst hk;rw[hd]at hu;rw[run_equalIn_int w d t _ _ _ _ hu];rfl
  ·cases he
 ·rename_i hd;obtain⟨rfl,_⟩:=hx;obtain⟨rfl,_⟩:=hy
  cases he
  rw[hd]at hu;rw[run_equalIn_string w d t _ _ hu,run_seq_eq]
 ·rename_i hd;obtain⟨rfl,_⟩:=hx;obtain⟨rfl,_⟩:=hy
  cases he
  rw[hd]at hu;rw[run_equalIn_bool' w d t _ _ hu]
 ·cases he
theorem eqCell_plain {ds:TypeDesc} {x y:C} {b:Bool} (he:eqCell ds x y=some b):aggDesc ds=false:=by
 unfold eqCell at he
 split at he<;>first | rfl | cases he
theorem eqFields_sound (ht:TTok P TT) (d:Nat) {us1 us2:Array Value} {xs ys:List C} (hx:All2 (RepC w F h β) xs us1.toList) (hy:All2 (RepC w F h β) ys us2.toList) :
  ∀ (fs : List Field) (k : Nat) {ts : List TypeDesc} {b : Bool}, (∀ f ∈ fs, f.name ≠ "_") → descs TT fs k = some ts → eqCells ts (xs.drop k) (ys.drop k) = some b →
   (Op.eqFields (d+1) us1 us2 fs).run P w = .ok b w
 | [],k,ts,b,_,hd,he=>by
  simp[descs]at hd;subst hd;have:b=true:=by
   unfold eqCells at he
   split at he<;>first | (cases he;rfl) | cases he | skip
   all_goals simp_all
  subst this;rfl
 |f::fs,k,ts,b,hn,hd,he=>by
  simp only[descs]at hd
  split at hd
  ·rename_i ti r e1 e2 e3
   split at hd
   ·rename_i e4
    cases hd
    have e3:=zB e3;have e4:=zB e4
    cases hxk:xs.drop k with
    |nil=>rw[hxk]at he;simp[eqCells]at he
    |cons x xr =>
     cases hyk:ys.drop k with
     |nil=>rw[hxk,hyk]at he;simp[eqCells]at he
     |cons y yr =>
      rw[hxk,hyk]at he;simp only[eqCells]at he
      split at he
      ·rename_i b1 b2 e5 e6
       cases he
       have hxd:xs.drop (k+1)=xr:=by rw[← List.drop_drop,hxk];rfl
       have hyd:ys.drop (k+1)=yr:=by rw[← List.drop_drop,hyk];rfl
       have ih:=eqFields_sound ht d hx hy fs (k+1) (b:=b2) (fun f hf=>hn f (mem_cons_of_mem _ hf)) e2 (by rw[hxd,hyd];exact e6);have hag:aggDesc ti.desc=false:=eqCell_plain e5;have gx:xs[k]? = some x:=by have:=congrArg (·[0]?) hxk;simpa [List.getElem?_drop]using this
       have gy:ys[k]? = some y:=by have:=congrArg (·[0]?) hyk;simpa [List.getElem?_drop]using this
       obtain⟨u1,hu1,r1⟩:=hx.get gx;obtain⟨u2,hu2,r2⟩:=hy.get gy;have hu1':us1[k]? = some u1:=by simpa using hu1
       have hu2':us2[k]? = some u2:=by simpa using hu2
       have hp1:(part f.type us1 f.offset).run P w = .ok u1 w:=by
        simp only[part,Sem.run_bind,ht.run_agg e1,hag,Result.andThen_ok,Bool.false_eq_true,if_false,e3,hu1',Sem.run_pure]
       have hp2:(part f.type us2 f.offset).run P w = .ok u2 w:=by
        simp only[part,Sem.run_bind,ht.run_agg e1,hag,Result.andThen_ok,Bool.false_eq_true,if_false,e3,hu2',Sem.run_pure]
       have heq:=eqCell_sound (P:=P) d (ht.under f.type ti e1) e5 r1 r2;simp only[Op.eqFields,ne_eq,hn f (mem_cons_self ..),not_false_eq_true,if_true,Sem.run_bind,hp1,hp2,heq,Result.andThen_ok]
       cases b1
       ·simp
       ·simp[ih]
      ·cases he
   ·cases hd
  ·cases hd
theorem op_structEq (H:Inv w0 O0 F0 w F h β) (ht:TTok P TT) {op:BinOp} {ty ty2:TypeId} {ti:TI} {X Y:Operand} (ho:o.op = .binOp op ty X Y ty2) (hti:TT ty=some ti) {fs:Array Field} (hfs:fieldsOf ti=some fs)
  (hn : fs.toList.all (fun f => f.name != "_") = true) {ts : List TypeDesc} (hds : descs TT fs.toList 0 = some ts) {xs ys : List C} {b r : Bool} (he : eqCells ts xs ys = some b) (hx : RepX a.tmps w F h β (.d (.agg xs)) (a.eval X)) (hy : RepX a.tmps w F h β (.d (.agg ys)) (a.eval Y))
  (hr:(op = .eql∧r=b)∨(op = .neq∧r = !b))
  (hK:∀v w',Out w0 O0 F0 w F h β a.tmps [] (.d (.one (.r (.v (.bool r))))) v w'→K (a.put o.dst v) w'):o.wp P a w K Q:=by
 obtain⟨us1,hu1,h1⟩:=hx;obtain⟨us2,hu2,h2⟩:=hy;have hd:=fieldsOf_some hfs;obtain⟨hheld,hguard⟩:=ht.held ty ti fs hti hd;have hu:P.underlying ty=some (.struct fs):=by rw[ht.under ty ti hti,hd]
 have hfo:P.fieldsOf ty=fs:=by simp[Program.fieldsOf,hu]
 have heq:=eqFields_sound (P:=P) ht 9998 h1 h2 fs.toList 0 (fun f hf=>by have:=all_eq_true.1 hn f hf;simpa using this) hds (by simpa using he);have hrun:(Op.equalIn 10000 ty (.agg us1) (.agg us2)).run P w = .ok b w:=by
  rw[run_equalIn_struct w 9999 ty us1 us2 (by rw[hfo];exact hu) hheld,hfo];exact heq
 refine op_quiet H (v := .bool r) ?_ (rep_v rfl) hK;rcases hr with⟨rfl,rfl⟩ | ⟨rfl,rfl⟩
 ·simp only[execOp,ho,hu1,hu2,Sem.run_bind,run_eqGuard_agg w _ ty X Y us1 us2 hguard,Result.andThen_ok,run_eql_struct,hrun,Sem.run_pure]
 ·simp only[execOp,ho,hu1,hu2,Sem.run_bind,run_eqGuard_agg w _ ty X Y us1 us2 hguard,Result.andThen_ok,run_neq_struct,hrun,Sem.run_pure]
/-! ### builtins that only read -/
theorem op_builtin {b:Builtin} {args:Array Operand} {ats:Array TypeId} (ho:o.op = .call { callee := .builtin b,args:=args,argTypes:=ats }) {v:Value} {w':World} {f:Sem Value}
  (hb:∀cs,builtin b ats o.type cs (args.map a.eval)=(do pure (.value (← f)))) (hf:f.run P w = .ok v w'):(execOp a.eval o).run P w = .ok (.value v) w':=by
 simp only[execOp,ho,resolve,Sem.run_bind,Sem.run_pure,Result.andThen_ok,invoke,hb,hf]
theorem sliceLen_sound (H:Inv w0 O0 F0 w F h β) {hh:Nat→Option Obj} (hhh:∀i ob,hh i=some ob→h i=some (some ob)) {c:C} {n:Nat} {u:Value}
  (hs:sliceLen hh c=some n) (hc:RepC w F h β c u):∃ad cap,u = .slice ad n cap∧n≤9223372036854775807:=by
 unfold sliceLen at hs
 split at hs
 ·cases hs
  obtain⟨ad,cap,rfl,g1,g2,_⟩:=hc;exact⟨ad,cap,rfl,by simp only[maxLen]at g2;omega⟩
 ·cases hs;obtain ⟨rfl,_⟩:=hc;exact ⟨none,0,rfl,by omega⟩
 ·split at hs
  ·rename_i hi
   cases hs
   have hi':=hhh _ _ hi;rw[hc.2.2 _ hi'];rcases H.obj _ _ hi' with⟨ad,h2,h3⟩ | ⟨b,cap,cur,h2,h3,_,g1,g2,_⟩
   ·exact ⟨ad,0,by rw[h2,h3],by omega⟩
   ·exact ⟨_,cap,h2,by simp only[maxLen]at g2;omega⟩
  ·cases hs
 ·cases hs
theorem evLen_plain (H:Inv w0 O0 F0 w F h β) {hh:Nat→Option Obj} (hhh:∀i ob,hh i=some ob→h i=some (some ob)) {d:TypeDesc} {x:T} {tm:Array Value} {u:Value} {n:Int} (hl:evLen hh d x=some n) (hx:RepX tm w F h β x u):plain (.int .i64 n)=true:=by
 unfold evLen at hl
 split at hl
 ·cases hl
  have h2:=hx.2;simp only[plain,Nat.ble_eq]at h2;exact plain_i64 (by omega) (by omega)
 ·split at hl
  ·rename_i hs
   cases hl
   obtain⟨ad,cap,_,h2⟩:=sliceLen_sound H hhh hs hx;exact plain_i64 (by omega) (by omega)
  ·cases hl
 ·cases hl
theorem op_len' (H:Inv w0 O0 F0 w F h β) (ht:TTok P TT) {hh:Nat→Option Obj} (hhh:∀i ob,hh i=some ob→h i=some (some ob)) {X:Operand} {t:TypeId} {ts:List TypeId} {ti:TI} (ho:o.op = .call { callee := .builtin .len,args:=#[X],argTypes:=(t::ts).toArray }) (hti:TT t=some ti)
  {n:Int} (hl:evLen hh ti.desc x=some n) (hx:RepX a.tmps w F h β x (a.eval X))
  (hK:∀v w',Out w0 O0 F0 w F h β a.tmps [] (.d (.one (.r (.v (.int .i64 n))))) v w'→K (a.put o.dst v) w'):o.wp P a w K Q:=by
 refine op_quiet H (v := .int .i64 n) ?_ (rep_v (evLen_plain H hhh hl hx)) hK;refine op_builtin ho (f:=Builtin.len_ (t::ts).toArray o.type #[a.eval X]) (by simp[builtin]) ?_;unfold evLen at hl
 split at hl
 ·rename_i s hd
  cases hl
  have hu:a.eval X = .string s:=hx.1;simp only[Builtin.len_,hu,Sem.run_bind,List.getElem?_toArray,List.getElem?_cons_zero,ht.run_under hti,hd,Result.andThen_ok,Sem.run_pure,goInt,size_list]
 ·rename_i c e hd
  split at hl
  ·rename_i hs
   cases hl
   obtain⟨ad,cap,hu,_⟩:=sliceLen_sound H hhh hs hx;simp[Builtin.len_,hu,ht.run_under hti,hd,goInt]
  ·cases hl
 ·cases hl
end
end
/-
 Slices of slices and strings,conversions,the least and the greatest.
-/
noncomputable section
open Go
section
variable {P:Program} {TT:Types} {w0 w:World} {O0 F0 F:Nat→Prop} {h:HF} {β:Nat→Value} {a:Act} {o:Oper} {K:Act→World→Prop} {Q:Exit→Act→World→Prop} {x:T} {v:Value}
theorem sliceIn_sound (H:Inv w0 O0 F0 w F h β) {hh:Nat→Option Obj} (hhh:∀i ob,hh i=some ob→h i=some (some ob)) {sz:Nat} {ez:List R} {c:C} {ids:List Nat} {n:Nat} {get:Nat→Nat→R} {u:Value}
  (hs:sliceIn hh sz ez c=some (ids,n,get)) (hc:RepC w F h β c u) (F':Nat→Prop) (hF:∀b,F b→F' b) (hids:∀i∈ids,∀o b,h i=some (some o)→Blk (β i) b→F' b) :
  Ro w F' (.sl sz n get) u:=by
 unfold sliceIn at hs
 split at hs
 ·split at hs
  ·rename_i e
   cases hs
   have e:=zB e;subst e;exact Ro.mono (fun _ _=>rfl) hF hc
  ·cases hs
 ·cases hs;obtain ⟨rfl,_⟩:=hc;exact ⟨none,0,rfl,by omega,by simp[maxLen], .inl rfl⟩
 ·split at hs
  ·rename_i hi
   split at hs
   ·rename_i e
    cases hs
    have e:=zB e;subst e;have hi':=hhh _ _ hi;rw[hc.2.2 _ hi'];exact ro_of_arr (H.obj _ _ hi') hF fun b hb=>hids _ (List.mem_singleton_self _) _ b hi' hb
   ·cases hs
  ·cases hs
 ·cases hs
theorem sliceIn_pres {hh:Nat→Option Obj} {sz:Nat} {ez:List R} {c:C} {ids:List Nat} {n:Nat} {get:Nat→Nat→R} (hs:sliceIn hh sz ez c=some (ids,n,get)):∀i∈ids,∃ob,hh i=some ob:=by
 unfold sliceIn at hs
 split at hs
 ·split at hs<;>cases hs;simp
 ·cases hs;simp
 ·split at hs
  ·rename_i hi
   split at hs<;>cases hs
   intro i hi';simp at hi';subst hi';exact⟨_,hi⟩
  ·cases hs
 ·cases hs
def OptInt:Option Value→Option Int→Prop
 |none,none=>True
 |some (.int _ n),some m=>n=m
 |_,_=>False
theorem inr_iff {l r:Int} {n:Nat}:inr l r n=true↔0≤l∧l≤r∧r≤(n:Int):=by simp[inr]
theorem run_bounds {isS:Bool} {n cap:Nat} {lo hi:Option Value} {li hi':Option Int} (hl:OptInt lo li) (hh:OptInt hi hi') (hr:inr (li.getD 0) (hi'.getD (n:Int)) n=true) (hn:n≤cap) :
  (Instr.sliceBounds isS n cap lo hi none).run P w = .ok ((li.getD 0).toNat,(hi'.getD (n:Int)).toNat,cap) w:=by
 obtain⟨h0,h1,h2⟩:=inr_iff.1 hr;have e:(((hi'.getD (n:Int)).toNat:Nat):Int)=hi'.getD (n:Int):=Int.toNat_of_nonneg (by omega);have step:∀(z:Option Value),OptInt z li→(match z with | some v=>Instr.sliceBound v (hi'.getD (n:Int)).toNat .sliceB | none=>pure 0:Sem Nat).run P w = .ok (li.getD 0).toNat w:=by
  intro z hz
  cases z with
  |none=>cases li with
   |none=>rfl
   |some m=>exact hz.elim
  |some v=>cases li with
   |none=>cases v<;>exact hz.elim
   |some m =>
    cases v<;>first | exact hz.elim | skip
    rename_i k q;have:q=m:=hz;subst this;simp only[Option.getD_some]at *;exact run_sliceBound w k q _ _ h0 (by omega)
 cases hi with
 |none =>
  cases hi' with
  |some m=>exact hh.elim
  |none =>
   simp only[Option.getD_none,Int.toNat_natCast]at *;simp only[Instr.sliceBounds,Sem.run_bind,Sem.run_pure,Result.andThen_ok,Option.isSome_none,Bool.false_eq_true,if_false];have st:=step lo hl
   cases lo with
   |none=>simp only[Sem.run_pure,Result.ok.injEq,and_true]at st;simp[← st]
   |some v=>simp only[]at st;simp[st]
 |some v =>
  cases hi' with
  |none=>cases v<;>exact hh.elim
  |some m =>
   cases v<;>first | exact hh.elim | skip
   rename_i k q;have:q=m:=hh;subst this;simp only[Option.getD_some]at *;have hb:∀code,(Instr.sliceBound (.int k q) cap code).run P w = .ok q.toNat w:=fun code=>run_sliceBound w k q _ _ (by omega) (by omega);simp only[Instr.sliceBounds,Sem.run_bind,Sem.run_pure,Result.andThen_ok,Option.isSome_none,Bool.false_eq_true,if_false,hb];have st:=step lo hl
   cases lo with
   |none=>simp only[Sem.run_pure,Result.ok.injEq,and_true]at st;simp[← st]
   |some v=>simp only[]at st;simp[st]
theorem op_slice_str (H:Inv w0 O0 F0 w F h β) (ht:TTok P TT) {ty:TypeId} {ti:TI} {X:Operand} {lo hi:Option Operand} (ho:o.op = .slice ty X lo hi none) (hti:TT ty=some ti) (hs:isStr ti.desc=true) {s:ByteArray} {li hi':Option Int}
  (hX:a.eval X = .string s) (hpl:plain (.string s)=true) (hl:OptInt (lo.map a.eval) li) (hh:OptInt (hi.map a.eval) hi') (hr:inr (li.getD 0) (hi'.getD (s.data.toList.length:Int)) s.data.toList.length=true)
  (hK:∀v w',Out w0 O0 F0 w F h β a.tmps [] (.d (.one (.r (.v (.string (mk ((s.data.toList.drop (li.getD 0).toNat).take ((hi'.getD (s.data.toList.length:Int)).toNat-(li.getD 0).toNat)))))))) v w'→K (a.put o.dst v) w') :
  o.wp P a w K Q:=by
 have hd:ti.desc = .string:=by unfold isStr at hs;split at hs<;>first | assumption | cases hs
 refine op_quiet H (v := .string _) ?_ (rep_v (by
  simp only[plain,Nat.ble_eq]at hpl ⊢;show(List.take _ (List.drop _ s.data.toList)).length≤_;simp only[length_take,length_drop];omega)) hK
 have hb:=run_bounds (P:=P) (w:=w) (isS:=false) hl hh hr (Nat.le_refl _);rw[← size_list]at hb;have e:s.extract (li.getD 0).toNat (hi'.getD (s.size:Int)).toNat=mk ((s.data.toList.drop (li.getD 0).toNat).take ((hi'.getD (s.data.toList.length:Int)).toNat-(li.getD 0).toNat)):=by
  rw[← size_list]
  apply ByteArray.ext
  apply Array.ext'
  simp[ByteArray.data_extract,List.extract_eq_take_drop]
 rw[← e];simp only[execOp,ho,hX,Option.map_none,Instr.sliceAt,Sem.run_bind,ht.run_under hti,hd,Result.andThen_ok,Instr.slice,Option.isSome_none,Bool.false_eq_true,if_false,Sem.run_pure,hb]
theorem ro_sub {F':Nat→Prop} {sz n:Nat} {get:Nat→Nat→R} {ad:Option Addr} {cap:Nat} {ez:List R} {l r:Nat} (hu:Ro w F' (.sl sz n get) (.slice ad n cap)) (h1:l≤r) (h2:r≤n) :
  Ro w F' (.sl sz (r-l) (arrSub get l (r-l) ez)) (sliced ad l r cap sz):=by
 obtain⟨ad',cap',e,hnc,hcm,hh⟩:=hu
 cases e
 refine⟨_,cap-l,rfl,by omega,by omega, ?_⟩;rcases hh with hh | ⟨b,off,rfl,hf,hh⟩
 ·exact .inl (by omega)
 ·by_cases hlr:r-l=0
  ·exact .inl hlr
  ·refine .inr ⟨b,off+l*sz, ?_,hf,fun i hi j hj => ?_⟩
   ·rw[if_neg (by omega)];simp[Addr.add_lit]
   ·obtain ⟨y,hy,hr⟩:=hh (l+i) (by omega) j hj;refine⟨y, ?_, ?_⟩
    ·rw[← hy];congr 2;rw[Nat.add_mul];omega
    ·simp only[arrSub,hi,if_true];exact hr
theorem run_slice_sl (ht:TTok P TT) {ty e:TypeId} {ti ei:TI} (hti:TT ty=some ti) (hd:ti.desc = .slice e) (hei:TT e=some ei) {ad:Option Addr} {n cap:Nat} {lo hi:Option Value} {li hi':Option Int}
  (hl:OptInt lo li) (hh:OptInt hi hi') (hr:inr (li.getD 0) (hi'.getD (n:Int)) n=true) (hn:n≤cap) :
  (Instr.sliceAt ty (.slice ad n cap) lo hi none).run P w = .ok (sliced ad (li.getD 0).toNat (hi'.getD (n:Int)).toNat cap ei.info.size) w:=by
 have hb:=run_bounds (P:=P) (w:=w) (isS:=true) hl hh hr hn;simp only[Instr.sliceAt,Sem.run_bind,ht.run_under hti,hd,Result.andThen_ok,Instr.slice,hb,ht.run_size hei,Sem.run_pure,sliced]
theorem op_slice_sl (H:Inv w0 O0 F0 w F h β) (ht:TTok P TT) {hh:Nat→Option Obj} (hhh:∀i ob,hh i=some ob→h i=some (some ob)) {ty e:TypeId} {ti ei:TI} {X:Operand} {lo hi:Option Operand} (ho:o.op = .slice ty X lo hi none)
  (hti:TT ty=some ti) (hd:ti.desc = .slice e) (hei:TT e=some ei) {c:C} {ids:List Nat} {n:Nat} {get:Nat→Nat→R} (hs:sliceIn hh ei.info.size ti.ez c=some (ids,n,get)) (hx:RepC w F h β c (a.eval X)) {li hi':Option Int}
  (hl:OptInt (lo.map a.eval) li) (hh':OptInt (hi.map a.eval) hi') (hr:inr (li.getD 0) (hi'.getD (n:Int)) n=true)
  (hK:∀v w',Out w0 O0 F0 w F h β a.tmps (dropIds ids) (.d (.one (.r (.sl ei.info.size ((hi'.getD (n:Int)).toNat-(li.getD 0).toNat) (arrSub get (li.getD 0).toNat ((hi'.getD (n:Int)).toNat-(li.getD 0).toNat) ti.ez))))) v w'→K (a.put o.dst v) w') :
  o.wp P a w K Q:=by
 obtain⟨F1,H1,P1,hb1⟩:=H.freezes ids fun i hi=>by obtain⟨ob,hob⟩:=sliceIn_pres hs i hi;exact ⟨_,hhh _ _ hob⟩
 have hro:=sliceIn_sound H hhh hs hx F1 P1.sub hb1;have hro':=hro;obtain⟨ad,cap,hu,hnc,_,_⟩:=hro';obtain⟨h0,h1,h2⟩:=inr_iff.1 hr;rw[hu]at hro;refine wp_val (v:=sliced ad (li.getD 0).toNat (hi'.getD (n:Int)).toNat cap ei.info.size) (w':=w) ?_ (hK _ _ ⟨F1,β,H1,P1, ?_⟩)
 ·simp only[execOp,ho,hu,Option.map_none,Sem.run_bind,run_slice_sl (w:=w) ht hti hd hei hl hh' hr hnc,Result.andThen_ok,Sem.run_pure]
 ·exact ro_sub hro (by omega) (by omega)
theorem op_slice_zero (H:Inv w0 O0 F0 w F h β) (ht:TTok P TT) {hh:Nat→Option Obj} (hhh:∀i ob,hh i=some ob→h i=some (some ob)) {ty e:TypeId} {ti ei:TI} {X Y Z:Operand} (ho:o.op = .slice ty X none (some Y) (some Z))
  (hti:TT ty=some ti) (hd:ti.desc = .slice e) (hei:TT e=some ei) {c:C} {ids:List Nat} {n:Nat} {get:Nat→Nat→R} (hs:sliceIn hh ei.info.size ti.ez c=some (ids,n,get)) (hx:RepC w F h β c (a.eval X)) {ky kz:IntKind}
  (hY:a.eval Y = .int ky 0) (hZ:a.eval Z = .int kz 0) {s:Nat} (hs0:h s=none) (g:Nat→Nat→R)
  (hK:∀v w',Out w0 O0 F0 w F h β a.tmps [(s,some (.arr e ei.info.size 0 g))] (.d (.one (.own s))) v w'→K (a.put o.dst v) w'):o.wp P a w K Q:=by
 have hro:=sliceIn_sound H hhh hs hx (fun b=>F b∨∃i o,i∈ids∧h i=some (some o)∧Blk (β i) b) (fun _ hb => .inl hb) (fun i hi o b h1 h2 => .inr ⟨i,o,hi,h1,h2⟩);obtain⟨ad,cap,hu,hnc,_,_⟩:=hro;have T:=H.turn (w':=w) (F':=F) s (some (.arr e ei.info.size 0 g)) (.slice ad 0 0) rfl rfl rfl (Nat.le_refl _) (fun _=>False) (fun _ h=>h.elim) (fun _ _ _=>rfl) (fun _ h=>h) (fun _ h => .inl h)
  (fun q0 _ h0=>by rw[hs0]at h0;cases h0) (fun _ ob hob=>by cases hob;exact ⟨.inl ⟨ad,by simp[setB],rfl⟩,fun b hb=>by cases ad<;>simp[blk]at hb⟩)
 refine wp_val (v := .slice ad 0 0) (w':=w) ?_ (hK _ _ ⟨F,_,by rw[upd_cons];exact T.1,by rw[upd_cons];exact T.2, ?_⟩)
 ·have hb:∀code (k:IntKind) (m:Nat),(Instr.sliceBound (.int k 0) m code).run P w = .ok 0 w:=fun code k m=>run_sliceBound w k 0 _ _ (by omega) (by omega);simp[execOp,ho,hu,hY,hZ,Instr.sliceAt,ht.run_under hti,hd,Instr.slice,Instr.sliceBounds,hb,ht.run_size hei]
 ·exact ⟨rfl,⟨some (.arr e ei.info.size 0 g),by simp[upd,look]⟩,fun ob _=>by simp[setB]⟩
/-! ### conversions -/
theorem plain_enc (n:Int):plain (.string (Utf8.encode n))=true:=by
 have h:∀c:Nat,Nat.ble (Array.toList (ByteArray.data (if c<128 then⟨#[UInt8.ofNat c]⟩else if c<2048 then⟨#[UInt8.ofNat (192+c / 64),UInt8.ofNat (128+c % 64)]⟩else
   if c<65536 then⟨#[UInt8.ofNat (224+c / 4096),UInt8.ofNat (128+c / 64 % 64),UInt8.ofNat (128+c % 64)]⟩else
   ⟨#[UInt8.ofNat (240+c / 262144),UInt8.ofNat (128+c / 4096 % 64),UInt8.ofNat (128+c / 64 % 64),UInt8.ofNat (128+c % 64)]⟩))).length 9223372036854775807=true:=fun c=>by
  split
  ·rfl
  ·split
   ·rfl
   ·split<;>rfl
 exact h (if Utf8.valid n then n.toNat else Utf8.runeError)
theorem bytes_fold (l:List Int):∀(s:ByteArray),l.foldl (fun r n=>r.push (UInt8.ofNat n.toNat)) s=mk (s.data.toList++l.map fun n=>UInt8.ofNat n.toNat):=by
 induction l with
 |nil=>intro s;obtain ⟨⟨s⟩⟩:=s;simp
 |cons n l ih =>
  intro s;rw[List.foldl_cons,ih];obtain⟨⟨s⟩⟩:=s;simp[ByteArray.push]
theorem op_convert (H:Inv w0 O0 F0 w F h β) (ht:TTok P TT) {hh:Nat→Option Obj} (hhh:∀i ob,hh i=some ob→h i=some (some ob)) {s d:TypeId} {si di:TI} {X:Operand} (ho:o.op = .convert s d X) (hsi:TT s=some si) (hdi:TT d=some di)
  {c c':C} {cond:Option Bool} (he:evConv (isBytes TT si.desc) di.desc si.ez hh c=some (cond,c')) (hc:cond=none∨cond=some true) (hx:RepC w F h β c (a.eval X))
  (hK:∀v w',Out w0 O0 F0 w F h β a.tmps [] (.d (.one c')) v w'→K (a.put o.dst v) w'):o.wp P a w K Q:=by
 have hus:(P.underlying s).isSome=true:=by rw[ht.under s si hsi];rfl
 have hud:=ht.under d di hdi;unfold evConv at he
 split at he
 ·rename_i k n;obtain⟨hu,_⟩:=hx
  split at he
  ·rename_i k' hd
   cases he
   refine op_quiet H (v := .int k' (k'.wrap n)) ?_ (rep_v (plain_wrap _ _)) hK;simp only[execOp,ho,hu,convert,Sem.run_bind,run_underlying (ht.under s si hsi),run_underlying hud,hd,Conv.intToInt,Result.andThen_ok,Sem.run_pure]
  ·rename_i hd
   cases he
   refine op_quiet H (v := .string (Utf8.encode n)) ?_ (rep_v (plain_enc n)) hK;simp only[execOp,ho,hu,convert,Sem.run_bind,run_underlying (ht.under s si hsi),run_underlying hud,hd,Conv.intToString,Result.andThen_ok,Sem.run_pure]
  ·cases he
 ·rename_i x;obtain⟨hu,hpl⟩:=hx
  split at he
  ·rename_i hd
   cases he
   refine op_quiet H (v := .string x) ?_ (rep_v hpl) hK;simp only[execOp,ho,hu,convert,Sem.run_bind,run_underlying (ht.under s si hsi),run_underlying hud,hd,Result.andThen_ok,Sem.run_pure]
  ·cases he
 ·split at he
  ·rename_i hby hd
   split at he
   ·rename_i ids n get hsl
    cases he
    simp only[reduceCtorEq,Option.some.injEq,false_or]at hc;unfold isBytes at hby
    split at hby
    ·rename_i e hse
     split at hby
     ·rename_i ei hei
      split at hby
      ·rename_i he8;have hro:=sliceIn_sound H hhh hsl hx (fun b=>F b∨∃i o,i∈ids∧h i=some (some o)∧Blk (β i) b) (fun _ hb => .inl hb) (fun i hi o b h1 h2 => .inr ⟨i,o,hi,h1,h2⟩);obtain⟨ad,cap,hu,hnc,hcm,hcells⟩:=hro;refine op_quiet H (v := .string (mk (bytesOf n get))) ?_ (rep_v (by
        simp only[plain,Nat.ble_eq];show(bytesOf n get).length≤_;simp only[bytesOf,List.length_map,List.length_range];simp only[maxLen]at hcm;omega)) hK
       have hconv:=run_convert_bytes_string (P:=P) w s d e ad n cap (by rw[ht.under s si hsi,hse]) (by rw[ht.under e ei hei,he8]) (by rw[hud,hd]);simp only[execOp,ho,hu,Sem.run_bind,hconv];rcases hcells with rfl | ⟨b,off,rfl,_,hcells⟩
       ·cases ad with
        |none=>rfl
        |some ad =>
         rw[run_bytesToString w ad 0 cap [] (by simp[loadCells,loadCellsFrom])];rfl
       ·have hall:∀i,i<n→w.cell? ⟨b,off+i,none⟩=some (.int .u8 (match get i 0 with | .v (.int .u8 q)=>q | _=>0)):=fun i hi=>by
         obtain⟨y,hy,hr⟩:=hcells i hi 0 (by omega);simp only[areBytes,all_eq_true,List.mem_range]at hc;have:=hc i hi;unfold isByte at this
         split at this
         ·rename_i q hq
          first | rw[hq]at hr ⊢ | rw[hq]at hr
          obtain⟨rfl,_⟩:=hr
          simpa using hy
         ·cases this
        have hl:=run_loadCells (P:=P) w ⟨b,off,none⟩ n (fun i => .int .u8 (match get i 0 with | .v (.int .u8 q)=>q | _=>0)) fun i hi=>by rw[Addr.add_lit];exact hall i hi
        rw[run_bytesToString w ⟨b,off,none⟩ n cap ((List.range n).map fun i=>match get i 0 with | .v (.int .u8 q)=>q | _=>0) (by rw[hl];simp[Function.comp_def])]
        rw[bytes_fold];simp only[Result.andThen_ok,Sem.run_pure]
        congr 4
        simp only[bytesOf,List.map_map,ByteArray.empty,ByteArray.emptyWithCapacity]
        apply List.map_congr_left
        intro i hi;simp only[List.mem_range]at hi;simp only[areBytes,all_eq_true,List.mem_range]at hc;have:=hc i hi;unfold isByte at this
        split at this
        ·rename_i q hq;simp[byteOf,hq]
        ·cases this
      ·cases hby
     ·cases hby
    ·cases hby
   ·cases he
  ·cases he
end
end
/-
 Operations that make and turn memory: variables,stores,literals of structs.
-/
noncomputable section
open Go
theorem setCells_eq:∀(xs cs:List C) (off:Nat),off+xs.length≤cs.length→setCells cs off xs=cs.take off++xs++cs.drop (off+xs.length)
 | [],cs,off,_=>by simp[setCells]
 |x::xs,cs,off,hl=>by
  simp only[length_cons]at hl;rw[setCells,setCells_eq xs (cs.set off x) (off+1) (by simp;omega)];rw[length_cons,show off+(xs.length+1)=off+1+xs.length by omega];rw[List.drop_set_of_lt (by omega)]
  congr 1
  rw[List.take_succ_eq_append_getElem (by simp;omega),List.take_set_of_le (Nat.le_refl _)];simp
section
variable {P:Program} {TT:Types} {w0 w:World} {O0 F0 F:Nat→Prop} {h:HF} {β:Nat→Value} {a:Act} {o:Oper} {K:Act→World→Prop} {Q:Exit→Act→World→Prop} {x:T} {v:Value}
theorem new_box (H:Inv w0 O0 F0 w F h β) {e:TypeId} {cs:List C} {us:Array Value} {s:Nat} (hs0:h s=none) (hc:All2 (RepC w F h β) cs us.toList) (tm:Array Value) :
  Out w0 O0 F0 w F h β tm [(s,some (.box e cs))] (.d (.one (.ptr s 0))) (.pointer (some ⟨w.heap.size,0,none⟩)) (w.alloc (.cells us e)):=by
 have T:=H.new hs0 (.cells us e) (.box e cs) (.pointer (some ⟨w.heap.size,0,none⟩)) (fun b hb=>by have hb:=Blk_pointer.1 hb;simpa [blk]using hb.symm)
  (fun P=>⟨w.heap.size,us,by simp[setB], .new (heap_alloc_new w _),hc.mono fun _ _=>P.repC⟩)
 refine⟨F,_,by rw[upd_cons];exact T.1,by rw[upd_cons];exact T.2,rfl,⟨some (.box e cs),by simp[upd,look]⟩,fun ob _=>⟨w.heap.size,by simp[setB],rfl⟩⟩
theorem op_box (H:Inv w0 O0 F0 w F h β) {e:TypeId} {X:Operand} (ho:o.op = .box e X) {d:D} (hx:RepX a.tmps w F h β (.d d) (a.eval X)) {s:Nat} (hs0:h s=none)
  (hK:∀v w',Out w0 O0 F0 w F h β a.tmps [(s,some (.box e d.cells))] (.d (.one (.ptr s 0))) v w'→K (a.put o.dst v) w'):o.wp P a w K Q:=by
 refine wp_val (w':=w.alloc (.cells (a.eval X).cells e)) ?_ (hK _ _ (new_box H hs0 (RepD.cells hx) a.tmps));simp[execOp,ho,Instr.box,newVar,newRow,newObj,Sem.run]
theorem zeroCells_sound {ti:TI} {cs:List C} (hz:zeroCells ti=some cs):∃z,ti.info.zero=some z∧All2 (RepC w F h β) cs z.cells.toList:=by
 unfold zeroCells at hz
 split at hz
 ·rename_i z e;refine⟨z,e, ?_⟩;have:=allSome_map hz;exact this.mono fun _ _ hc=>cellOf_sound hc
 ·cases hz
theorem TTok.run_zero {ti:TI} (ht:TTok P TT) {t:TypeId} (h:TT t=some ti) {z:Value} (hz:ti.info.zero=some z) (w:World):(zeroValue t).run P w = .ok z w:=by
 simp[zeroValue,ht.run_info h,hz]
theorem op_alloc (H:Inv w0 O0 F0 w F h β) (ht:TTok P TT) {e:TypeId} {ti:TI} (ho:o.op = .alloc e) (hti:TT e=some ti) {cs:List C} (hz:zeroCells ti=some cs) {s:Nat} (hs0:h s=none)
  (hK:∀v w',Out w0 O0 F0 w F h β a.tmps [(s,some (.box e cs))] (.d (.one (.ptr s 0))) v w'→K (a.put o.dst v) w'):o.wp P a w K Q:=by
 obtain⟨z,hz1,hz2⟩:=zeroCells_sound (w:=w) (F:=F) (h:=h) (β:=β) hz;refine wp_val (w':=w.alloc (.cells z.cells e)) ?_ (hK _ _ (new_box H hs0 hz2 a.tmps));simp[execOp,ho,Instr.alloc,ht.run_zero hti hz1,newVar,newRow,newObj,Sem.run]
/-! ### stores -/
theorem run_storeCells_M {g o:Nat} {t:TypeId}:∀(vs:List Value) (i:Nat) (cur:Array Value) (w:World),RowAt w g cur t→o+i+vs.length≤cur.size→(∀v∈vs,v.oneCell'=true) →
  (storeCells ⟨g,o,none⟩ vs i).run P w = .ok () (w.setRow g (cur.toList.take (o+i)++vs++cur.toList.drop (o+i+vs.length)).toArray)
 | [],i,cur,w,hg,_,_=>by
  obtain⟨m,hg,_⟩:=hg;simp only[storeCells,List.append_nil,List.length_nil,Nat.add_zero,List.take_append_drop,Array.toArray_toList];rw[setRow_self w g cur t m hg];rfl
 |v::rest,i,cur,w,hg,hl,h1=>by
  simp only[length_cons]at hl;have hst:(store ((⟨g,o,none⟩:Addr).add i) v).run P w = .ok () (w.setRow g (cur.setIfInBounds (o+i) v)):=by
   have hf:=hg.free (j:=o+i) (by omega);have hc:=hg.cell (o+i);rw[Array.getElem?_eq_getElem (show o+i<cur.size by omega)]at hc;obtain⟨m,hg',_⟩:=hg;rw[Addr.add_lit,run_store P w _ v _ (h1 v (by simp)),hc,if_neg (by rw[hf];exact Bool.false_ne_true),setCell_eq_setRow w g (o+i) cur t m v hg']
  have ih:=run_storeCells_M (o:=o) rest (i+1) (cur.setIfInBounds (o+i) v) (w.setRow g (cur.setIfInBounds (o+i) v)) (hg.set (by simp)) (by simp;omega) (fun x hx=>h1 x (by simp[hx]));simp only[storeCells,Sem.run_bind,hst,Result.andThen_ok,ih,setRow_setRow]
  congr 3
  have e:=list_seg_step cur.toList (o+i) v rest (by simp;omega)
  simpa [Array.toList_setIfInBounds,Nat.add_assoc]using e
theorem run_storeVar_at (ht:TTok P TT) {t:TypeId} {ti:TI} (hti:TT t=some ti) {g off:Nat} {et:TypeId} {cur:Array Value} {u:Value} (hg:RowAt w g cur et) (hl:u.cells.size=ti.info.size)
  (hfit:off+u.cells.size≤cur.size) (h1:∀v∈u.cells.toList,v.oneCell'=true) :
  (storeVar t ⟨g,off,none⟩ u).run P w = .ok () (w.setRow g (cur.toList.take off++u.cells.toList++cur.toList.drop (off+u.cells.size)).toArray):=by
 have hst:=run_storeCells_M (P:=P) u.cells.toList 0 cur w hg (by simpa using hfit) h1;simp only[Nat.add_zero,Array.length_toList]at hst;simp only[storeVar,Sem.run_bind,ht.run_size hti,Result.andThen_ok,hl,ne_eq,not_true_eq_false,if_false]
 simpa [hl]using hst
theorem setRow_same (w:World) (g:Nat) (cs:Array Value):(w.setRow g cs).os=w.os∧(w.setRow g cs).tape=w.tape∧(w.setRow g cs).output=w.output∧(w.setRow g cs).heap.size=w.heap.size:=by
 refine⟨rfl,rfl,rfl, ?_⟩;simp[World.setRow]
theorem all_one {cs:List C} {us:List Value} (hc:All2 (RepC w F h β) cs us):∀v∈us,v.oneCell'=true:=by
 induction hc with
 |nil=>intro v hv;simp at hv
 |cons h1 _ ih =>
  intro v hv;rcases List.mem_cons.1 hv with rfl | hv
  ·exact RepC.one h1
  ·exact ih v hv
theorem store_box (H:Inv w0 O0 F0 w F h β) {i off:Nat} {t:TypeId} {cs:List C} (hi:h i=some (some (.box t cs))) {b:Nat} (hb:β i = .pointer (some ⟨b,0,none⟩)) {xs:List C} {us:List Value} (hx:All2 (RepC w F h β) xs us)
  (hfit:off+xs.length≤cs.length) :
  ∃cur:Array Value,RowAt w b cur t∧off+us.length≤cur.size∧Inv w0 O0 F0 (w.setRow b (cur.toList.take off++us++cur.toList.drop (off+us.length)).toArray) F (setH h i (some (.box t (setCells cs off xs)))) β ∧
   Per w F h β (w.setRow b (cur.toList.take off++us++cur.toList.drop (off+us.length)).toArray) F (setH h i (some (.box t (setCells cs off xs)))) β:=by
 obtain⟨b',cur,h1,h2,h3⟩:=H.obj _ _ hi;rw[hb]at h1
 cases h1
 have hl:=hx.len;have hl3:=h3.len;refine⟨cur,h2,by simp at hl3;omega, ?_⟩;have hnew:All2 (RepC w F h β) (setCells cs off xs) (cur.toList.take off++us++cur.toList.drop (off+us.length)):=by
  rw[setCells_eq _ _ _ hfit,hl];exact((h3.take off).append hx).append (h3.drop _)
 obtain⟨s1,s2,s3,s4⟩:=setRow_same w b (cur.toList.take off++us++cur.toList.drop (off+us.length)).toArray;have T:=H.turn (w':=w.setRow b (cur.toList.take off++us++cur.toList.drop (off+us.length)).toArray) (F':=F) i (some (.box t (setCells cs off xs))) (β i) s1 s2 s3 (Nat.le_of_eq s4.symm) (fun k=>k=b)
  (fun k hk=>by
   subst hk;have hk:Blk (β i) k:=by rw[hb];exact Blk_pointer.2 rfl
   exact⟨H.notF i _ k hi hk,fun j o' hj hj' hb'=>hj (H.apart j i o' _ k hj' hi hb' hk),H.fromO i _ k hi hk⟩)
  (fun k _ hk=>setRow_other w b k _ hk) (fun _ hf=>hf) (fun _ hf => .inl hf) (fun q0 _ h0 _=>⟨⟨_,by rw[hi]at h0;exact (Option.some.inj h0).symm⟩,rfl⟩)
  (fun P ob hob=>by
   cases hob
   refine⟨⟨b,_,by simp[setB,hb],h2.set (by simp only[List.size_toArray,length_append,length_take,length_drop,Array.length_toList];simp at hl3;omega), ?_⟩,fun k hk => ?_⟩
   ·exact hnew.mono fun _ _=>P.repC
   ·rw[hb]at hk;have hk:=Blk_pointer.1 hk;exact .inl (by simpa [blk]using hk.symm))
 rw[setB_self]at T;exact T
theorem op_store_box (H:Inv w0 O0 F0 w F h β) (ht:TTok P TT) {ty:TypeId} {ti:TI} {X Y:Operand} (ho:o.op = .store ty X Y) (hti:TT ty=some ti) {i off:Nat} {t:TypeId} {cs:List C} (hi:h i=some (some (.box t cs))) {d:D}
  (hx:RepC w F h β (.ptr i off) (a.eval X)) (hy:RepX a.tmps w F h β (.d d) (a.eval Y)) (hn:d.cells.length=ti.info.size) (hfit:off+ti.info.size≤cs.length)
  (hK:∀v w',Out w0 O0 F0 w F h β a.tmps [(i,some (.box t (setCells cs off d.cells)))] .und v w'→K (a.put o.dst v) w'):o.wp P a w K Q:=by
 obtain⟨b,h1,h2⟩:=hx.2.2 _ hi;have hyc:=RepD.cells hy;obtain⟨cur,h3,h4,H',P'⟩:=store_box H hi h1 hyc (by rw[hn];exact hfit);have hl:=hyc.len;simp only[Array.length_toList]at hl h4 H' P';refine wp_skp (w':=w.setRow b (cur.toList.take off++(a.eval Y).cells.toList++cur.toList.drop (off+(a.eval Y).cells.size)).toArray) ?_ (hK _ _ ⟨F,β,by rw[upd_cons];exact H',by rw[upd_cons];exact P',rfl⟩);have hst:=run_storeVar_at (P:=P) (w:=w) ht hti (u:=a.eval Y) h3 (by omega) (by omega) (all_one hyc);simp only[execOp,ho,h2,Instr.storeAt,Instr.sureAddr,Sem.run_bind,Sem.run_pure,Result.andThen_ok,hst]
theorem arrSet_one (get:Nat→Nat→R) (k off:Nat) (r:R) (k' j:Nat):arrSetAll get k off [r] k' j=arrSet get k off r k' j:=by
 unfold arrSetAll arrSet
 by_cases h1:k'=k∧j=off
 ·obtain ⟨rfl,rfl⟩:=h1;simp
 ·rw[if_neg h1,if_neg];simp only[length_cons,List.length_nil];omega
theorem lin_inj {sz k k' j j':Nat} (hj:j<sz) (hj':j'<sz) (e:k*sz+j=k'*sz+j'):k=k'∧j=j':=by
 have e1:(k*sz+j) / sz=k:=by rw[Nat.add_comm,Nat.add_mul_div_right _ _ (by omega),Nat.div_eq_of_lt hj];omega
 have e2:(k'*sz+j') / sz=k':=by rw[Nat.add_comm,Nat.add_mul_div_right _ _ (by omega),Nat.div_eq_of_lt hj'];omega
 have:k=k':=by rw[← e1,← e2,e]
 subst this;exact⟨rfl,by omega⟩
theorem store_arr (H:Inv w0 O0 F0 w F h β) {i k off:Nat} {t:TypeId} {sz n:Nat} {get:Nat→Nat→R} (hi:h i=some (some (.arr t sz n get))) {b cap:Nat} (hb:β i = .slice (some ⟨b,0,none⟩) n cap) (hk:k<n) {rs:List R} {us:List Value} (hx:All2 (Ro w F) rs us)
  (hfit:off+rs.length≤sz) :
  ∃cur:Array Value,RowAt w b cur t∧k*sz+off+us.length≤cur.size∧Inv w0 O0 F0 (w.setRow b (cur.toList.take (k*sz+off)++us++cur.toList.drop (k*sz+off+us.length)).toArray) F (setH h i (some (.arr t sz n (arrSetAll get k off rs)))) β ∧
   Per w F h β (w.setRow b (cur.toList.take (k*sz+off)++us++cur.toList.drop (k*sz+off+us.length)).toArray) F (setH h i (some (.arr t sz n (arrSetAll get k off rs)))) β:=by
 rcases H.obj _ _ hi with⟨ad,h1,h2⟩ | ⟨b',cap',cur,h1,h2,h3,h4,h5,h6,h7⟩
 ·omega
 rw[hb]at h1
 cases h1
 have hl:=hx.len;have hmul:k*sz+sz≤cap*sz:=by have:=Nat.mul_le_mul_right sz (show k+1≤cap by omega);rw[Nat.add_mul]at this;omega
 have hsz:k*sz+off+us.length≤cur.size:=by rw[h6];omega
 refine⟨cur,h3,hsz, ?_⟩;obtain⟨s1,s2,s3,s4⟩:=setRow_same w b (cur.toList.take (k*sz+off)++us++cur.toList.drop (k*sz+off+us.length)).toArray;have hblk:Blk (β i) b:=by rw[hb];simp[blk];omega
 have T:=H.turn (w':=w.setRow b (cur.toList.take (k*sz+off)++us++cur.toList.drop (k*sz+off+us.length)).toArray) (F':=F) i (some (.arr t sz n (arrSetAll get k off rs))) (β i) s1 s2 s3 (Nat.le_of_eq s4.symm) (fun k=>k=b)
  (fun k hk=>by
   subst hk;exact⟨H.notF i _ k hi hblk,fun j o' hj hj' hb'=>hj (H.apart j i o' _ k hj' hi hb' hblk),H.fromO i _ k hi hblk⟩)
  (fun k _ hk=>setRow_other w b k _ hk) (fun _ hf=>hf) (fun _ hf => .inl hf) (fun q0 _ h0 _=>⟨⟨_,by rw[hi]at h0;exact (Option.some.inj h0).symm⟩,rfl⟩)
  (fun P ob hob=>by
   cases hob
   refine⟨.inr ⟨b,cap,_,by simp[setB,hb],h2,h3.set (by simp only[List.size_toArray,length_append,length_take,length_drop,Array.length_toList];omega),h4,h5, ?_,fun k' hk' j' hj' => ?_⟩,fun k hk => ?_⟩
   ·simp only[List.size_toArray,length_append,length_take,length_drop,Array.length_toList];omega
   ·have hmul':k'*sz+sz≤cap*sz:=by have:=Nat.mul_le_mul_right sz (show k'+1≤cap by omega);rw[Nat.add_mul]at this;omega
    simp only[List.getElem?_toArray]
    by_cases hin:k'=k∧off≤j'∧j'<off+rs.length
    ·obtain ⟨rfl,h8,h9⟩:=hin;obtain⟨y,hy,hr⟩:=hx.get (j:=j'-off) (x:=rs.getD (j'-off) z0) (by
      have:j'-off<rs.length:=by omega
      simp[getD,List.getElem?_eq_getElem this])
     refine⟨y, ?_, ?_⟩
     ·rw[append_assoc,getElem?_append_right (by simp;omega),getElem?_append_left (by simp;omega)];rw[← hy];congr 1;simp;omega
     ·simp only[arrSetAll,h8,h9,and_self,if_true];exact Ro.mono P.blocks P.sub hr
    ·obtain ⟨y,hy,hr⟩:=h7 k' hk' j' hj';refine⟨y, ?_, ?_⟩
     ·have hout:k'*sz+j'<k*sz+off∨k*sz+off+us.length≤k'*sz+j':=by
       rcases Nat.lt_or_ge (k'*sz+j') (k*sz+off)with h8 | h8
       ·exact .inl h8
       ·rcases Nat.lt_or_ge (k'*sz+j') (k*sz+off+us.length)with h9 | h9
        ·exfalso;have:=lin_inj (k:=k') (k':=k) (j:=j') (j':=k'*sz+j'-k*sz) (sz:=sz) hj' (by omega) (by omega);exact hin ⟨this.1,by rw[this.1]at h8 h9;omega,by rw[this.1]at h8 h9;omega⟩
        ·exact .inr h9
      rcases hout with h8 | h8
      ·rw[append_assoc,getElem?_append_left (by simp;omega),getElem?_take,if_pos h8]
       simpa using hy
      ·rw[getElem?_append_right (by simp;omega),List.getElem?_drop];have hy':cur.toList[k'*sz+j']? = some y:=by simpa using hy
       rw[← hy'];congr 1;simp;omega
     ·simp only[arrSetAll,hin,if_false];exact Ro.mono P.blocks P.sub hr
   ·rw[hb]at hk;have hk:=Blk_slice.1 hk;simp only[blk]at hk;split at hk
    ·cases hk
    ·exact .inl (Option.some.inj hk).symm)
 rw[setB_self]at T;exact T
end
end
/-
 Operations that make and turn memory: stores into slices,literals,append,make.
-/
noncomputable section
open Go
theorem allR_refs {hh:Nat→Option Obj}:∀ {cs:List C} {rs:List R},allR hh cs=some rs→∀i∈cs.flatMap C.refs,i∈ownIds cs
 | [],_,_,i,hi=>by simp at hi
 |c::cs,rs,hr,i,hi=>by
  simp only[allR]at hr
  split at hr
  ·rename_i r rs' e1 e2;simp only[List.flatMap_cons,mem_append]at hi;have ih:=allR_refs e2 i;rcases hi with hi | hi
   ·unfold toR at e1
    split at e1
    ·simp[C.refs]at hi
    ·simp[C.refs]at hi;simp[ownIds,hi]
    ·simp[C.refs]at hi;simp[ownIds,hi]
    ·cases e1
   ·have:=ih hi
    cases c<;>simp[ownIds,this]
  ·cases hr
theorem allR_none_own:∀ {cs:List C} {rs:List R},allR (fun _=>none) cs=some rs→ownIds cs=[]:=by
 intro cs
 induction cs with
 |nil=>intro _ _;rfl
 |cons c cs ih =>
  intro rs hr;simp only[allR]at hr
  split at hr
  ·rename_i e1 e2;have:=ih e2
   cases c
   case own i=>simp[toR]at e1
   case dsl i p=>cases p<;>simp[toR]at e1
   all_goals simpa [ownIds]using this
  ·cases hr
theorem ownIds_refs:∀ {cs:List C},∀i∈ownIds cs,i∈cs.flatMap C.refs
 | [],i,hi=>by simp[ownIds]at hi
 |c::cs,i,hi=>by
  simp only[List.flatMap_cons,mem_append]
  cases c
  case own k =>
   simp only[ownIds,List.mem_cons]at hi;rcases hi with rfl | hi
   ·exact .inl (by simp[C.refs])
   ·exact .inr (ownIds_refs i hi)
  case dsl k p =>
   simp only[ownIds,List.mem_cons]at hi;rcases hi with rfl | hi
   ·exact .inl (by simp[C.refs])
   ·exact .inr (ownIds_refs i hi)
  all_goals exact .inr (ownIds_refs i (by simpa [ownIds]using hi))
theorem allR_len {hh:Nat→Option Obj}:∀ {cs:List C} {rs:List R},allR hh cs=some rs→rs.length=cs.length
 | [],rs,hr=>by simp[allR]at hr;subst hr;rfl
 |c::cs,rs,hr=>by
  simp only[allR]at hr
  split at hr
  ·rename_i e1 e2;cases hr;simp[allR_len e2]
  ·cases hr
section
variable {P:Program} {TT:Types} {w0 w:World} {O0 F0 F:Nat→Prop} {h:HF} {β:Nat→Value} {a:Act} {o:Oper} {K:Act→World→Prop} {Q:Exit→Act→World→Prop} {x:T} {v:Value}
theorem upd_drop_ne {l:List Nat} {i:Nat} (hi:i∉l) (h:HF):upd (dropIds l) h i=h i:=by
 simp[upd,look_dropIds,hi]
theorem op_store_arr (H:Inv w0 O0 F0 w F h β) (ht:TTok P TT) {hh:Nat→Option Obj} (hhh:∀i ob,hh i=some ob→h i=some (some ob)) {ty:TypeId} {ti:TI} {X Y:Operand} (ho:o.op = .store ty X Y) (hti:TT ty=some ti)
  {i sz k off:Nat} {t:TypeId} {n:Nat} {get:Nat→Nat→R} (hi:h i=some (some (.arr t sz n get))) {d:D}
  (hx:RepC w F h β (.eptr i sz k off) (a.eval X)) (hy:RepX a.tmps w F h β (.d d) (a.eval Y)) (hn:d.cells.length=ti.info.size) {rs:List R} (hrs:allR hh d.cells=some rs) (hfit:off+ti.info.size≤sz) (hni:i∉ownIds d.cells)
  (hK:∀v w',Out w0 O0 F0 w F h β a.tmps ((i,some (.arr t sz n (arrSetAll get k off rs)))::dropIds (ownIds d.cells)) .und v w'→K (a.put o.dst v) w'):o.wp P a w K Q:=by
 obtain⟨b,n',cap,h1,hkn,h2⟩:=hx.2.2 _ hi;have hyc:=RepD.cells hy;obtain⟨F1,H1,P1,hb1⟩:=H.freezes (ownIds d.cells) fun j hj=>RepD.pres hy j (ownIds_refs j hj);have hus:=allR_sound H hhh P1.sub hyc hrs fun j hj o b' h3 h4=>hb1 j (allR_refs hrs j hj) o b' h3 h4;have hi1:upd (dropIds (ownIds d.cells)) h i=some (some (.arr t sz n get)):=by rw[upd_drop_ne hni];exact hi
 have hn':n'=n:=by
  rcases H.obj _ _ hi with⟨ad,h3,h4⟩ | ⟨b',cap',cur,h3,_⟩
  ·rw[h1]at h3;cases h3;exact h4.symm
  ·rw[h1]at h3;cases h3;rfl
 subst hn';obtain⟨cur,h3,h4,H',P'⟩:=store_arr H1 hi1 h1 hkn hus (by rw[allR_len hrs,hn];exact hfit);have hl:=hyc.len;simp only[Array.length_toList]at hl h4 H' P';refine wp_skp (w':=w.setRow b (cur.toList.take (k*sz+off)++(a.eval Y).cells.toList++cur.toList.drop (k*sz+off+(a.eval Y).cells.size)).toArray) ?_ (hK _ _ ⟨F1,β,by rw[upd_cons];exact H',by rw[upd_cons];exact P1.trans P',rfl⟩);have hst:=run_storeVar_at (P:=P) (w:=w) ht hti (u:=a.eval Y) h3 (by omega) (by omega) (all_one hyc);simp only[execOp,ho,h2,Instr.storeAt,Instr.sureAddr,Sem.run_bind,Sem.run_pure,Result.andThen_ok,hst]
/-! ### filling -/
theorem fold_set (vs:List Value):∀(cells:Array Value) (off k:Nat),off+k+vs.length≤cells.size →
  ((vs.zipIdx k).foldl (fun cs (x:Value×Nat)=>cs.setIfInBounds (off+x.2) x.1) cells).toList=cells.toList.take (off+k)++vs++cells.toList.drop (off+k+vs.length):=by
 induction vs with
 |nil=>intro cells off k _;simp
 |cons u vs ih =>
  intro cells off k hl;simp only[length_cons]at hl;rw[List.zipIdx_cons,List.foldl_cons,ih _ _ _ (by simp;omega)];simp only[Array.toList_setIfInBounds,length_cons];rw[List.drop_set_of_lt (by omega),show off+k+(vs.length+1)=off+(k+1)+vs.length by omega]
  congr 1
  rw[show off+(k+1)=off+k+1 by omega,List.take_succ_eq_append_getElem (by simp;omega),List.take_set_of_le (Nat.le_refl _)];simp
theorem fill_step {place:Nat→Option (Nat×Nat)} {cells:Array Value} {i off size:Nat} {u:Value} {rest:List (Nat×Value)} (hp:place i=some (off,size)) (hs:u.cells.size=size) (hf:off+size≤cells.size) :
  ∃cells':Array Value,cells'.toList=cells.toList.take off++u.cells.toList++cells.toList.drop (off+size)∧Instr.fill place cells ((i,u)::rest)=Instr.fill place cells' rest:=by
 refine⟨u.cells.zipIdx.foldl (fun cs (c,j)=>cs.setIfInBounds (off+j) c) cells, ?_, ?_⟩
 ·have:=fold_set u.cells.toList cells off 0 (by simp;omega);simp only[Nat.add_zero,Array.length_toList,hs]at this;rw[← this,← Array.toList_zipIdx,Array.foldl_toList]
 ·simp only[Instr.fill,hp];rw[if_neg];simp only[Bool.or_eq_true,decide_eq_true_eq,not_or];omega
def szOf (TT:Types) (t:TypeId):Nat:=match TT t with | some ti=>ti.info.size | none=>0
theorem buildCells_sound {fs:Array Field}:∀ {ps:List (Nat×Operand)} {xs:List T} {cs cs':List C} {cells:Array Value},buildCells TT fs cs ps xs=some cs'→All2 (RepX a.tmps w F h β) xs (ps.map fun p=>a.eval p.2) →
  All2 (RepC w F h β) cs cells.toList→∃cells',Instr.fill (fun i=>((fs.map fun f=>(f.offset,szOf TT f.type))[i]?)) cells (ps.map fun p=>(p.1,a.eval p.2))=some cells'∧All2 (RepC w F h β) cs' cells'.toList
 | [],xs,cs,cs',cells,hb,hx,hc=>by
  cases hx
  simp[buildCells]at hb;subst hb;exact⟨cells,rfl,hc⟩
 | (i,Y)::ps,xs,cs,cs',cells,hb,hx,hc=>by
  cases hx with
  | @cons x _ xs _ h1 h2 =>
   cases x<;>simp only[buildCells]at hb<;>try cases hb
   rename_i x
   split at hb
   ·rename_i f hf
    split at hb
    ·rename_i ti hti
     split at hb
     ·rename_i e1 e2;have e1:=zB e1;have e2:f.offset+x.cells.length≤cs.length:=Nat.le_of_ble_eq_true e2;have hxc:=RepD.cells h1;have hl:=hxc.len;have hlc:=hc.len;simp only[Array.length_toList]at hl hlc;obtain⟨cells1,he1,he2⟩:=fill_step (place:=fun i=>((fs.map fun f=>(f.offset,szOf TT f.type))[i]?)) (cells:=cells) (i:=i) (off:=f.offset) (size:=ti.info.size) (u:=a.eval Y) (rest:=ps.map fun p=>(p.1,a.eval p.2))
       (by simp[hf,szOf,hti]) (by omega) (by omega)
      have hc1:All2 (RepC w F h β) (setCells cs f.offset x.cells) cells1.toList:=by
       rw[he1,setCells_eq _ _ _ e2,e1];exact((hc.take _).append hxc).append (hc.drop _)
      obtain⟨cells',h3,h4⟩:=buildCells_sound hb h2 hc1;exact⟨cells',by rw[List.map_cons,he2];exact h3,h4⟩
     ·cases hb
    ·cases hb
   ·cases hb
theorem run_places (ht:TTok P TT) (w:World):∀(fs:List Field),(∀f∈fs,(TT f.type).isSome=true)→(fs.mapM fun f=>do pure (f.offset,← sizeOf f.type):Sem (List (Nat×Nat))).run P w = .ok (fs.map fun f=>(f.offset,szOf TT f.type)) w
 | [],_=>rfl
 |f::fs,hall=>by
  have hf:=hall f (mem_cons_self ..)
  cases hti:TT f.type with
  |none=>simp[hti]at hf
  |some ti =>
   simp only[List.mapM_cons,Sem.run_bind,ht.run_size hti,Result.andThen_ok,Sem.run_pure,run_places ht w fs fun g hg=>hall g (mem_cons_of_mem _ hg),List.map_cons,szOf,hti]
theorem op_build (H:Inv w0 O0 F0 w F h β) (ht:TTok P TT) {ty:TypeId} {ti:TI} {ps:Array (Nat×Operand)} (ho:o.op = .build ty ps) (hti:TT ty=some ti) {fs:Array Field} (hfs:fieldsOf ti=some fs) {z:List C} (hz:zeroCells ti=some z)
  (hall:fs.toList.all (fun f=>(TT f.type).isSome)=true) {xs:List T} {cs:List C} (hb:buildCells TT fs z ps.toList xs=some cs) (hx:All2 (RepX a.tmps w F h β) xs (ps.toList.map fun p=>a.eval p.2))
  (hK:∀v w',Out w0 O0 F0 w F h β a.tmps [] (.d (.agg cs)) v w'→K (a.put o.dst v) w'):o.wp P a w K Q:=by
 obtain⟨zv,hz1,hz2⟩:=zeroCells_sound (w:=w) (F:=F) (h:=h) (β:=β) hz;obtain⟨cells',h1,h2⟩:=buildCells_sound (a:=a) hb hx hz2;refine op_quiet H (x := .d (.agg cs)) (v := .agg cells') ?_ ⟨cells',rfl,h2⟩ hK;have hd:=fieldsOf_some hfs;have hpl:(fs.mapM fun f=>do pure (f.offset,← sizeOf f.type):Sem (Array (Nat×Nat))).run P w = .ok (fs.map fun f=>(f.offset,szOf TT f.type)) w:=by
  rw[Array.mapM_eq_mapM_toList];simp only[Sem.run_map,run_places ht w fs.toList fun f hf=>all_eq_true.1 hall f hf,Result.andThen_ok]
  congr 1
  apply Array.ext'
  simp
 have hpar:(ps.map fun(i,x)=>(i,a.eval x)).toList=ps.toList.map fun p=>(p.1,a.eval p.2):=by simp
 simp only[execOp,ho,Instr.build,Sem.run_bind,ht.run_zero hti hz1,ht.run_under hti,hd,Result.andThen_ok,hpl,hpar,h1,Sem.run_pure]
end
end
/-
 Literals of slices,append,make,function values,the least and the greatest.
-/
noncomputable section
open Go
theorem seg_get (l us:List Value) (off idx:Nat) (hl:off+us.length≤l.length) :
  (l.take off++us++l.drop (off+us.length))[idx]? = if idx<off then l[idx]? else if idx<off+us.length then us[idx-off]? else l[idx]? := by
 by_cases h1:idx<off
 ·rw[if_pos h1,append_assoc,getElem?_append_left (by simp;omega),getElem?_take,if_pos h1]
 ·rw[if_neg h1]
  by_cases h2:idx<off+us.length
  ·rw[if_pos h2,append_assoc,getElem?_append_right (by simp;omega),getElem?_append_left (by simp;omega)]
   congr 1;simp;omega
  ·rw[if_neg h2,getElem?_append_right (by simp;omega),List.getElem?_drop]
   congr 1;simp;omega
section
variable {P:Program} {TT:Types} {w0 w:World} {O0 F0 F:Nat→Prop} {h:HF} {β:Nat→Value} {a:Act} {o:Oper} {K:Act→World→Prop} {Q:Exit→Act→World→Prop} {x:T} {v:Value}
def RowsIn (w:World) (F:Nat→Prop) (sz:Nat) (rows:List (List R)) (cells:Array Value):Prop :=
 cells.size=rows.length*sz∧∀i row,rows[i]? = some row→row.length=sz∧∀j r,row[j]? = some r→∃y,cells[i*sz+j]? = some y∧Ro w F r y
theorem rows_fit {sz i n:Nat} (hi:i<n):i*sz+sz≤n*sz:=by
 have:=Nat.mul_le_mul_right sz (show i+1≤n by omega);rw[Nat.add_mul]at this;omega
theorem sliceRows_sound (H:Inv w0 O0 F0 w F h β) {F':Nat→Prop} {hh:Nat→Option Obj} (hhh:∀i ob,hh i=some ob→h i=some (some ob)) (hF:∀b,F b→F' b) {sz:Nat} (hsz:0<sz) :
  ∀ {ps:List (Nat×Operand)} {xs:List T} {rows rows':List (List R)} {cells:Array Value},sliceRows hh sz rows ps xs=some rows'→All2 (RepX a.tmps w F h β) xs (ps.map fun p=>a.eval p.2) →
  (∀i∈xs.flatMap T.refs,∀o b,h i=some (some o)→Blk (β i) b→F' b)→RowsIn w F' sz rows cells →
  ∃cells',Instr.fill (fun i=>some (i*sz,sz)) cells (ps.map fun p=>(p.1,a.eval p.2))=some cells'∧RowsIn w F' sz rows' cells'∧rows'.length=rows.length
 | [],xs,rows,rows',cells,hb,hx,_,hc=>by
  cases hx
  simp[sliceRows]at hb;subst hb;exact⟨cells,rfl,hc,rfl⟩
 | (i,Y)::ps,xs,rows,rows',cells,hb,hx,hfr,hc=>by
  cases hx with
  | @cons x _ xs _ h1 h2 =>
   cases x<;>simp only[sliceRows]at hb<;>try cases hb
   rename_i x
   split at hb
   ·rename_i rs hrs
    split at hb
    ·rename_i e1 e2;have e1:=zB e1;have e2:i<rows.length:=by simpa using e2
     have hxc:=RepD.cells h1;have hro:=allR_sound H hhh hF hxc hrs fun k hk=>hfr k (by simp only[List.flatMap_cons,mem_append];exact .inl hk);have hl:=hro.len;simp only[Array.length_toList]at hl;have hfit:=rows_fit (sz:=sz) e2;have hcs:=hc.1;obtain⟨cells1,he1,he2⟩:=fill_step (place:=fun i=>some (i*sz,sz)) (cells:=cells) (i:=i) (off:=i*sz) (size:=sz) (u:=a.eval Y) (rest:=ps.map fun p=>(p.1,a.eval p.2)) rfl (by omega) (by omega);have hul:(a.eval Y).cells.toList.length=sz:=by simp;omega
     have hsz1:cells1.size=cells.size:=by
      have:=congrArg length he1;simp only[Array.length_toList,length_append,length_take,length_drop]at this;rw[this];simp at hul;omega
     have hget:∀idx,cells1[idx]? = if idx<i*sz then cells[idx]? else if idx<i*sz+sz then(a.eval Y).cells.toList[idx-i*sz]? else cells[idx]? := fun idx=>by
      have:=seg_get cells.toList (a.eval Y).cells.toList (i*sz) idx (by rw[hul];simp;omega);rw[hul,← he1]at this
      simpa using this
     have hc1:RowsIn w F' sz (rows.set i rs) cells1:=by
      refine⟨by rw[hsz1,hcs];simp,fun k row hk => ?_⟩;rw[List.getElem?_set]at hk
      by_cases hik:i=k
      ·subst hik;simp only[if_true,e2]at hk
       cases hk
       refine⟨e1,fun j r hj => ?_⟩;have hjl:j<sz:=by
        rcases Nat.lt_or_ge j sz with hj' | hj'
        ·exact hj'
        ·rw[getElem?_eq_none (by omega)]at hj;cases hj
       obtain⟨y,hy,hr⟩:=hro.get hj;refine⟨y, ?_,hr⟩;rw[hget,if_neg (by omega),if_pos (by omega),← hy]
       congr 1;omega
      ·rw[if_neg hik]at hk;obtain⟨g1,g2⟩:=hc.2 k row hk;refine⟨g1,fun j r hj => ?_⟩;have hjl:j<sz:=by
        rcases Nat.lt_or_ge j sz with hj' | hj'
        ·exact hj'
        ·rw[getElem?_eq_none (by omega)]at hj;cases hj
       obtain⟨y,hy,hr⟩:=g2 j r hj;refine⟨y, ?_,hr⟩;rw[hget]
       by_cases q1:k*sz+j<i*sz
       ·rw[if_pos q1];exact hy
       ·rw[if_neg q1]
        by_cases q2:k*sz+j<i*sz+sz
        ·exfalso;have:=lin_inj (k:=k) (k':=i) (j:=j) (j':=k*sz+j-i*sz) (sz:=sz) hjl (by omega) (by omega);exact hik this.1.symm
        ·rw[if_neg q2];exact hy
     obtain⟨cells',h3,h4,h5⟩:=sliceRows_sound H hhh hF hsz hb h2 (fun k hk=>hfr k (by simp only[List.flatMap_cons,mem_append];exact .inr hk)) hc1;exact⟨cells',by rw[List.map_cons,he2];exact h3,h4,by rw[h5];simp⟩
    ·cases hb
   ·cases hb
theorem allInts_get {k:IntKind}:∀ {rows:List (List R)} {l:List Int},allInts k rows=some l→∀(i:Nat) (row:List R),rows[i]? = some row→row=[.v (.int k (l.getD i 0))]
 | [],l,_,i,row,hi=>by simp at hi
 |r::rows,l,hl,i,row,hi=>by
  unfold allInts at hl
  split at hl
  ·rename_i e;cases e
  ·rename_i e
   cases e
   split at hl
   ·rename_i hk;have hk:_=_:=of_decide_eq_true hk;subst hk;simp only[Option.map_eq_some_iff]at hl;obtain⟨m,h1,rfl⟩:=hl
    cases i with
    |zero=>simp at hi;subst hi;rfl
    |succ i=>simp at hi;simpa using allInts_get h1 i row hi
   ·cases hl
  ·cases hl
theorem allStrs_get:∀ {rows:List (List R)} {l:List ByteArray},allStrs rows=some l→∀(i:Nat) (row:List R),rows[i]? = some row→row=[.v (.string (l.getD i (mk [])))]
 | [],l,_,i,row,hi=>by simp at hi
 |r::rows,l,hl,i,row,hi=>by
  unfold allStrs at hl
  split at hl
  ·rename_i e;cases e
  ·rename_i e
   cases e
   simp only[Option.map_eq_some_iff]at hl;obtain⟨m,h1,rfl⟩:=hl
   cases i with
   |zero=>simp at hi;subst hi;rfl
   |succ i=>simp at hi;simpa using allStrs_get h1 i row hi
  ·cases hl
theorem rowsGet_eq (desc:TypeDesc) (ez:List R) {rows:List (List R)} {i:Nat} {row:List R} (hi:rows[i]? = some row) {j:Nat} {r:R} (hj:row[j]? = some r):rowsGet desc ez rows i j=r:=by
 have gen:(rows.getD i ez).getD j z0=r:=by simp[getD,hi,hj]
 unfold rowsGet
 split
 ·rename_i k
  cases hl:allInts k rows with
  |some l =>
   have:=allInts_get hl i row hi;rw[this]at hj
   cases j with
   |zero=>simp at hj;exact hj
   |succ j=>simp at hj
  |none=>exact gen
 ·cases hl:allStrs rows with
  |some l =>
   have:=allStrs_get hl i row hi;rw[this]at hj
   cases j with
   |zero=>simp at hj;exact hj
   |succ j=>simp at hj
  |none=>exact gen
 ·exact gen
theorem repl_get {α:Type} (x:α):∀(n i:Nat),(repl x n)[i]? = if i<n then some x else none
 |0,i=>by simp[repl]
 |n+1,i=>by
  cases i with
  |zero=>simp[repl]
  |succ i=>simp only[repl,List.getElem?_cons_succ,repl_get x n i];simp
theorem repl_len {α:Type} (x:α):∀(n:Nat),(repl x n).length=n
 |0=>rfl
 |n+1=>by simp[repl,repl_len x n]
theorem refs_pres {tm:Array Value} {y:T} {u:Value} (hy:RepX tm w F h β y u) (hnw:∀s b d,y ≠ .when s b d):∀i∈y.refs,∃q,h i=some q:=by
 cases y with
 |d d=>exact RepD.pres hy
 |tup ds =>
  obtain⟨us,_,hh⟩:=hy;intro i hi;simp only[T.refs,List.mem_flatMap]at hi;obtain⟨d,hd,hi⟩:=hi;obtain⟨k,hk⟩:=List.getElem?_of_mem hd;obtain⟨u,_,hr⟩:=hh.get hk;exact RepD.pres hr i hi
 |when s b d=>exact absurd rfl (hnw s b d)
 |nilq n=>intro i hi;simp[T.refs]at hi
 |und=>intro i hi;simp[T.refs]at hi
 |unk=>intro i hi;simp[T.refs]at hi
theorem sliceRows_d {hh:Nat→Option Obj} {sz:Nat}:∀ {ps:List (Nat×Operand)} {xs:List T} {rows rows':List (List R)},sliceRows hh sz rows ps xs=some rows'→∀y∈xs,∃d,y = .d d
 | [],xs,rows,rows',hb=>by cases xs<;>simp[sliceRows]at hb ⊢
 | (i,Y)::ps,[],rows,rows',hb=>by simp
 | (i,Y)::ps,x::xs,rows,rows',hb=>by
  cases x<;>simp only[sliceRows]at hb<;>try cases hb
  rename_i x
  split at hb
  ·split at hb
   ·intro y hy;rcases List.mem_cons.1 hy with rfl | hy
    ·exact ⟨x,rfl⟩
    ·exact sliceRows_d hb y hy
   ·cases hb
  ·cases hb
theorem zero_rows {z:Value} (sz n:Nat) {zr:List R} (hzr:All2 (Ro w F) zr z.cells.toList) (hl:zr.length=sz) :
  RowsIn w F sz (repl zr n) ((Array.range (n*sz)).map (z.cells[· % z.cells.size]!)):=by
 have hzl:z.cells.size=sz:=by have:=hzr.len;simp at this;omega
 refine⟨by simp[repl_len],fun i row hi => ?_⟩;rw[repl_get]at hi
 split at hi
 ·rename_i hin
  cases hi
  refine⟨hl,fun j r hj => ?_⟩;have hjl:j<sz:=by
   rcases Nat.lt_or_ge j sz with hj' | hj'
   ·exact hj'
   ·rw[getElem?_eq_none (by omega)]at hj;cases hj
  obtain⟨y,hy,hr⟩:=hzr.get hj;refine⟨y, ?_,hr⟩;have hfit:=rows_fit (sz:=sz) hin;have hmod:(i*sz+j) % sz=j:=by rw[Nat.add_comm,Nat.add_mul_mod_self_right];exact Nat.mod_eq_of_lt hjl
  have hy':z.cells[j]? = some y:=by simpa using hy
  simp only[Array.getElem?_map];rw[show (Array.range (n*sz))[i*sz+j]? = some (i*sz+j)by rw[Array.getElem?_range,if_pos (by omega)]];simp only[Option.map_some,hzl,hmod];rw[getElem!_def,hy']
 ·cases hi
theorem op_buildSlice (H:Inv w0 O0 F0 w F h β) (ht:TTok P TT) {hh:Nat→Option Obj} (hhh:∀i ob,hh i=some ob→h i=some (some ob)) {ty e:TypeId} {ti ei:TI} {n:Nat} {ps:Array (Nat×Operand)} (ho:o.op = .buildSlice ty n ps)
  (hti:TT ty=some ti) (hd:ti.desc = .slice e) (hei:TT e=some ei) {z:List C} (hz:zeroCells ei=some z) {zr:List R} (hzr:allR (fun _=>none) z=some zr) (hl:zr.length=ei.info.size) (hpos:0<ei.info.size) (hbig:n*ei.info.size≤16777216)
  {xs:List T} {rows:List (List R)} (hb:sliceRows hh ei.info.size (repl zr n) ps.toList xs=some rows) (hx:All2 (RepX a.tmps w F h β) xs (ps.toList.map fun p=>a.eval p.2)) {s:Nat} (hs0:h s=none)
  (hK:∀v w',Out w0 O0 F0 w F h β a.tmps ((s,some (.arr e ei.info.size n (rowsGet ei.desc ti.ez rows)))::dropIds (xs.flatMap T.refs)) (.d (.one (.own s))) v w'→K (a.put o.dst v) w'):o.wp P a w K Q:=by
 obtain⟨zv,hz1,hz2⟩:=zeroCells_sound (w:=w) (F:=F) (h:=h) (β:=β) hz;have hds:=sliceRows_d hb;have hpres:∀i∈xs.flatMap T.refs,∃q,h i=some q:=fun i hi=>by
  obtain⟨y,hy,hi⟩:=List.mem_flatMap.1 hi;obtain⟨k,hk⟩:=List.getElem?_of_mem hy;obtain⟨u,_,hr⟩:=hx.get hk;obtain⟨d,rfl⟩:=hds y hy;exact refs_pres hr (fun _ _ _=>by simp) i hi
 obtain⟨F1,H1,P1,hb1⟩:=H.freezes (xs.flatMap T.refs) hpres;have hzro:All2 (Ro w F1) zr zv.cells.toList:=allR_sound H (hh:=fun _=>none) (fun _ _ hq=>by cases hq) P1.sub hz2 hzr (fun i hi=>by
  have:=allR_refs hzr i hi;have hmem:=ownIds_refs (cs:=z) i this;exfalso;rw[allR_none_own hzr]at *
  simp_all)
 obtain⟨cells',hf,hrows,hrl⟩:=sliceRows_sound (a:=a) H hhh P1.sub hpos hb hx hb1 (zero_rows ei.info.size n hzro hl);have hs1:upd (dropIds (xs.flatMap T.refs)) h s=none:=by
  rw[upd_drop_ne]
  ·exact hs0
  ·intro hm;obtain ⟨q,hq⟩:=hpres s hm;rw[hs0]at hq;cases hq
 have hn:rows.length=n:=by rw[hrl,repl_len]
 have T:=H1.new hs1 (.cells cells' e) (.arr e ei.info.size n (rowsGet ei.desc ti.ez rows)) (.slice (some ⟨w.heap.size,0,none⟩) n n) (fun b hb'=>by
   have hb':=Blk_slice.1 hb';simp only[blk]at hb';split at hb'
   ·cases hb'
   ·simpa using hb'.symm) (fun P=>by
   by_cases hn0:n=0
   ·exact .inl ⟨some ⟨w.heap.size,0,none⟩,by simp[setB,hn0],hn0⟩
   ·refine .inr ⟨w.heap.size,n,cells',by simp[setB],by omega, .new (heap_alloc_new w _),Nat.le_refl _, ?_, ?_,fun k hk j hj => ?_⟩
    ·have:n≤n*ei.info.size:=Nat.le_mul_of_pos_right n hpos;simp[maxLen];omega
    ·rw[hrows.1,hn]
    ·obtain ⟨row,hrow⟩:∃row,rows[k]? = some row:=⟨rows[k]'(by omega),zE _⟩;obtain⟨g1,g2⟩:=hrows.2 k row hrow;obtain⟨r,hr⟩:∃r,row[j]? = some r:=⟨row[j]'(by omega),zE _⟩;obtain⟨y,hy,hro⟩:=g2 j r hr;exact⟨y,hy,by rw[rowsGet_eq ei.desc ti.ez hrow hr];exact Ro.mono P.blocks P.sub hro⟩)
 refine wp_val (v := .slice (some ⟨w.heap.size,0,none⟩) n n) (w':=w.alloc (.cells cells' e)) ?_ (hK _ _ ⟨F1,_,by rw[upd_cons];exact T.1,by rw[upd_cons];exact P1.trans T.2,rfl,⟨some (.arr e ei.info.size n (rowsGet ei.desc ti.ez rows)),by rw[upd_cons];simp[setH]⟩,fun ob _=>by simp[setB]⟩);have hpar:(ps.map fun(i,x)=>(i,a.eval x)).toList=ps.toList.map fun p=>(p.1,a.eval p.2):=by simp
 have hbig':¬(n*ei.info.size > 2 ^ 24):=by omega
 simp only[execOp,ho,Instr.buildSlice,Sem.run_bind,ht.run_under hti,hd,Result.andThen_ok,ht.run_size hei,hbig',if_false,Sem.run_pure]
 by_cases hn0:n*ei.info.size=0
 ·simp only[hn0,if_true,Sem.run_bind,Sem.run_pure,Result.andThen_ok];rw[hn0]at hf;simp only[hpar];have e0:∀g:Nat→Value,(Array.range 0).map g=#[]:=fun g=>by simp
  rw[e0]at hf ⊢;simp only[hf,newRow,newObj,Sem.run_bind,Sem.run_pure];rfl
 ·simp only[hn0,if_false,Sem.run_bind,ht.run_zero hei hz1,Sem.run_pure,Result.andThen_ok,hpar,hf];rfl
end
end
end Go.Proofs.YtkhhclpkljikkaaDoor.Ev
