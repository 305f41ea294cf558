/-
  The table of the types that these functions use.
-/
import Derived.Test.YtmeiebnfmhddnaaGreatDoorProg
import Derived.Test.YtmeiebnfmhddnaaGreatDoorEv3
namespace Go.Proofs.YtmeiebnfmhddnaaGreatDoor.Ev
open Go
noncomputable section
abbrev ty3:Ty:=(.int .i64)
abbrev ty4:Ty := .bool
abbrev ty5:Ty:=(.int .u8)
abbrev ty9:Ty := .str
abbrev ty21:Ty:=(.int .i32)
abbrev ty22:Ty:=(.list (.int .u8))
abbrev ty23:Ty:=(.list (.struct (.pair .str .str)))
abbrev ty25:Ty:=(.struct (.pair .str (.list (.struct (.pair .str .str)))))
abbrev ty30:Ty:=(.list .str)
abbrev ty35:Ty:=(.struct (.pair (.int .i64) (.pair (.int .i64) .str)))
abbrev ty40:Ty:=(.list (.struct (.pair (.int .i64) (.pair (.int .i64) .str))))
abbrev ty63:Ty:=(.struct (.pair .str .str))
abbrev ty68:Ty:=(.list (.int .i64))
abbrev ty79:Ty:=(.ref (.struct (.pair (.list (.int .u8)) (.int .i64))))
abbrev ty100:Ty:=(.ref (.struct (.pair (.struct (.pair .str (.list (.struct (.pair .str .str))))) (.pair .str (.map (.struct (.pair .str (.pair (.int .i64) (.int .i64)))) (.int .i64))))))
abbrev ty101:Ty:=(.map (.struct (.pair .str (.pair (.int .i64) (.int .i64)))) (.int .i64))
abbrev ty103:Ty:=(.struct (.pair (.struct (.pair .str (.list (.struct (.pair .str .str))))) (.pair .str (.map (.struct (.pair .str (.pair (.int .i64) (.int .i64)))) (.int .i64)))))
abbrev ty106:Ty:=(.struct (.pair .str (.pair (.int .i64) (.int .i64))))
abbrev ty107:Ty:=(.list (.list (.int .i64)))
abbrev ty109:Ty:=(.list (.list (.list (.int .i64))))
abbrev ty120:Ty:=(.struct (.pair (.list (.int .u8)) (.int .i64)))
abbrev ty137:Ty:=(.list .tree)
abbrev ty139:Ty := .tree
abbrev ty159:Ty:=(.int .u64)
abbrev ty173:Ty:=(.int .u32)
abbrev ty176:Ty:=(.int .u64)
abbrev ty181:Ty:=(.int .i64)
abbrev ty192:Ty:=(.int .u64)
abbrev ty196:Ty:=(.ref (.int .i64))
abbrev ty203:Ty:=(.ref (.int .u64))
def ttList:List (Nat×TI):=[(3,⟨Tryz.t3,Tryz.t3.desc,[],some ty3⟩),
 (4,⟨Tryz.t4,Tryz.t4.desc,[],some ty4⟩),
 (5,⟨Tryz.t5,Tryz.t5.desc,[],some ty5⟩),
 (9,⟨Tryz.t9,Tryz.t9.desc,[],some ty9⟩),
 (21,⟨Tryz.t21,Tryz.t21.desc,[],some ty21⟩),
 (22,⟨Tryz.t22,Tryz.t22.desc,[.v (.int .u8 0)],some ty22⟩),
 (23,⟨Tryz.t23,Tryz.t23.desc,[.v (.string (mk [])), .v (.string (mk []))],some ty23⟩),
 (25,⟨Tryz.t25,Tryz.t24.desc,[],some ty25⟩),
 (30,⟨Tryz.t30,Tryz.t30.desc,[.v (.string (mk []))],some ty30⟩),
 (35,⟨Tryz.t35,Tryz.t34.desc,[],some ty35⟩),
 (40,⟨Tryz.t40,Tryz.t40.desc,[.v (.int .i64 0), .v (.int .i64 0), .v (.string (mk []))],some ty40⟩),
 (61,⟨Tryz.t61,Tryz.t61.desc,[],none⟩),
 (63,⟨Tryz.t63,Tryz.t62.desc,[],some ty63⟩),
 (68,⟨Tryz.t68,Tryz.t68.desc,[.v (.int .i64 0)],some ty68⟩),
 (79,⟨Tryz.t79,Tryz.t79.desc,[],some ty79⟩),
 (100,⟨Tryz.t100,Tryz.t100.desc,[],some ty100⟩),
 (101,⟨Tryz.t101,Tryz.t101.desc,[],some ty101⟩),
 (103,⟨Tryz.t103,Tryz.t102.desc,[],some ty103⟩),
 (106,⟨Tryz.t106,Tryz.t105.desc,[],some ty106⟩),
 (107,⟨Tryz.t107,Tryz.t107.desc,[],some ty107⟩),
 (109,⟨Tryz.t109,Tryz.t108.desc,[],some ty109⟩),
 (120,⟨Tryz.t120,Tryz.t119.desc,[],some ty120⟩),
 (127,⟨Tryz.t127,Tryz.t127.desc,[],none⟩),
 (137,⟨Tryz.t137,Tryz.t137.desc,[],some ty137⟩),
 (139,⟨Tryz.t139,Tryz.t138.desc,[],some ty139⟩),
 (152,⟨Tryz.t152,Tryz.t151.desc,[],none⟩),
 (156,⟨Tryz.t156,Tryz.t156.desc,[],none⟩),
 (159,⟨Tryz.t159,Tryz.t159.desc,[],some ty159⟩),
 (173,⟨Tryz.t173,Tryz.t173.desc,[],some ty173⟩),
 (176,⟨Tryz.t176,Tryz.t176.desc,[],some ty176⟩),
 (181,⟨Tryz.t181,Tryz.t3.desc,[],some ty181⟩),
 (192,⟨Tryz.t192,Tryz.t176.desc,[],some ty192⟩),
 (196,⟨Tryz.t196,Tryz.t196.desc,[],some ty196⟩),
 (203,⟨Tryz.t203,Tryz.t203.desc,[],some ty203⟩)]
def tt:Types:=look ttList
theorem ttOk:TTok Tryz.prog tt:=TTok.of (l:=ttList) ⟨
 ⟨(by kernel_rfl),(by kernel_rfl),fun _ h=>(by cases h)⟩,
 ⟨(by kernel_rfl),(by kernel_rfl),fun _ h=>(by cases h)⟩,
 ⟨(by kernel_rfl),(by kernel_rfl),fun _ h=>(by cases h)⟩,
 ⟨(by kernel_rfl),(by kernel_rfl),fun _ h=>(by cases h)⟩,
 ⟨(by kernel_rfl),(by kernel_rfl),fun _ h=>(by cases h)⟩,
 ⟨(by kernel_rfl),(by kernel_rfl),fun _ h=>(by cases h)⟩,
 ⟨(by kernel_rfl),(by kernel_rfl),fun _ h=>(by cases h)⟩,
 ⟨(by kernel_rfl),(by kernel_rfl),fun _ _=>⟨Tryz.stoodInHeld25,Tryz.eqGuardType25⟩⟩,
 ⟨(by kernel_rfl),(by kernel_rfl),fun _ h=>(by cases h)⟩,
 ⟨(by kernel_rfl),(by kernel_rfl),fun _ _=>⟨Tryz.stoodInHeld35,Tryz.eqGuardType35⟩⟩,
 ⟨(by kernel_rfl),(by kernel_rfl),fun _ h=>(by cases h)⟩,
 ⟨(by kernel_rfl),(by kernel_rfl),fun _ h=>(by cases h)⟩,
 ⟨(by kernel_rfl),(by kernel_rfl),fun _ _=>⟨Tryz.stoodInHeld63,Tryz.eqGuardType63⟩⟩,
 ⟨(by kernel_rfl),(by kernel_rfl),fun _ h=>(by cases h)⟩,
 ⟨(by kernel_rfl),(by kernel_rfl),fun _ h=>(by cases h)⟩,
 ⟨(by kernel_rfl),(by kernel_rfl),fun _ h=>(by cases h)⟩,
 ⟨(by kernel_rfl),(by kernel_rfl),fun _ h=>(by cases h)⟩,
 ⟨(by kernel_rfl),(by kernel_rfl),fun _ _=>⟨Tryz.stoodInHeld103,Tryz.eqGuardType103⟩⟩,
 ⟨(by kernel_rfl),(by kernel_rfl),fun _ _=>⟨Tryz.stoodInHeld106,Tryz.eqGuardType106⟩⟩,
 ⟨(by kernel_rfl),(by kernel_rfl),fun _ h=>(by cases h)⟩,
 ⟨(by kernel_rfl),(by kernel_rfl),fun _ h=>(by cases h)⟩,
 ⟨(by kernel_rfl),(by kernel_rfl),fun _ _=>⟨Tryz.stoodInHeld120,Tryz.eqGuardType120⟩⟩,
 ⟨(by kernel_rfl),(by kernel_rfl),fun _ h=>(by cases h)⟩,
 ⟨(by kernel_rfl),(by kernel_rfl),fun _ h=>(by cases h)⟩,
 ⟨(by kernel_rfl),(by kernel_rfl),fun _ _=>⟨Tryz.stoodInHeld139,Tryz.eqGuardType139⟩⟩,
 ⟨(by kernel_rfl),(by kernel_rfl),fun _ h=>(by cases h)⟩,
 ⟨(by kernel_rfl),(by kernel_rfl),fun _ h=>(by cases h)⟩,
 ⟨(by kernel_rfl),(by kernel_rfl),fun _ h=>(by cases h)⟩,
 ⟨(by kernel_rfl),(by kernel_rfl),fun _ h=>(by cases h)⟩,
 ⟨(by kernel_rfl),(by kernel_rfl),fun _ h=>(by cases h)⟩,
 ⟨(by kernel_rfl),(by kernel_rfl),fun _ h=>(by cases h)⟩,
 ⟨(by kernel_rfl),(by kernel_rfl),fun _ h=>(by cases h)⟩,
 ⟨(by kernel_rfl),(by kernel_rfl),fun _ h=>(by cases h)⟩,
 ⟨(by kernel_rfl),(by kernel_rfl),fun _ h=>(by cases h)⟩,
 trivial⟩
def cxOf (Γ:List (Nat×Con)) (size:Nat) (heads ends:List (Nat×List Nat)) (nils:List (Nat×List (Nat×TypeId×Ty))) (loops:List (Nat×(St→Cont→Option Fin))):Cx:=⟨tt,look Γ,size,heads,ends,[],nils,look loops⟩
def Cx.parted (cx:Cx) (l:List Nat):Cx:={ cx with parts:=l }
theorem mixed:Tryz.prog.follows .mixedOrders=true:=by kernel_rfl
def bodyOf (fn:Func):Code:=match fn.body with | some c=>c | none => .skip
def loopOf (fn:Func) (k:Nat):Code:=match (loopsOf (bodyOf fn))[k]? with | some (_,b)=>b | none => .skip
abbrev LpL:=List (Nat×(St→Cont→Option Fin))
abbrev LoopsTo (g:St→Cont→Option Fin) (cb:Cx) (body:Code) (id:Nat) (L:LpL):Prop:=∀st K r,g st K=some r→∃N,iter (evC (cb.withLoops (look L)) body) (headAt (cb.withLoops (look L)) id) N st K=some r
abbrev GL:=List (Nat×Con)
abbrev GO (l:GL):Prop:=EnvOk Tryz.prog (look l)
abbrev pA:T := .d (.one (.ptr 500000 0))
abbrev pB:T := .d (.one (.ptr 500001 0))
abbrev oA:T := .d (.one (.own 500000))
abbrev oB:T := .d (.one (.own 500001))
abbrev oC:T := .d (.one (.own 500002))
abbrev oD:T := .d (.one (.own 500003))
def Γ0:List (Nat×Con):=[]
theorem Γ0ok:EnvOk Tryz.prog (look Γ0) := .nil
abbrev no:Option Fin:=some (.d (ofD .bool false),[])
end
end Go.Proofs.YtmeiebnfmhddnaaGreatDoor.Ev
