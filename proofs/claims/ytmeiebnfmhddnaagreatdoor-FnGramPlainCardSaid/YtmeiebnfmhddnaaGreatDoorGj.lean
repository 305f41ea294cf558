/-
  The table of the types that these functions use.
-/
import Derived.Test.YtmeiebnfmhddnaaGreatDoorProg
import Derived.Test.YtmeiebnfmhddnaaGreatDoorEv3
import Derived.Sort.AssemblyPlain
namespace Go.Proofs.YtmeiebnfmhddnaaGreatDoor.Ev
open Go
open List (length length_append length_cons length_singleton length_replicate length_set length_take length_drop mem_cons_of_mem mem_cons_self getD replicate mem_append_left mem_append_right all_eq_true drop_eq_getElem_cons drop_eq_nil_of_le append_assoc mem_singleton getElem?_append_left getElem?_append_right getElem?_eq_none getElem?_take mem_append)
noncomputable section
abbrev ty3:Ty:=(.int .i64)
abbrev ty4:Ty := .bool
abbrev ty5:Ty:=(.int .u8)
abbrev ty9:Ty := .str
abbrev ty21:Ty:=(.int .i32)
abbrev ty22:Ty:=(.list (.int .u8))
abbrev ty23:Ty:=(.list (.struct (.pair .str .str)))
abbrev ty25:Ty:=(.struct (.pair .str (.list (.struct (.pair .str .str)))))
abbrev ty30:Ty:=(.list .str)
abbrev ty63:Ty:=(.struct (.pair .str .str))
abbrev ty68:Ty:=(.list (.int .i64))
abbrev ty79:Ty:=(.ref (.struct (.pair (.list (.int .u8)) (.int .i64))))
abbrev ty93:Ty:=(.ref (.struct (.pair .str (.list (.struct (.pair .str .str))))))
abbrev ty106:Ty:=(.struct (.pair .str (.pair (.int .i64) (.int .i64))))
abbrev ty111:Ty:=(.ref (.struct (.pair (.struct (.pair .str (.list (.struct (.pair .str .str))))) (.pair .str (.map (.struct (.pair .str (.pair (.int .i64) (.int .i64)))) .bool)))))
abbrev ty120:Ty:=(.struct (.pair (.list (.int .u8)) (.int .i64)))
abbrev ty137:Ty:=(.list .tree)
abbrev ty139:Ty := .tree
abbrev ty144:Ty:=(.map (.struct (.pair .str (.pair (.int .i64) (.int .i64)))) .bool)
abbrev ty146:Ty:=(.struct (.pair (.struct (.pair .str (.list (.struct (.pair .str .str))))) (.pair .str (.map (.struct (.pair .str (.pair (.int .i64) (.int .i64)))) .bool))))
abbrev ty159:Ty:=(.int .u64)
abbrev ty173:Ty:=(.int .u32)
abbrev ty176:Ty:=(.int .u64)
abbrev ty181:Ty:=(.int .i64)
abbrev ty192:Ty:=(.int .u64)
abbrev ty196:Ty:=(.ref (.int .i64))
abbrev ty203:Ty:=(.ref (.int .u64))
def ttList:List (Nat×TI):=[(3,⟨Tryz.t3,Tryz.t3.desc,[],some ty3⟩),
 (4,⟨Tryz.t4,Tryz.t4.desc,[],some ty4⟩),
 (5,⟨Tryz.t5,Tryz.t5.desc,[],some ty5⟩),
 (9,⟨Tryz.t9,Tryz.t9.desc,[],some ty9⟩),
 (21,⟨Tryz.t21,Tryz.t21.desc,[],some ty21⟩),
 (22,⟨Tryz.t22,Tryz.t22.desc,[.v (.int .u8 0)],some ty22⟩),
 (23,⟨Tryz.t23,Tryz.t23.desc,[.v (.string (mk [])), .v (.string (mk []))],some ty23⟩),
 (25,⟨Tryz.t25,Tryz.t24.desc,[],some ty25⟩),
 (30,⟨Tryz.t30,Tryz.t30.desc,[.v (.string (mk []))],some ty30⟩),
 (61,⟨Tryz.t61,Tryz.t61.desc,[],none⟩),
 (63,⟨Tryz.t63,Tryz.t62.desc,[],some ty63⟩),
 (68,⟨Tryz.t68,Tryz.t68.desc,[.v (.int .i64 0)],some ty68⟩),
 (79,⟨Tryz.t79,Tryz.t79.desc,[],some ty79⟩),
 (93,⟨Tryz.t93,Tryz.t93.desc,[],some ty93⟩),
 (106,⟨Tryz.t106,Tryz.t105.desc,[],some ty106⟩),
 (111,⟨Tryz.t111,Tryz.t111.desc,[],some ty111⟩),
 (120,⟨Tryz.t120,Tryz.t119.desc,[],some ty120⟩),
 (127,⟨Tryz.t127,Tryz.t127.desc,[],none⟩),
 (135,⟨Tryz.t135,Tryz.t135.desc,[],none⟩),
 (137,⟨Tryz.t137,Tryz.t137.desc,[],some ty137⟩),
 (139,⟨Tryz.t139,Tryz.t138.desc,[],some ty139⟩),
 (144,⟨Tryz.t144,Tryz.t144.desc,[],some ty144⟩),
 (146,⟨Tryz.t146,Tryz.t145.desc,[],some ty146⟩),
 (152,⟨Tryz.t152,Tryz.t151.desc,[],none⟩),
 (156,⟨Tryz.t156,Tryz.t156.desc,[],none⟩),
 (159,⟨Tryz.t159,Tryz.t159.desc,[],some ty159⟩),
 (173,⟨Tryz.t173,Tryz.t173.desc,[],some ty173⟩),
 (176,⟨Tryz.t176,Tryz.t176.desc,[],some ty176⟩),
 (181,⟨Tryz.t181,Tryz.t3.desc,[],some ty181⟩),
 (192,⟨Tryz.t192,Tryz.t176.desc,[],some ty192⟩),
 (196,⟨Tryz.t196,Tryz.t196.desc,[],some ty196⟩),
 (203,⟨Tryz.t203,Tryz.t203.desc,[],some ty203⟩)]
def tt:Types:=look ttList
theorem ttOk:TTok Tryz.prog tt:=TTok.of (l:=ttList) ⟨
 ⟨(by kernel_rfl),(by kernel_rfl),fun _ h=>(by cases h)⟩,
 ⟨(by kernel_rfl),(by kernel_rfl),fun _ h=>(by cases h)⟩,
 ⟨(by kernel_rfl),(by kernel_rfl),fun _ h=>(by cases h)⟩,
 ⟨(by kernel_rfl),(by kernel_rfl),fun _ h=>(by cases h)⟩,
 ⟨(by kernel_rfl),(by kernel_rfl),fun _ h=>(by cases h)⟩,
 ⟨(by kernel_rfl),(by kernel_rfl),fun _ h=>(by cases h)⟩,
 ⟨(by kernel_rfl),(by kernel_rfl),fun _ h=>(by cases h)⟩,
 ⟨(by kernel_rfl),(by kernel_rfl),fun _ _=>⟨Tryz.stoodInHeld25,Tryz.eqGuardType25⟩⟩,
 ⟨(by kernel_rfl),(by kernel_rfl),fun _ h=>(by cases h)⟩,
 ⟨(by kernel_rfl),(by kernel_rfl),fun _ h=>(by cases h)⟩,
 ⟨(by kernel_rfl),(by kernel_rfl),fun _ _=>⟨Tryz.stoodInHeld63,Tryz.eqGuardType63⟩⟩,
 ⟨(by kernel_rfl),(by kernel_rfl),fun _ h=>(by cases h)⟩,
 ⟨(by kernel_rfl),(by kernel_rfl),fun _ h=>(by cases h)⟩,
 ⟨(by kernel_rfl),(by kernel_rfl),fun _ h=>(by cases h)⟩,
 ⟨(by kernel_rfl),(by kernel_rfl),fun _ _=>⟨Tryz.stoodInHeld106,Tryz.eqGuardType106⟩⟩,
 ⟨(by kernel_rfl),(by kernel_rfl),fun _ h=>(by cases h)⟩,
 ⟨(by kernel_rfl),(by kernel_rfl),fun _ _=>⟨Tryz.stoodInHeld120,Tryz.eqGuardType120⟩⟩,
 ⟨(by kernel_rfl),(by kernel_rfl),fun _ h=>(by cases h)⟩,
 ⟨(by kernel_rfl),(by kernel_rfl),fun _ h=>(by cases h)⟩,
 ⟨(by kernel_rfl),(by kernel_rfl),fun _ h=>(by cases h)⟩,
 ⟨(by kernel_rfl),(by kernel_rfl),fun _ _=>⟨Tryz.stoodInHeld139,Tryz.eqGuardType139⟩⟩,
 ⟨(by kernel_rfl),(by kernel_rfl),fun _ h=>(by cases h)⟩,
 ⟨(by kernel_rfl),(by kernel_rfl),fun _ _=>⟨Tryz.stoodInHeld146,Tryz.eqGuardType146⟩⟩,
 ⟨(by kernel_rfl),(by kernel_rfl),fun _ h=>(by cases h)⟩,
 ⟨(by kernel_rfl),(by kernel_rfl),fun _ h=>(by cases h)⟩,
 ⟨(by kernel_rfl),(by kernel_rfl),fun _ h=>(by cases h)⟩,
 ⟨(by kernel_rfl),(by kernel_rfl),fun _ h=>(by cases h)⟩,
 ⟨(by kernel_rfl),(by kernel_rfl),fun _ h=>(by cases h)⟩,
 ⟨(by kernel_rfl),(by kernel_rfl),fun _ h=>(by cases h)⟩,
 ⟨(by kernel_rfl),(by kernel_rfl),fun _ h=>(by cases h)⟩,
 ⟨(by kernel_rfl),(by kernel_rfl),fun _ h=>(by cases h)⟩,
 ⟨(by kernel_rfl),(by kernel_rfl),fun _ h=>(by cases h)⟩,
 trivial⟩
def cxOf (Γ:List (Nat×Con)) (size:Nat) (heads ends:List (Nat×List Nat)) (nils:List (Nat×List (Nat×TypeId×Ty))) (loops:List (Nat×(St→Cont→Option Fin))):Cx:=⟨tt,look Γ,size,heads,ends,[],nils,look loops⟩
def Cx.parted (cx:Cx) (l:List Nat):Cx:={ cx with parts:=l }
theorem mixed:Tryz.prog.follows .mixedOrders=true:=by kernel_rfl
def bodyOf (fn:Func):Code:=match fn.body with | some c=>c | none => .skip
def loopOf (fn:Func) (k:Nat):Code:=match (loopsOf (bodyOf fn))[k]? with | some (_,b)=>b | none => .skip
abbrev LpL:=List (Nat×(St→Cont→Option Fin))
abbrev LoopsTo (g:St→Cont→Option Fin) (cb:Cx) (body:Code) (id:Nat) (L:LpL):Prop:=∀st K r,g st K=some r→∃N,iter (evC (cb.withLoops (look L)) body) (headAt (cb.withLoops (look L)) id) N st K=some r
abbrev GL:=List (Nat×Con)
abbrev GO (l:GL):Prop:=EnvOk Tryz.prog (look l)
abbrev kp0:T := .d (.one (.ptr 500000 0))
abbrev kp1:T := .d (.one (.ptr 500001 0))
abbrev ko0:T := .d (.one (.own 500000))
abbrev ko1:T := .d (.one (.own 500001))
abbrev ko2:T := .d (.one (.own 500002))
def Γ0:List (Nat×Con):=[]
theorem Γ0ok:EnvOk Tryz.prog (look Γ0) := .nil
abbrev no:Option Fin:=some (.d (ofD .bool false),[])
abbrev TI64:Ty := .int .i64
abbrev Str:Type:=List UInt8
def isB:R→Bool
 | .v (.bool _)=>true
 |_=>false
def theB:R→Bool
 | .v (.bool b)=>b
 |_=>false
def boolsB (get:Nat→R):Bool:=(List.range 256).all fun i=>isB (get i)
def ropB (p:Nat→Bool):R := .rop 256 fun i => .v (.bool (p i))
abbrev arg1 (r:R):D := .one (.r r)
theorem bools_at {get:Nat→R} (h:boolsB get=true) {i:Nat} (hi:i<256):get i = .v (.bool (theB (get i))):=by
 have h1:=all_eq_true.1 h i (List.mem_range.2 hi)
 generalize get i=r at h1 ⊢
 unfold isB at h1
 split at h1
 ·rfl
 ·cases h1
theorem rop_bools {w:World} {F:Nat→Prop} {h:HF} {β:Nat→Value} {m:Nat} {get:Nat→R} {u:Value} (hb:(Nat.beq m 256&&boolsB get)=true) (hr:RepD w F h β (arg1 (.rop m get)) u):RepD w F h β (arg1 (ropB fun i=>theB (get i))) u:=by
 simp only[Bool.and_eq_true]at hb;have:=zB hb.1;subst this;obtain⟨b,off,h1,h2,h3⟩:=hr;refine⟨b,off,h1,h2,fun j hj => ?_⟩;obtain⟨y,g1,g2⟩:=h3 j hj;exact⟨y,g1,by rw[bools_at hb.2 hj]at g2;exact g2⟩
theorem y_asciiHas (p:Nat→Bool) (n:Int):evFn (cxOf Γ0 Tryz.f159.ntmps [] [] [] []) Tryz.f159 true [arg1 (ropB p),ofD (.int .u8) n] []=need (inb n 256) (some (.d (ofD .bool (p (n.toNat*1+0))),[])):=by kernel_rfl
theorem s_asciiHas (p:Nat→Bool) (n:Int) (h0:0≤n) (h1:n<256):Sat Tryz.prog 159 [arg1 (ropB p),ofD (.int .u8) n] [] (.d (ofD .bool (p n.toNat))) [] :=
 fn_sound (cx:=cxOf Γ0 Tryz.f159.ntmps [] [] [] []) Tryz.func159 rfl ttOk Γ0ok mixed (fun c hc=>LoopsOk.nil (by cases hc;kernel_rfl)) (ro:=true) (by
  rw[y_asciiHas,inb_ok h0 (by omega),Nat.mul_one,Nat.add_zero];rfl)
def c_strings_asciiSet_contains:Con:=⟨true,fun ds os=>match ds,os with
 | [.one (.r (.rop m get)), .one (.r (.v (.int .u8 n)))],[]=>some (some (Nat.beq m 256&&boolsB get), .d (ofD .bool (theB (get n.toNat))),[])
 |_,_=>none⟩
theorem k_strings_asciiSet_contains:ConOk Tryz.prog 159 c_strings_asciiSet_contains:=by
 refine⟨Tryz.call159,fun ds os c x objs hc hok => ?_⟩;unfold c_strings_asciiSet_contains at hc;dsimp only at hc
 split at hc
 ·rename_i m get n
  cases hc
  rcases hok with h | h
  ·cases h
  ·have hb:=Option.some.inj h;intro w F β args H hds
   cases hds with | cons g1 g2=>cases g2 with | cons g2 g3 =>
   have hf:=RepD_fit (t := .int .u8) (x:=n) g2;have hf:IntKind.u8.wrap n=n:=hf;rw[IntKind.wrap_u8]at hf;exact s_asciiHas (fun i=>theB (get i)) n (by omega) (by omega) w F β _ H (.cons (rop_bools hb g1) (.cons g2 g3))
 ·cases hc
def Γ1:GL:=(159,c_strings_asciiSet_contains)::Γ0
theorem Γ1ok:GO Γ1 := .cons k_strings_asciiSet_contains Γ0ok
abbrev W64 (n:Int):Int:=IntKind.i64.wrap n
def hasB (get:Nat→R) (c:UInt8):Bool:=theB (get c.toNat)
def trimR (p:UInt8→Bool) (s:List UInt8):List UInt8:=(s.reverse.dropWhile p).reverse
def trimL (p:UInt8→Bool) (s:List UInt8):List UInt8:=s.dropWhile p
def g_trim (f:(UInt8→Bool)→List UInt8→List UInt8) (st:St) (K:Cont):Option Fin:=match st with
 | ⟨[(0,x0),(1, .d (.one (.r (.rop m get))))],[]⟩=>match exS x0 with
  |some s=>need (Nat.ble s.length 9223372036854775807) (need (Nat.beq m 256&&boolsB get) (K (.exit 0) ⟨[(0,vS (f (hasB get) s))],[]⟩))
  |none=>none
 |_=>none
theorem trim_loop {f:(UInt8→Bool)→List UInt8→List UInt8} {F:St→Cont→Option Fin} {head:St→St}
  (h:∀(N:Nat) (s:List UInt8) (get:Nat→R) (K:Cont) (r:Fin),s.length<N→s.length≤9223372036854775807→boolsB get=true→K (.exit 0) ⟨[(0,vS (f (hasB get) s))],[]⟩=some r→iter F head N ⟨[(0,vS s),(1, .d (arg1 (.rop 256 get)))],[]⟩ K=some r) :
  ∀st K r,g_trim f st K=some r→∃N,iter F head N st K=some r:=by
 intro st K r hg;unfold g_trim at hg
 split at hg
 ·split at hg
  ·rename_i s hs;rw[need_some,need_some,Nat.ble_eq,Bool.and_eq_true]at hg;obtain⟨h0,⟨h1,h2⟩,h3⟩:=hg;have:=zB h1;subst this;rw[exS_some hs];exact⟨_,h _ s _ K r (Nat.lt_succ_self _) h0 h2 h3⟩
  ·cases hg
 ·cases hg
theorem byteAt_0 (c:UInt8) (s:List UInt8):(byteAt (c::s) 0).toNat=c.toNat:=rfl
def cx_trimLeftASCII:Cx:=cxOf Γ1 Tryz.f142.ntmps [(1,[0,1])] [(0,[0]),(1,[0,1])] [] [(1,g_trim trimL)]
theorem x_trimLeftASCII (s:Str) (get:Nat→R) (R:St→Option Fin) (K:Cont):evC cx_trimLeftASCII (loopOf Tryz.f142 0) ⟨[(0,vS s),(1, .d (arg1 (.rop 256 get)))],[]⟩ (onward (headAt cx_trimLeftASCII 1) R K) =
  branch (decide ((0:Int)<(s.length:Int))) (need (inb 0 s.length) <| need (Nat.beq 256 256&&boolsB get) <| branch (!theB (get (byteAt s 0).toNat)) (K (.exit 0) ⟨[(0,vS s)],[]⟩)
   (need (inr 1 (s.length:Int) s.length) <| R ⟨[(0,vS (List.take ((s.length:Int).toNat-(1:Int).toNat) (List.drop (1:Int).toNat s))),(1, .d (arg1 (.rop 256 get)))],[]⟩))
  (K (.exit 0) ⟨[(0,vS s)],[]⟩):=by kernel_rfl
theorem l_trimLeftASCII:∀st K r,g_trim trimL st K=some r→∃N,iter (evC cx_trimLeftASCII (loopOf Tryz.f142 0)) (headAt cx_trimLeftASCII 1) N st K=some r:=by
 refine trim_loop fun N => ?_
 induction N with
 |zero=>intro s get K r hN;omega
 |succ N ih =>
  intro s get K r hN hl hb hr;rw[iter_succ,x_trimLeftASCII]
  cases s with
  |nil=>exact hr
  |cons c s =>
   have hi:inr 1 ((c::s).length:Int) (c::s).length=true:=zT ⟨by omega,by simp;omega,by omega⟩;rw[zT (by simp:(0:Int)<((c::s).length:Int)),branch_true,inb_ok (by omega) (by simp),hb,hi,byteAt_0];simp only[need,branch_true,Nat.beq_refl,Bool.true_and,Int.toNat_natCast];have hd:trimL (hasB get) (c::s)=bif hasB get c then trimL (hasB get) s else c::s:=by unfold trimL;rw[List.dropWhile_cons];cases hasB get c<;>rfl
   rw[hd]at hr;unfold hasB at hr
   cases hc:theB (get c.toNat)
   ·rw[hc]at hr;exact hr
   ·rw[hc]at hr;rw[Bool.not_true,branch_false];have e:List.take ((c::s).length-(1:Int).toNat) (List.drop (1:Int).toNat (c::s))=s:=by simp
    rw[e];exact ih s get K r (by simp at hN;omega) (by simp at hl;omega) hb hr
theorem y_trimLeftASCII (s:Str) (p:Nat→Bool):evFn cx_trimLeftASCII Tryz.f142 true [ofD .str s,arg1 (ropB p)] []=need (Nat.ble s.length 9223372036854775807) (some (.d (ofD .str (trimL (hasB fun i => .v (.bool (p i))) s)),[])):=by kernel_rfl
theorem s_trimLeftASCII (s:Str) (p:Nat→Bool) (hs:s.length≤9223372036854775807):Sat Tryz.prog 142 [ofD .str s,arg1 (ropB p)] [] (.d (ofD .str (trimL (fun c=>p c.toNat) s))) [] :=
 fn_sound (cx:=cx_trimLeftASCII) Tryz.func142 rfl ttOk Γ1ok mixed (fun c hc=>LoopsOk.one (b:=loopOf Tryz.f142 0) (id:=1) (g:=g_trim trimL) (by cases hc;kernel_rfl) rfl l_trimLeftASCII) (ro:=true) (by
  rw[y_trimLeftASCII,Nat.ble_eq_true_of_le hs];rfl)
def c_strings_trimLeftASCII:Con:=⟨true,fun ds os=>match ds,os with
 | [.one (.r (.v (.string s))), .one (.r (.rop m get))],[]=>some (some (Nat.beq m 256&&boolsB get), .d (ofD .str (trimL (hasB get) s.data.toList)),[])
 |_,_=>none⟩
theorem k_strings_trimLeftASCII:ConOk Tryz.prog 142 c_strings_trimLeftASCII:=by
 refine⟨Tryz.call142,fun ds os c x objs hc hok => ?_⟩;unfold c_strings_trimLeftASCII at hc;dsimp only at hc
 split at hc
 ·rename_i s m get
  cases hc
  rcases hok with h | h
  ·cases h
  ·have hb:=Option.some.inj h;intro w F β args H hds
   cases hds with | cons g1 g2=>cases g2 with | cons g2 g3 =>
   have hf:s.data.toList.length≤9223372036854775807:=RepD_fit (t := .str) (x:=s.data.toList) g1;exact s_trimLeftASCII s.data.toList (fun i=>theB (get i)) hf w F β _ H (.cons g1 (.cons (rop_bools hb g2) g3))
 ·cases hc
def Γ2:GL:=(142,c_strings_trimLeftASCII)::Γ1
theorem Γ2ok:GO Γ2 := .cons k_strings_trimLeftASCII Γ1ok
def cx_trimRightASCII:Cx:=cxOf Γ2 Tryz.f143.ntmps [(1,[0,1])] [(0,[0]),(1,[0,1])] [] [(1,g_trim trimR)]
theorem x_trimRightASCII (s:Str) (get:Nat→R) (R:St→Option Fin) (K:Cont):evC cx_trimRightASCII (loopOf Tryz.f143 0) ⟨[(0,vS s),(1, .d (arg1 (.rop 256 get)))],[]⟩ (onward (headAt cx_trimRightASCII 1) R K) =
  branch (decide ((0:Int)<(s.length:Int))) (need (inb (W64 ((s.length:Int)-1)) s.length) <| need (Nat.beq 256 256&&boolsB get) <| branch (!theB (get (byteAt s (W64 ((s.length:Int)-1))).toNat)) (K (.exit 0) ⟨[(0,vS s)],[]⟩)
   (need (inr 0 (W64 ((s.length:Int)-1)) s.length) <| R ⟨[(0,vS (List.take ((W64 ((s.length:Int)-1)).toNat-(0:Int).toNat) (List.drop (0:Int).toNat s))),(1, .d (arg1 (.rop 256 get)))],[]⟩))
  (K (.exit 0) ⟨[(0,vS s)],[]⟩):=by kernel_rfl
theorem trimR_snoc (p:UInt8→Bool) (s:List UInt8) (c:UInt8):trimR p (s++[c])=bif p c then trimR p s else s++[c]:=by
 unfold trimR;rw[List.reverse_append];show(List.dropWhile p (c::s.reverse)).reverse=_;rw[List.dropWhile_cons]
 cases p c
 ·simp
 ·rfl
theorem l_trimRightASCII:∀st K r,g_trim trimR st K=some r→∃N,iter (evC cx_trimRightASCII (loopOf Tryz.f143 0)) (headAt cx_trimRightASCII 1) N st K=some r:=by
 refine trim_loop fun N => ?_
 induction N with
 |zero=>intro s get K r hN;omega
 |succ N ih =>
  intro s get K r hN hl hb hr;rw[iter_succ,x_trimRightASCII];have hcc:s=[]∨∃l c,s=l++[c]:=by
   rcases List.eq_nil_or_concat s with hn | ⟨l,e,hl⟩
   ·exact .inl hn
   ·exact .inr ⟨l,e,by rw[hl,List.concat_eq_append]⟩
  rcases hcc with rfl | ⟨s,c,rfl⟩
  ·exact hr
  ·have hlen:(s++[c]).length=s.length+1:=by simp
   rw[hlen]at hN hl ⊢;have e1:W64 (((s.length+1:Nat):Int)-1)=(s.length:Int):=by simp only[W64];rw[wrap_small (by omega) (by omega)];omega
   have e2:byteAt (s++[c]) (s.length:Int)=(c.toNat:Int):=by unfold byteAt;simp[getD]
   have hi:inr 0 (s.length:Int) (s.length+1)=true:=zT ⟨by omega,by omega,by omega⟩;rw[zT (by omega:(0:Int)<((s.length+1:Nat):Int)),branch_true,e1,e2,inb_ok (by omega) (by omega),hb,hi];simp only[need,branch_true,Nat.beq_refl,Bool.true_and,Int.toNat_natCast];rw[trimR_snoc]at hr;unfold hasB at hr
   cases hc:theB (get c.toNat)
   ·rw[hc]at hr;exact hr
   ·rw[hc]at hr;rw[Bool.not_true,branch_false];have e:List.take (s.length-(0:Int).toNat) (List.drop (0:Int).toNat (s++[c]))=s:=by simp
    rw[e];exact ih s get K r (by omega) (by omega) hb hr
theorem y_trimRightASCII (s:Str) (p:Nat→Bool):evFn cx_trimRightASCII Tryz.f143 true [ofD .str s,arg1 (ropB p)] []=need (Nat.ble s.length 9223372036854775807) (some (.d (ofD .str (trimR (hasB fun i => .v (.bool (p i))) s)),[])):=by kernel_rfl
theorem s_trimRightASCII (s:Str) (p:Nat→Bool) (hs:s.length≤9223372036854775807):Sat Tryz.prog 143 [ofD .str s,arg1 (ropB p)] [] (.d (ofD .str (trimR (fun c=>p c.toNat) s))) [] :=
 fn_sound (cx:=cx_trimRightASCII) Tryz.func143 rfl ttOk Γ2ok mixed (fun c hc=>LoopsOk.one (b:=loopOf Tryz.f143 0) (id:=1) (g:=g_trim trimR) (by cases hc;kernel_rfl) rfl l_trimRightASCII) (ro:=true) (by
  rw[y_trimRightASCII,Nat.ble_eq_true_of_le hs];rfl)
def c_strings_trimRightASCII:Con:=⟨true,fun ds os=>match ds,os with
 | [.one (.r (.v (.string s))), .one (.r (.rop m get))],[]=>some (some (Nat.beq m 256&&boolsB get), .d (ofD .str (trimR (hasB get) s.data.toList)),[])
 |_,_=>none⟩
theorem k_strings_trimRightASCII:ConOk Tryz.prog 143 c_strings_trimRightASCII:=by
 refine⟨Tryz.call143,fun ds os c x objs hc hok => ?_⟩;unfold c_strings_trimRightASCII at hc;dsimp only at hc
 split at hc
 ·rename_i s m get
  cases hc
  rcases hok with h | h
  ·cases h
  ·have hb:=Option.some.inj h;intro w F β args H hds
   cases hds with | cons g1 g2=>cases g2 with | cons g2 g3 =>
   have hf:s.data.toList.length≤9223372036854775807:=RepD_fit (t := .str) (x:=s.data.toList) g1;exact s_trimRightASCII s.data.toList (fun i=>theB (get i)) hf w F β _ H (.cons g1 (.cons (rop_bools hb g2) g3))
 ·cases hc
def Γ3:GL:=(143,c_strings_trimRightASCII)::Γ2
theorem Γ3ok:GO Γ3 := .cons k_strings_trimRightASCII Γ2ok
def cutA:Str:=[97,98,99,100]
def cutB:Str:=[65,66,67,68,69,97,98,99,100]
def isCut (s:Str):Bool:=decide (s=cutA)||decide (s=cutB)
def setOf (l:Str) (i:Nat):Bool:=l.any fun c=>Nat.beq c.toNat i
def cells256 (l:Str):List C:=(List.range 256).map fun i => .r (.v (.bool (setOf l i)))
def inCut (l:Str) (c:UInt8):Bool:=setOf l c.toNat
def trim (cut s:Str):Str:=trimL (inCut cut) (trimR (inCut cut) s)
theorem isCut_iff {s:Str} (h:isCut s=true):s=cutA∨s=cutB:=by
 unfold isCut at h;rw[Bool.or_eq_true,decide_eq_true_eq,decide_eq_true_eq]at h;exact h
def cx_mkSet0:Cx:=cxOf Γ3 Tryz.f141.ntmps [(2,[0,2,4])] [(0,[2]),(1,[0,2,4])] [] []
def cx_mkSet:Cx:=cx_mkSet0.withLoops (look [(2,unroll cx_mkSet0 (loopOf Tryz.f141 0) 2 12)])
theorem y_mkSetA:evFn cx_mkSet Tryz.f141 true [ofD .str cutA] []=some (.tup [.agg (cells256 cutA), .one (.r (.v (.bool true)))],[]):=by kernel_rfl
theorem y_mkSetB:evFn cx_mkSet Tryz.f141 true [ofD .str cutB] []=some (.tup [.agg (cells256 cutB), .one (.r (.v (.bool true)))],[]):=by kernel_rfl
theorem s_mkSet (s:Str) (h:isCut s=true):Sat Tryz.prog 141 [ofD .str s] [] (.tup [.agg (cells256 s), .one (.r (.v (.bool true)))]) [] :=
 fn_sound (cx:=cx_mkSet) Tryz.func141 rfl ttOk Γ3ok mixed (fun c hc=>LoopsOk.one (b:=loopOf Tryz.f141 0) (id:=2) (g:=unroll cx_mkSet0 (loopOf Tryz.f141 0) 2 12) (by cases hc;kernel_rfl) rfl (unroll_ok (by kernel_rfl))) (ro:=true) (by
  rcases isCut_iff h with rfl | rfl
  ·exact y_mkSetA
  ·exact y_mkSetB)
def c_strings_makeASCIISet:Con:=⟨true,fun ds os=>match ds,os with
 | [.one (.r (.v (.string s)))],[]=>match isCut s.data.toList with
  |true=>some (none, .tup [.agg (cells256 s.data.toList), .one (.r (.v (.bool true)))],[])
  |false=>none
 |_,_=>none⟩
theorem k_strings_makeASCIISet:ConOk Tryz.prog 141 c_strings_makeASCIISet:=by
 refine⟨Tryz.call141,fun ds os c x objs hc hok => ?_⟩;unfold c_strings_makeASCIISet at hc;dsimp only at hc
 split at hc
 ·rename_i s
  split at hc
  ·rename_i hb
   cases hc
   exact s_mkSet s.data.toList hb
  ·cases hc
 ·cases hc
def Γ4:GL:=(141,c_strings_makeASCIISet)::Γ3
theorem Γ4ok:GO Γ4 := .cons k_strings_makeASCIISet Γ3ok
theorem y_trimA (s:Str):evFn (cxOf Γ4 Tryz.f105.ntmps [] [] [] []) Tryz.f105 true [ofD .str s,ofD .str cutA] []=branch (bif decide (s=[])then true else false) (some (.d (ofD .str s),[])) (need true (need true (some (.d (ofD .str (trimL (hasB fun i=>((List.range 256).map fun i=>R.v (.bool (setOf cutA i))).getD i z0) (trimR (hasB fun i=>((List.range 256).map fun i=>R.v (.bool (setOf cutA i))).getD i z0) s))),[])))):=by kernel_rfl
theorem y_trimB (s:Str):evFn (cxOf Γ4 Tryz.f105.ntmps [] [] [] []) Tryz.f105 true [ofD .str s,ofD .str cutB] []=branch (bif decide (s=[])then true else false) (some (.d (ofD .str s),[])) (need true (need true (some (.d (ofD .str (trimL (hasB fun i=>((List.range 256).map fun i=>R.v (.bool (setOf cutB i))).getD i z0) (trimR (hasB fun i=>((List.range 256).map fun i=>R.v (.bool (setOf cutB i))).getD i z0) s))),[])))):=by kernel_rfl
theorem hasB_cells (cut:Str):(hasB fun i=>((List.range 256).map fun i=>R.v (.bool (setOf cut i))).getD i z0)=inCut cut:=by
 funext c
 unfold hasB inCut;show theB (((List.range 256).map fun i=>R.v (.bool (setOf cut i))).getD c.toNat z0)=_;rw[zG,List.getElem?_map,List.getElem?_range c.toNat_lt];rfl
theorem s_trim (s cut:Str) (h:isCut cut=true):Sat Tryz.prog 105 [ofD .str s,ofD .str cut] [] (.d (ofD .str (trim cut s))) [] :=
 fn_sound (cx:=cxOf Γ4 Tryz.f105.ntmps [] [] [] []) Tryz.func105 rfl ttOk Γ4ok mixed (fun c hc=>LoopsOk.nil (by cases hc;kernel_rfl)) (ro:=true) (by
  have key:∀(cut:Str),branch (bif decide (s=[])then true else false) (some ((.d (ofD .str s),[]):Fin)) (need true (need true (some (.d (ofD .str (trimL (hasB fun i=>((List.range 256).map fun i=>R.v (.bool (setOf cut i))).getD i z0) (trimR (hasB fun i=>((List.range 256).map fun i=>R.v (.bool (setOf cut i))).getD i z0) s))),[]))))=some (.d (ofD .str (trim cut s)),[]):=by
   intro cut;rw[hasB_cells]
   by_cases hs:s=[]
   ·subst hs;rfl
   ·rw[zF hs];rfl
  rcases isCut_iff h with rfl | rfl
  ·rw[y_trimA];exact key cutA
  ·rw[y_trimB];exact key cutB)
def c_strings_Trim:Con:=conT [.str, .str] fun s cut=>(some (isCut cut), .d (ofD .str (trim cut s)))
theorem k_strings_Trim:ConOk Tryz.prog 105 c_strings_Trim:=conT_ok Tryz.call105 fun s _ cut _ h=>s_trim s cut (by
 rcases h with h | h
 ·cases h
 ·exact Option.some.inj h)
def Γ5:GL:=(105,c_strings_Trim)::Γ4
theorem Γ5ok:GO Γ5 := .cons k_strings_Trim Γ4ok
theorem dropWhile_nil {p:UInt8→Bool}:∀ {s:Str},s.dropWhile p=[]↔s.all p=true
 | []=>by simp
 |c::s=>by
  rw[List.dropWhile_cons,List.all_cons]
  cases h:p c
  ·simp
  ·simp[dropWhile_nil (s:=s)]
theorem trim_nil {cut s:Str}:trim cut s=[]↔s.all (inCut cut)=true:=by
 unfold trim trimL trimR;rw[dropWhile_nil,List.all_reverse]
 constructor
 ·intro h;have h1:∀(l:Str),(l.dropWhile (inCut cut)).all (inCut cut)=true→l.all (inCut cut)=true:=by
   intro l
   induction l with
   |nil=>intro _;rfl
   |cons c l ih =>
    intro hl;rw[List.dropWhile_cons]at hl
    cases hc:inCut cut c
    ·rw[hc]at hl;exact hl
    ·rw[hc]at hl;rw[List.all_cons,hc,ih hl];rfl
  have:=h1 _ h
  rwa [List.all_reverse]at this
 ·intro h;have:s.reverse.dropWhile (inCut cut)=[]:=dropWhile_nil.2 (by rw[List.all_reverse];exact h);rw[this];rfl
theorem inCut_A (c:UInt8):inCut cutA c=(Nat.ble 97 c.toNat&&Nat.ble c.toNat 100):=by
 have:∀n:_root_.Fin 256,setOf cutA n.val=(Nat.ble 97 n.val&&Nat.ble n.val 100):=by decide +kernel
 exact this ⟨c.toNat,c.toNat_lt⟩
theorem inCut_B (c:UInt8):inCut cutB c=((Nat.ble 65 c.toNat&&Nat.ble c.toNat 69)||(Nat.ble 97 c.toNat&&Nat.ble c.toNat 100)):=by
 have:∀n:_root_.Fin 256,setOf cutB n.val=((Nat.ble 65 n.val&&Nat.ble n.val 69)||(Nat.ble 97 n.val&&Nat.ble n.val 100)):=by decide +kernel
 exact this ⟨c.toNat,c.toNat_lt⟩
def small (c:UInt8):Bool:=Nat.ble 97 c.toNat&&Nat.ble c.toNat 100
def smallS:Str→Bool
 | [c]=>small c
 |_=>false
theorem smallS_one {s:Str} (h:smallS s=true):∃c,s=[c]∧small c=true:=by
 unfold smallS at h
 split at h
 ·exact ⟨_,rfl,h⟩
 ·cases h
def smallI (c:Int):Bool:=bif decide (97≤c)then decide (c≤100)else false
theorem smallI_nat (c:UInt8):smallI (c.toNat:Int)=small c:=by
 unfold smallI small
 by_cases h1:97≤c.toNat
 ·rw[zT (by omega:(97:Int)≤(c.toNat:Int)),Nat.ble_eq_true_of_le h1]
  by_cases h2:c.toNat≤100
  ·rw[Nat.ble_eq_true_of_le h2];simp;omega
  ·have:Nat.ble c.toNat 100=false:=by
    cases hb:Nat.ble c.toNat 100
    ·rfl
    ·exact absurd (Nat.le_of_ble_eq_true hb) h2
   rw[this];simp;omega
 ·have:Nat.ble 97 c.toNat=false:=by
   cases hb:Nat.ble 97 c.toNat
   ·rfl
   ·exact absurd (Nat.le_of_ble_eq_true hb) h1
  rw[zF (by omega:¬(97:Int)≤(c.toNat:Int)),this];rfl
theorem byteAt_get {s:Str} {i:Int} (_h0:0≤i) (h1:i.toNat<s.length):byteAt s i=(s[i.toNat].toNat:Int):=by
 unfold byteAt;rw[zG,zE h1];rfl
theorem s_spec_l1Small (c:Int) (_hc:Fit (.int .u8) c):Sat Tryz.prog 130 [ofD (.int .u8) c] [] (.d (ofD .bool (smallI c))) [] :=
 fn_sound (cx:=cxOf Γ5 Tryz.f130.ntmps [] [] [] []) Tryz.func130 rfl ttOk Γ5ok mixed (fun _ _=>LoopsOk.no fun _=>rfl) (ro:=true) (by
  kernel_rfl)
def c_spec_l1Small:Con:=conT [(.int .u8)] fun(c:Int)=>(none, .d (ofD .bool (smallI c)))
theorem k_spec_l1Small:ConOk Tryz.prog 130 c_spec_l1Small:=conT_ok Tryz.call130 fun c hc _=>s_spec_l1Small c hc
def Γ6:GL:=(130,c_spec_l1Small)::Γ5
theorem Γ6ok:GO Γ6 := .cons k_spec_l1Small Γ5ok
theorem y_spec_SignSmall (s:Str):evFn (cxOf Γ6 Tryz.f151.ntmps [] [] [] []) Tryz.f151 true [ofD .str s] []=need (bif decide (decide ((s.length:Int)=1)=true)then inb 0 s.length else true) (some (vB (bif decide ((s.length:Int)=1)then smallI (byteAt s 0)else false),[])):=by kernel_rfl
theorem s_spec_SignSmall (s:Str) (_hs:Fit .str s):Sat Tryz.prog 151 [ofD .str s] [] (.d (ofD .bool (smallS s))) [] :=
 fn_sound (cx:=cxOf Γ6 Tryz.f151.ntmps [] [] [] []) Tryz.func151 rfl ttOk Γ6ok mixed (fun _ _=>LoopsOk.no fun _=>rfl) (ro:=true) (by
  rw[y_spec_SignSmall]
  cases s with
  |nil=>rfl
  |cons c s=>cases s with
   |nil=>exact congrArg (fun b=>some ((vB b,[]):Fin)) (smallI_nat c)
   |cons d s =>
    rw[zF (by simp;omega:¬((c::d::s).length:Int)=1)];rfl)
def c_spec_SignSmall:Con:=conT [.str] fun(s:Str)=>(none, .d (ofD .bool (smallS s)))
theorem k_spec_SignSmall:ConOk Tryz.prog 151 c_spec_SignSmall:=conT_ok Tryz.call151 fun s hs _=>s_spec_SignSmall s hs
def Γ7:GL:=(151,c_spec_SignSmall)::Γ6
theorem Γ7ok:GO Γ7 := .cons k_spec_SignSmall Γ6ok
def isIn (s:Str) (a b:Int):Bool:=bif (bif decide ((s.length:Int)=1)then decide (a≤byteAt s 0)else false)then decide (byteAt s 0≤b)else false
theorem y_impl_isIn (s:Str) (a:Int) (b:Int):evFn (cxOf Γ7 Tryz.f90.ntmps [] [] [] []) Tryz.f90 true [ofD .str s,ofD (.int .u8) a,ofD (.int .u8) b] []=need (bif decide (decide ((s.length:Int)=1)=true)then inb 0 s.length else true) (need (bif decide ((bif decide ((s.length:Int)=1)then decide (a≤byteAt s 0)else false)=true)then inb 0 s.length else true) (some (vB (isIn s a b),[]))):=by kernel_rfl
theorem s_impl_isIn (s:Str) (_hs:Fit .str s) (a:Int) (_ha:Fit (.int .u8) a) (b:Int) (_hb:Fit (.int .u8) b):Sat Tryz.prog 90 [ofD .str s,ofD (.int .u8) a,ofD (.int .u8) b] [] (.d (ofD .bool (isIn s a b))) [] :=
 fn_sound (cx:=cxOf Γ7 Tryz.f90.ntmps [] [] [] []) Tryz.func90 rfl ttOk Γ7ok mixed (fun _ _=>LoopsOk.no fun _=>rfl) (ro:=true) (by
  rw[y_impl_isIn]
  by_cases h:s.length=1
  ·rw[zT (by omega:(s.length:Int)=1),h]
   cases decide (a≤byteAt s 0)<;>rfl
  ·rw[zF (by omega:¬(s.length:Int)=1)];rfl)
def c_impl_isIn:Con:=conT [.str,(.int .u8),(.int .u8)] fun(s:Str) (a:Int) (b:Int)=>(none, .d (ofD .bool (isIn s a b)))
theorem k_impl_isIn:ConOk Tryz.prog 90 c_impl_isIn:=conT_ok Tryz.call90 fun s hs a ha b hb _=>s_impl_isIn s hs a ha b hb
def Γ8:GL:=(90,c_impl_isIn)::Γ7
theorem Γ8ok:GO Γ8 := .cons k_impl_isIn Γ7ok
theorem s_impl_SignSmall (s:Str) (_hs:Fit .str s):Sat Tryz.prog 55 [ofD .str s] [] (.d (ofD .bool (smallS s))) [] :=
 fn_sound (cx:=cxOf Γ8 Tryz.f55.ntmps [] [] [] []) Tryz.func55 rfl ttOk Γ8ok mixed (fun _ _=>LoopsOk.no fun _=>rfl) (ro:=true) (by
  have:evFn (cxOf Γ8 Tryz.f55.ntmps [] [] [] []) Tryz.f55 true [ofD .str s] []=some (vB (isIn s 97 100),[]):=by kernel_rfl
  rw[this];have:isIn s 97 100=smallS s:=by
   unfold isIn
   cases s with
   |nil=>rfl
   |cons c s=>cases s with
    |nil=>exact smallI_nat c
    |cons d s=>rw[zF (by simp;omega:¬((c::d::s).length:Int)=1)];rfl
  rw[this];rfl)
def c_impl_SignSmall:Con:=conT [.str] fun(s:Str)=>(none, .d (ofD .bool (smallS s)))
theorem k_impl_SignSmall:ConOk Tryz.prog 55 c_impl_SignSmall:=conT_ok Tryz.call55 fun s hs _=>s_impl_SignSmall s hs
def Γ9:GL:=(55,c_impl_SignSmall)::Γ8
theorem Γ9ok:GO Γ9 := .cons k_impl_SignSmall Γ8ok
def areSm (s:Str) (n:Int):Bool:=bif decide ((s.length:Int)≤n)then s.all small else false
theorem y_impl_areSmalls (s:Str) (n:Int):evFn (cxOf Γ9 Tryz.f56.ntmps [] [] [] []) Tryz.f56 true [ofD .str s,ofD TI64 n] [] =
 need (bif decide (decide ((s.length:Int)≤n)=true)then isCut cutA else true) (some (vB (bif decide ((s.length:Int)≤n)then decide (trim cutA s=[])else false),[])):=by kernel_rfl
theorem trimA_nil (s:Str):decide (trim cutA s=[])=s.all small:=by
 have e:(inCut cutA)=small:=by funext c;exact inCut_A c
 have h:=trim_nil (cut:=cutA) (s:=s);rw[e]at h
 by_cases g:trim cutA s=[]
 ·rw[zT g,h.1 g]
 ·rw[zF g]
  cases hs:s.all small
  ·rfl
  ·exact absurd (h.2 hs) g
theorem s_impl_areSmalls (s:Str) (_hs:Fit .str s) (n:Int) (_hn:Fit TI64 n):Sat Tryz.prog 56 [ofD .str s,ofD TI64 n] [] (.d (ofD .bool (areSm s n))) [] :=
 fn_sound (cx:=cxOf Γ9 Tryz.f56.ntmps [] [] [] []) Tryz.func56 rfl ttOk Γ9ok mixed (fun _ _=>LoopsOk.no fun _=>rfl) (ro:=true) (by
  rw[y_impl_areSmalls,trimA_nil];unfold areSm
  cases decide ((s.length:Int)≤n)<;>rfl)
def c_impl_areSmalls:Con:=conT [.str,TI64] fun(s:Str) (n:Int)=>(none, .d (ofD .bool (areSm s n)))
theorem k_impl_areSmalls:ConOk Tryz.prog 56 c_impl_areSmalls:=conT_ok Tryz.call56 fun s hs n hn _=>s_impl_areSmalls s hs n hn
def Γ10:GL:=(56,c_impl_areSmalls)::Γ9
theorem Γ10ok:GO Γ10 := .cons k_impl_areSmalls Γ9ok
abbrev TB:Ty := .list (.int .u8)
abbrev Rd:Type:=List Int×Int
def mixM (l:List Int) (p:Int):Int :=
 W64 (W64 (W64 (W64 (W64 (l.getD (p.tmod (l.length:Int)).toNat 0)*131)+W64 (W64 (l.getD ((W64 (W64 (p*7)+3)).tmod (l.length:Int)).toNat 0)*1117))+W64 (p*29))+W64 (W64 (p.tdiv (l.length:Int))*53))
def mixV (l:List Int) (p:Int):Int:=W64 (((BitVec.ofInt 64 (mixM l p)) ^^^ (BitVec.ofInt 64 (W64 ((mixM l p).tdiv 64)))).toNat:Int)
def pickV (x:Rd) (n:Int):Int :=
 bif (bif decide (n<1)then true else decide ((x.1.length:Int)=0))then 0 else
 bif decide (x.2<(x.1.length:Int))then(W64 (x.1.getD x.2.toNat 0)).tmod n else(mixV x.1 x.2).tmod n
def rdGo (x:Rd) (k:Int):Rd:=(x.1,x.2+k)
def rdOk (x:Rd):Bool:=decide (0≤x.2)&&decide (x.2≤10000001000000)
theorem rem_range {m n:Int} (h0:0≤m) (h1:1≤n):0≤m.tmod n∧m.tmod n<n:=⟨Int.tmod_nonneg _ h0,Int.tmod_lt_of_pos _ (by omega)⟩
theorem mixV_nonneg {l:List Int} {p:Int} (hl:∀b∈l,0≤b∧b≤255) (h0:0≤p) (h1:p≤10000001000000) (hn:l≠[]):0≤mixV l p:=by
 have hlen:1≤(l.length:Int):=by cases l with | nil=>exact absurd rfl hn | cons a l=>simp;omega
 have hb:∀i:Nat,0≤l.getD i 0∧l.getD i 0≤255:=fun i=>by
  rw[zG]
  cases h:l[i]? with
  |none=>simp
  |some b=>simpa using hl b (List.mem_of_getElem? h)
 have b1:=hb (p.tmod (l.length:Int)).toNat;have b2:=hb ((W64 (W64 (p*7)+3)).tmod (l.length:Int)).toNat;have hd:0≤p.tdiv (l.length:Int)∧p.tdiv (l.length:Int)≤p:=by
  constructor
  ·exact Int.tdiv_nonneg h0 (by omega)
  ·rw[Int.tdiv_eq_ediv_of_nonneg h0];exact Int.ediv_le_self _ h0
 have hm:0≤mixM l p∧mixM l p≤10000000000000000:=by
  unfold mixM
  generalize l.getD (p.tmod (l.length:Int)).toNat 0=c1 at b1 ⊢
  generalize l.getD ((W64 (W64 (p*7)+3)).tmod (l.length:Int)).toNat 0=c2 at b2 ⊢
  generalize p.tdiv (l.length:Int)=d at hd ⊢
  simp only[W64];rw[wrap_small (n:=c1) (by omega) (by omega),wrap_small (n:=c2) (by omega) (by omega),wrap_small (n:=d) (by omega) (by omega),
   wrap_small (n:=c1*131) (by omega) (by omega),wrap_small (n:=c2*1117) (by omega) (by omega),wrap_small (n:=p*29) (by omega) (by omega),wrap_small (n:=d*53) (by omega) (by omega),
   wrap_small (n:=c1*131+c2*1117) (by omega) (by omega),wrap_small (n:=c1*131+c2*1117+p*29) (by omega) (by omega),wrap_small (n:=c1*131+c2*1117+p*29+d*53) (by omega) (by omega)]
  omega
 unfold mixV
 generalize mixM l p=m at hm ⊢
 have hq:0≤m.tdiv 64∧m.tdiv 64≤m:=⟨Int.tdiv_nonneg hm.1 (by omega),by rw[Int.tdiv_eq_ediv_of_nonneg hm.1];exact Int.ediv_le_self _ hm.1⟩;simp only[W64];rw[wrap_small (n:=m.tdiv 64) (by omega) (by omega)]
 generalize m.tdiv 64=q at hq ⊢
 have hx:(BitVec.ofInt 64 m ^^^ BitVec.ofInt 64 q).toNat<2 ^ 63:=by
  rw[BitVec.toNat_xor]
  apply Nat.xor_lt_two_pow
  ·rw[BitVec.toNat_ofInt];omega
  ·rw[BitVec.toNat_ofInt];omega
 rw[wrap_small (by omega) (by omega)];omega
theorem byteFit {l:List Int} (h:Fit TB l):∀b∈l,0≤b∧b≤255:=fun b hb=>by
 have:IntKind.u8.wrap b=b:=h.2 b hb;rw[IntKind.wrap_u8]at this;omega
def BY (x:Rd):Prop:=∀b∈x.1,0≤b∧b≤255
def byB (x:Rd):Bool:=x.1.all fun b=>decide (0≤b∧b≤255)
theorem byB_iff {x:Rd}:byB x=true↔BY x:=by unfold byB BY;rw[all_eq_true];exact ⟨fun h b hb=>of_decide_eq_true (h b hb),fun h b hb=>zT (h b hb)⟩
theorem pickV_range {x:Rd} {n:Int} (hx:BY x) (hk:rdOk x=true) (hn:1≤n):0≤pickV x n∧pickV x n<n:=by
 simp only[rdOk,Bool.and_eq_true,decide_eq_true_eq]at hk;unfold pickV;rw[zF (by omega:¬n<1),cond_false]
 by_cases h:(x.1.length:Int)=0
 ·rw[zT h,cond_true];omega
 ·rw[zF h,cond_false]
  by_cases h2:x.2<(x.1.length:Int)
  ·rw[zT h2,cond_true];have hlt:x.2.toNat<x.1.length:=by omega
   have:=hx x.1[x.2.toNat] (List.getElem_mem hlt);rw[zG,zE hlt];simp only[Option.getD_some,W64];rw[wrap_small (by omega) (by omega)];exact rem_range this.1 hn
  ·rw[zF h2,cond_false];exact rem_range (mixV_nonneg hx hk.1 hk.2 (fun e=>by rw[e]at h;exact h rfl)) hn
abbrev TR:Ty:=ty120
theorem y_pick (x:Rd) (n:Int):evFn (cxOf Γ10 Tryz.f66.ntmps [] [] [] []) Tryz.f66 false [.one (.ptr 0 0),ofD (.int .i64) n] [boxD 120 TR x] =
  branch (bif decide (n<1)then true else decide ((x.1.length:Int)=0)) (some (.d (ofD TI64 (0:Int)),[(0,some (boxD 120 TR ((x.1,W64 (x.2+1)):Rd)))]))
  (branch (decide (W64 (W64 (x.2+1)-1)<(x.1.length:Int)))
   (need (inb (W64 (W64 (x.2+1)-1)) x.1.length) <| need (!decide (n=0)) <| some (.d (ofD TI64 ((W64 (x.1.getD (W64 (W64 (x.2+1)-1)).toNat 0)).tmod n)),[(0,some (boxD 120 TR ((x.1,W64 (x.2+1)):Rd)))]))
   (need (!decide ((x.1.length:Int)=0)) <| need (inb ((W64 (W64 (x.2+1)-1)).tmod (x.1.length:Int)) x.1.length) <| need (!decide ((x.1.length:Int)=0)) <|
    need (inb ((W64 (W64 (W64 (W64 (x.2+1)-1)*7)+3)).tmod (x.1.length:Int)) x.1.length) <| need (!decide ((x.1.length:Int)=0)) <| need (!decide ((64:Int)=0)) <| need (!decide (n=0)) <|
    some (.d (ofD TI64 ((mixV x.1 (W64 (W64 (x.2+1)-1))).tmod n)),[(0,some (boxD 120 TR ((x.1,W64 (x.2+1)):Rd)))]))):=by kernel_rfl
theorem s_pick (x:Rd) (n:Int) (hk:rdOk x=true):Sat Tryz.prog 66 [.one (.ptr 0 0),ofD (.int .i64) n] [boxD 120 TR x] (.d (ofD TI64 (pickV x n))) [(0,some (boxD 120 TR (rdGo x 1)))] :=
 fn_sound (cx:=cxOf Γ10 Tryz.f66.ntmps [] [] [] []) Tryz.func66 rfl ttOk Γ10ok mixed (fun c hc=>LoopsOk.nil (by cases hc;kernel_rfl)) (ro:=false) (by
  simp only[rdOk,Bool.and_eq_true,decide_eq_true_eq]at hk;have e1:W64 (W64 (x.2+1)-1)=x.2:=by
   simp only[W64];rw[wrap_small (n:=x.2+1) (by omega) (by omega),wrap_small (by omega) (by omega)];omega
  have e2:W64 (W64 (x.2*7)+3)=x.2*7+3:=by
   simp only[W64];rw[wrap_small (n:=x.2*7) (by omega) (by omega),wrap_small (by omega) (by omega)]
  have e3:W64 (x.2+1)=x.2+1:=wrap_small (by omega) (by omega);rw[y_pick,e1,e2,e3];unfold pickV
  cases hc:(bif decide (n<1)then true else decide ((x.1.length:Int)=0))
  ·have hn:¬n<1∧¬(x.1.length:Int)=0:=by
    constructor
    ·intro h;rw[zT h]at hc;cases hc
    ·intro h;rw[zT h]at hc;cases hd:decide (n<1)<;>rw[hd]at hc<;>cases hc
   rw[branch_false,cond_false];have hlen:1≤(x.1.length:Int):=by omega
   by_cases h2:x.2<(x.1.length:Int)
   ·rw[zT h2,branch_true,cond_true,inb_ok hk.1 h2,zF (by omega:¬n=0)];rfl
   ·have r1:=rem_range (m:=x.2) hk.1 hlen;have r2:=rem_range (m:=x.2*7+3) (by omega) hlen;rw[zF h2,branch_false,cond_false,zF hn.2,inb_ok r1.1 r1.2,inb_ok r2.1 r2.2,zF (by omega:¬n=0)];rfl
  ·rfl)
def c_spec_l17Rd_pick:Con:=conB 120 TR [TI64] fun x n=>(some (rdOk x), .d (ofD TI64 (pickV x n)),(rdGo x 1))
theorem k_spec_l17Rd_pick:ConOk Tryz.prog 66 c_spec_l17Rd_pick:=conB_ok Tryz.call66 fun x _ n _ h=>s_pick x n (by
 rcases h with h | h
 ·cases h
 ·exact Option.some.inj h)
def Γ11:GL:=(66,c_spec_l17Rd_pick)::Γ10
theorem Γ11ok:GO Γ11 := .cons k_spec_l17Rd_pick Γ10ok
abbrev TIS:Ty := .list (.int .i64)
abbrev TSS:Ty := .list .str
def rdAt (x:Rd) (k:Int):Bool:=decide (0≤x.2)&&decide (x.2≤k)
def Adv (x x':Rd) (c:Int):Prop:=x'.1=x.1∧x.2≤x'.2∧x'.2≤x.2+c
theorem rdAt_iff {x:Rd} {k:Int}:rdAt x k=true↔0≤x.2∧x.2≤k:=by unfold rdAt;rw[Bool.and_eq_true,decide_eq_true_eq,decide_eq_true_eq]
theorem rdOk_iff {x:Rd}:rdOk x=true↔0≤x.2∧x.2≤10000001000000:=rdAt_iff
theorem Adv.ok {x x':Rd} {c k:Int} (h:Adv x x' c) (hk:rdAt x k=true) (hc:k+c≤10000001000000):rdOk x'=true:=by
 have:=rdAt_iff.1 hk;obtain⟨_,h1,h2⟩:=h;exact rdOk_iff.2 ⟨by omega,by omega⟩
theorem Adv.at {x x':Rd} {c k k':Int} (h:Adv x x' c) (hk:rdAt x k=true) (hc:k+c≤k'):rdAt x' k'=true:=by
 have:=rdAt_iff.1 hk;obtain⟨_,h1,h2⟩:=h;exact rdAt_iff.2 ⟨by omega,by omega⟩
theorem Adv.refl (x:Rd):Adv x x 0:=⟨rfl,by omega,by omega⟩
theorem Adv.one (x:Rd):Adv x (rdGo x 1) 1:=⟨rfl,by simp only[rdGo];omega,by simp only[rdGo];omega⟩
theorem Adv.trans {x y z:Rd} {c d:Int} (h:Adv x y c) (g:Adv y z d):Adv x z (c+d):=⟨g.1.trans h.1,Int.le_trans h.2.1 g.2.1,by have:=h.2.2;have:=g.2.2;omega⟩
theorem Adv.le {x y:Rd} {c d:Int} (h:Adv x y c) (hc:c≤d):Adv x y d:=⟨h.1,h.2.1,by have:=h.2.2;omega⟩
theorem Adv.fit {x y:Rd} {c k:Int} (h:Adv x y c) (hx:Fit (.pair TB TI64) x) (hk:rdAt x k=true) (hc:k+c≤10000001000000):Fit (.pair TB TI64) y:=by
 have:=rdAt_iff.1 hk;obtain⟨h0,h1,h2⟩:=h;exact⟨by rw[h0];exact hx.1,wrap_small (by omega) (by omega)⟩
def numV (x:Rd) (l:List Int):Int:=l.getD (pickV x l.length).toNat 0
theorem y_num (x:Rd) (l:List Int):evFn (cxOf Γ11 Tryz.f69.ntmps [] [] [] []) Tryz.f69 false [.one (.ptr 0 0), .one (.own 1)] [boxD 120 TR x, .lis 3 TI64 l] =
 need (rdOk x) (need (inb (pickV x l.length) l.length) (some (vI (numV x l),[(0,some (boxD 120 TR (rdGo x 1))),(1,some (.lis 3 TI64 l))]))):=by kernel_rfl
theorem s_num (x:Rd) (l:List Int) (hx:Fit TR x) (hk:rdOk x=true) (hl:0<l.length):Sat Tryz.prog 69 [.one (.ptr 0 0), .one (.own 1)] [boxD 120 TR x, .lis 3 TI64 l] (vI (numV x l)) [(0,some (boxD 120 TR (rdGo x 1))),(1,some (.lis 3 TI64 l))] :=
 fn_sound (cx:=cxOf Γ11 Tryz.f69.ntmps [] [] [] []) Tryz.func69 rfl ttOk Γ11ok mixed (fun c hc=>LoopsOk.nil (by cases hc;kernel_rfl)) (ro:=false) (by
  have r:=pickV_range (n:=l.length) (byteFit hx.1) hk (by omega);rw[y_num,hk,inb_ok r.1 r.2];rfl)
def c_spec_l17Rd_num:Con:=⟨false,fun ds os=>match ds,os with
 | [.one (.ptr 0 0), .one (.own 1)],[b,o]=>match exBox 120 TR (some b),exLis 3 TI64 (some o)with
  |some x,some l=>some (some (rdOk x&&Nat.blt 0 (length l)),vI (numV x l),[(0,some (boxD 120 TR (rdGo x 1))),(1,some (.lis 3 TI64 l))])
  |_,_=>none
 |_,_=>none⟩
theorem box_fit {P:Program} {f:FuncId} {t:TypeId} {s:Ty} {x:Den s} {ds:List D} {os:List Obj} {r:T} {objs:Heap} (h:Fit s x→Sat P f ds (boxD t s x::os) r objs):Sat P f ds (boxD t s x::os) r objs:=by
 intro w F β args H hds;have h0:hOf (boxD t s x::os) 0=some (some (boxD t s x)):=by rw[hOf_eq];rfl
 exact h (cells_fit (H.obj 0 _ h0)) w F β args H hds
theorem k_spec_l17Rd_num:ConOk Tryz.prog 69 c_spec_l17Rd_num:=by
 refine⟨Tryz.call69,fun ds os c x objs hc hok => ?_⟩;unfold c_spec_l17Rd_num at hc;dsimp only at hc
 split at hc
 ·split at hc
  ·rename_i x l e1 e2
   cases hc
   have e1:=Option.some.inj (exBox_some e1);have e2:=Option.some.inj (exLis_some e2);subst e1;subst e2;have hb:=pre_of hok;rw[Bool.and_eq_true,Nat.blt_eq]at hb;exact box_fit fun hx=>s_num x l hx hb.1 hb.2
  ·cases hc
 ·cases hc
def Γ12:GL:=(69,c_spec_l17Rd_num)::Γ11
theorem Γ12ok:GO Γ12 := .cons k_spec_l17Rd_num Γ11ok
def ofV (x:Rd) (l:List Str):Str:=l.getD (pickV x l.length).toNat []
theorem y_of (x:Rd) (l:List Str):evFn (cxOf Γ12 Tryz.f110.ntmps [] [] [] []) Tryz.f110 false [.one (.ptr 0 0), .one (.own 1)] [boxD 120 TR x, .lis 9 .str l] =
 need (rdOk x) (need (inb (pickV x l.length) l.length) (some (vS (ofV x l),[(0,some (boxD 120 TR (rdGo x 1))),(1,some (.lis 9 .str l))]))):=by kernel_rfl
theorem s_of (x:Rd) (l:List Str) (hx:Fit TR x) (hk:rdOk x=true) (hl:0<l.length):Sat Tryz.prog 110 [.one (.ptr 0 0), .one (.own 1)] [boxD 120 TR x, .lis 9 .str l] (vS (ofV x l)) [(0,some (boxD 120 TR (rdGo x 1))),(1,some (.lis 9 .str l))] :=
 fn_sound (cx:=cxOf Γ12 Tryz.f110.ntmps [] [] [] []) Tryz.func110 rfl ttOk Γ12ok mixed (fun c hc=>LoopsOk.nil (by cases hc;kernel_rfl)) (ro:=false) (by
  have r:=pickV_range (n:=l.length) (byteFit hx.1) hk (by omega);rw[y_of,hk,inb_ok r.1 r.2];rfl)
def c_spec_l17Rd_of:Con:=⟨false,fun ds os=>match ds,os with
 | [.one (.ptr 0 0), .one (.own 1)],[b,o]=>match exBox 120 TR (some b),exLis 9 .str (some o)with
  |some x,some l=>some (some (rdOk x&&Nat.blt 0 (length l)),vS (ofV x l),[(0,some (boxD 120 TR (rdGo x 1))),(1,some (.lis 9 .str l))])
  |_,_=>none
 |_,_=>none⟩
theorem k_spec_l17Rd_of:ConOk Tryz.prog 110 c_spec_l17Rd_of:=by
 refine⟨Tryz.call110,fun ds os c x objs hc hok => ?_⟩;unfold c_spec_l17Rd_of at hc;dsimp only at hc
 split at hc
 ·split at hc
  ·rename_i x l e1 e2
   cases hc
   have e1:=Option.some.inj (exBox_some e1);have e2:=Option.some.inj (exLis_some e2);subst e1;subst e2;have hb:=pre_of hok;rw[Bool.and_eq_true,Nat.blt_eq]at hb;exact box_fit fun hx=>s_of x l hx hb.1 hb.2
  ·cases hc
 ·cases hc
def Γ13:GL:=(110,c_spec_l17Rd_of)::Γ12
theorem Γ13ok:GO Γ13 := .cons k_spec_l17Rd_of Γ12ok
abbrev vP (i:Nat):T := .d (.one (.ptr i 0))
abbrev bR (x:Rd):Option Obj:=some (boxD 120 TR x)
theorem ofV_len {x:Rd} {l:List Str} {k:Nat} (h:∀s∈l,s.length≤k):(ofV x l).length≤k:=by
 unfold ofV;rw[zG]
 cases hq:l[(pickV x l.length).toNat]? with
 |none=>simp
 |some s=>exact h s (List.mem_of_getElem? hq)
def fitR (x:Rd):Bool:=byB x&&Nat.ble x.1.length 9223372036854775807
theorem fitR_fit {x:Rd} {k:Int} (h:fitR x=true) (hk:rdAt x k=true) (h1:k≤10000001000000):Fit TR x:=by
 unfold fitR at h;rw[Bool.and_eq_true,byB_iff,Nat.ble_eq]at h;have:=rdAt_iff.1 hk;refine⟨⟨h.2,fun (b:Int) hb => ?_⟩,wrap_small (by omega) (by omega)⟩;have:=h.1 b hb;show IntKind.u8.wrap b=b;rw[IntKind.wrap_u8];omega
theorem fit_fitR {x:Rd} (h:Fit TR x):fitR x=true:=by
 unfold fitR;rw[Bool.and_eq_true,byB_iff,Nat.ble_eq];exact⟨fun b hb=>byteFit h.1 b hb,h.1.1⟩
theorem fitR_adv {x x':Rd} {c:Int} (h:Adv x x' c):fitR x'=fitR x:=by unfold fitR byB;rw[h.1]
def openV (l:List Int):Rd:=(l.take 2000,0)
theorem y_spec_l17Open (l:List Int):evFn (cxOf Γ13 Tryz.f63.ntmps [] [] [] []) Tryz.f63 false [ofD TB l] []=branch (decide (2000<(l.length:Int))) (need (inr 0 2000 l.length) (some (vP 1000,[(1000,bR (l.take 2000,0))]))) (some (vP 1000,[(1000,bR (l,0))])):=by kernel_rfl
theorem s_spec_l17Open (l:List Int) (_hl:Fit TB l):Sat Tryz.prog 63 [ofD TB l] [] (vP 1000) ([(1000,bR (openV l))]) :=
 fn_sound (cx:=cxOf Γ13 Tryz.f63.ntmps [] [] [] []) Tryz.func63 rfl ttOk Γ13ok mixed (fun _ _=>LoopsOk.no fun _=>rfl) (ro:=false) (by
  rw[y_spec_l17Open];unfold openV
  by_cases h:2000<(l.length:Int)
  ·rw[zT h,show inr 0 2000 l.length=true from zT ⟨by omega,by omega,by omega⟩];rfl
  ·rw[zF h,List.take_of_length_le (by omega)];rfl)
def c_spec_l17Open:Con:=conN [TB] fun(l:List Int)=>(none,vP 1000,[(1000,bR (openV l))])
theorem k_spec_l17Open:ConOk Tryz.prog 63 c_spec_l17Open:=conN_ok Tryz.call63 fun l hl _=>s_spec_l17Open l hl
def Γ14:GL:=(63,c_spec_l17Open)::Γ13
theorem Γ14ok:GO Γ14 := .cons k_spec_l17Open Γ13ok
theorem openV_by {l:List Int} (h:Fit TB l):byB (openV l)=true:=byB_iff.2 fun b hb=>byteFit h b (List.mem_of_mem_take hb)
theorem openV_at (l:List Int):rdAt (openV l) 0=true:=rfl
def l4abc:List Str:=[[97],[98],[97],[99],[98],[100]]
def cx0_l4Text:Cx:=cxOf Γ14 Tryz.f128.ntmps [(3,[0,1,5,6])] [(0,[5]),(1,[0,1,5,6]),(1000000,[4])] [] []
def sh_l4Text:Sh:=([(0, .ptr 0 0),(1, .d TI64),(5, .d .str),(6, .d TI64)],[(0, .box 120 TR)])
abbrev st_l4Text (n:Int) (s:Str) (i:Int) (x:Den TR):St:=⟨[(0, .d (.one (.ptr 0 0))),(1,vI n),(5,vS s),(6,vI i)],[(0,some (boxD 120 TR x))]⟩
def V_l4Text (n:Int) (s:Str) (i:Int) (x:Den TR):sh_l4Text.V:=((n,s,i,()),(x,()))
def out_l4Text (o:Str×Rd):St:=⟨[(5,vS o.1)],[(0,bR o.2)]⟩
def inv_l4Text (n:Int) (s:Str) (i:Int) (x:Den TR):Bool:=rdAt x (10000000999000+i)&&(decide (0≤i∧n≤1000∧i≤1000)&&decide (s.length≤i.toNat))
def post_l4Text (n:Int) (s:Str) (i:Int) (x:Den TR) (o:Str×Rd):Prop:=o.1.length≤s.length+(n-i).toNat∧Adv x o.2 ((n-i).toNat:Int)
def mu_l4Text (n:Int) (_s:Str) (i:Int) (_x:Den TR):Nat:=(n-i).toNat
theorem r_l4Text (n:Int) (s:Str) (i:Int) (x:Den TR) (hI:inv_l4Text n s i x=true):(∃o:Str×Rd,post_l4Text n s i x o∧∀(R:St→Option Fin) (K:Cont),evC cx0_l4Text (loopOf Tryz.f128 0) (st_l4Text n s i x) (onward (headAt cx0_l4Text 3) R K)=K (.exit 0) (out_l4Text o)) ∨
  (∃(n':Int) (s':Str) (i':Int) (x':Den TR),inv_l4Text n' s' i' x'=true∧mu_l4Text n' s' i' x'<mu_l4Text n s i x∧(∀o,post_l4Text n' s' i' x' o→post_l4Text n s i x o)∧∀(R:St→Option Fin) (K:Cont),evC cx0_l4Text (loopOf Tryz.f128 0) (st_l4Text n s i x) (onward (headAt cx0_l4Text 3) R K)=R (st_l4Text n' s' i' x')):=by
 have hx:∀(R:St→Option Fin) (K:Cont),evC cx0_l4Text (loopOf Tryz.f128 0) ⟨[(0,vP 0),(1,vI n),(5,vS s),(6,vI i)],[(0,bR x)]⟩ (onward (headAt cx0_l4Text 3) R K) =
  branch (decide (i<n)) (need (rdOk x&&Nat.blt 0 l4abc.length) (need (decide (s.length+(ofV x l4abc).length≤9223372036854775807)) (R ⟨[(0,vP 0),(1,vI n),(5,vS (s++ofV x l4abc)),(6,vI (W64 (i+1)))],[(0,bR (rdGo x 1))]⟩)))
   (K (.exit 0) ⟨[(5,vS s)],[(0,bR x)]⟩):=fun R K=>by kernel_rfl
 simp only[inv_l4Text,Bool.and_eq_true,decide_eq_true_eq]at hI;obtain⟨h1,⟨h2,h3,h4⟩,h5⟩:=hI;have hr:=rdAt_iff.1 h1
 by_cases hi:i<n
 ·right;have e:W64 (i+1)=i+1:=wrap_small (by omega) (by omega);have ho:(ofV x l4abc).length≤1:=ofV_len (by decide);refine⟨n,s++ofV x l4abc,i+1,rdGo x 1, ?_, ?_, ?_, ?_⟩
  ·simp only[inv_l4Text,Bool.and_eq_true,decide_eq_true_eq,length_append];exact⟨(Adv.one x).at h1 (by omega),by omega,by omega⟩
  ·simp only[mu_l4Text];omega
  ·rintro o ⟨g1,g2⟩;rw[length_append]at g1;exact⟨by omega,((Adv.one x).trans g2).le (by omega)⟩
  ·intro R K;refine(hx R K).trans ?_;rw[zT hi,branch_true,rdOk_iff.2 ⟨hr.1,by omega⟩,zT (by omega:s.length+(ofV x l4abc).length≤9223372036854775807),e];rfl
 ·left;refine⟨(s,x),⟨by show s.length≤s.length+_;omega,(Adv.refl x).le (by omega)⟩,fun R K => ?_⟩;refine(hx R K).trans ?_;rw[zF hi];rfl
def I_l4Text:sh_l4Text.V→Bool:=fun v=>match v with | ((n,s,i,()),(x,()))=>inv_l4Text n s i x
def P_l4Text:sh_l4Text.V→Str×Rd→Prop:=fun v o=>match v with | ((n,s,i,()),(x,()))=>post_l4Text n s i x o
def M_l4Text:sh_l4Text.V→Nat:=fun v=>match v with | ((n,s,i,()),(x,()))=>mu_l4Text n s i x
theorem a_l4Text:∀v:sh_l4Text.V,I_l4Text v=true→∃o,P_l4Text v o∧∀K r,K (.exit 0) (out_l4Text o)=some r→∃N,iter (evC cx0_l4Text (loopOf Tryz.f128 0)) (headAt cx0_l4Text 3) N (sh_l4Text.mk v) K=some r :=
 loop_any (fun v=>I_l4Text v=true) P_l4Text (.exit 0) M_l4Text fun v hI=>by
  obtain⟨⟨(n:Int),(s:Str),(i:Int),⟨⟩⟩,⟨(x:Den TR),⟨⟩⟩⟩:=v;rcases r_l4Text n s i x hI with⟨o,h1,h2⟩ | ⟨n',s',i',x',h1,h2,h3,h4⟩
  ·exact .inl ⟨o,h1,h2⟩
  ·exact .inr ⟨V_l4Text n' s' i' x',h1,h2,h3,h4⟩
def g_l4Text:St→Cont→Option Fin:=gEnd sh_l4Text I_l4Text out_l4Text (evC cx0_l4Text (loopOf Tryz.f128 0)) (headAt cx0_l4Text 3) P_l4Text (.exit 0)
def E_l4Text (n:Int) (s:Str) (i:Int) (x:Den TR):Str×Rd:=endOf sh_l4Text.mk out_l4Text (evC cx0_l4Text (loopOf Tryz.f128 0)) (headAt cx0_l4Text 3) P_l4Text (.exit 0) (V_l4Text n s i x)
theorem q_l4Text (n:Int) (s:Str) (i:Int) (x:Den TR) (hI:inv_l4Text n s i x=true):post_l4Text n s i x (E_l4Text n s i x):=(endOf_spec (a_l4Text (V_l4Text n s i x) hI)).1
def cx_l4Text:Cx:=cx0_l4Text.withLoops (look [(3,g_l4Text)])
theorem l_l4Text:∀st K r,g_l4Text st K=some r→∃N,iter (evC cx_l4Text (loopOf Tryz.f128 0)) (headAt cx_l4Text 3) N st K=some r:=with_ok (by kernel_rfl) (gEnd_ok a_l4Text)
theorem y_spec_l4Text (x:Rd) (n:Int):evFn cx_l4Text Tryz.f128 true [.one (.ptr 0 0),ofD TI64 n] [boxD 120 TR x]=need (inv_l4Text n [] 0 x) (some (.d (ofD .str (E_l4Text n [] 0 x).1),[(0,bR (E_l4Text n [] 0 x).2)])):=by kernel_rfl
theorem e_spec_l4Text (x:Rd) (n:Int) (_hx:Fit TR x) (_hn:Fit TI64 n) (hpre:(rdAt x 10000000999000&&decide (n≤1000))=true):∃q:(Str)×Rd,evFn (cx_l4Text) Tryz.f128 true [.one (.ptr 0 0),ofD TI64 n] [boxD 120 TR x]=some (.d (ofD .str q.1),[(0,some (boxD 120 TR q.2))])∧(length q.1≤n.toNat∧Adv x q.2 (n.toNat:Int)):=by
 obtain⟨r,h1,h2⟩:Ok (evFn (cx_l4Text) Tryz.f128 true [.one (.ptr 0 0),ofD TI64 n] [boxD 120 TR x]) (fun r=>∃(v:Str) (x':Rd),r=(.d (ofD .str v),[(0,some (boxD 120 TR x'))])∧(length v≤n.toNat∧Adv x x' (n.toNat:Int))):=by
  rw[Bool.and_eq_true,decide_eq_true_eq]at hpre;have hi:inv_l4Text n [] 0 x=true:=by
   simp only[inv_l4Text,Bool.and_eq_true,decide_eq_true_eq];exact⟨by simpa using hpre.1,⟨by omega,hpre.2,by omega⟩,by simp⟩
  have hp:=q_l4Text n [] 0 x hi;rw[y_spec_l4Text,hi];refine Ok.ret ⟨_,_,rfl, ?_⟩;unfold post_l4Text at hp
  simpa using hp
 obtain⟨v,x',h2,h3⟩:=h2;exact⟨(v,x'),by rw[h1,h2],h3⟩
def F_spec_l4Text (x:Rd) (n:Int):(Str)×Rd:=oneOf (fun q:(Str)×Rd=>evFn (cx_l4Text) Tryz.f128 true [.one (.ptr 0 0),ofD TI64 n] [boxD 120 TR x]=some (.d (ofD .str q.1),[(0,some (boxD 120 TR q.2))])∧(length q.1≤n.toNat∧Adv x q.2 (n.toNat:Int)))
theorem p_spec_l4Text (x:Rd) (n:Int) (hx:Fit TR x) (hn:Fit TI64 n) (hpre:(rdAt x 10000000999000&&decide (n≤1000))=true):length (F_spec_l4Text x n).1≤n.toNat∧Adv x (F_spec_l4Text x n).2 (n.toNat:Int):=(oneOf_spec (e_spec_l4Text x n hx hn hpre)).2
theorem s_spec_l4Text (x:Rd) (n:Int) (hx:Fit TR x) (hn:Fit TI64 n) (hpre:(rdAt x 10000000999000&&decide (n≤1000))=true):Sat Tryz.prog 128 [.one (.ptr 0 0),ofD TI64 n] [boxD 120 TR x] (.d (ofD .str (F_spec_l4Text x n).1)) [(0,some (boxD 120 TR (F_spec_l4Text x n).2))] :=
 fn_sound (cx:=cx_l4Text) Tryz.func128 rfl ttOk Γ14ok mixed (fun c hc=>LoopsOk.one (b:=loopOf Tryz.f128 0) (id:=3) (g:=g_l4Text) (by cases hc;kernel_rfl) rfl l_l4Text) (ro:=true) (oneOf_spec (e_spec_l4Text x n hx hn hpre)).1
def c_spec_l4Text:Con:=conB 120 TR [TI64] fun(x:Rd) (n:Int)=>(some (rdAt x 10000000999000&&decide (n≤1000)), .d (ofD .str (F_spec_l4Text x n).1),(F_spec_l4Text x n).2)
theorem k_spec_l4Text:ConOk Tryz.prog 128 c_spec_l4Text:=conB_ok Tryz.call128 fun x hx n hn hqq=>s_spec_l4Text x n hx hn (pre_of hqq)
def Γ15:GL:=(128,c_spec_l4Text)::Γ14
theorem Γ15ok:GO Γ15 := .cons k_spec_l4Text Γ14ok
abbrev go2 (x:Rd):Rd:=rdGo (rdGo x 1) 1
theorem Adv.two (x:Rd):Adv x (go2 x) 2:=(Adv.one x).trans (Adv.one _)
theorem ok1 {x:Rd} {k:Int} (h:rdAt x k=true) (hk:k≤10000001000000):rdOk x=true:=(Adv.refl x).ok h (by omega)
/-! ### loops, by what they come to -/
theorem loopP {V:Type} {mk:V→St} {f:St→Cont→Option Fin} {head:St→St} {P:V→Cont→Option Fin} {ok:V→Prop} (μ:V→Nat)
  (h:∀v K,ok v→(∀R:St→Option Fin,f (mk v) (onward head R K)=P v K)∨∃v',ok v'∧μ v'<μ v∧P v' K=P v K∧∀R:St→Option Fin,f (mk v) (onward head R K)=R (mk v')):∀v,ok v→∀K,∃N,iter f head N (mk v) K=P v K:=by
 have key:∀(d:Nat) v,μ v<d→ok v→∀K,∃N,iter f head N (mk v) K=P v K:=by
  intro d
  induction d with
  |zero=>intro v hv;omega
  |succ d ih =>
   intro v hv ho K;rcases h v K ho with h1 | ⟨v',h1,h2,h3,h4⟩
   ·exact ⟨1,by rw[iter_succ];exact h1 _⟩
   ·obtain ⟨n,hn⟩:=ih v' (by omega) h1 K;exact⟨n+1,by rw[iter_succ,h4,hn,h3]⟩
 exact fun v=>key _ v (Nat.lt_succ_self _)
def gP (s:Sh) (pre:s.V→Bool) (P:s.V→Cont→Option Fin):St→Cont→Option Fin:=orc s fun v K=>need (pre v) (P v K)
theorem gP_ok {s:Sh} {pre:s.V→Bool} {P:s.V→Cont→Option Fin} {f:St→Cont→Option Fin} {head:St→St} (μ:s.V→Nat)
  (h:∀v K,pre v=true→(∀R:St→Option Fin,f (s.mk v) (onward head R K)=P v K)∨∃v',pre v'=true∧μ v'<μ v∧P v' K=P v K∧∀R:St→Option Fin,f (s.mk v) (onward head R K)=R (s.mk v')):∀st K r,gP s pre P st K=some r→∃N,iter f head N st K=some r :=
 orc_ok fun v K r hr=>by
  obtain⟨h1,h2⟩:=need_some.1 hr;obtain⟨N,hN⟩:=loopP (ok:=fun v=>pre v=true) μ h v h1 K;exact⟨N,by rw[hN];exact h2⟩
theorem evC_agree (cx:Cx) (l l':Nat→Option (St→Cont→Option Fin)):∀c,(∀p∈loopsOf c,l p.1=l' p.1)→∀st K,evC (cx.withLoops l) c st K=evC (cx.withLoops l') c st K:=by
 intro c
 induction c with
 |seq x y ihx ihy =>
  intro h st K;simp only[evC];rw[ihx fun p hp=>h p (mem_append_left _ hp)]
  congr 1
  funext e st'
  cases e<;>first | rfl | exact ihy (fun p hp=>h p (mem_append_right _ hp)) _ _
 |cond o y z ihy ihz =>
  intro h st K;simp only[evC];have h1:=ihy fun p hp=>h p (mem_append_left _ hp);have h2:=ihz fun p hp=>h p (mem_append_right _ hp)
  cases (evOpd st.env o).bind nilD with
  |some n=>dsimp only;rw[h1,h2]
  |none =>
   cases (evOpd st.env o).bind boolD with
   |none=>rfl
   |some t=>dsimp only;rw[h1,h2]
 |block id c ih =>
  intro h st K;simp only[evC];rw[ih h]
 |loop c _ =>
  intro h st K;simp only[evC];have:=h ((firstRegion c).getD 0,c) (mem_cons_self ..);show(match (l ((firstRegion c).getD 0))with | some g=>g (headAt (cx.withLoops l) ((firstRegion c).getD 0) st) K | none=>none)=(match (l' ((firstRegion c).getD 0))with | some g=>g (headAt (cx.withLoops l') ((firstRegion c).getD 0) st) K | none=>none)
  rw[this];rfl
 |region id ops draw =>
  intro _ st K;simp only[evC,region]
  split<;>rw[steps_indep,steps_indep]<;>rfl
 |_=>intro _ st K;rfl
def idsFree (L:List (Nat×(St→Cont→Option Fin))) (b:Code):Bool:=L.all fun p=>(loopsOf b).all fun q => !Nat.beq p.1 q.1
theorem look_free {L m:List (Nat×(St→Cont→Option Fin))} {i:Nat} (h:L.all (fun p => !Nat.beq p.1 i)=true):look (L++m) i=look m i:=by
 induction L with
 |nil=>rfl
 |cons p L ih =>
  obtain⟨k,g⟩:=p;simp only[List.all_cons,Bool.and_eq_true,Bool.not_eq_true']at h;simp only[List.cons_append,look,h.1,cond_false];exact ih h.2
theorem with_drop {cb:Cx} {b:Code} {id:Nat} {g:St→Cont→Option Fin} {m L:List (Nat×(St→Cont→Option Fin))} {n:Nat} (h1:L.drop n=m) (h2:idsFree (L.take n) b=true)
  (hg:∀st K r,g st K=some r→∃N,iter (evC (cb.withLoops (look m)) b) (headAt (cb.withLoops (look m)) id) N st K=some r) :
  ∀st K r,g st K=some r→∃N,iter (evC (cb.withLoops (look L)) b) (headAt (cb.withLoops (look L)) id) N st K=some r:=by
 intro st K r hr;have:evC (cb.withLoops (look L)) b=evC (cb.withLoops (look m)) b:=by
  funext st K
  refine evC_agree cb _ _ b (fun p hp => ?_) st K;rw[← List.take_append_drop n L,h1];refine look_free (all_eq_true.2 fun q hq => ?_);exact all_eq_true.1 (all_eq_true.1 h2 q hq) p hp
 rw[this];exact hg st K r hr
def LoopsAll (cx:Cx):List (Nat×Code)→Prop
 | []=>True
 | (id,b)::l=>(∀g,cx.loops id=some g→∀st K r,g st K=some r→∃N,iter (evC cx b) (headAt cx id) N st K=some r)∧LoopsAll cx l
theorem LoopsOk.all {cx:Cx} {c:Code} {l:List (Nat×Code)} (hl:loopsOf c=l) (h:LoopsAll cx l):LoopsOk cx c:=by
 refine LoopsOk.of hl ?_;clear hl
 induction l with
 |nil=>intro id b hm;cases hm
 |cons p l ih =>
  intro id b hm;rcases List.mem_cons.1 hm with e | hm
  ·cases e;exact h.1
  ·exact ih h.2 id b hm
theorem atLoop {cx:Cx} {b:Code} {id:Nat} {g:St→Cont→Option Fin} (hg:cx.loops id=some g) (h:∀st K r,g st K=some r→∃N,iter (evC cx b) (headAt cx id) N st K=some r):∀g',cx.loops id=some g'→∀st K r,g' st K=some r→∃N,iter (evC cx b) (headAt cx id) N st K=some r:=fun g' hg'=>by
 rw[hg]at hg';cases hg';exact h
theorem b2 {a b:Bool}:(bif a then b else false)=(a&&b):=by cases a<;>rfl
theorem b3 {a b:Bool}:(bif a then true else b)=(a||b):=by cases a<;>rfl
abbrev TRu:Ty:=ty63
abbrev TRL:Ty:=ty23
abbrev TG:Ty:=ty25
abbrev Rule:Type:=Str×Str
abbrev Gram:Type:=Str×List Rule
def bigI (c:Int):Bool:=bif decide (65≤c)then decide (c≤69)else false
def bigc (c:UInt8):Bool:=Nat.ble 65 c.toNat&&Nat.ble c.toNat 69
def bigS:Str→Bool
 | [c]=>bigc c
 |_=>false
theorem ble_dec (a b:Nat):Nat.ble a b=decide (a≤b):=by
 by_cases h:a≤b
 ·rw[Nat.ble_eq_true_of_le h,zT h]
 ·rw[zF h]
  cases hb:Nat.ble a b
  ·rfl
  ·exact absurd (Nat.le_of_ble_eq_true hb) h
theorem bigI_nat (c:UInt8):bigI (c.toNat:Int)=bigc c:=by
 unfold bigI bigc;rw[ble_dec,ble_dec,b2]
 congr 1<;>(rw[decide_eq_decide];omega)
theorem s_spec_l1Big (c:Int) (_hc:Fit (.int .u8) c):Sat Tryz.prog 118 [ofD (.int .u8) c] [] (.d (ofD .bool (bigI c))) [] :=
 fn_sound (cx:=cxOf Γ15 Tryz.f118.ntmps [] [] [] []) Tryz.func118 rfl ttOk Γ15ok mixed (fun _ _=>LoopsOk.no fun _=>rfl) (ro:=true) (by
  kernel_rfl)
def c_spec_l1Big:Con:=conT [(.int .u8)] fun(c:Int)=>(none, .d (ofD .bool (bigI c)))
theorem k_spec_l1Big:ConOk Tryz.prog 118 c_spec_l1Big:=conT_ok Tryz.call118 fun c hc _=>s_spec_l1Big c hc
def Γ16:GL:=(118,c_spec_l1Big)::Γ15
theorem Γ16ok:GO Γ16 := .cons k_spec_l1Big Γ15ok
theorem y_spec_SignBig (s:Str):evFn (cxOf Γ16 Tryz.f86.ntmps [] [] [] []) Tryz.f86 true [ofD .str s] []=(
need (bif decide (decide ((s.length:Int)=1)=true)then inb 0 s.length else true) <|
 some ((vB (bif decide ((s.length:Int)=1)then bigI (byteAt s 0)else false)),[])):=by kernel_rfl
theorem s_spec_SignBig (s:Str) (_hs:Fit .str s):Sat Tryz.prog 86 [ofD .str s] [] (.d (ofD .bool (bigS s))) [] :=
 fn_sound (cx:=cxOf Γ16 Tryz.f86.ntmps [] [] [] []) Tryz.func86 rfl ttOk Γ16ok mixed (fun _ _=>LoopsOk.no fun _=>rfl) (ro:=true) (by
  rw[y_spec_SignBig]
  cases s with
  |nil=>rfl
  |cons c s=>cases s with
   |nil=>exact congrArg (fun b=>some ((vB b,[]):Fin)) (bigI_nat c)
   |cons d s =>
    rw[zF (by simp;omega:¬((c::d::s).length:Int)=1)];rfl)
def c_spec_SignBig:Con:=conT [.str] fun(s:Str)=>(none, .d (ofD .bool (bigS s)))
theorem k_spec_SignBig:ConOk Tryz.prog 86 c_spec_SignBig:=conT_ok Tryz.call86 fun s hs _=>s_spec_SignBig s hs
def Γ17:GL:=(86,c_spec_SignBig)::Γ16
theorem Γ17ok:GO Γ17 := .cons k_spec_SignBig Γ16ok
theorem s_impl_SignBig (s:Str) (_hs:Fit .str s):Sat Tryz.prog 42 [ofD .str s] [] (.d (ofD .bool (bigS s))) [] :=
 fn_sound (cx:=cxOf Γ17 Tryz.f42.ntmps [] [] [] []) Tryz.func42 rfl ttOk Γ17ok mixed (fun _ _=>LoopsOk.no fun _=>rfl) (ro:=true) (by
  have:evFn (cxOf Γ17 Tryz.f42.ntmps [] [] [] []) Tryz.f42 true [ofD .str s] []=some (vB (isIn s 65 69),[]):=by kernel_rfl
  rw[this];have:isIn s 65 69=bigS s:=by
   unfold isIn
   cases s with
   |nil=>rfl
   |cons c s=>cases s with
    |nil=>exact bigI_nat c
    |cons d s=>rw[zF (by simp;omega:¬((c::d::s).length:Int)=1)];rfl
  rw[this];rfl)
def c_impl_SignBig:Con:=conT [.str] fun(s:Str)=>(none, .d (ofD .bool (bigS s)))
theorem k_impl_SignBig:ConOk Tryz.prog 42 c_impl_SignBig:=conT_ok Tryz.call42 fun s hs _=>s_impl_SignBig s hs
def Γ18:GL:=(42,c_impl_SignBig)::Γ17
theorem Γ18ok:GO Γ18 := .cons k_impl_SignBig Γ17ok
def sign (c:UInt8):Bool:=bigc c||small c
def areS (s:Str) (n:Int):Bool:=s.all sign&&decide ((s.length:Int)≤n)
theorem smalls_at {s:Str} {i:Int} {p:UInt8→Bool} (h0:0≤i) (h1:i<(s.length:Int)):(s.drop i.toNat).all p=(p (s.getD i.toNat 0)&&(s.drop (i+1).toNat).all p):=by
 have hn:i.toNat<s.length:=by omega
 rw[drop_eq_getElem_cons hn,List.all_cons,show (i+1).toNat=i.toNat+1 by omega,zG,zE hn];rfl
theorem at_byte (s:Str) (i:Int):byteAt s i=((s.getD i.toNat 0).toNat:Int):=rfl
theorem drop_end {s:Str} {i:Int} {p:UInt8→Bool} (h1:(s.length:Int)≤i):(s.drop i.toNat).all p=true:=by rw[drop_eq_nil_of_le (by omega)];rfl
theorem sig_bool (a b:Bool):(bif !a then !b else false) = !(a||b):=by cases a<;>cases b<;>rfl
theorem need_t {α:Type} {x:Option α}:need true x=x:=rfl
theorem W1 {i:Int} {n:Nat} (h0:0≤i) (h1:i<(n:Int)) (hn:n≤big):W64 (i+1)=i+1:=wrap_small (by omega) (by simp only[big]at hn;omega)
theorem andd {a b:Bool}:(a&&b)=true↔a=true∧b=true:=by cases a<;>cases b<;>simp
theorem ble_iff {a b:Nat}:Nat.ble a b=true↔a≤b:=⟨Nat.le_of_ble_eq_true,Nat.ble_eq_true_of_le⟩
theorem dec_iff {p:Prop} [Decidable p]:decide p=true↔p:=decide_eq_true_iff
def cb_l1Right:Cx:=cxOf Γ18 Tryz.f116.ntmps [(2,[0,1,5])] [(0,[0,1]),(1,[0,1,5]),(1000000,[4])] [] []
abbrev st_l1Right (s:Str) (m i:Int):St:=⟨[(0,vS s),(1,vI m),(5,vI i)],[]⟩
theorem x_spec_l1Right (s:Str) (m:Int) (i:Int) (R:St→Option Fin) (K:Cont):evC (cb_l1Right.withLoops (look [])) (loopOf Tryz.f116 0) (st_l1Right s m i) (onward (headAt (cb_l1Right.withLoops (look [])) 2) R K)=(
branch (decide (i<(s.length:Int))) (
 need (inb i s.length) <|
 need (bif decide ((!bigI (byteAt s i))=true)then inb i s.length else true) <|
  branch (bif !bigI (byteAt s i)then !smallI (byteAt s i)else false) (
  K (.ret) (.mk [(4,(vB false))] [])) (
  R (st_l1Right s m (W64 (i+1))))) (
 K (.exit 0) (.mk [(0,(vS s)),(1,(vI m))] []))):=by kernel_rfl
def cx0_l1Right:Cx:=(cb_l1Right).withLoops (look [])
def sh_l1Right:Sh:=([(0, .d .str),(1, .d TI64),(5, .d TI64)],[])
def pre_l1Right (s:Str) (_m i:Int):Bool:=decide (0≤i)&&Nat.ble (length s) big
def res_l1Right (s:Str) (m i:Int) (K:Cont):Option Fin:=branch ((s.drop i.toNat).all sign) (K (.exit 0) ⟨[(0,vS s),(1,vI m)],[]⟩) (K .ret ⟨[(4,vB false)],[]⟩)
def mu_l1Right (s:Str) (_m i:Int):Nat:=length s-i.toNat
theorem r_l1Right (s:Str) (m i:Int) (K:Cont) (hI:pre_l1Right s m i=true):(∀R:St→Option Fin,evC cx0_l1Right (loopOf Tryz.f116 0) (st_l1Right s m i) (onward (headAt cx0_l1Right 2) R K)=res_l1Right s m i K) ∨
  (∃(s':Str) (m' i':Int),pre_l1Right s' m' i'=true∧mu_l1Right s' m' i'<mu_l1Right s m i∧res_l1Right s' m' i' K=res_l1Right s m i K∧∀R:St→Option Fin,evC cx0_l1Right (loopOf Tryz.f116 0) (st_l1Right s m i) (onward (headAt cx0_l1Right 2) R K)=R (st_l1Right s' m' i')):=by
 have hx:=fun R=>x_spec_l1Right s m i R K;simp only[pre_l1Right,andd,dec_iff,ble_iff]at hI;obtain⟨h0,h1⟩:=hI
 by_cases hi:i<(s.length:Int)
 ·simp only[hi,decide_true,inb_ok h0 hi,Bool.cond_self,branch_true,sig_bool,at_byte,bigI_nat,smallI_nat,W1 h0 hi h1]at hx
  cases hc:sign (s.getD i.toNat 0)
  ·left;intro R;refine(hx R).trans ?_;have hc':(bigc (s.getD i.toNat 0)||small (s.getD i.toNat 0))=false:=hc;simp only[res_l1Right,smalls_at (p:=sign) h0 hi,hc,hc',Bool.false_and,Bool.not_false];rfl
  ·right;have hc':(bigc (s.getD i.toNat 0)||small (s.getD i.toNat 0))=true:=hc;refine⟨s,m,i+1, ?_, ?_, ?_,fun R=>(hx R).trans ?_⟩
   ·simp only[pre_l1Right,andd,dec_iff,ble_iff];omega
   ·simp only[mu_l1Right];omega
   ·simp only[res_l1Right,smalls_at (p:=sign) h0 hi,hc,Bool.true_and]
   ·rw[hc'];rfl
 ·left;intro R;refine(hx R).trans ?_;simp only[hi,decide_false,branch_false,res_l1Right,drop_end (p:=sign) (by omega:(s.length:Int)≤i),branch_true]
def g_l1Right:St→Cont→Option Fin:=gP sh_l1Right (fun v=>match v with | ((s,m,i,()),())=>pre_l1Right s m i) (fun v K=>match v with | ((s,m,i,()),())=>res_l1Right s m i K)
def L_l1Right:LpL:=(2,g_l1Right)::[]
def cx_l1Right:Cx:=(cb_l1Right).withLoops (look L_l1Right)
theorem l_l1Right {L:LpL} (n:Nat) (h1:L.drop n=[]) (h2:idsFree (L.take n) (loopOf Tryz.f116 0)=true):LoopsTo g_l1Right (cb_l1Right) (loopOf Tryz.f116 0) 2 L :=
 with_drop h1 h2 (gP_ok (fun v=>match v with | ((s,m,i,()),())=>mu_l1Right s m i) fun v K hI=>by
  obtain⟨⟨s,m,i,⟨⟩⟩,⟨⟩⟩:=v;exact(r_l1Right s m i K hI).imp id fun⟨s',m',i',h⟩=>⟨((s',m',i',()),()),h⟩)
theorem y_spec_l1Right (s:Str) (m:Int):evFn cx_l1Right Tryz.f116 true [ofD .str s,ofD TI64 m] []=(
need (pre_l1Right s m 0) <|
 branch ((List.drop ((0:Int).toNat) s).all sign) (
 some ((vB (decide ((s.length:Int)≤m))),[])) (
 some ((vB false),[]))):=by kernel_rfl
theorem s_spec_l1Right (s:Str) (hs:Fit .str s) (m:Int) (_hm:Fit TI64 m):Sat Tryz.prog 116 [ofD .str s,ofD TI64 m] [] (.d (ofD .bool (areS s m))) [] :=
 fn_sound (cx:=cx_l1Right) Tryz.func116 rfl ttOk Γ18ok mixed (fun c hc=>LoopsOk.all (l:=[(2,loopOf Tryz.f116 0)]) (by cases hc;kernel_rfl) ⟨atLoop rfl (l_l1Right 1 rfl (by kernel_rfl)),trivial⟩) (ro:=true) (by
  have h:pre_l1Right s m 0=true:=andd.2 ⟨rfl,ble_iff.2 hs⟩;rw[y_spec_l1Right,h];unfold areS;show need true (branch (s.all sign) _ _)=_
  cases s.all sign<;>rfl)
def c_spec_l1Right:Con:=conT [.str,TI64] fun(s:Str) (m:Int)=>(none, .d (ofD .bool (areS s m)))
theorem k_spec_l1Right:ConOk Tryz.prog 116 c_spec_l1Right:=conT_ok Tryz.call116 fun s hs m hm _=>s_spec_l1Right s hs m hm
def Γ19:GL:=(116,c_spec_l1Right)::Γ18
theorem Γ19ok:GO Γ19 := .cons k_spec_l1Right Γ18ok
theorem y_impl_areSigns (s:Str) (n:Int):evFn (cxOf Γ19 Tryz.f91.ntmps [] [] [] []) Tryz.f91 true [ofD .str s,ofD TI64 n] []=(
need (bif decide (decide ((s.length:Int)≤n)=true)then isCut cutB else true) <| some ((vB (bif decide ((s.length:Int)≤n)then decide ((trim cutB s)=[])else false)),[])):=by kernel_rfl
theorem trimB_nil (s:Str):decide (trim cutB s=[])=s.all sign:=by
 have e:(inCut cutB)=sign:=by funext c;exact inCut_B c
 have h:=trim_nil (cut:=cutB) (s:=s);rw[e]at h
 by_cases g:trim cutB s=[]
 ·rw[zT g,h.1 g]
 ·rw[zF g]
  cases hs:s.all sign
  ·rfl
  ·exact absurd (h.2 hs) g
theorem s_impl_areSigns (s:Str) (_hs:Fit .str s) (n:Int) (_hn:Fit TI64 n):Sat Tryz.prog 91 [ofD .str s,ofD TI64 n] [] (.d (ofD .bool (areS s n))) [] :=
 fn_sound (cx:=cxOf Γ19 Tryz.f91.ntmps [] [] [] []) Tryz.func91 rfl ttOk Γ19ok mixed (fun _ _=>LoopsOk.no fun _=>rfl) (ro:=true) (by
  rw[y_impl_areSigns,trimB_nil];unfold areS
  cases decide ((s.length:Int)≤n)<;>cases s.all sign<;>rfl)
def c_impl_areSigns:Con:=conT [.str,TI64] fun(s:Str) (n:Int)=>(none, .d (ofD .bool (areS s n)))
theorem k_impl_areSigns:ConOk Tryz.prog 91 c_impl_areSigns:=conT_ok Tryz.call91 fun s hs n hn _=>s_impl_areSigns s hs n hn
def Γ20:GL:=(91,c_impl_areSigns)::Γ19
theorem Γ20ok:GO Γ20 := .cons k_impl_areSigns Γ19ok
def pos {α:Type} (p:α→Bool):List α→Nat→Option Nat
 | [],_=>none
 |a::l,i=>bif p a then some i else pos p l (i+1)
def eqRu (a b:Rule):Bool:=decide (a.1=b.1)&&(decide (a.2=b.2)&&true)
def placeV (l:List Rule) (x:Rule):Int:=match pos (fun y=>eqRu y x) l 0 with | some k=>(k:Int) | none => -1
theorem pos_at {α:Type} {p:α→Bool} {l:List α} {i:Int} (d:α) (h0:0≤i) (h1:i<(l.length:Int)):pos p (l.drop i.toNat) i.toNat=bif p (l.getD i.toNat d)then some i.toNat else pos p (l.drop (i+1).toNat) (i+1).toNat:=by
 have hn:i.toNat<l.length:=by omega
 rw[drop_eq_getElem_cons hn,show (i+1).toNat=i.toNat+1 by omega,zG,zE hn];rfl
theorem pos_end {α:Type} {p:α→Bool} {l:List α} {i:Int} (h1:(l.length:Int)≤i):pos p (l.drop i.toNat) i.toNat=none:=by rw[drop_eq_nil_of_le (by omega)];rfl
theorem pos_any {α:Type} {p:α→Bool}:∀ {l:List α} {i:Nat},(pos p l i).isSome=l.any p
 | [],_=>rfl
 |a::l,i=>by
  rw[pos,List.any_cons]
  cases p a
  ·exact pos_any
  ·rfl
theorem eqRu_comm (a b:Rule):eqRu a b=eqRu b a:=by
 unfold eqRu;rw[show decide (a.1=b.1)=decide (b.1=a.1)by rw[decide_eq_decide];exact eq_comm,show decide (a.2=b.2)=decide (b.2=a.2)by rw[decide_eq_decide];exact eq_comm]
theorem eqRu_iff {a b:Rule}:eqRu a b=true↔a=b:=by
 unfold eqRu;rw[andd,andd,dec_iff,dec_iff];exact⟨fun h=>Prod.ext h.1 h.2.1,fun h=>by rw[h];exact ⟨rfl,rfl,rfl⟩⟩
theorem placeV_neg {l:List Rule} {x:Rule}:decide (0≤placeV l x)=l.any (fun y=>eqRu y x):=by
 rw[← pos_any (i:=0)];unfold placeV
 cases pos (fun y=>eqRu y x) l 0 with
 |none=>rfl
 |some k=>simp
abbrev d0:Rule:=([],[])
theorem inr_take {i:Int} {n:Nat} (h0:0≤i) (h1:i<(n:Int)):inr 0 i n=true:=zT ⟨by omega,by omega,by omega⟩
def cb_l1Place:Cx:=cxOf Γ20 Tryz.f112.ntmps [(2,[0,3,5])] [(0,[]),(1,[0,3,5]),(1000000,[4])] [] []
abbrev st_l1Place (l:List Rule) (i:Int) (x:Rule):St:=⟨[(0, .d (ofD TRL l)),(3, kp0),(5,vI i)],[(500000,some (boxD 63 TRu x))]⟩
theorem x_spec_l1Place (l:List Rule) (x:Rule) (i:Int) (R:St→Option Fin) (K:Cont):evC (cb_l1Place.withLoops (look [])) (loopOf Tryz.f112 0) (st_l1Place l i x) (onward (headAt (cb_l1Place.withLoops (look [])) 2) R K)=(
branch (decide (i<↑l.length)) (
 need (inb i l.length) <|
 branch (decide ((l.getD i.toNat (dflt (Ty.str.pair Ty.str).struct)).fst=x.fst)&&(decide ((l.getD i.toNat (dflt (Ty.str.pair Ty.str).struct)).snd=x.snd)&&true)) ( K (.ret) (.mk [(4,vI i)] [])) ( R (.mk [(0,(.d (.one (.r (.li ((Ty.str.pair Ty.str).struct) l))))),(3,kp0),(5,vI (W64 (i+1)))] [(500000,(.some (.box 63 [(.r (.v (Value.string (mk x.fst)))),(.r (.v (Value.string (mk x.snd))))])))]))) ( K (.exit 0) (.mk [] []))):=by kernel_rfl
def cx0_l1Place:Cx:=(cb_l1Place).withLoops (look [])
def sh_l1Place:Sh:=([(0, .d TRL),(3, .ptr 500000 0),(5, .d TI64)],[(500000, .box 63 TRu)])
def pre_l1Place (l:List Rule) (i:Int) (_x:Rule):Bool:=decide (0≤i)&&Nat.ble (length l) big
def res_l1Place (l:List Rule) (i:Int) (x:Rule) (K:Cont):Option Fin:=branch (pos (fun y=>eqRu y x) (l.drop i.toNat) i.toNat).isSome (K .ret ⟨[(4,vI (((pos (fun y=>eqRu y x) (l.drop i.toNat) i.toNat).getD 0:Nat):Int))],[]⟩) (K (.exit 0) ⟨[],[]⟩)
def mu_l1Place (l:List Rule) (i:Int) (_x:Rule):Nat:=length l-i.toNat
theorem r_l1Place (l:List Rule) (i:Int) (x:Rule) (K:Cont) (hI:pre_l1Place l i x=true):(∀R:St→Option Fin,evC cx0_l1Place (loopOf Tryz.f112 0) (st_l1Place l i x) (onward (headAt cx0_l1Place 2) R K)=res_l1Place l i x K) ∨
  (∃(l':List Rule) (i':Int) (x':Rule),pre_l1Place l' i' x'=true∧mu_l1Place l' i' x'<mu_l1Place l i x∧res_l1Place l' i' x' K=res_l1Place l i x K∧∀R:St→Option Fin,evC cx0_l1Place (loopOf Tryz.f112 0) (st_l1Place l i x) (onward (headAt cx0_l1Place 2) R K)=R (st_l1Place l' i' x')):=by
 have hx:=fun R=>x_spec_l1Place l x i R K;simp only[pre_l1Place,andd,dec_iff,ble_iff]at hI;obtain⟨h0,h1⟩:=hI
 by_cases hi:i<(l.length:Int)
 ·simp only[hi,decide_true,inb_ok h0 hi,branch_true,W1 h0 hi h1]at hx;have hp:=pos_at (p:=fun y=>eqRu y x) d0 h0 hi
  cases hc:eqRu (l.getD i.toNat d0) x
  ·right;rw[hc]at hp;refine⟨l,i+1,x, ?_, ?_, ?_,fun R=>(hx R).trans ?_⟩
   ·simp only[pre_l1Place,andd,dec_iff,ble_iff];omega
   ·simp only[mu_l1Place];omega
   ·simp only[res_l1Place];rw[hp];rfl
   ·rw[show (decide ((l.getD i.toNat (dflt (Ty.str.pair Ty.str).struct)).fst=x.fst)&&(decide ((l.getD i.toNat (dflt (Ty.str.pair Ty.str).struct)).snd=x.snd)&&true))=false from hc];rfl
  ·left;intro R;rw[hc]at hp;refine(hx R).trans ?_;simp only[res_l1Place];rw[show (decide ((l.getD i.toNat (dflt (Ty.str.pair Ty.str).struct)).fst=x.fst)&&(decide ((l.getD i.toNat (dflt (Ty.str.pair Ty.str).struct)).snd=x.snd)&&true))=true from hc,hp];show K .ret _=K .ret _;simp only[cond_true,Option.getD_some,Int.toNat_of_nonneg h0]
 ·left;intro R;refine(hx R).trans ?_;simp only[hi,decide_false,branch_false,res_l1Place];rw[pos_end (by omega)];rfl
def g_l1Place:St→Cont→Option Fin:=gP sh_l1Place (fun v=>match v with | ((l,i,()),(x,()))=>pre_l1Place l i x) (fun v K=>match v with | ((l,i,()),(x,()))=>res_l1Place l i x K)
def L_l1Place:LpL:=(2,g_l1Place)::[]
def cx_l1Place:Cx:=(cb_l1Place).withLoops (look L_l1Place)
theorem l_l1Place {L:LpL} (n:Nat) (h1:L.drop n=[]) (h2:idsFree (L.take n) (loopOf Tryz.f112 0)=true):LoopsTo g_l1Place (cb_l1Place) (loopOf Tryz.f112 0) 2 L :=
 with_drop h1 h2 (gP_ok (fun v=>match v with | ((l,i,()),(x,()))=>mu_l1Place l i x) fun v K hI=>by
  obtain⟨⟨l,i,⟨⟩⟩,⟨x,⟨⟩⟩⟩:=v;exact(r_l1Place l i x K hI).imp id fun⟨l',i',x',h⟩=>⟨((l',i',()),(x',())),h⟩)
theorem y_spec_l1Place (l:List Rule) (x:Rule):evFn cx_l1Place Tryz.f112 true [ofD TRL l,ofD TRu x] []=(
need (pre_l1Place l 0 x) <|
branch ((pos (fun y=>eqRu y x) (List.drop ((0:Int).toNat) l) ((0:Int).toNat)).isSome) ( some ((vI ↑((pos (fun y=>eqRu y x) (List.drop ((0:Int).toNat) l) ((0:Int).toNat)).getD 0)),[])) ( some ((vI (Int.neg 1)),[]))):=by kernel_rfl
theorem s_spec_l1Place (l:List Rule) (hl:Fit TRL l) (x:Rule) (_hx:Fit TRu x):Sat Tryz.prog 112 [ofD TRL l,ofD TRu x] [] (.d (ofD TI64 (placeV l x))) [] :=
 fn_sound (cx:=cx_l1Place) Tryz.func112 rfl ttOk Γ20ok mixed (fun c hc=>LoopsOk.all (l:=[(2,loopOf Tryz.f112 0)]) (by cases hc;kernel_rfl) ⟨atLoop rfl (l_l1Place 1 rfl (by kernel_rfl)),trivial⟩) (ro:=true) (by
  have h:pre_l1Place l 0 x=true:=andd.2 ⟨rfl,ble_iff.2 hl.1⟩;rw[y_spec_l1Place,h];unfold placeV;show need true (branch (pos (fun y=>eqRu y x) l 0).isSome _ _)=_
  cases hq:pos (fun y=>eqRu y x) l 0 with
  |none=>rfl
  |some k =>
   show some (vI (((pos (fun y=>eqRu y x) l 0).getD 0:Nat):Int),[])=_;rw[hq];rfl)
def c_spec_l1Place:Con:=conT [TRL,TRu] fun(l:List Rule) (x:Rule)=>(none, .d (ofD TI64 (placeV l x)))
theorem k_spec_l1Place:ConOk Tryz.prog 112 c_spec_l1Place:=conT_ok Tryz.call112 fun l hl x hx _=>s_spec_l1Place l hl x hx
def Γ21:GL:=(112,c_spec_l1Place)::Γ20
theorem Γ21ok:GO Γ21 := .cons k_spec_l1Place Γ20ok
def cb_ixRule:Cx:=cxOf Γ21 Tryz.f125.ntmps [(2,[0,3,7,8])] [(0,[]),(1,[0,3,7,8]),(1000000,[4])] [] []
abbrev st_ixRule (l:List Rule) (n i:Int) (x:Rule):St:=⟨[(0, .d (ofD TRL l)),(3, kp0),(7,vI n),(8,vI i)],[(500000,some (boxD 63 TRu x))]⟩
theorem x_slices_Index_impl_Rule_impl_Rule (l:List Rule) (x:Rule) (n i:Int) (R:St→Option Fin) (K:Cont):evC (cb_ixRule.withLoops (look [])) (loopOf Tryz.f125 0) (st_ixRule l n i x) (onward (headAt (cb_ixRule.withLoops (look [])) 2) R K)=(
branch (decide (i<n)) (
 need (inb i l.length) <|
 branch (decide (x.fst=(l.getD i.toNat (dflt (Ty.str.pair Ty.str).struct)).fst)&&(decide (x.snd=(l.getD i.toNat (dflt (Ty.str.pair Ty.str).struct)).snd)&&true)) ( K (.ret) (.mk [(4,vI i)] [])) ( R (.mk [(0,(.d (.one (.r (.li ((Ty.str.pair Ty.str).struct) l))))),(3,kp0),(7,vI n),(8,vI (W64 (i+1)))] [(500000,(.some (.box 63 [(.r (.v (Value.string (mk x.fst)))),(.r (.v (Value.string (mk x.snd))))])))]))) ( K (.exit 0) (.mk [] []))):=by kernel_rfl
def cx0_ixRule:Cx:=(cb_ixRule).withLoops (look [])
def sh_ixRule:Sh:=([(0, .d TRL),(3, .ptr 500000 0),(7, .d TI64),(8, .d TI64)],[(500000, .box 63 TRu)])
def pre_ixRule (l:List Rule) (n i:Int) (_x:Rule):Bool:=decide (0≤i)&&(Nat.ble (length l) big&&decide (n=(length l:Int)))
def res_ixRule (l:List Rule) (_n i:Int) (x:Rule) (K:Cont):Option Fin:=branch (pos (fun y=>eqRu x y) (l.drop i.toNat) i.toNat).isSome (K .ret ⟨[(4,vI (((pos (fun y=>eqRu x y) (l.drop i.toNat) i.toNat).getD 0:Nat):Int))],[]⟩) (K (.exit 0) ⟨[],[]⟩)
def mu_ixRule (l:List Rule) (_n i:Int) (_x:Rule):Nat:=length l-i.toNat
theorem r_ixRule (l:List Rule) (n i:Int) (x:Rule) (K:Cont) (hI:pre_ixRule l n i x=true):(∀R:St→Option Fin,evC cx0_ixRule (loopOf Tryz.f125 0) (st_ixRule l n i x) (onward (headAt cx0_ixRule 2) R K)=res_ixRule l n i x K) ∨
  (∃(l':List Rule) (n' i':Int) (x':Rule),pre_ixRule l' n' i' x'=true∧mu_ixRule l' n' i' x'<mu_ixRule l n i x∧res_ixRule l' n' i' x' K=res_ixRule l n i x K∧∀R:St→Option Fin,evC cx0_ixRule (loopOf Tryz.f125 0) (st_ixRule l n i x) (onward (headAt cx0_ixRule 2) R K)=R (st_ixRule l' n' i' x')):=by
 have hx:=fun R=>x_slices_Index_impl_Rule_impl_Rule l x n i R K;simp only[pre_ixRule,andd,dec_iff,ble_iff]at hI;obtain⟨h0,h1,rfl⟩:=hI
 by_cases hi:i<(l.length:Int)
 ·simp only[hi,decide_true,inb_ok h0 hi,branch_true,W1 h0 hi h1]at hx;have hp:=pos_at (p:=fun y=>eqRu x y) d0 h0 hi
  cases hc:eqRu x (l.getD i.toNat d0)
  ·right;rw[hc]at hp;refine⟨l,(l.length:Int),i+1,x, ?_, ?_, ?_,fun R=>(hx R).trans ?_⟩
   ·exact andd.2 ⟨dec_iff.2 (by omega),andd.2 ⟨ble_iff.2 h1,zT rfl⟩⟩
   ·simp only[mu_ixRule];omega
   ·simp only[res_ixRule];rw[hp];rfl
   ·rw[show (decide (x.fst=(l.getD i.toNat (dflt (Ty.str.pair Ty.str).struct)).fst)&&(decide (x.snd=(l.getD i.toNat (dflt (Ty.str.pair Ty.str).struct)).snd)&&true))=false from hc];rfl
  ·left;intro R;rw[hc]at hp;refine(hx R).trans ?_;simp only[res_ixRule];rw[show (decide (x.fst=(l.getD i.toNat (dflt (Ty.str.pair Ty.str).struct)).fst)&&(decide (x.snd=(l.getD i.toNat (dflt (Ty.str.pair Ty.str).struct)).snd)&&true))=true from hc,hp];show K .ret _=K .ret _;simp only[cond_true,Option.getD_some,Int.toNat_of_nonneg h0]
 ·left;intro R;refine(hx R).trans ?_;simp only[hi,decide_false,branch_false,res_ixRule];rw[pos_end (by omega)];rfl
def g_ixRule:St→Cont→Option Fin:=gP sh_ixRule (fun v=>match v with | ((l,n,i,()),(x,()))=>pre_ixRule l n i x) (fun v K=>match v with | ((l,n,i,()),(x,()))=>res_ixRule l n i x K)
def L_ixRule:LpL:=(2,g_ixRule)::[]
def cx_ixRule:Cx:=(cb_ixRule).withLoops (look L_ixRule)
theorem l_ixRule {L:LpL} (n:Nat) (h1:L.drop n=[]) (h2:idsFree (L.take n) (loopOf Tryz.f125 0)=true):LoopsTo g_ixRule (cb_ixRule) (loopOf Tryz.f125 0) 2 L :=
 with_drop h1 h2 (gP_ok (fun v=>match v with | ((l,n,i,()),(x,()))=>mu_ixRule l n i x) fun v K hI=>by
  obtain⟨⟨l,n,i,⟨⟩⟩,⟨x,⟨⟩⟩⟩:=v;exact(r_ixRule l n i x K hI).imp id fun⟨l',n',i',x',h⟩=>⟨((l',n',i',()),(x',())),h⟩)
theorem y_slices_Index_impl_Rule_impl_Rule (l:List Rule) (x:Rule):evFn cx_ixRule Tryz.f125 true [ofD TRL l,ofD TRu x] []=(
need (pre_ixRule l (↑l.length) 0 x) <|
branch ((pos (fun y=>eqRu x y) (List.drop ((0:Int).toNat) l) ((0:Int).toNat)).isSome) ( some ((vI ↑((pos (fun y=>eqRu x y) (List.drop ((0:Int).toNat) l) ((0:Int).toNat)).getD 0)),[])) ( some ((vI (Int.neg 1)),[]))):=by kernel_rfl
def indexV (l:List Rule) (x:Rule):Int:=match pos (fun y=>eqRu x y) l 0 with | some k=>(k:Int) | none => -1
theorem s_slices_Index_impl_Rule_impl_Rule (l:List Rule) (hl:Fit TRL l) (x:Rule) (_hx:Fit TRu x):Sat Tryz.prog 125 [ofD TRL l,ofD TRu x] [] (.d (ofD TI64 (indexV l x))) [] :=
 fn_sound (cx:=cx_ixRule) Tryz.func125 rfl ttOk Γ21ok mixed (fun c hc=>LoopsOk.all (l:=[(2,loopOf Tryz.f125 0)]) (by cases hc;kernel_rfl) ⟨atLoop rfl (l_ixRule 1 rfl (by kernel_rfl)),trivial⟩) (ro:=true) (by
  have h:pre_ixRule l (l.length:Int) 0 x=true:=andd.2 ⟨rfl,andd.2 ⟨ble_iff.2 hl.1,zT rfl⟩⟩;rw[y_slices_Index_impl_Rule_impl_Rule,h];unfold indexV;show need true (branch (pos (fun y=>eqRu x y) l 0).isSome _ _)=_
  cases hq:pos (fun y=>eqRu x y) l 0 with
  |none=>rfl
  |some k =>
   show some (vI (((pos (fun y=>eqRu x y) l 0).getD 0:Nat):Int),[])=_;rw[hq];rfl)
def c_slices_Index_impl_Rule_impl_Rule:Con:=conT [TRL,TRu] fun(l:List Rule) (x:Rule)=>(none, .d (ofD TI64 (indexV l x)))
theorem k_slices_Index_impl_Rule_impl_Rule:ConOk Tryz.prog 125 c_slices_Index_impl_Rule_impl_Rule:=conT_ok Tryz.call125 fun l hl x hx _=>s_slices_Index_impl_Rule_impl_Rule l hl x hx
def Γ22:GL:=(125,c_slices_Index_impl_Rule_impl_Rule)::Γ21
theorem Γ22ok:GO Γ22 := .cons k_slices_Index_impl_Rule_impl_Rule Γ21ok
theorem indexV_neg {l:List Rule} {x:Rule}:decide (0≤indexV l x)=l.any (fun y=>eqRu y x):=by
 rw[← placeV_neg];have:indexV l x=placeV l x:=by
  unfold indexV placeV;rw[show (fun y=>eqRu x y)=fun y=>eqRu y x from funext fun y=>eqRu_comm x y]
 rw[this]
def hasRule (l:List Rule) (x:Rule):Bool:=l.any (fun y=>eqRu y x)
theorem y_slices_Contains_impl_Rule_impl_Rule (l:List Rule) (x:Rule):evFn (cxOf Γ22 Tryz.f92.ntmps [] [] [] []) Tryz.f92 true [ofD TRL l,ofD TRu x] []=(
some ((vB (decide (0≤indexV l x))),[])):=by kernel_rfl
theorem s_slices_Contains_impl_Rule_impl_Rule (l:List Rule) (_hl:Fit TRL l) (x:Rule) (_hx:Fit TRu x):Sat Tryz.prog 92 [ofD TRL l,ofD TRu x] [] (.d (ofD .bool (hasRule l x))) [] :=
 fn_sound (cx:=cxOf Γ22 Tryz.f92.ntmps [] [] [] []) Tryz.func92 rfl ttOk Γ22ok mixed (fun _ _=>LoopsOk.no fun _=>rfl) (ro:=true) (by
  rw[y_slices_Contains_impl_Rule_impl_Rule];have:=@indexV_neg l x;unfold hasRule;rw[← this];rfl)
def c_slices_Contains_impl_Rule_impl_Rule:Con:=conT [TRL,TRu] fun(l:List Rule) (x:Rule)=>(none, .d (ofD .bool (hasRule l x)))
theorem k_slices_Contains_impl_Rule_impl_Rule:ConOk Tryz.prog 92 c_slices_Contains_impl_Rule_impl_Rule:=conT_ok Tryz.call92 fun l hl x hx _=>s_slices_Contains_impl_Rule_impl_Rule l hl x hx
def Γ23:GL:=(92,c_slices_Contains_impl_Rule_impl_Rule)::Γ22
theorem Γ23ok:GO Γ23 := .cons k_slices_Contains_impl_Rule_impl_Rule Γ22ok
def okAt (l:List Rule) (i:Nat):Bool:=bigS (l.getD i d0).1&&(areS (l.getD i d0).2 4 && !hasRule (l.take i) (l.getD i d0))
def okFrom (l:List Rule) (i:Nat):Bool:=(List.range' i (l.length-i)).all (okAt l)
def okG (g:Gram):Bool:=bigS g.1&&(decide ((g.2.length:Int)≤8)&&okFrom g.2 0)
theorem okFrom_end {l:List Rule} {i:Nat} (h:l.length≤i):okFrom l i=true:=by
 unfold okFrom;rw[show l.length-i=0 by omega];rfl
theorem okFrom_go {l:List Rule} {i:Nat} (h:i<l.length):okFrom l i=(okAt l i&&okFrom l (i+1)):=by
 unfold okFrom;rw[show l.length-i=(l.length-(i+1))+1 by omega,List.range'_succ];rfl
theorem not_le8 (n:Nat):decide ((8:Int)<(n:Int)) = !decide ((n:Int)≤8):=by
 by_cases h:(n:Int)≤8
 ·rw[zT h,zF (by omega)];rfl
 ·rw[zF h,zT (by omega)];rfl
def cb_sGramOk:Cx:=cxOf Γ23 Tryz.f71.ntmps [(4,[1,3])] [(0,[]),(1,[1,3]),(1000000,[2])] [] []
abbrev st_sGramOk (i:Int) (g:Gram):St:=⟨[(1, kp0),(3,vI i)],[(500000,some (boxD 25 TG g))]⟩
theorem x_spec_GramOk (g:Gram) (i:Int) (R:St→Option Fin) (K:Cont):evC (cb_sGramOk.withLoops (look [])) (loopOf Tryz.f71 0) (st_sGramOk i g) (onward (headAt (cb_sGramOk.withLoops (look [])) 4) R K)=(
branch (decide (i<↑(length g.snd))) (
 need (inb i (length g.snd)) <|
 need (bif decide ((!bigS (getD g.snd i.toNat d0).fst)=false)then inb i (length g.snd)else true) <|
 need (bif decide ((bif !bigS (getD g.snd i.toNat d0).fst then true else !areS (getD g.snd i.toNat d0).snd 4)=false)then inr 0 i (length g.snd)else true) <|
 need (bif decide ((bif !bigS (getD g.snd i.toNat d0).fst then true else !areS (getD g.snd i.toNat d0).snd 4)=false)then inb i (length g.snd)else true) <|
 branch (bif bif !bigS (getD g.snd i.toNat d0).fst then true else !areS (getD g.snd i.toNat d0).snd 4 then true else decide (0≤placeV (List.take i.toNat g.snd) (getD g.snd i.toNat d0))) ( K (.ret) (.mk [(2,vB false)] [])) ( R (st_sGramOk (W64 (i+1)) g))) ( K (.exit 0) (.mk [] []))):=by kernel_rfl
theorem okAt_tree (a b c:Bool):(bif bif !a then true else !b then true else c) = !(a&&(b && !c)):=by cases a<;>cases b<;>cases c<;>rfl
def cx0_sGramOk:Cx:=(cb_sGramOk).withLoops (look [])
def sh_sGramOk:Sh:=([(1, .ptr 500000 0),(3, .d TI64)],[(500000, .box 25 TG)])
def pre_sGramOk (i:Int) (g:Gram):Bool:=decide (0≤i)&&Nat.ble (length g.2) big
def res_sGramOk (i:Int) (g:Gram) (K:Cont):Option Fin:=branch (okFrom g.2 i.toNat) (K (.exit 0) ⟨[],[]⟩) (K .ret ⟨[(2,vB false)],[]⟩)
def mu_sGramOk (i:Int) (g:Gram):Nat:=length g.2-i.toNat
theorem r_sGramOk (i:Int) (g:Gram) (K:Cont) (hI:pre_sGramOk i g=true):(∀R:St→Option Fin,evC cx0_sGramOk (loopOf Tryz.f71 0) (st_sGramOk i g) (onward (headAt cx0_sGramOk 4) R K)=res_sGramOk i g K) ∨
  (∃(i':Int) (g':Gram),pre_sGramOk i' g'=true∧mu_sGramOk i' g'<mu_sGramOk i g∧res_sGramOk i' g' K=res_sGramOk i g K∧∀R:St→Option Fin,evC cx0_sGramOk (loopOf Tryz.f71 0) (st_sGramOk i g) (onward (headAt cx0_sGramOk 4) R K)=R (st_sGramOk i' g')):=by
 have hx:=fun R=>x_spec_GramOk g i R K;simp only[pre_sGramOk,andd,dec_iff,ble_iff]at hI;obtain⟨h0,h1⟩:=hI
 by_cases hi:i<(length g.2:Int)
 ·simp only[hi,decide_true,inb_ok h0 hi,inr_take h0 hi,Bool.cond_self,branch_true,okAt_tree,placeV_neg,W1 h0 hi h1]at hx;have hn:i.toNat<length g.2:=by omega
  have hg:=okFrom_go hn;rw[show i.toNat+1=(i+1).toNat by omega]at hg
  cases hc:okAt g.2 i.toNat
  ·left;intro R;rw[hc]at hg;refine(hx R).trans ?_;have hc':=hc;unfold okAt hasRule at hc';rw[hc'];simp only[res_sGramOk,hg];rfl
  ·right;rw[hc]at hg;refine⟨i+1,g, ?_, ?_, ?_,fun R=>(hx R).trans ?_⟩
   ·exact andd.2 ⟨dec_iff.2 (by omega),ble_iff.2 h1⟩
   ·simp only[mu_sGramOk];omega
   ·simp only[res_sGramOk,hg];rfl
   ·have hc':=hc;unfold okAt hasRule at hc';rw[hc'];rfl
 ·left;intro R;refine(hx R).trans ?_;simp only[hi,decide_false,branch_false,res_sGramOk];rw[okFrom_end (by omega)];rfl
def g_sGramOk:St→Cont→Option Fin:=gP sh_sGramOk (fun v=>match v with | ((i,()),(g,()))=>pre_sGramOk i g) (fun v K=>match v with | ((i,()),(g,()))=>res_sGramOk i g K)
def L_sGramOk:LpL:=(4,g_sGramOk)::[]
def cx_sGramOk:Cx:=(cb_sGramOk).withLoops (look L_sGramOk)
theorem l_sGramOk {L:LpL} (n:Nat) (h1:L.drop n=[]) (h2:idsFree (L.take n) (loopOf Tryz.f71 0)=true):LoopsTo g_sGramOk (cb_sGramOk) (loopOf Tryz.f71 0) 4 L :=
 with_drop h1 h2 (gP_ok (fun v=>match v with | ((i,()),(g,()))=>mu_sGramOk i g) fun v K hI=>by
  obtain⟨⟨i,⟨⟩⟩,⟨g,⟨⟩⟩⟩:=v;exact(r_sGramOk i g K hI).imp id fun⟨i',g',h⟩=>⟨((i',()),(g',())),h⟩)
theorem y_spec_GramOk (g:Gram):evFn cx_sGramOk Tryz.f71 true [ofD TG g] []=(
branch (bif !bigS g.fst then true else decide (8<(length g.snd:Int))) ( some ((vB false),[])) (
 need (pre_sGramOk 0 g) <|
 branch (okFrom g.snd ((0:Int).toNat)) ( some ((vB true),[])) ( some ((vB false),[])))):=by kernel_rfl
theorem s_spec_GramOk (g:Gram) (hg:Fit TG g):Sat Tryz.prog 71 [ofD TG g] [] (.d (ofD .bool (okG g))) [] :=
 fn_sound (cx:=cx_sGramOk) Tryz.func71 rfl ttOk Γ23ok mixed (fun c hc=>LoopsOk.all (l:=[(4,loopOf Tryz.f71 0)]) (by cases hc;kernel_rfl) ⟨atLoop rfl (l_sGramOk 1 rfl (by kernel_rfl)),trivial⟩) (ro:=true) (by
  have h:pre_sGramOk 0 g=true:=andd.2 ⟨rfl,ble_iff.2 hg.2.1⟩;rw[y_spec_GramOk,h,not_le8];unfold okG
  cases bigS g.1
  ·rfl
  ·cases decide ((length g.2:Int)≤8)
   ·rfl
   ·show need true (branch (okFrom g.2 0) _ _)=_
    cases okFrom g.2 0<;>rfl)
def c_spec_GramOk:Con:=conT [TG] fun(g:Gram)=>(none, .d (ofD .bool (okG g)))
theorem k_spec_GramOk:ConOk Tryz.prog 71 c_spec_GramOk:=conT_ok Tryz.call71 fun g hg _=>s_spec_GramOk g hg
def Γ24:GL:=(71,c_spec_GramOk)::Γ23
theorem Γ24ok:GO Γ24 := .cons k_spec_GramOk Γ23ok
def cb_iGramOk:Cx:=cxOf Γ24 Tryz.f43.ntmps [(4,[1,16,17,18])] [(0,[]),(1,[1,16,17,18]),(1000000,[2])] [] []
abbrev st_iGramOk (l:List Rule) (n i:Int) (g:Gram):St:=⟨[(1, kp0),(16, .d (ofD TRL l)),(17,vI n),(18,vI i)],[(500000,some (boxD 25 TG g))]⟩
theorem x_impl_GramOk (g:Gram) (l:List Rule) (n i:Int) (R:St→Option Fin) (K:Cont):evC (cb_iGramOk.withLoops (look [])) (loopOf Tryz.f43 0) (st_iGramOk l n i g) (onward (headAt (cb_iGramOk.withLoops (look [])) 4) R K)=(
branch (decide (i<n)) (
 need (inb i l.length) <|
 need (bif decide ((bif !bigS (l.getD i.toNat d0).fst then true else !areS (l.getD i.toNat d0).snd 4)=false)then inr 0 i (length g.snd)else true) <|
 branch (bif bif !bigS (l.getD i.toNat d0).fst then true else !areS (l.getD i.toNat d0).snd 4 then true else hasRule (List.take i.toNat g.snd) (l.getD i.toNat d0)) ( K (.ret) (.mk [(2,vB false)] [])) ( R (st_iGramOk l n (W64 (i+1)) g))) ( K (.exit 0) (.mk [] []))):=by kernel_rfl
def cx0_iGramOk:Cx:=(cb_iGramOk).withLoops (look [])
def sh_iGramOk:Sh:=([(1, .ptr 500000 0),(16, .d TRL),(17, .d TI64),(18, .d TI64)],[(500000, .box 25 TG)])
def pre_iGramOk (l:List Rule) (n i:Int) (g:Gram):Bool:=decide (0≤i)&&(Nat.ble (length g.2) big&&(decide (n=(length g.2:Int))&&decide (l=g.2)))
def res_iGramOk (_l:List Rule) (_n i:Int) (g:Gram) (K:Cont):Option Fin:=branch (okFrom g.2 i.toNat) (K (.exit 0) ⟨[],[]⟩) (K .ret ⟨[(2,vB false)],[]⟩)
def mu_iGramOk (_l:List Rule) (_n i:Int) (g:Gram):Nat:=length g.2-i.toNat
theorem r_iGramOk (l:List Rule) (n i:Int) (g:Gram) (K:Cont) (hI:pre_iGramOk l n i g=true):(∀R:St→Option Fin,evC cx0_iGramOk (loopOf Tryz.f43 0) (st_iGramOk l n i g) (onward (headAt cx0_iGramOk 4) R K)=res_iGramOk l n i g K) ∨
  (∃(l':List Rule) (n' i':Int) (g':Gram),pre_iGramOk l' n' i' g'=true∧mu_iGramOk l' n' i' g'<mu_iGramOk l n i g∧res_iGramOk l' n' i' g' K=res_iGramOk l n i g K∧∀R:St→Option Fin,evC cx0_iGramOk (loopOf Tryz.f43 0) (st_iGramOk l n i g) (onward (headAt cx0_iGramOk 4) R K)=R (st_iGramOk l' n' i' g')):=by
 have hx:=fun R=>x_impl_GramOk g l n i R K;simp only[pre_iGramOk,andd,dec_iff,ble_iff]at hI;obtain⟨h0,h1,rfl,rfl⟩:=hI
 by_cases hi:i<(length g.2:Int)
 ·simp only[hi,decide_true,inb_ok h0 hi,inr_take h0 hi,Bool.cond_self,branch_true,okAt_tree,W1 h0 hi h1]at hx;have hn:i.toNat<length g.2:=by omega
  have hg:=okFrom_go hn;rw[show i.toNat+1=(i+1).toNat by omega]at hg
  cases hc:okAt g.2 i.toNat
  ·left;intro R;rw[hc]at hg;refine(hx R).trans ?_;have hc':=hc;unfold okAt at hc';rw[hc'];simp only[res_iGramOk,hg];rfl
  ·right;rw[hc]at hg;refine⟨g.2,(length g.2:Int),i+1,g, ?_, ?_, ?_,fun R=>(hx R).trans ?_⟩
   ·exact andd.2 ⟨dec_iff.2 (by omega),andd.2 ⟨ble_iff.2 h1,andd.2 ⟨zT rfl,zT rfl⟩⟩⟩
   ·simp only[mu_iGramOk];omega
   ·simp only[res_iGramOk,hg];rfl
   ·have hc':=hc;unfold okAt at hc';rw[hc'];rfl
 ·left;intro R;refine(hx R).trans ?_;simp only[hi,decide_false,branch_false,res_iGramOk];rw[okFrom_end (by omega)];rfl
def g_iGramOk:St→Cont→Option Fin:=gP sh_iGramOk (fun v=>match v with | ((l,n,i,()),(g,()))=>pre_iGramOk l n i g) (fun v K=>match v with | ((l,n,i,()),(g,()))=>res_iGramOk l n i g K)
def L_iGramOk:LpL:=(4,g_iGramOk)::[]
def cx_iGramOk:Cx:=(cb_iGramOk).withLoops (look L_iGramOk)
theorem l_iGramOk {L:LpL} (n:Nat) (h1:L.drop n=[]) (h2:idsFree (L.take n) (loopOf Tryz.f43 0)=true):LoopsTo g_iGramOk (cb_iGramOk) (loopOf Tryz.f43 0) 4 L :=
 with_drop h1 h2 (gP_ok (fun v=>match v with | ((l,n,i,()),(g,()))=>mu_iGramOk l n i g) fun v K hI=>by
  obtain⟨⟨l,n,i,⟨⟩⟩,⟨g,⟨⟩⟩⟩:=v;exact(r_iGramOk l n i g K hI).imp id fun⟨l',n',i',g',h⟩=>⟨((l',n',i',()),(g',())),h⟩)
theorem y_impl_GramOk (g:Gram):evFn cx_iGramOk Tryz.f43 true [ofD TG g] []=(
branch (bif !bigS g.fst then true else decide (8<(length g.snd:Int))) ( some ((vB false),[])) (
 need (pre_iGramOk g.snd ((length g.snd:Int)) 0 g) <|
 branch (okFrom g.snd ((0:Int).toNat)) ( some ((vB true),[])) ( some ((vB false),[])))):=by kernel_rfl
theorem s_impl_GramOk (g:Gram) (hg:Fit TG g):Sat Tryz.prog 43 [ofD TG g] [] (.d (ofD .bool (okG g))) [] :=
 fn_sound (cx:=cx_iGramOk) Tryz.func43 rfl ttOk Γ24ok mixed (fun c hc=>LoopsOk.all (l:=[(4,loopOf Tryz.f43 0)]) (by cases hc;kernel_rfl) ⟨atLoop rfl (l_iGramOk 1 rfl (by kernel_rfl)),trivial⟩) (ro:=true) (by
  have h:pre_iGramOk g.2 (length g.2:Int) 0 g=true:=andd.2 ⟨rfl,andd.2 ⟨ble_iff.2 hg.2.1,andd.2 ⟨zT rfl,zT rfl⟩⟩⟩;rw[y_impl_GramOk,h,not_le8];unfold okG
  cases bigS g.1
  ·rfl
  ·cases decide ((length g.2:Int)≤8)
   ·rfl
   ·show need true (branch (okFrom g.2 0) _ _)=_
    cases okFrom g.2 0<;>rfl)
def c_impl_GramOk:Con:=conT [TG] fun(g:Gram)=>(none, .d (ofD .bool (okG g)))
theorem k_impl_GramOk:ConOk Tryz.prog 43 c_impl_GramOk:=conT_ok Tryz.call43 fun g hg _=>s_impl_GramOk g hg
def Γ25:GL:=(43,c_impl_GramOk)::Γ24
theorem Γ25ok:GO Γ25 := .cons k_impl_GramOk Γ24ok
theorem fits_ok {n b:Nat} (hn:n≤100000) (hb:b≤100000):fits n b=true:=by
 unfold fits;refine zT ?_;have:=Nat.mul_le_mul hn hb;omega
theorem ruleBytes:Tryz.t63.bytes=32:=by kernel_rfl
theorem intBytes:Tryz.t3.bytes=8:=by kernel_rfl
def szR (r:Rule):Bool:=Nat.ble r.1.length 8&&Nat.ble r.2.length 8
def szL (r:Rule):Bool:=szR r&&bigS r.1
def lefB (g:Gram):Bool:=bigS g.1&&List.all g.2 fun r=>bigS r.1
theorem all_szL {l:List Rule}:l.all szL=true↔l.all szR=true∧(l.all fun r=>bigS r.1)=true:=by
 simp only[all_eq_true,szL,Bool.and_eq_true];exact⟨fun h=>⟨fun r hr=>(h r hr).1,fun r hr=>(h r hr).2⟩,fun h r hr=>⟨h.1 r hr,h.2 r hr⟩⟩
def szG (k:Nat) (g:Gram):Bool:=Nat.ble (length g.1) 8&&(Nat.ble (length g.2) k&&List.all g.2 szR)
theorem y_spec_l1Base (k:Int):evFn (cxOf Γ25 Tryz.f109.ntmps [] [(0,[2]),(1000000,[2])] [] []) Tryz.f109 true [ofD TI64 k] []=(
branch (decide (k=0)) ( some ((.d (.agg [(.r (.v (Value.string (mk [65])))),(.r (.li ty63 ([(([65]:Str),([97,65,98]:Str)),(([65]:Str),([]:Str))])))])),[])) (
 branch (decide (k=1)) ( some ((.d (.agg [(.r (.v (Value.string (mk [65])))),(.r (.li ty63 ([(([65]:Str),([65,98,66]:Str)),(([65]:Str),([66]:Str)),(([66]:Str),([97]:Str)),(([66]:Str),([99,65,100]:Str))])))])),[])) (
 branch (decide (k=2)) ( some ((.d (.agg [(.r (.v (Value.string (mk [65])))),(.r (.li ty63 ([(([65]:Str),([65,98,65]:Str)),(([65]:Str),([97]:Str))])))])),[])) (
  branch (decide (k=3)) ( some ((.d (.agg [(.r (.v (Value.string (mk [65])))),(.r (.li ty63 ([(([65]:Str),([66,67]:Str)),(([66]:Str),([97,66]:Str)),(([66]:Str),([]:Str)),(([67]:Str),([98]:Str)),(([67]:Str),([68]:Str)),(([68]:Str),([68,99]:Str))])))])),[])) (
  branch (decide (k=4)) ( some ((.d (.agg [(.r (.v (Value.string (mk [65])))),(.r (.li ty63 ([(([65]:Str),([97,66]:Str)),(([65]:Str),([98,65]:Str)),(([66]:Str),([65]:Str)),(([66]:Str),([99]:Str)),(([66]:Str),([66]:Str))])))])),[])) (
   branch (decide (k=5)) ( some ((.d (.agg [(.r (.v (Value.string (mk [65])))),(.r (.li ty63 ([(([65]:Str),([97,65]:Str)),(([65]:Str),([97,65,98,65]:Str)),(([65]:Str),([99]:Str))])))])),[])) (
   branch (decide (k=6)) ( some ((.d (.agg [(.r (.v (Value.string (mk [65])))),(.r (.li ty63 ([(([65]:Str),([66,66]:Str)),(([66]:Str),([97,66]:Str)),(([66]:Str),([98]:Str))])))])),[])) ( some ((.d (.agg [(.r (.v (Value.string (mk [65])))),(.r (.li ty63 ([])))])),[]))))))))):=by kernel_rfl
theorem base_fin {g:Gram} (h:(szG 6 g&&lefB g)=true):Ok (some ((.d (ofD TG g),[]):Fin)) (fun r=>∃v:Gram,r=(.d (ofD TG v),[])∧(szG 6 v&&lefB v)=true):=Ok.ret ⟨g,rfl,h⟩
theorem e_spec_l1Base (k:Int) (_hk:Fit TI64 k):∃q:Gram,evFn (cxOf Γ25 Tryz.f109.ntmps [] [(0,[2]),(1000000,[2])] [] []) Tryz.f109 true [ofD TI64 k] []=some (.d (ofD TG q),[])∧((szG 6 q&&lefB q)=true):=by
 obtain⟨r,h1,h2⟩:Ok (evFn (cxOf Γ25 Tryz.f109.ntmps [] [(0,[2]),(1000000,[2])] [] []) Tryz.f109 true [ofD TI64 k] []) (fun r=>∃(v:Gram),r=(.d (ofD TG v),[])∧((szG 6 v&&lefB v)=true)):=by
  rw[y_spec_l1Base];exact Ok.br (fun _=>base_fin (g:=([65],[([65],[97,65,98]),([65],[])])) rfl) fun _=>Ok.br (fun _=>base_fin (g:=([65],[([65],[65,98,66]),([65],[66]),([66],[97]),([66],[99,65,100])])) rfl) fun _ =>
   Ok.br (fun _=>base_fin (g:=([65],[([65],[65,98,65]),([65],[97])])) rfl) fun _=>Ok.br (fun _=>base_fin (g:=([65],[([65],[66,67]),([66],[97,66]),([66],[]),([67],[98]),([67],[68]),([68],[68,99])])) rfl) fun _ =>
   Ok.br (fun _=>base_fin (g:=([65],[([65],[97,66]),([65],[98,65]),([66],[65]),([66],[99]),([66],[66])])) rfl) fun _=>Ok.br (fun _=>base_fin (g:=([65],[([65],[97,65]),([65],[97,65,98,65]),([65],[99])])) rfl) fun _ =>
   Ok.br (fun _=>base_fin (g:=([65],[([65],[66,66]),([66],[97,66]),([66],[98])])) rfl) fun _=>base_fin (g:=([65],[])) rfl
 obtain⟨v,h2,h3⟩:=h2;exact⟨v,by rw[h1,h2],h3⟩
def F_spec_l1Base (k:Int):Gram:=oneOf (fun q:Gram=>evFn (cxOf Γ25 Tryz.f109.ntmps [] [(0,[2]),(1000000,[2])] [] []) Tryz.f109 true [ofD TI64 k] []=some (.d (ofD TG q),[])∧((szG 6 q&&lefB q)=true))
theorem p_spec_l1Base (k:Int) (hk:Fit TI64 k):(szG 6 (F_spec_l1Base k)&&lefB (F_spec_l1Base k))=true:=(oneOf_spec (e_spec_l1Base k hk)).2
theorem s_spec_l1Base (k:Int) (hk:Fit TI64 k):Sat Tryz.prog 109 [ofD TI64 k] [] (.d (ofD TG (F_spec_l1Base k))) [] :=
 fn_sound (cx:=cxOf Γ25 Tryz.f109.ntmps [] [(0,[2]),(1000000,[2])] [] []) Tryz.func109 rfl ttOk Γ25ok mixed (fun _ _=>LoopsOk.no fun _=>rfl) (ro:=true) (oneOf_spec (e_spec_l1Base k hk)).1
def c_spec_l1Base:Con:=conT [TI64] fun(k:Int)=>(none, .d (ofD TG (F_spec_l1Base k)))
theorem k_spec_l1Base:ConOk Tryz.prog 109 c_spec_l1Base:=conT_ok Tryz.call109 fun k hk _=>s_spec_l1Base k hk
def Γ26:GL:=(109,c_spec_l1Base)::Γ25
theorem Γ26ok:GO Γ26 := .cons k_spec_l1Base Γ25ok
def l1abc:List Str:=[[97],[98],[65],[66],[97],[99],[98],[67],[100]]
def cx0_l1Signed:Cx:=cxOf Γ26 Tryz.f111.ntmps [(3,[0,1,5,6])] [(0,[5]),(1,[0,1,5,6]),(1000000,[4])] [] []
def sh_l1Signed:Sh:=([(0, .ptr 0 0),(1, .d TI64),(5, .d .str),(6, .d TI64)],[(0, .box 120 TR)])
abbrev st_l1Signed (n:Int) (s:Str) (i:Int) (x:Den TR):St:=⟨[(0, .d (.one (.ptr 0 0))),(1,vI n),(5,vS s),(6,vI i)],[(0,some (boxD 120 TR x))]⟩
def V_l1Signed (n:Int) (s:Str) (i:Int) (x:Den TR):sh_l1Signed.V:=((n,s,i,()),(x,()))
def out_l1Signed (o:Str×Rd):St:=⟨[(5,vS o.1)],[(0,bR o.2)]⟩
def inv_l1Signed (n:Int) (s:Str) (i:Int) (x:Den TR):Bool:=rdAt x (10000000999000+i)&&(decide (0≤i∧n≤1000∧i≤1000)&&decide (s.length≤i.toNat))
def post_l1Signed (n:Int) (s:Str) (i:Int) (x:Den TR) (o:Str×Rd):Prop:=o.1.length≤s.length+(n-i).toNat∧Adv x o.2 ((n-i).toNat:Int)
def mu_l1Signed (n:Int) (_s:Str) (i:Int) (_x:Den TR):Nat:=(n-i).toNat
theorem r_l1Signed (n:Int) (s:Str) (i:Int) (x:Den TR) (hI:inv_l1Signed n s i x=true):(∃o:Str×Rd,post_l1Signed n s i x o∧∀(R:St→Option Fin) (K:Cont),evC cx0_l1Signed (loopOf Tryz.f111 0) (st_l1Signed n s i x) (onward (headAt cx0_l1Signed 3) R K)=K (.exit 0) (out_l1Signed o)) ∨
  (∃(n':Int) (s':Str) (i':Int) (x':Den TR),inv_l1Signed n' s' i' x'=true∧mu_l1Signed n' s' i' x'<mu_l1Signed n s i x∧(∀o,post_l1Signed n' s' i' x' o→post_l1Signed n s i x o)∧∀(R:St→Option Fin) (K:Cont),evC cx0_l1Signed (loopOf Tryz.f111 0) (st_l1Signed n s i x) (onward (headAt cx0_l1Signed 3) R K)=R (st_l1Signed n' s' i' x')):=by
 have hx:∀(R:St→Option Fin) (K:Cont),evC cx0_l1Signed (loopOf Tryz.f111 0) ⟨[(0,vP 0),(1,vI n),(5,vS s),(6,vI i)],[(0,bR x)]⟩ (onward (headAt cx0_l1Signed 3) R K) =
  branch (decide (i<n)) (need (rdOk x&&Nat.blt 0 l1abc.length) (need (decide (s.length+(ofV x l1abc).length≤9223372036854775807)) (R ⟨[(0,vP 0),(1,vI n),(5,vS (s++ofV x l1abc)),(6,vI (W64 (i+1)))],[(0,bR (rdGo x 1))]⟩)))
   (K (.exit 0) ⟨[(5,vS s)],[(0,bR x)]⟩):=fun R K=>by kernel_rfl
 simp only[inv_l1Signed,Bool.and_eq_true,decide_eq_true_eq]at hI;obtain⟨h1,⟨h2,h3,h4⟩,h5⟩:=hI;have hr:=rdAt_iff.1 h1
 by_cases hi:i<n
 ·right;have e:W64 (i+1)=i+1:=wrap_small (by omega) (by omega);have ho:(ofV x l1abc).length≤1:=ofV_len (by decide);refine⟨n,s++ofV x l1abc,i+1,rdGo x 1, ?_, ?_, ?_, ?_⟩
  ·simp only[inv_l1Signed,Bool.and_eq_true,decide_eq_true_eq,length_append];exact⟨(Adv.one x).at h1 (by omega),by omega,by omega⟩
  ·simp only[mu_l1Signed];omega
  ·rintro o ⟨g1,g2⟩;rw[length_append]at g1;exact⟨by omega,((Adv.one x).trans g2).le (by omega)⟩
  ·intro R K;refine(hx R K).trans ?_;rw[zT hi,branch_true,rdOk_iff.2 ⟨hr.1,by omega⟩,zT (by omega:s.length+(ofV x l1abc).length≤9223372036854775807),e];rfl
 ·left;refine⟨(s,x),⟨by show s.length≤s.length+_;omega,(Adv.refl x).le (by omega)⟩,fun R K => ?_⟩;refine(hx R K).trans ?_;rw[zF hi];rfl
def I_l1Signed:sh_l1Signed.V→Bool:=fun v=>match v with | ((n,s,i,()),(x,()))=>inv_l1Signed n s i x
def P_l1Signed:sh_l1Signed.V→Str×Rd→Prop:=fun v o=>match v with | ((n,s,i,()),(x,()))=>post_l1Signed n s i x o
def M_l1Signed:sh_l1Signed.V→Nat:=fun v=>match v with | ((n,s,i,()),(x,()))=>mu_l1Signed n s i x
theorem a_l1Signed:∀v:sh_l1Signed.V,I_l1Signed v=true→∃o,P_l1Signed v o∧∀K r,K (.exit 0) (out_l1Signed o)=some r→∃N,iter (evC cx0_l1Signed (loopOf Tryz.f111 0)) (headAt cx0_l1Signed 3) N (sh_l1Signed.mk v) K=some r :=
 loop_any (fun v=>I_l1Signed v=true) P_l1Signed (.exit 0) M_l1Signed fun v hI=>by
  obtain⟨⟨(n:Int),(s:Str),(i:Int),⟨⟩⟩,⟨(x:Den TR),⟨⟩⟩⟩:=v;rcases r_l1Signed n s i x hI with⟨o,h1,h2⟩ | ⟨n',s',i',x',h1,h2,h3,h4⟩
  ·exact .inl ⟨o,h1,h2⟩
  ·exact .inr ⟨V_l1Signed n' s' i' x',h1,h2,h3,h4⟩
def g_l1Signed:St→Cont→Option Fin:=gEnd sh_l1Signed I_l1Signed out_l1Signed (evC cx0_l1Signed (loopOf Tryz.f111 0)) (headAt cx0_l1Signed 3) P_l1Signed (.exit 0)
def E_l1Signed (n:Int) (s:Str) (i:Int) (x:Den TR):Str×Rd:=endOf sh_l1Signed.mk out_l1Signed (evC cx0_l1Signed (loopOf Tryz.f111 0)) (headAt cx0_l1Signed 3) P_l1Signed (.exit 0) (V_l1Signed n s i x)
theorem q_l1Signed (n:Int) (s:Str) (i:Int) (x:Den TR) (hI:inv_l1Signed n s i x=true):post_l1Signed n s i x (E_l1Signed n s i x):=(endOf_spec (a_l1Signed (V_l1Signed n s i x) hI)).1
def cx_l1Signed:Cx:=cx0_l1Signed.withLoops (look [(3,g_l1Signed)])
theorem l_l1Signed:∀st K r,g_l1Signed st K=some r→∃N,iter (evC cx_l1Signed (loopOf Tryz.f111 0)) (headAt cx_l1Signed 3) N st K=some r:=with_ok (by kernel_rfl) (gEnd_ok a_l1Signed)
theorem y_spec_l1Signed (x:Rd) (n:Int):evFn cx_l1Signed Tryz.f111 true [.one (.ptr 0 0),ofD TI64 n] [boxD 120 TR x]=need (inv_l1Signed n [] 0 x) (some (.d (ofD .str (E_l1Signed n [] 0 x).1),[(0,bR (E_l1Signed n [] 0 x).2)])):=by kernel_rfl
theorem e_spec_l1Signed (x:Rd) (n:Int) (_hx:Fit TR x) (_hn:Fit TI64 n) (hpre:(rdAt x 10000000999000&&decide (n≤1000))=true):∃q:(Str)×Rd,evFn (cx_l1Signed) Tryz.f111 true [.one (.ptr 0 0),ofD TI64 n] [boxD 120 TR x]=some (.d (ofD .str q.1),[(0,some (boxD 120 TR q.2))])∧(length q.1≤n.toNat∧Adv x q.2 (n.toNat:Int)):=by
 obtain⟨r,h1,h2⟩:Ok (evFn (cx_l1Signed) Tryz.f111 true [.one (.ptr 0 0),ofD TI64 n] [boxD 120 TR x]) (fun r=>∃(v:Str) (x':Rd),r=(.d (ofD .str v),[(0,some (boxD 120 TR x'))])∧(length v≤n.toNat∧Adv x x' (n.toNat:Int))):=by
  rw[Bool.and_eq_true,decide_eq_true_eq]at hpre;have hi:inv_l1Signed n [] 0 x=true:=by
   simp only[inv_l1Signed,Bool.and_eq_true,decide_eq_true_eq];exact⟨by simpa using hpre.1,⟨by omega,hpre.2,by omega⟩,by simp⟩
  have hp:=q_l1Signed n [] 0 x hi;rw[y_spec_l1Signed,hi];refine Ok.ret ⟨_,_,rfl, ?_⟩;unfold post_l1Signed at hp
  simpa using hp
 obtain⟨v,x',h2,h3⟩:=h2;exact⟨(v,x'),by rw[h1,h2],h3⟩
def F_spec_l1Signed (x:Rd) (n:Int):(Str)×Rd:=oneOf (fun q:(Str)×Rd=>evFn (cx_l1Signed) Tryz.f111 true [.one (.ptr 0 0),ofD TI64 n] [boxD 120 TR x]=some (.d (ofD .str q.1),[(0,some (boxD 120 TR q.2))])∧(length q.1≤n.toNat∧Adv x q.2 (n.toNat:Int)))
theorem p_spec_l1Signed (x:Rd) (n:Int) (hx:Fit TR x) (hn:Fit TI64 n) (hpre:(rdAt x 10000000999000&&decide (n≤1000))=true):length (F_spec_l1Signed x n).1≤n.toNat∧Adv x (F_spec_l1Signed x n).2 (n.toNat:Int):=(oneOf_spec (e_spec_l1Signed x n hx hn hpre)).2
theorem s_spec_l1Signed (x:Rd) (n:Int) (hx:Fit TR x) (hn:Fit TI64 n) (hpre:(rdAt x 10000000999000&&decide (n≤1000))=true):Sat Tryz.prog 111 [.one (.ptr 0 0),ofD TI64 n] [boxD 120 TR x] (.d (ofD .str (F_spec_l1Signed x n).1)) [(0,some (boxD 120 TR (F_spec_l1Signed x n).2))] :=
 fn_sound (cx:=cx_l1Signed) Tryz.func111 rfl ttOk Γ26ok mixed (fun c hc=>LoopsOk.one (b:=loopOf Tryz.f111 0) (id:=3) (g:=g_l1Signed) (by cases hc;kernel_rfl) rfl l_l1Signed) (ro:=true) (oneOf_spec (e_spec_l1Signed x n hx hn hpre)).1
def c_spec_l1Signed:Con:=conB 120 TR [TI64] fun(x:Rd) (n:Int)=>(some (rdAt x 10000000999000&&decide (n≤1000)), .d (ofD .str (F_spec_l1Signed x n).1),(F_spec_l1Signed x n).2)
theorem k_spec_l1Signed:ConOk Tryz.prog 111 c_spec_l1Signed:=conB_ok Tryz.call111 fun x hx n hn hqq=>s_spec_l1Signed x n hx hn (pre_of hqq)
def Γ27:GL:=(111,c_spec_l1Signed)::Γ26
theorem Γ27ok:GO Γ27 := .cons k_spec_l1Signed Γ26ok
def cb_l1Gram:Cx:=cxOf Γ27 Tryz.f64.ntmps [(5,[0,2,3,4])] [(0,[2,3]),(1,[0,2,3,4]),(1000000,[2])] [] []
theorem x_spec_l1Gram (x:Rd) (z s:Str) (l:List Rule) (i:Int) (R:St→Option Fin) (K:Cont):evC cb_l1Gram (loopOf Tryz.f64 0) ⟨[(0,vP 0),(2, kp0),(3, kp1),(4,vI i)],[(0,bR x),(500000,some (.box 25 [.r (.v (.string (mk z))), .r (.v (.slice none 0 0))])),(500001,some (.box 25 [.r (.v (.string (mk s))), .own 500002])),(500002,some (.lis 63 TRu l))]⟩ (onward (headAt cb_l1Gram 5) R K)=(
branch (decide (0<i)) (
 need (rdOk x&&Nat.blt 0 [[65],[65],[66],[67]].length) <|
 need (rdOk (rdGo x 1)&&Nat.blt 0 [1,2,2,0,3].length) <|
 need (rdAt (rdGo (rdGo x 1) 1) 10000000999000&&decide (numV (rdGo x 1) [1,2,2,0,3]≤1000)) <|
 branch (decide (placeV l (ofV x [[65],[65],[66],[67]],(F_spec_l1Signed (rdGo (rdGo x 1) 1) (numV (rdGo x 1) [1,2,2,0,3])).fst)<0)) (
 need (fits (l.length+[(ofV x [[65],[65],[66],[67]],(F_spec_l1Signed (rdGo (rdGo x 1) 1) (numV (rdGo x 1) [1,2,2,0,3])).fst)].length) Tryz.t63.bytes) <| R (.mk [(0,(.d (.one (.ptr 0 0)))),(2,kp0),(3,kp1),(4,vI (W64 (i-1)))] [(0,(bR (F_spec_l1Signed (rdGo (rdGo x 1) 1) (numV (rdGo x 1) [1,2,2,0,3])).snd)),(500000,(.some (.box 25 [(.r (.v (Value.string (mk z)))),(.r (.v (Value.slice none 0 0)))]))),(500001,(.some (.box 25 [(.r (.v (Value.string (mk s)))),(.own 500002)]))),(500002,(.some (.lis 63 ty63 (l.append [(ofV x [[65],[65],[66],[67]],(F_spec_l1Signed (rdGo (rdGo x 1) 1) (numV (rdGo x 1) [1,2,2,0,3])).fst)]))))])) ( R (.mk [(0,(.d (.one (.ptr 0 0)))),(2,kp0),(3,kp1),(4,vI (W64 (i-1)))] [(0,(bR (F_spec_l1Signed (rdGo (rdGo x 1) 1) (numV (rdGo x 1) [1,2,2,0,3])).snd)),(500000,(.some (.box 25 [(.r (.v (Value.string (mk z)))),(.r (.v (Value.slice none 0 0)))]))),(500001,(.some (.box 25 [(.r (.v (Value.string (mk s)))),(.own 500002)]))),(500002,some (.lis 63 TRu l))]))) ( K (.exit 0) (.mk [(2,kp0),(3,kp1)] [(500000,(.some (.box 25 [(.r (.v (Value.string (mk z)))),(.r (.v (Value.slice none 0 0)))]))),(500001,(.some (.box 25 [(.r (.v (Value.string (mk s)))),(.own 500002)]))),(0,(bR x)),(500002,some (.lis 63 TRu l))]))):=by kernel_rfl
theorem numV_mem {x:Rd} {l:List Int} (h:l≠[]) (hx:BY x) (hk:rdOk x=true):numV x l∈l:=by
 have hp:0<l.length:=List.length_pos_iff.2 h;have hr:=pickV_range (n:=l.length) hx hk (by omega);unfold numV;rw[zG,zE (by omega)];exact List.getElem_mem _
theorem numV_le {x:Rd} {l:List Int} {a b:Int} (h:l≠[]) (hx:BY x) (hk:rdOk x=true) (hl:∀y∈l,a≤y∧y≤b):a≤numV x l∧numV x l≤b:=hl _ (numV_mem h hx hk)
theorem ofV_all {x:Rd} {l:List Str} {p:Str→Bool} (h:l≠[]) (hx:BY x) (hk:rdOk x=true) (hl:∀y∈l,p y=true):p (ofV x l)=true:=by
 have hp:0<l.length:=List.length_pos_iff.2 h;have hr:=pickV_range (n:=l.length) hx hk (by omega);unfold ofV;rw[zG,zE (by omega)];exact hl _ (List.getElem_mem _)
theorem BY_adv {x x':Rd} {c:Int} (h:Adv x x' c) (hb:BY x):BY x':=by unfold BY at *;rw[h.1];exact hb
abbrev smO (z:Str):Option Obj:=some (.box 25 [.r (.v (.string (mk z))), .r (.v (.slice none 0 0))])
abbrev grO (s:Str):Option Obj:=some (.box 25 [.r (.v (.string (mk s))), .own 500002])
def cx0_l1Gram:Cx:=cb_l1Gram
def sh_l1Gram:Sh:=([(0, .ptr 0 0),(2, .ptr 500000 0),(3, .ptr 500001 0),(4, .d TI64)],[(0, .box 120 TR),(500000, .mix 25 [.d .str, .nil]),(500001, .mix 25 [.d .str, .own 500002]),(500002, .lis 63 TRu)])
abbrev st_l1Gram (i:Int) (x:Den TR) (z:Str) (s:Str) (l:List (Rule)):St:=⟨[(0, .d (.one (.ptr 0 0))),(2, kp0),(3, kp1),(4,vI i)],[(0,some (boxD 120 TR x)),(500000,some (.box 25 ((cellsR .str z).map C.r++[.r (.v (.slice none 0 0))]))),(500001,some (.box 25 ((cellsR .str s).map C.r++[.own 500002]))),(500002,some (.lis 63 TRu l))]⟩
def V_l1Gram (i:Int) (x:Den TR) (z:Str) (s:Str) (l:List (Rule)):sh_l1Gram.V:=((i,()),(x,(z,()),(s,()),l,()))
def out_l1Gram (o:(Str×List Rule)×Str×Rd):St:=⟨[(2, kp0),(3, kp1)],[(500000,smO o.2.1),(500001,grO o.1.1),(0,bR o.2.2),(500002,some (.lis 63 TRu o.1.2))]⟩
def inv_l1Gram (i:Int) (x:Den TR) (_z:Str) (_s:Str) (l:List (Rule)):Bool:=fitR x&&(rdAt x (10000000990000-i*10)&&(decide (i≤100)&&(decide ((l.length:Int)+i≤100)&&(Nat.ble l.length 100&&l.all szL))))
def post_l1Gram (i:Int) (x:Den TR) (_z:Str) (s:Str) (l:List (Rule)) (o:(Str×List Rule)×Str×Rd):Prop:=o.1.1=s∧o.1.2.all szL=true∧o.1.2.length≤l.length+i.toNat∧Adv x o.2.2 ((i*10).toNat:Int)
def mu_l1Gram (i:Int) (_x:Den TR) (_z:Str) (_s:Str) (_l:List (Rule)):Nat:=i.toNat
theorem r_l1Gram (i:Int) (x:Den TR) (z:Str) (s:Str) (l:List (Rule)) (hI:inv_l1Gram i x z s l=true):(∃o:(Str×List Rule)×Str×Rd,post_l1Gram i x z s l o∧∀(R:St→Option Fin) (K:Cont),evC cx0_l1Gram (loopOf Tryz.f64 0) (st_l1Gram i x z s l) (onward (headAt cx0_l1Gram 5) R K)=K (.exit 0) (out_l1Gram o)) ∨
  (∃(i':Int) (x':Den TR) (z':Str) (s':Str) (l':List (Rule)),inv_l1Gram i' x' z' s' l'=true∧mu_l1Gram i' x' z' s' l'<mu_l1Gram i x z s l∧(∀o,post_l1Gram i' x' z' s' l' o→post_l1Gram i x z s l o)∧∀(R:St→Option Fin) (K:Cont),evC cx0_l1Gram (loopOf Tryz.f64 0) (st_l1Gram i x z s l) (onward (headAt cx0_l1Gram 5) R K)=R (st_l1Gram i' x' z' s' l')):=by
 simp only[inv_l1Gram,andd,dec_iff,ble_iff]at hI;obtain⟨h1,h2,h3,h4,h6,h5⟩:=hI;have hr:=rdAt_iff.1 h2;have b0:BY x:=by unfold fitR at h1;exact byB_iff.1 (andd.1 h1).1
 by_cases hi:0<i
 ·right;have e:W64 (i-1)=i-1:=wrap_small (by omega) (by omega);have k0:rdOk x=true:=ok1 h2 (by omega);have a1:=Adv.one x;have k1:rdOk (rdGo x 1)=true:=a1.ok h2 (by omega);have b1:=BY_adv a1 b0;have n1:=numV_le (l:=[1,2,2,0,3]) (a:=0) (b:=3) (by decide) b1 k1 (by decide);have k2:rdAt (go2 x) 10000000999000=true:=(Adv.two x).at h2 (by omega);have f2:Fit TR (go2 x):=fitR_fit (by rw[fitR_adv (Adv.two x)];exact h1) k2 (by omega);have hpre:(rdAt (go2 x) 10000000999000&&decide (numV (rdGo x 1) [1,2,2,0,3]≤1000))=true:=andd.2 ⟨k2,dec_iff.2 (by omega)⟩;obtain⟨p1,p2⟩:=p_spec_l1Signed (go2 x) (numV (rdGo x 1) [1,2,2,0,3]) f2 (wrap_small (by omega) (by omega)) hpre;have ha:=((Adv.two x).trans p2).le (d:=10) (by omega);have hl:(ofV x [[65],[65],[66],[67]]).length≤1:=ofV_len (by decide);have hb:bigS (ofV x [[65],[65],[66],[67]])=true:=ofV_all (p:=bigS) (by decide) b0 k0 (by decide);have hx:=fun R K=>x_spec_l1Gram x z s l i R K;rw[show (rdGo (rdGo x 1) 1)=go2 x from rfl]at hx;simp only[hi,decide_true,branch_true,k0,k1,hpre,e]at hx
  generalize (F_spec_l1Signed (go2 x) (numV (rdGo x 1) [1,2,2,0,3])).1=v at hx p1
  generalize (F_spec_l1Signed (go2 x) (numV (rdGo x 1) [1,2,2,0,3])).2=x' at hx p2 ha
  generalize ofV x [[65],[65],[66],[67]]=lf at hx hl hb
  have q1:∀l':List Rule,l'.all szL=true→l'.length≤l.length+1→inv_l1Gram (i-1) x' z s l'=true:=fun l' g1 g2=>by
   simp only[inv_l1Gram,andd,dec_iff,ble_iff];exact⟨by rw[fitR_adv ha];exact h1,ha.at h2 (by omega),by omega,by omega,by omega,g1⟩
  have q2:∀l':List Rule,mu_l1Gram (i-1) x' z s l'<mu_l1Gram i x z s l:=fun l'=>by simp only[mu_l1Gram];omega
  have q3:∀l':List Rule,l'.length≤l.length+1→∀o,post_l1Gram (i-1) x' z s l' o→post_l1Gram i x z s l o:=fun l' g0=>by
   rintro o ⟨g1,g2,g3,g4⟩;exact⟨g1,g2,by omega,(ha.trans g4).le (by omega)⟩
  cases hc:decide (placeV l (lf,v)<0)
  ·exact ⟨i-1,x',z,s,l,q1 l h5 (by omega),q2 l,q3 l (by omega),fun R K=>(hx R K).trans (by rw[hc];rfl)⟩
  ·have hall:(l++[(lf,v)]).all szL=true:=by
    rw[List.all_append,h5];have hv:v.length≤3:=by omega
    show(true&&(szL (lf,v)&&true))=true;have:szL (lf,v)=true:=andd.2 ⟨andd.2 ⟨ble_iff.2 (by show lf.length≤8;omega),ble_iff.2 (by show v.length≤8;omega)⟩,hb⟩;rw[this];rfl
   refine⟨i-1,x',z,s,l++[(lf,v)],q1 _ hall (by simp),q2 _,q3 _ (by simp),fun R K=>(hx R K).trans ?_⟩;rw[hc,branch_true,ruleBytes,fits_ok (by simp;omega) (by omega)];rfl
 ·left;refine⟨((s,l),z,x),⟨rfl,h5,Nat.le_add_right _ _,(Adv.refl x).le (by omega)⟩,fun R K => ?_⟩;refine(x_spec_l1Gram x z s l i R K).trans ?_;rw[zF hi];rfl
def I_l1Gram:sh_l1Gram.V→Bool:=fun v=>match v with | ((i,()),(x,(z,()),(s,()),l,()))=>inv_l1Gram i x z s l
def P_l1Gram:sh_l1Gram.V→(Str×List Rule)×Str×Rd→Prop:=fun v o=>match v with | ((i,()),(x,(z,()),(s,()),l,()))=>post_l1Gram i x z s l o
def M_l1Gram:sh_l1Gram.V→Nat:=fun v=>match v with | ((i,()),(x,(z,()),(s,()),l,()))=>mu_l1Gram i x z s l
theorem a_l1Gram:∀v:sh_l1Gram.V,I_l1Gram v=true→∃o,P_l1Gram v o∧∀K r,K (.exit 0) (out_l1Gram o)=some r→∃N,iter (evC cx0_l1Gram (loopOf Tryz.f64 0)) (headAt cx0_l1Gram 5) N (sh_l1Gram.mk v) K=some r :=
 loop_any (fun v=>I_l1Gram v=true) P_l1Gram (.exit 0) M_l1Gram fun v hI=>by
  obtain⟨⟨(i:Int),⟨⟩⟩,⟨(x:Den TR),⟨(z:Str),⟨⟩⟩,⟨(s:Str),⟨⟩⟩,(l:List (Rule)),⟨⟩⟩⟩:=v;rcases r_l1Gram i x z s l hI with⟨o,h1,h2⟩ | ⟨i',x',z',s',l',h1,h2,h3,h4⟩
  ·exact .inl ⟨o,h1,h2⟩
  ·exact .inr ⟨V_l1Gram i' x' z' s' l',h1,h2,h3,h4⟩
def g_l1Gram:St→Cont→Option Fin:=gEnd sh_l1Gram I_l1Gram out_l1Gram (evC cx0_l1Gram (loopOf Tryz.f64 0)) (headAt cx0_l1Gram 5) P_l1Gram (.exit 0)
def E_l1Gram (i:Int) (x:Den TR) (z:Str) (s:Str) (l:List (Rule)):(Str×List Rule)×Str×Rd:=endOf sh_l1Gram.mk out_l1Gram (evC cx0_l1Gram (loopOf Tryz.f64 0)) (headAt cx0_l1Gram 5) P_l1Gram (.exit 0) (V_l1Gram i x z s l)
theorem q_l1Gram (i:Int) (x:Den TR) (z:Str) (s:Str) (l:List (Rule)) (hI:inv_l1Gram i x z s l=true):post_l1Gram i x z s l (E_l1Gram i x z s l):=(endOf_spec (a_l1Gram (V_l1Gram i x z s l) hI)).1
def cx_l1Gram:Cx:=cx0_l1Gram.withLoops (look [(5,g_l1Gram)])
theorem l_l1Gram:∀st K r,g_l1Gram st K=some r→∃N,iter (evC cx_l1Gram (loopOf Tryz.f64 0)) (headAt cx_l1Gram 5) N st K=some r:=with_ok (by kernel_rfl) (gEnd_ok a_l1Gram)
abbrev gN1:List Int:=[0,1,2,3,4,5,6,1,6,7]
abbrev gN2:List Int:=[3,4,2,5]
theorem y_spec_l1Gram (x:Rd):evFn cx_l1Gram Tryz.f64 true [.one (.ptr 0 0)] [boxD 120 TR x]=(
 need (rdOk x) <| branch (decide (0<pickV x 5))
  (need (rdOk (rdGo x 1)&&Nat.blt 0 gN1.length) <| some (.d (ofD TG (F_spec_l1Base (numV (rdGo x 1) gN1))),[(0,bR (go2 x))]))
  (need (rdOk (rdGo x 1)&&Nat.blt 0 gN2.length) <| need (inv_l1Gram (numV (rdGo x 1) gN2) (go2 x) [] [65] []) <|
   some (.d (ofD TG (E_l1Gram (numV (rdGo x 1) gN2) (go2 x) [] [65] []).1),[(0,bR (E_l1Gram (numV (rdGo x 1) gN2) (go2 x) [] [65] []).2.2)]))):=by kernel_rfl
theorem szG_le {k m:Nat} {g:Gram} (h:szG k g=true) (hm:k≤m):szG m g=true:=by
 unfold szG at *;rw[andd,andd]at *;exact⟨h.1,ble_iff.2 (Nat.le_trans (ble_iff.1 h.2.1) hm),h.2.2⟩
theorem e_spec_l1Gram (x:Rd)  (hx:Fit TR x)  (hpre:(rdAt x 10000000900000)=true):∃q:(Gram)×Rd,evFn (cx_l1Gram) Tryz.f64 true [.one (.ptr 0 0)] [boxD 120 TR x]=some (.d (ofD TG q.1),[(0,some (boxD 120 TR q.2))])∧((szG 6 q.1&&lefB q.1)=true∧Adv x q.2 100):=by
 obtain⟨r,h1,h2⟩:Ok (evFn (cx_l1Gram) Tryz.f64 true [.one (.ptr 0 0)] [boxD 120 TR x]) (fun r=>∃(v:Gram) (x':Rd),r=(.d (ofD TG v),[(0,some (boxD 120 TR x'))])∧((szG 6 v&&lefB v)=true∧Adv x x' 100)):=by
  have f0:=fit_fitR hx;have b0:BY x:=fun b hb=>byteFit hx.1 b hb;have k0:=ok1 hpre (by omega);have a1:=Adv.one x;have k1:rdOk (rdGo x 1)=true:=a1.ok hpre (by omega);rw[y_spec_l1Gram,k0,k1];refine Ok.need rfl (Ok.br (fun _=>Ok.need rfl (Ok.ret ⟨_,_,rfl,p_spec_l1Base _ ?_,(Adv.two x).le (by omega)⟩)) fun _=>Ok.need rfl ?_)
  ·have:=numV_le (l:=gN1) (a:=0) (b:=7) (by decide) (BY_adv a1 b0) k1 (by decide);exact wrap_small (by omega) (by omega)
  ·have n1:=numV_le (l:=gN2) (a:=2) (b:=5) (by decide) (BY_adv a1 b0) k1 (by decide);have hi:inv_l1Gram (numV (rdGo x 1) gN2) (go2 x) [] [65] []=true:=by
    simp only[inv_l1Gram,andd,dec_iff,ble_iff];exact⟨by rw[fitR_adv (Adv.two x)];exact f0,(Adv.two x).at hpre (by omega),by omega,by simp;omega,by simp,rfl⟩
   obtain⟨g1,g2,g3,g4⟩:=q_l1Gram (numV (rdGo x 1) gN2) (go2 x) [] [65] [] hi;refine Ok.need hi (Ok.ret ⟨_,_,rfl, ?_,((Adv.two x).trans g4).le (by omega)⟩);obtain⟨g5,g6⟩:=all_szL.1 g2;unfold szG lefB;rw[g1,g5,g6];exact andd.2 ⟨andd.2 ⟨rfl,andd.2 ⟨ble_iff.2 (by simp at g3;omega),rfl⟩⟩,rfl⟩
 obtain⟨v,x',h2,h3⟩:=h2;exact⟨(v,x'),by rw[h1,h2],h3⟩
def F_spec_l1Gram (x:Rd) :(Gram)×Rd:=oneOf (fun q:(Gram)×Rd=>evFn (cx_l1Gram) Tryz.f64 true [.one (.ptr 0 0)] [boxD 120 TR x]=some (.d (ofD TG q.1),[(0,some (boxD 120 TR q.2))])∧((szG 6 q.1&&lefB q.1)=true∧Adv x q.2 100))
theorem p_spec_l1Gram (x:Rd)  (hx:Fit TR x)  (hpre:(rdAt x 10000000900000)=true):(szG 6 (F_spec_l1Gram x ).1&&lefB (F_spec_l1Gram x ).1)=true∧Adv x (F_spec_l1Gram x ).2 100:=(oneOf_spec (e_spec_l1Gram x  hx  hpre)).2
theorem s_spec_l1Gram (x:Rd)  (hx:Fit TR x)  (hpre:(rdAt x 10000000900000)=true):Sat Tryz.prog 64 [.one (.ptr 0 0)] [boxD 120 TR x] (.d (ofD TG (F_spec_l1Gram x ).1)) [(0,some (boxD 120 TR (F_spec_l1Gram x ).2))] :=
 fn_sound (cx:=cx_l1Gram) Tryz.func64 rfl ttOk Γ27ok mixed (fun c hc=>LoopsOk.one (b:=loopOf Tryz.f64 0) (id:=5) (g:=g_l1Gram) (by cases hc;kernel_rfl) rfl l_l1Gram) (ro:=true) (oneOf_spec (e_spec_l1Gram x  hx  hpre)).1
def c_spec_l1Gram:Con:=conB 120 TR [] fun(x:Rd) =>(some (rdAt x 10000000900000), .d (ofD TG (F_spec_l1Gram x ).1),(F_spec_l1Gram x ).2)
theorem k_spec_l1Gram:ConOk Tryz.prog 64 c_spec_l1Gram:=conB_ok Tryz.call64 fun x hx  hqq=>s_spec_l1Gram x  hx  (pre_of hqq)
def Γ28:GL:=(64,c_spec_l1Gram)::Γ27
theorem Γ28ok:GO Γ28 := .cons k_spec_l1Gram Γ27ok
def cb_l1Bent:Cx:=cxOf Γ28 Tryz.f65.ntmps [(7,[0,4,5])] [(0,[4,5]),(1,[4,5]),(2,[0,4,5]),(1000000,[4])] [] []
theorem x_spec_l1Bent (x:Rd) (z s:Str) (l:List Rule) (R:St→Option Fin) (K:Cont):evC cb_l1Bent (loopOf Tryz.f65 0) ⟨[(0,vP 0),(4, kp0),(5, kp1)],[(0,bR x),(500000,smO z),(500001,grO s),(500002,some (.lis 63 TRu l))]⟩ (onward (headAt cb_l1Bent 7) R K)=(
branch (decide ((l.length:Int)≤8)) (
 need (rdAt x 10000000999000&&decide (3≤1000)) <|
 need (fits (l.length+[(([69]:Str),(F_spec_l1Signed x 3).fst)].length) Tryz.t63.bytes) <| R (.mk [(0,(.d (.one (.ptr 0 0)))),(4,kp0),(5,kp1)] [(0,(bR (F_spec_l1Signed x 3).snd)),(500000,(.some (.box 25 [(.r (.v (Value.string (mk z)))),(.r (.v (Value.slice none 0 0)))]))),(500001,(.some (.box 25 [(.r (.v (Value.string (mk s)))),(.own 500002)]))),(500002,(.some (.lis 63 ty63 (l.append [(([69]:Str),(F_spec_l1Signed x 3).fst)]))))])) ( K (.exit 1) (.mk [(4,kp0),(5,kp1)] [(500000,(.some (.box 25 [(.r (.v (Value.string (mk z)))),(.r (.v (Value.slice none 0 0)))]))),(500001,(.some (.box 25 [(.r (.v (Value.string (mk s)))),(.own 500002)]))),(0,(bR x)),(500002,some (.lis 63 TRu l))]))):=by kernel_rfl
def cx0_l1Bent:Cx:=cb_l1Bent
def sh_l1Bent:Sh:=([(0, .ptr 0 0),(4, .ptr 500000 0),(5, .ptr 500001 0)],[(0, .box 120 TR),(500000, .mix 25 [.d .str, .nil]),(500001, .mix 25 [.d .str, .own 500002]),(500002, .lis 63 TRu)])
abbrev st_l1Bent (x:Den TR) (z:Str) (s:Str) (l:List (Rule)):St:=⟨[(0, .d (.one (.ptr 0 0))),(4, kp0),(5, kp1)],[(0,some (boxD 120 TR x)),(500000,some (.box 25 ((cellsR .str z).map C.r++[.r (.v (.slice none 0 0))]))),(500001,some (.box 25 ((cellsR .str s).map C.r++[.own 500002]))),(500002,some (.lis 63 TRu l))]⟩
def V_l1Bent (x:Den TR) (z:Str) (s:Str) (l:List (Rule)):sh_l1Bent.V:=((),(x,(z,()),(s,()),l,()))
def out_l1Bent (o:(Str×List Rule)×Str×Rd):St:=⟨[(4, kp0),(5, kp1)],[(500000,smO o.2.1),(500001,grO o.1.1),(0,bR o.2.2),(500002,some (.lis 63 TRu o.1.2))]⟩
def inv_l1Bent (x:Den TR) (_z:Str) (_s:Str) (l:List (Rule)):Bool:=fitR x&&(rdAt x (10000000980000+(l.length:Int)*10)&&(Nat.ble l.length 100&&l.all szR))
def post_l1Bent (x:Den TR) (_z:Str) (s:Str) (l:List (Rule)) (o:(Str×List Rule)×Str×Rd):Prop:=o.1.1=s∧o.1.2.all szR=true∧o.1.2.length≤l.length+(9-l.length)∧Adv x o.2.2 (((9-l.length:Nat):Int)*10)
def mu_l1Bent (_x:Den TR) (_z:Str) (_s:Str) (l:List (Rule)):Nat:=9-l.length
theorem r_l1Bent (x:Den TR) (z:Str) (s:Str) (l:List (Rule)) (hI:inv_l1Bent x z s l=true):(∃o:(Str×List Rule)×Str×Rd,post_l1Bent x z s l o∧∀(R:St→Option Fin) (K:Cont),evC cx0_l1Bent (loopOf Tryz.f65 0) (st_l1Bent x z s l) (onward (headAt cx0_l1Bent 7) R K)=K (.exit 1) (out_l1Bent o)) ∨
  (∃(x':Den TR) (z':Str) (s':Str) (l':List (Rule)),inv_l1Bent x' z' s' l'=true∧mu_l1Bent x' z' s' l'<mu_l1Bent x z s l∧(∀o,post_l1Bent x' z' s' l' o→post_l1Bent x z s l o)∧∀(R:St→Option Fin) (K:Cont),evC cx0_l1Bent (loopOf Tryz.f65 0) (st_l1Bent x z s l) (onward (headAt cx0_l1Bent 7) R K)=R (st_l1Bent x' z' s' l')):=by
 simp only[inv_l1Bent,andd,ble_iff]at hI;obtain⟨h1,h2,h6,h5⟩:=hI;have hr:=rdAt_iff.1 h2;have b0:BY x:=by unfold fitR at h1;exact byB_iff.1 (andd.1 h1).1
 by_cases hi:(l.length:Int)≤8
 ·right;have k2:rdAt x 10000000999000=true:=(Adv.refl x).at h2 (by omega);have f2:Fit TR x:=fitR_fit h1 k2 (by omega);have hpre:(rdAt x 10000000999000&&decide ((3:Int)≤1000))=true:=andd.2 ⟨k2,rfl⟩;obtain⟨p1,p2⟩:=p_spec_l1Signed x 3 f2 rfl hpre;have ha:=p2.le (d:=10) (by omega);have hx:=fun R K=>x_spec_l1Bent x z s l R K;simp only[hi,decide_true,branch_true,k2]at hx
  generalize (F_spec_l1Signed x 3).1=v at hx p1
  generalize (F_spec_l1Signed x 3).2=x' at hx p2 ha
  have hall:(l++[([69],v)]).all szR=true:=by
   rw[List.all_append,h5];have:szR ([69],v)=true:=andd.2 ⟨rfl,ble_iff.2 (by show v.length≤8;have:v.length≤3:=p1;omega)⟩;show(true&&(szR ([69],v)&&true))=true;rw[this];rfl
  have hlen:(l++[([69],v)]).length=l.length+1:=by simp
  refine⟨x',z,s,l++[([69],v)], ?_, ?_, ?_,fun R K=>(hx R K).trans ?_⟩
  ·simp only[inv_l1Bent,andd,ble_iff];exact⟨by rw[fitR_adv ha];exact h1,ha.at h2 (by rw[hlen];omega),by rw[hlen];omega,hall⟩
  ·simp only[mu_l1Bent];rw[hlen];omega
  ·rintro o ⟨g1,g2,g3,g4⟩;rw[hlen]at g3 g4;exact⟨g1,g2,by omega,(ha.trans g4).le (by omega)⟩
  ·rw[ruleBytes,fits_ok (by simp;omega) (by omega)];rfl
 ·left;refine⟨((s,l),z,x),⟨rfl,h5,Nat.le_add_right _ _,(Adv.refl x).le (by omega)⟩,fun R K => ?_⟩;refine(x_spec_l1Bent x z s l R K).trans ?_;rw[zF hi];rfl
def I_l1Bent:sh_l1Bent.V→Bool:=fun v=>match v with | ((),(x,(z,()),(s,()),l,()))=>inv_l1Bent x z s l
def P_l1Bent:sh_l1Bent.V→(Str×List Rule)×Str×Rd→Prop:=fun v o=>match v with | ((),(x,(z,()),(s,()),l,()))=>post_l1Bent x z s l o
def M_l1Bent:sh_l1Bent.V→Nat:=fun v=>match v with | ((),(x,(z,()),(s,()),l,()))=>mu_l1Bent x z s l
theorem a_l1Bent:∀v:sh_l1Bent.V,I_l1Bent v=true→∃o,P_l1Bent v o∧∀K r,K (.exit 1) (out_l1Bent o)=some r→∃N,iter (evC cx0_l1Bent (loopOf Tryz.f65 0)) (headAt cx0_l1Bent 7) N (sh_l1Bent.mk v) K=some r :=
 loop_any (fun v=>I_l1Bent v=true) P_l1Bent (.exit 1) M_l1Bent fun v hI=>by
  obtain⟨⟨⟨⟩⟩,⟨(x:Den TR),⟨(z:Str),⟨⟩⟩,⟨(s:Str),⟨⟩⟩,(l:List (Rule)),⟨⟩⟩⟩:=v;rcases r_l1Bent x z s l hI with⟨o,h1,h2⟩ | ⟨x',z',s',l',h1,h2,h3,h4⟩
  ·exact .inl ⟨o,h1,h2⟩
  ·exact .inr ⟨V_l1Bent x' z' s' l',h1,h2,h3,h4⟩
def g_l1Bent:St→Cont→Option Fin:=gEnd sh_l1Bent I_l1Bent out_l1Bent (evC cx0_l1Bent (loopOf Tryz.f65 0)) (headAt cx0_l1Bent 7) P_l1Bent (.exit 1)
def E_l1Bent (x:Den TR) (z:Str) (s:Str) (l:List (Rule)):(Str×List Rule)×Str×Rd:=endOf sh_l1Bent.mk out_l1Bent (evC cx0_l1Bent (loopOf Tryz.f65 0)) (headAt cx0_l1Bent 7) P_l1Bent (.exit 1) (V_l1Bent x z s l)
theorem q_l1Bent (x:Den TR) (z:Str) (s:Str) (l:List (Rule)) (hI:inv_l1Bent x z s l=true):post_l1Bent x z s l (E_l1Bent x z s l):=(endOf_spec (a_l1Bent (V_l1Bent x z s l) hI)).1
def cx_l1Bent:Cx:=cx0_l1Bent.withLoops (look [(7,g_l1Bent)])
theorem l_l1Bent:∀st K r,g_l1Bent st K=some r→∃N,iter (evC cx_l1Bent (loopOf Tryz.f65 0)) (headAt cx_l1Bent 7) N st K=some r:=with_ok (by kernel_rfl) (gEnd_ok a_l1Bent)
theorem y_spec_l1Bent (x:Rd) (g:Gram):evFn cx_l1Bent Tryz.f65 true [.one (.ptr 0 0),ofD TG g] [boxD 120 TR x]=(
need (fits (([]:List Rule).length+length g.snd) Tryz.t63.bytes) <|
need (rdOk x) <|
branch (bif decide (0<pickV x 12)then true else decide ((g.snd.length:Int)=0)) ( some ((.d (.agg [(.r (.v (Value.string (mk g.fst)))),(.r (.li ty63 g.snd))])),[(0,(bR (rdGo x 1)))])) (
 need (rdOk (rdGo x 1)) <|
 need (rdOk (rdGo (rdGo x 1) 1)) <|
 branch (decide (pickV (rdGo (rdGo x 1) 1) 5=0)) (
 need (rdOk (rdGo (rdGo (rdGo x 1) 1) 1)&&Nat.blt 0 [[],[97],[65,66],[70],[66]].length) <| some ((.d (.agg [(.r (.v (Value.string (mk (ofV (rdGo (rdGo (rdGo x 1) 1) 1) [[],[97],[65,66],[70],[66]]))))),(.r (.li ty63 g.snd))])),[(0,(bR (rdGo (rdGo (rdGo (rdGo x 1) 1) 1) 1)))])) (
 branch (decide (pickV (rdGo (rdGo x 1) 1) 5=1)) (
  need (rdOk (rdGo (rdGo (rdGo x 1) 1) 1)&&Nat.blt 0 [[],[97],[65,66],[70]].length) <|
  need (inb (pickV (rdGo x 1) (g.snd.length:Int)) g.snd.length) <| some ((.d (.agg [(.r (.v (Value.string (mk g.fst)))),(.r (.li ty63 (g.snd.set (pickV (rdGo x 1) (g.snd.length:Int)).toNat (ofV (rdGo (rdGo (rdGo x 1) 1) 1) [[],[97],[65,66],[70]],(g.snd.getD (pickV (rdGo x 1) (g.snd.length:Int)).toNat (dflt ty63)).snd))))])),[(0,(bR (rdGo (rdGo (rdGo (rdGo x 1) 1) 1) 1)))])) (
  branch (decide (pickV (rdGo (rdGo x 1) 1) 5=2)) (
  need (rdOk (rdGo (rdGo (rdGo x 1) 1) 1)&&Nat.blt 0 [[97,97,97,97,97],[101],[32],[97,62],[70]].length) <|
  need (inb (pickV (rdGo x 1) (g.snd.length:Int)) g.snd.length) <| some ((.d (.agg [(.r (.v (Value.string (mk g.fst)))),(.r (.li ty63 (g.snd.set (pickV (rdGo x 1) (g.snd.length:Int)).toNat ((g.snd.getD (pickV (rdGo x 1) (g.snd.length:Int)).toNat (dflt ty63)).fst,ofV (rdGo (rdGo (rdGo x 1) 1) 1) [[97,97,97,97,97],[101],[32],[97,62],[70]]))))])),[(0,(bR (rdGo (rdGo (rdGo (rdGo x 1) 1) 1) 1)))])) (
  branch (decide (pickV (rdGo (rdGo x 1) 1) 5=3)) (
   need (inb (pickV (rdGo x 1) (g.snd.length:Int)) g.snd.length) <|
   need (fits (g.snd.length+[g.snd.getD (pickV (rdGo x 1) (g.snd.length:Int)).toNat (dflt ty63)].length) Tryz.t63.bytes) <| some ((.d (.agg [(.r (.v (Value.string (mk g.fst)))),(.r (.li ty63 (g.snd.append [g.snd.getD (pickV (rdGo x 1) (g.snd.length:Int)).toNat (dflt ty63)])))])),[(0,(bR (rdGo (rdGo (rdGo x 1) 1) 1)))])) (
   need (inv_l1Bent (rdGo (rdGo (rdGo x 1) 1) 1) ([]:Str) g.fst g.snd) <| some ((.d (.agg [(.r (.v (Value.string (mk (E_l1Bent (rdGo (rdGo (rdGo x 1) 1) 1) ([]:Str) g.fst g.snd).fst.fst)))),(.r (.li TRu ((E_l1Bent (rdGo (rdGo (rdGo x 1) 1) 1) ([]:Str) g.fst g.snd).fst.snd)))])),[(0,(bR (E_l1Bent (rdGo (rdGo (rdGo x 1) 1) 1) ([]:Str) g.fst g.snd).snd.snd))]))))))):=by kernel_rfl
theorem szG_set {k:Nat} {g:Gram} (h:szG k g=true) {r:Rule} (hr:szR r=true) {n:Nat}:szG k (g.1,g.2.set n r)=true:=by
 unfold szG at *;rw[andd,andd]at *;refine⟨h.1,by simpa using h.2.1,all_eq_true.2 fun y hy => ?_⟩;obtain hy | hy:=List.mem_or_eq_of_mem_set hy
 ·exact all_eq_true.1 h.2.2 y hy
 ·rw[hy];exact hr
theorem szG_getD {k:Nat} {g:Gram} (h:szG k g=true) (n:Nat):szR (g.2.getD n ([],[]))=true:=by
 unfold szG at h;rw[andd,andd]at h;rw[zG]
 cases e:g.2[n]? with
 |none=>rfl
 |some y=>exact all_eq_true.1 h.2.2 y (List.mem_of_getElem? e)
theorem szR_iff {r:Rule}:szR r=true↔r.1.length≤8∧r.2.length≤8:=by unfold szR;rw[andd,ble_iff,ble_iff]
theorem e_spec_l1Bent (x:Rd) (g:Gram) (hx:Fit TR x)  (hpre:(rdAt x 10000000940000&&szG 20 g)=true):∃q:(Gram)×Rd,evFn (cx_l1Bent) Tryz.f65 true [.one (.ptr 0 0),ofD TG g] [boxD 120 TR x]=some (.d (ofD TG q.1),[(0,some (boxD 120 TR q.2))])∧((∀k,6≤k→szG k g=true→szG (k+14) q.1=true)∧Adv x q.2 200):=by
 obtain⟨r,h1,h2⟩:Ok (evFn (cx_l1Bent) Tryz.f65 true [.one (.ptr 0 0),ofD TG g] [boxD 120 TR x]) (fun r=>∃(v:Gram) (x':Rd),r=(.d (ofD TG v),[(0,some (boxD 120 TR x'))])∧((∀k,6≤k→szG k g=true→szG (k+14) v=true)∧Adv x x' 200)):=by
  have f0:=fit_fitR hx;obtain⟨hp,hg⟩:=andd.1 hpre;have b0:BY x:=fun b hb=>byteFit hx.1 b hb;have a1:=Adv.one x;have a2:=Adv.two x;have a3:Adv x (rdGo (go2 x) 1) 3:=a2.trans (Adv.one _);have k0:=ok1 hp (by omega);have k1:rdOk (rdGo x 1)=true:=a1.ok hp (by omega);have k2:rdOk (go2 x)=true:=a2.ok hp (by omega);have k3:rdOk (rdGo (go2 x) 1)=true:=a3.ok hp (by omega);have hg':=hg;unfold szG at hg';obtain⟨g1,g2,g3⟩:g.1.length≤8∧g.2.length≤20∧g.2.all szR=true:=by rw[andd,andd,ble_iff,ble_iff]at hg';exact hg'
  have q:∀v:Gram,(∀k,6≤k→szG k g=true→szG (k+14) v=true)→∀y:Rd,Adv x y 200→Ok (some ((.d (ofD TG v),[(0,bR y)]):Fin)) (fun r=>∃(v:Gram) (x':Rd),r=(.d (ofD TG v),[(0,bR x')])∧(∀k,6≤k→szG k g=true→szG (k+14) v=true)∧Adv x x' 200):=fun v h1 y h2=>Ok.ret ⟨v,y,rfl,h1,h2⟩;have hgk:∀k,6≤k→szG k g=true→szG (k+14) g=true:=fun k _ h=>szG_le h (by omega);rw[y_spec_l1Bent];refine Ok.need (by rw[ruleBytes];exact fits_ok (by simp;omega) (by omega)) (Ok.need k0 (Ok.br (fun _=>q g hgk _ (a1.le (by omega))) fun hc=>Ok.need k1 (Ok.need k2 ?_)));have hne:1≤(g.2.length:Int):=by
   cases e:decide ((g.2.length:Int)=0)
   ·have:=of_decide_eq_false e;omega
   ·rw[e]at hc;cases h:decide (0<pickV x 12)<;>rw[h]at hc<;>cases hc
  have hin:=pickV_range (BY_adv a1 b0) k1 hne;have hib:=inb_ok hin.1 hin.2;have a4:∀y:Rd,y=rdGo (rdGo (go2 x) 1) 1→Adv x y 200:=fun y e=>by subst e;exact (a3.trans (Adv.one _)).le (by omega)
  have hr:=szR_iff.1 (szG_getD hg (pickV (rdGo x 1) g.2.length).toNat);refine Ok.br (fun _=>Ok.need (andd.2 ⟨k3,rfl⟩) (q (ofV (rdGo (go2 x) 1) [[],[97],[65,66],[70],[66]],g.2) ?_ _ (a4 _ rfl))) fun _ =>
   Ok.br (fun _=>Ok.need (andd.2 ⟨k3,rfl⟩) (Ok.need hib (q (g.1,g.2.set (pickV (rdGo x 1) g.2.length).toNat (ofV (rdGo (go2 x) 1) [[],[97],[65,66],[70]],(g.2.getD (pickV (rdGo x 1) g.2.length).toNat ([],[])).2)) ?_ _ (a4 _ rfl)))) fun _ =>
   Ok.br (fun _=>Ok.need (andd.2 ⟨k3,rfl⟩) (Ok.need hib (q (g.1,g.2.set (pickV (rdGo x 1) g.2.length).toNat ((g.2.getD (pickV (rdGo x 1) g.2.length).toNat ([],[])).1,ofV (rdGo (go2 x) 1) [[97,97,97,97,97],[101],[32],[97,62],[70]])) ?_ _ (a4 _ rfl)))) fun _ =>
   Ok.br (fun _=>Ok.need hib (Ok.need (by rw[ruleBytes];exact fits_ok (by simp;omega) (by omega)) (q (g.1,g.2.append [g.2.getD (pickV (rdGo x 1) g.2.length).toNat ([],[])]) ?_ _ (a3.le (by omega))))) fun _ => ?_
  ·intro k h6 hk;have hk:=hgk k h6 hk;unfold szG at *;rw[andd]at *;exact⟨ble_iff.2 (ofV_len (k:=8) (by decide)),hk.2⟩
  ·intro k h6 hk;refine szG_set (hgk k h6 hk) ?_;exact szR_iff.2 ⟨(ofV_len (l:=[[],[97],[65,66],[70]]) (by decide)),hr.2⟩
  ·intro k h6 hk;refine szG_set (hgk k h6 hk) ?_;exact szR_iff.2 ⟨hr.1,(ofV_len (l:=[[97,97,97,97,97],[101],[32],[97,62],[70]]) (by decide))⟩
  ·intro k h6 hk;unfold szG at *;rw[andd,andd,ble_iff,ble_iff]at *;refine⟨g1,by show(g.2++[_]).length≤k+14;rw[length_append];simp;omega, ?_⟩;show(g.2++[_]).all szR=true;rw[List.all_append,g3];show(true&&(szR _&&true))=true;rw[show szR (g.2.getD (pickV (rdGo x 1) g.2.length).toNat ([],[]))=true from szR_iff.2 hr];rfl
  ·have hi:inv_l1Bent (rdGo (go2 x) 1) [] g.1 g.2=true:=by
    simp only[inv_l1Bent,andd,ble_iff];exact⟨by rw[fitR_adv a3];exact f0,a3.at hp (by omega),by omega,g3⟩
   obtain⟨h1,h2,h3,h4⟩:=q_l1Bent _ [] g.1 g.2 hi;refine Ok.need hi (q ((E_l1Bent (rdGo (go2 x) 1) [] g.1 g.2).1.1,(E_l1Bent (rdGo (go2 x) 1) [] g.1 g.2).1.2) ?_ _ ((a3.trans h4).le (by omega)));intro k h6 hk;unfold szG at *;rw[andd,andd,ble_iff,ble_iff]at *
   exact ⟨by rw [h1]; exact g1, by have : (9 - g.2.length) ≤ 9 := by omega
                                   show (E_l1Bent (rdGo (go2 x) 1) [] g.1 g.2).1.2.length ≤ k + 14; omega, h2⟩
 obtain⟨v,x',h2,h3⟩:=h2;exact⟨(v,x'),by rw[h1,h2],h3⟩
def F_spec_l1Bent (x:Rd) (g:Gram):(Gram)×Rd:=oneOf (fun q:(Gram)×Rd=>evFn (cx_l1Bent) Tryz.f65 true [.one (.ptr 0 0),ofD TG g] [boxD 120 TR x]=some (.d (ofD TG q.1),[(0,some (boxD 120 TR q.2))])∧((∀k,6≤k→szG k g=true→szG (k+14) q.1=true)∧Adv x q.2 200))
theorem p_spec_l1Bent (x:Rd) (g:Gram) (hx:Fit TR x)  (hpre:(rdAt x 10000000940000&&szG 20 g)=true):(∀k,6≤k→szG k g=true→szG (k+14) (F_spec_l1Bent x g).1=true)∧Adv x (F_spec_l1Bent x g).2 200:=(oneOf_spec (e_spec_l1Bent x g hx  hpre)).2
theorem s_spec_l1Bent (x:Rd) (g:Gram) (hx:Fit TR x)  (hpre:(rdAt x 10000000940000&&szG 20 g)=true):Sat Tryz.prog 65 [.one (.ptr 0 0),ofD TG g] [boxD 120 TR x] (.d (ofD TG (F_spec_l1Bent x g).1)) [(0,some (boxD 120 TR (F_spec_l1Bent x g).2))] :=
 fn_sound (cx:=cx_l1Bent) Tryz.func65 rfl ttOk Γ28ok mixed (fun c hc=>LoopsOk.one (b:=loopOf Tryz.f65 0) (id:=7) (g:=g_l1Bent) (by cases hc;kernel_rfl) rfl l_l1Bent) (ro:=true) (oneOf_spec (e_spec_l1Bent x g hx  hpre)).1
def c_spec_l1Bent:Con:=conB 120 TR [TG] fun(x:Rd) (g:Gram)=>(some (rdAt x 10000000940000&&szG 20 g), .d (ofD TG (F_spec_l1Bent x g).1),(F_spec_l1Bent x g).2)
theorem k_spec_l1Bent:ConOk Tryz.prog 65 c_spec_l1Bent:=conB_ok Tryz.call65 fun x hx g _ hqq=>s_spec_l1Bent x g hx  (pre_of hqq)
theorem szG_fit {k:Nat} {g:Gram} (h:szG k g=true) (hk:k≤1000):Fit TG g:=by
 unfold szG at h;rw[andd,andd,ble_iff,ble_iff]at h;refine⟨Nat.le_trans h.1 (by omega),Nat.le_trans h.2.1 (by omega),fun r hr => ?_⟩;have q:=szR_iff.1 (all_eq_true.1 h.2.2 r hr);exact⟨Nat.le_trans q.1 (by omega),Nat.le_trans q.2 (by omega)⟩
theorem openV_fit {l:List Int} (hl:Fit TB l):Fit TR (openV l):=fitR_fit (k:=0) (andd.2 ⟨openV_by hl,ble_iff.2 (by show(l.take 2000).length≤_;rw[length_take];omega)⟩) (openV_at l) (by omega)
def gramV (l:List Int):Gram×Rd:=F_spec_l1Gram (openV l)
def drawV (l:List Int):Gram×Rd:=F_spec_l1Bent (gramV l).2 (gramV l).1
theorem gram_ok {l:List Int} (hl:Fit TB l):rdAt (openV l) 10000000900000=true∧szG 6 (gramV l).1=true∧Adv (openV l) (gramV l).2 100:=by
 have h0:rdAt (openV l) 10000000900000=true:=rfl;have f0:Fit TR (openV l):=(openV_fit hl);obtain⟨h1,h2⟩:=p_spec_l1Gram (openV l) f0 h0;exact⟨h0,(andd.1 h1).1,h2⟩
theorem draw_ok {l:List Int} (hl:Fit TB l):rdAt (openV l) 10000000900000=true∧(rdAt (gramV l).2 10000000940000&&szG 20 (gramV l).1)=true∧szG 20 (drawV l).1=true∧Adv (openV l) (drawV l).2 300:=by
 obtain⟨h0,h1,h2⟩:=gram_ok hl;have h3:rdAt (gramV l).2 10000000940000=true:=h2.at (openV_at l) (by omega);have f1:Fit TR (gramV l).2:=h2.fit (openV_fit hl) (openV_at l) (by omega);have h4:(rdAt (gramV l).2 10000000940000&&szG 20 (gramV l).1)=true:=andd.2 ⟨h3,szG_le h1 (by omega)⟩;obtain⟨p1,p2⟩:=p_spec_l1Bent (gramV l).2 (gramV l).1 f1 h4;exact⟨h0,h4,p1 6 (by omega) h1,(h2.trans p2).le (by omega)⟩
def Γ29:GL:=(65,c_spec_l1Bent)::Γ28
theorem Γ29ok:GO Γ29 := .cons k_spec_l1Bent Γ28ok
theorem y_spec_l1Draw (l:List Int):evFn (cxOf Γ29 Tryz.f77.ntmps [] [] [] []) Tryz.f77 true [ofD TB l] []=(
need (rdAt (openV l) 10000000900000) <|
need (rdAt (F_spec_l1Gram (openV l)).snd 10000000940000&&szG 20 (F_spec_l1Gram (openV l)).fst) <| some ((.d (.agg [(.r (.v (Value.string (mk (F_spec_l1Bent (F_spec_l1Gram (openV l)).snd (F_spec_l1Gram (openV l)).fst).fst.fst)))),(.r (.li TRu ((F_spec_l1Bent (F_spec_l1Gram (openV l)).snd (F_spec_l1Gram (openV l)).fst).fst.snd)))])),[])):=by kernel_rfl
theorem e_spec_l1Draw (l:List Int) (hl:Fit TB l):∃q:Gram,evFn (cxOf Γ29 Tryz.f77.ntmps [] [] [] []) Tryz.f77 true [ofD TB l] []=some (.d (ofD TG q),[])∧(szG 20 q=true):=by
 obtain⟨r,h1,h2⟩:Ok (evFn (cxOf Γ29 Tryz.f77.ntmps [] [] [] []) Tryz.f77 true [ofD TB l] []) (fun r=>∃(v:Gram),r=(.d (ofD TG v),[])∧(szG 20 v=true)):=by
  obtain⟨h0,h1,h2,h3⟩:=draw_ok hl;rw[y_spec_l1Draw];exact Ok.need h0 (Ok.need h1 (Ok.ret ⟨_,rfl,h2⟩))
 obtain⟨v,h2,h3⟩:=h2;exact⟨v,by rw[h1,h2],h3⟩
def F_spec_l1Draw (l:List Int):Gram:=oneOf (fun q:Gram=>evFn (cxOf Γ29 Tryz.f77.ntmps [] [] [] []) Tryz.f77 true [ofD TB l] []=some (.d (ofD TG q),[])∧(szG 20 q=true))
theorem p_spec_l1Draw (l:List Int) (hl:Fit TB l):szG 20 (F_spec_l1Draw l)=true:=(oneOf_spec (e_spec_l1Draw l hl)).2
theorem s_spec_l1Draw (l:List Int) (hl:Fit TB l):Sat Tryz.prog 77 [ofD TB l] [] (.d (ofD TG (F_spec_l1Draw l))) [] :=
 fn_sound (cx:=cxOf Γ29 Tryz.f77.ntmps [] [] [] []) Tryz.func77 rfl ttOk Γ29ok mixed (fun _ _=>LoopsOk.no fun _=>rfl) (ro:=true) (oneOf_spec (e_spec_l1Draw l hl)).1
def c_spec_l1Draw:Con:=conT [TB] fun(l:List Int)=>(none, .d (ofD TG (F_spec_l1Draw l)))
theorem k_spec_l1Draw:ConOk Tryz.prog 77 c_spec_l1Draw:=conT_ok Tryz.call77 fun l hl _=>s_spec_l1Draw l hl
def Γ30:GL:=(77,c_spec_l1Draw)::Γ29
theorem Γ30ok:GO Γ30 := .cons k_spec_l1Draw Γ29ok
def eqRs:List Rule→List Rule→Bool
 | [],[]=>true
 |a::l,b::m=>eqRu a b&&eqRs l m
 |_,_=>false
theorem eqRs_iff:∀ {l m:List Rule},eqRs l m=true↔l=m
 | [],[]=>⟨fun _=>rfl,fun _=>rfl⟩
 |a::l,b::m=>by simp only[eqRs,andd,eqRu_iff,eqRs_iff,List.cons.injEq]
 | [],b::m=>⟨fun h=>(nomatch h),fun h=>(nomatch h)⟩
 |a::l,[]=>⟨fun h=>(nomatch h),fun h=>(nomatch h)⟩
def cb_eqRules:Cx:=cxOf Γ30 Tryz.f89.ntmps [(4,[0,1,12,13])] [(0,[]),(1,[0,1,12,13]),(1000000,[4])] [] []
abbrev st_eqRules (l m:List Rule) (n i:Int):St:=⟨[(0, .d (ofD TRL l)),(1, .d (ofD TRL m)),(12,vI n),(13,vI i)],[]⟩
theorem x_slices_Equal_impl_Rule_impl_Rule (l m:List Rule) (n i:Int) (R:St→Option Fin) (K:Cont):evC (cb_eqRules.withLoops (look [])) (loopOf Tryz.f89 0) (st_eqRules l m n i) (onward (headAt (cb_eqRules.withLoops (look [])) 4) R K)=(
branch (decide (i<n)) (
 need (inb i l.length) <|
 need (inb i m.length) <|
 branch (!(decide ((l.getD i.toNat d0).fst=(m.getD i.toNat d0).fst)&&(decide ((l.getD i.toNat d0).snd=(m.getD i.toNat d0).snd)&&true))) ( K (.ret) (.mk [(4,vB false)] [])) ( R (st_eqRules l m n (W64 (i+1))))) ( K (.exit 0) (.mk [] []))):=by kernel_rfl
def cx0_eqRules:Cx:=(cb_eqRules).withLoops (look [])
def sh_eqRules:Sh:=([(0, .d TRL),(1, .d TRL),(12, .d TI64),(13, .d TI64)],[])
def pre_eqRules (l m:List Rule) (n i:Int):Bool:=decide (0≤i)&&(Nat.ble (length l) big&&(decide (n=(length l:Int))&&decide (length l=length m)))
def res_eqRules (l m:List Rule) (_n i:Int) (K:Cont):Option Fin:=branch (eqRs (l.drop i.toNat) (m.drop i.toNat)) (K (.exit 0) ⟨[],[]⟩) (K .ret ⟨[(4,vB false)],[]⟩)
def mu_eqRules (l _m:List Rule) (_n i:Int):Nat:=length l-i.toNat
theorem r_eqRules (l m:List Rule) (n i:Int) (K:Cont) (hI:pre_eqRules l m n i=true):(∀R:St→Option Fin,evC cx0_eqRules (loopOf Tryz.f89 0) (st_eqRules l m n i) (onward (headAt cx0_eqRules 4) R K)=res_eqRules l m n i K) ∨
  (∃(l' m':List Rule) (n' i':Int),pre_eqRules l' m' n' i'=true∧mu_eqRules l' m' n' i'<mu_eqRules l m n i∧res_eqRules l' m' n' i' K=res_eqRules l m n i K∧∀R:St→Option Fin,evC cx0_eqRules (loopOf Tryz.f89 0) (st_eqRules l m n i) (onward (headAt cx0_eqRules 4) R K)=R (st_eqRules l' m' n' i')):=by
 have hx:=fun R=>x_slices_Equal_impl_Rule_impl_Rule l m n i R K;simp only[pre_eqRules,andd,dec_iff,ble_iff]at hI;obtain⟨h0,h1,rfl,h3⟩:=hI
 by_cases hi:i<(l.length:Int)
 ·simp only[hi,decide_true,inb_ok h0 hi,inb_ok h0 (show i<(m.length:Int)by omega),branch_true,W1 h0 hi h1]at hx;have hn:i.toNat<l.length:=by omega
  have hn':i.toNat<m.length:=by omega
  have hg:eqRs (l.drop i.toNat) (m.drop i.toNat)=(eqRu (l.getD i.toNat d0) (m.getD i.toNat d0)&&eqRs (l.drop (i+1).toNat) (m.drop (i+1).toNat)):=by
   rw[drop_eq_getElem_cons hn,drop_eq_getElem_cons hn',getD_at hn,getD_at hn',show (i+1).toNat=i.toNat+1 by omega];rfl
  cases hc:eqRu (l.getD i.toNat d0) (m.getD i.toNat d0)
  ·left;intro R;rw[hc]at hg;refine(hx R).trans ?_;have hc':=hc;unfold eqRu at hc';rw[hc'];simp only[res_eqRules,hg];rfl
  ·right;rw[hc]at hg;refine⟨l,m,(l.length:Int),i+1, ?_, ?_, ?_,fun R=>(hx R).trans ?_⟩
   ·exact andd.2 ⟨dec_iff.2 (by omega),andd.2 ⟨ble_iff.2 h1,andd.2 ⟨zT rfl,zT h3⟩⟩⟩
   ·simp only[mu_eqRules];omega
   ·simp only[res_eqRules,hg];rfl
   ·have hc':=hc;unfold eqRu at hc';rw[hc'];rfl
 ·left;intro R;refine(hx R).trans ?_;simp only[hi,decide_false,branch_false,res_eqRules];rw[drop_eq_nil_of_le (by omega),drop_eq_nil_of_le (by omega)];rfl
def g_eqRules:St→Cont→Option Fin:=gP sh_eqRules (fun v=>match v with | ((l,m,n,i,()),())=>pre_eqRules l m n i) (fun v K=>match v with | ((l,m,n,i,()),())=>res_eqRules l m n i K)
def L_eqRules:LpL:=(4,g_eqRules)::[]
def cx_eqRules:Cx:=(cb_eqRules).withLoops (look L_eqRules)
theorem l_eqRules {L:LpL} (n:Nat) (h1:L.drop n=[]) (h2:idsFree (L.take n) (loopOf Tryz.f89 0)=true):LoopsTo g_eqRules (cb_eqRules) (loopOf Tryz.f89 0) 4 L :=
 with_drop h1 h2 (gP_ok (fun v=>match v with | ((l,m,n,i,()),())=>mu_eqRules l m n i) fun v K hI=>by
  obtain⟨⟨l,m,n,i,⟨⟩⟩,⟨⟩⟩:=v;exact(r_eqRules l m n i K hI).imp id fun⟨l',m',n',i',h⟩=>⟨((l',m',n',i',()),()),h⟩)
theorem y_slices_Equal_impl_Rule_impl_Rule (l:List Rule) (m:List Rule):evFn cx_eqRules Tryz.f89 true [ofD TRL l,ofD TRL m] []=(
branch (!decide ((l.length:Int)=(m.length:Int))) ( some ((vB false),[])) (
 need (pre_eqRules l m ((l.length:Int)) 0) <|
 branch (eqRs l m) ( some ((vB true),[])) ( some ((vB false),[])))):=by kernel_rfl
theorem s_slices_Equal_impl_Rule_impl_Rule (l:List Rule) (hl:Fit TRL l) (m:List Rule) (_hm:Fit TRL m):Sat Tryz.prog 89 [ofD TRL l,ofD TRL m] [] (.d (ofD .bool (eqRs l m))) [] :=
 fn_sound (cx:=cx_eqRules) Tryz.func89 rfl ttOk Γ30ok mixed (fun c hc=>LoopsOk.all (l:=[(4,loopOf Tryz.f89 0)]) (by cases hc;kernel_rfl) ⟨atLoop rfl (l_eqRules 1 rfl (by kernel_rfl)),trivial⟩) (ro:=true) (by
  rw[y_slices_Equal_impl_Rule_impl_Rule]
  by_cases h:(l.length:Int)=(m.length:Int)
  ·have hp:pre_eqRules l m (l.length:Int) 0=true:=andd.2 ⟨rfl,andd.2 ⟨ble_iff.2 hl.1,andd.2 ⟨zT rfl,zT (by omega)⟩⟩⟩;rw[zT h,hp];show branch (eqRs l m) _ _=_
   cases eqRs l m<;>rfl
  ·rw[zF h]
   cases e:eqRs l m
   ·rfl
   ·rw[eqRs_iff]at e;subst e;exact absurd rfl h)
def c_slices_Equal_impl_Rule_impl_Rule:Con:=conT [TRL,TRL] fun(l:List Rule) (m:List Rule)=>(none, .d (ofD .bool (eqRs l m)))
theorem k_slices_Equal_impl_Rule_impl_Rule:ConOk Tryz.prog 89 c_slices_Equal_impl_Rule_impl_Rule:=conT_ok Tryz.call89 fun l hl m hm _=>s_slices_Equal_impl_Rule_impl_Rule l hl m hm
def Γ31:GL:=(89,c_slices_Equal_impl_Rule_impl_Rule)::Γ30
theorem Γ31ok:GO Γ31 := .cons k_slices_Equal_impl_Rule_impl_Rule Γ30ok
def sameG (a b:Gram):Bool:=bif decide (a.1=b.1)then eqRs a.2 b.2 else false
theorem y_impl_GramSame (a:Gram) (b:Gram):evFn (cxOf Γ31 Tryz.f41.ntmps [] [] [] []) Tryz.f41 true [ofD TG a,ofD TG b] []=(
some ((vB (bif decide (a.fst=b.fst)then eqRs a.snd b.snd else false)),[])):=by kernel_rfl
theorem s_impl_GramSame (a:Gram) (_ha:Fit TG a) (b:Gram) (_hb:Fit TG b):Sat Tryz.prog 41 [ofD TG a,ofD TG b] [] (.d (ofD .bool (sameG a b))) [] :=
 fn_sound (cx:=cxOf Γ31 Tryz.f41.ntmps [] [] [] []) Tryz.func41 rfl ttOk Γ31ok mixed (fun _ _=>LoopsOk.no fun _=>rfl) (ro:=true) (by
  rw[y_impl_GramSame];rfl)
def c_impl_GramSame:Con:=conT [TG,TG] fun(a:Gram) (b:Gram)=>(none, .d (ofD .bool (sameG a b)))
theorem k_impl_GramSame:ConOk Tryz.prog 41 c_impl_GramSame:=conT_ok Tryz.call41 fun a ha b hb _=>s_impl_GramSame a ha b hb
def Γ32:GL:=(41,c_impl_GramSame)::Γ31
theorem Γ32ok:GO Γ32 := .cons k_impl_GramSame Γ31ok
abbrev TU8:Ty := .int .u8
theorem byteL_nat (b:UInt8):UInt8.ofNat ((b.toNat:Int)).toNat=b:=by
 rw[show ((b.toNat:Int)).toNat=b.toNat by omega];exact UInt8.ofNat_toNat
def inS (s:Str) (c:Int):Bool:=s.any fun b=>decide ((b.toNat:Int)=c)
theorem inS_at {s:Str} {i c:Int} (h0:0≤i) (h1:i<(s.length:Int)):inS (s.drop i.toNat) c=(decide (byteAt s i=c)||inS (s.drop (i+1).toNat) c):=by
 have hn:i.toNat<s.length:=by omega
 unfold inS;rw[drop_eq_getElem_cons hn,List.any_cons,show (i+1).toNat=i.toNat+1 by omega,byteAt_get h0 hn]
theorem inS_mem {s:Str} {c:UInt8}:inS s (c.toNat:Int)=true↔c∈s:=by
 unfold inS;rw[List.any_eq_true]
 constructor
 ·rintro ⟨x,h1,h2⟩;have:x=c:=UInt8.toNat_inj.1 (by have:=of_decide_eq_true h2;omega);exact this ▸ h1
 ·intro h;exact⟨c,h,zT rfl⟩
theorem u8_nat {c:Int} (h:Fit TU8 c):((UInt8.ofNat c.toNat).toNat:Int)=c:=by
 have h1:IntKind.u8.wrap c=c:=h;rw[IntKind.wrap_u8]at h1;rw[UInt8.toNat_ofNat'];omega
def sgsOf (l:List Rule):Str:=l.flatMap fun r=>r.1++r.2
def signsG (g:Gram):Str:=g.1++sgsOf g.2
theorem sgs_at {l:List Rule} {i:Int} (h0:0≤i) (h1:i<(l.length:Int)):sgsOf (l.drop i.toNat)=(l.getD i.toNat d0).1++(l.getD i.toNat d0).2++sgsOf (l.drop (i+1).toNat):=by
 have hn:i.toNat<l.length:=by omega
 unfold sgsOf;rw[drop_eq_getElem_cons hn,List.flatMap_cons,show (i+1).toNat=i.toNat+1 by omega,getD_at hn]
theorem sgs_end {l:List Rule} {i:Int} (h:(l.length:Int)≤i):sgsOf (l.drop i.toNat)=[]:=by
 rw[drop_eq_nil_of_le (by omega)];rfl
theorem okAt_iff {l:List Rule} {i:Nat} (h:okAt l i=true):bigS (l.getD i d0).1=true∧areS (l.getD i d0).2 4=true:=by
 unfold okAt at h;rw[andd,andd]at h;exact⟨h.1,h.2.1⟩
theorem okG_iff {g:Gram} (h:okG g=true):bigS g.1=true∧g.2.length≤8∧∀r∈g.2,bigS r.1=true∧areS r.2 4=true:=by
 unfold okG at h;rw[andd,andd]at h;obtain⟨h1,h2,h3⟩:=h;refine⟨h1,by have:=of_decide_eq_true h2;omega,fun r hr => ?_⟩;obtain⟨i,hi,rfl⟩:=List.getElem_of_mem hr;unfold okFrom at h3;have:=okAt_iff (all_eq_true.1 h3 i (List.mem_range'.2 ⟨i,by omega,by omega⟩));rw[getD_at hi]at this;exact this
theorem bigS_one {s:Str} (h:bigS s=true):∃c,s=[c]∧bigc c=true:=by
 unfold bigS at h
 split at h
 ·exact ⟨_,rfl,h⟩
 ·cases h
theorem areS_iff {s:Str} {n:Int} (h:areS s n=true):(∀c∈s,sign c=true)∧(s.length:Int)≤n:=by
 unfold areS at h;rw[andd]at h;exact⟨fun c hc=>all_eq_true.1 h.1 c hc,of_decide_eq_true h.2⟩
theorem sgs_len:∀ {l:List Rule},(∀r∈l,bigS r.1=true∧areS r.2 4=true)→(sgsOf l).length≤5*l.length
 | [],_=>Nat.zero_le _
 |r::l,h=>by
  obtain⟨h1,h2⟩:=h r mem_cons_self;obtain⟨c,h1,_⟩:=bigS_one h1;have h2:=(areS_iff h2).2;have ih:=sgs_len (l:=l) fun r hr=>h r (mem_cons_of_mem _ hr);unfold sgsOf at *;rw[List.flatMap_cons,length_append,length_append,h1];simp only[length_cons,List.length_nil];omega
theorem signs_len {g:Gram} (h:okG g=true):(signsG g).length≤41:=by
 obtain⟨h1,h2,h3⟩:=okG_iff h;obtain⟨c,h1,_⟩:=bigS_one h1;have:=sgs_len h3;unfold signsG;rw[length_append,h1];simp only[length_cons,List.length_nil];omega
theorem big_small (c:UInt8):¬(bigc c=true∧small c=true):=by
 unfold bigc small;rw[andd,andd,ble_iff,ble_iff,ble_iff,ble_iff];omega
theorem slice_one {s:Str} {i:Int} (h0:0≤i) (h1:i<(s.length:Int)):List.take ((i+1).toNat-i.toNat) (List.drop i.toNat s)=[s.getD i.toNat 0]:=by
 have hn:i.toNat<s.length:=by omega
 rw[show (i+1).toNat-i.toNat=1 by omega,drop_eq_getElem_cons hn,zG,zE hn];rfl
theorem okG_big {g:Gram} (h:okG g=true):bigS g.1=true:=(okG_iff h).1
set_option maxHeartbeats 1000000
def conL (t:TypeId) (s:Ty) (ts:List Ty) (G:List (Den s)→Fn ts (Option Bool×T×List (Den s))):Con:=⟨false,fun ds os=>match ds,os with
 | .one (.own 0)::ds,[o]=>match exLis t s (some o)with
  |some l=>match applyD ts (G l) ds with
   |some (c,r,m)=>some (c,r,[(0,some (.lis t s m))])
   |none=>none
  |none=>none
 |_,_=>none⟩
theorem lis_fit {P:Program} {f:FuncId} {t:TypeId} {s:Ty} {l:List (Den s)} {ds:List D} {r:T} {objs:Heap} (hs:tyFlat s=true) (h:Fit (.list s) l→Sat P f ds [.lis t s l] r objs):Sat P f ds [.lis t s l] r objs:=by
 intro w F β args H hds;have h0:hOf [Obj.lis t s l] 0=some (some (.lis t s l)):=by rw[hOf_eq];rfl
 have hr:LeafAt _ _ t s l (β 0):=RepO.leaf.1 (H.obj 0 _ h0);refine h (fit_list ?_ fun k hk => ?_) w F β args H hds
 ·rcases hr with⟨_,_,h2⟩ | ⟨_,cap,_,_,_,_,h4,h5,_⟩
  ·omega
  ·exact Nat.le_trans h4 (Nat.le_trans h5 (by decide))
 ·rcases hr with⟨_,_,h2⟩ | ⟨b,cap,cur,h1,h⟩
  ·omega
  ·obtain ⟨us,_,_,q⟩:=deep_elem (cap:=cap) (b:=b) hs (.inr ⟨b,cap,cur,rfl,h⟩) hk;exact RoL_fit (RoL_cells.2 q)
theorem conL_ok {P:Program} {f:FuncId} {t:TypeId} {s:Ty} {ts:List Ty} {G:List (Den s)→Fn ts (Option Bool×T×List (Den s))} (hs:tyFlat s=true) (hin:∀args w,(callFunc f args).run P w = .ok (.enter f args) w)
  (he:∀l,Fit (.list s) l→EachF ts (G l) fun ds r=>(r.1=none∨r.1=some true)→Sat P f (.one (.own 0)::ds) [.lis t s l] r.2.1 [(0,some (.lis t s r.2.2))]):ConOk P f (conL t s ts G):=by
 refine⟨hin,fun ds os c x objs hc hok => ?_⟩;simp only[conL]at hc
 split at hc
 ·rename_i ds o
  split at hc
  ·rename_i l e2;have e2:=Option.some.inj (exLis_some e2);subst e2
   split at hc
   ·rename_i c' r m hap
    cases hc
    refine lis_fit hs fun hf => ?_;intro w F β args H hds
    cases hds with
    |cons g1 g2 =>
     obtain⟨ds',q1,q2⟩:=each_of (he l hf) hap g2;exact q1 hok w F β _ H (.cons g1 q2)
   ·cases hc
  ·cases hc
 ·cases hc
def ltI (x y:Int):Bool:=decide (x<y)
theorem s_cmp_isNaN_byte (a:Int) (_ha:Fit (.int .u8) a):Sat Tryz.prog 194 [ofD (.int .u8) a] [] (.d (ofD .bool false)) [] :=
 fn_sound (cx:=cxOf Γ32 Tryz.f194.ntmps [] [] [] []) Tryz.func194 rfl ttOk Γ32ok mixed (fun _ _=>LoopsOk.no fun _=>rfl) (ro:=true) (by
  have y:evFn (cxOf Γ32 Tryz.f194.ntmps [] [] [] []) Tryz.f194 true [ofD (.int .u8) a] []=some (vB !decide (a=a),[]):=by kernel_rfl
  rw[y,zT rfl];rfl)
def c_cmp_isNaN_byte:Con:=conT [(.int .u8)] fun(_a:Int)=>(none, .d (ofD .bool false))
theorem k_cmp_isNaN_byte:ConOk Tryz.prog 194 c_cmp_isNaN_byte:=conT_ok Tryz.call194 fun a ha _=>s_cmp_isNaN_byte a ha
def Γ33:GL:=(194,c_cmp_isNaN_byte)::Γ32
theorem Γ33ok:GO Γ33 := .cons k_cmp_isNaN_byte Γ32ok
theorem s_cmp_Less_byte (a:Int) (_ha:Fit (.int .u8) a) (b:Int) (_hb:Fit (.int .u8) b):Sat Tryz.prog 179 [ofD (.int .u8) a,ofD (.int .u8) b] [] (.d (ofD .bool (ltI a b))) [] :=
 fn_sound (cx:=cxOf Γ33 Tryz.f179.ntmps [] [] [] []) Tryz.func179 rfl ttOk Γ33ok mixed (fun _ _=>LoopsOk.no fun _=>rfl) (ro:=true) (by
  have y:evFn (cxOf Γ33 Tryz.f179.ntmps [] [] [] []) Tryz.f179 true [ofD (.int .u8) a,ofD (.int .u8) b] []=some (vB (ltI a b),[]):=by kernel_rfl
  rw[y];rfl)
def c_cmp_Less_byte:Con:=conT [(.int .u8),(.int .u8)] fun(a:Int) (b:Int)=>(none, .d (ofD .bool (ltI a b)))
theorem k_cmp_Less_byte:ConOk Tryz.prog 179 c_cmp_Less_byte:=conT_ok Tryz.call179 fun a ha b hb _=>s_cmp_Less_byte a ha b hb
def Γ34:GL:=(179,c_cmp_Less_byte)::Γ33
theorem Γ34ok:GO Γ34 := .cons k_cmp_Less_byte Γ33ok
abbrev swL (l:List Int) (i j:Nat):List Int:=(l.set i (l.getD j 0)).set j (l.getD i 0)
theorem at_arr (l:List Int) (i:Nat):l.toArray[i]! = l.getD i 0:=by simp[List.getD_eq_getElem?_getD]
theorem sw_arr (l:List Int) (i j:Nat):Go.Sort.swp l.toArray i j=(swL l i j).toArray:=by
 unfold Go.Sort.swp;rw[at_arr,at_arr,List.setIfInBounds_toArray,List.setIfInBounds_toArray]
theorem swL_len (l:List Int) (i j:Nat):(swL l i j).length=l.length:=by simp
abbrev onL (f:Array Int→Array Int) (l:List Int):List Int:=(f l.toArray).toList
theorem onL_len {f:Array Int→Array Int} (h:∀d,(f d).size=d.size) (l:List Int):(onL f l).length=l.length:=by
 unfold onL;rw[Array.length_toList,h];rfl
theorem onL_arr (f:Array Int→Array Int) (l:List Int):(onL f l).toArray=f l.toArray:=by unfold onL;rw[Array.toArray_toList]
theorem insInner_size (a:Nat):∀(j:Nat) (d:Array Int),(Go.Sort.insInner ltI a j d).size=d.size
 |0,d=>rfl
 |j+1,d=>by
  rw[Go.Sort.insInner]
  split
  ·rw[insInner_size a j];unfold Go.Sort.swp;rw[Array.size_setIfInBounds,Array.size_setIfInBounds]
  ·rfl
def cb_insSort:Cx:=cxOf Γ34 Tryz.f173.ntmps [(4,[0,1,2,6,7]),(1,[0,1,2,6])] [(0,[]),(1,[0,1,2,6]),(2,[0,1,2,6]),(3,[0,1,2,6,7])] [] []
theorem x_insInner (l:List Int) (a b i j:Int) (R:St→Option Fin) (K:Cont):evC (cb_insSort.withLoops (look [])) (loopOf Tryz.f173 1) ⟨[(0, .d (.one (.own 0))),(1,vI a),(2,vI b),(6,vI i),(7,vI j)],[(0,some (.lis 5 TU8 l))]⟩ (onward (headAt (cb_insSort.withLoops (look [])) 4) R K)=(
need (bif decide (decide (a<j)=true)then inb j l.length else true) <|
need (bif decide (decide (a<j)=true)then inb (W64 (j-1)) l.length else true) <|
branch (bif decide (a<j)then ltI (l.getD j.toNat 0) (l.getD (W64 (j-1)).toNat 0)else false) (
 need (inb (W64 (j-1)) l.length) <|
 need (inb j l.length) <|
 need (inb j l.length) <|
 need (inb (W64 (j-1)) (l.set j.toNat (l.getD (W64 (j-1)).toNat 0)).length) <| R ⟨[(0, .d (.one (.own 0))),(1,vI a),(2,vI b),(6,vI i),(7,vI (W64 (j-1)))],[(0,some (.lis 5 TU8 (swL l j.toNat (W64 (j-1)).toNat)))]⟩)
 (K (.exit 2) ⟨[(0, .d (.one (.own 0))),(1,vI a),(2,vI b),(6,vI i)],[(0,some (.lis 5 TU8 l))]⟩)):=by kernel_rfl
def cx0_insInner:Cx:=(cb_insSort).withLoops (look [])
def sh_insInner:Sh:=([(0, .own 0),(1, .d TI64),(2, .d TI64),(6, .d TI64),(7, .d TI64)],[(0, .lis 5 TU8)])
abbrev st_insInner (a b i j:Int) (l:List (Int)):St:=⟨[(0, .d (.one (.own 0))),(1,vI a),(2,vI b),(6,vI i),(7,vI j)],[(0,some (.lis 5 TU8 l))]⟩
def pre_insInner (a _b _i j:Int) (l:List (Int)):Bool:=decide (0≤a)&&(decide (a≤j)&&(decide (j<(length l:Int))&&Nat.ble (length l) big))
def res_insInner (a b i j:Int) (l:List (Int)) (K:Cont):Option Fin:=K (.exit 2) ⟨[(0, .d (.one (.own 0))),(1,vI a),(2,vI b),(6,vI i)],[(0,some (.lis 5 TU8 (onL (Go.Sort.insInner ltI a.toNat j.toNat) l)))]⟩
def mu_insInner (_a _b _i j:Int) (_l:List (Int)):Nat:=j.toNat
theorem r_insInner (a b i j:Int) (l:List (Int)) (K:Cont) (hI:pre_insInner a b i j l=true):(∀R:St→Option Fin,evC cx0_insInner (loopOf Tryz.f173 1) (st_insInner a b i j l) (onward (headAt cx0_insInner 4) R K)=res_insInner a b i j l K) ∨
  (∃(a' b' i' j':Int) (l':List (Int)),pre_insInner a' b' i' j' l'=true∧mu_insInner a' b' i' j' l'<mu_insInner a b i j l∧res_insInner a' b' i' j' l' K=res_insInner a b i j l K∧∀R:St→Option Fin,evC cx0_insInner (loopOf Tryz.f173 1) (st_insInner a b i j l) (onward (headAt cx0_insInner 4) R K)=R (st_insInner a' b' i' j' l')):=by
 have hx:=fun R=>x_insInner l a b i j R K;simp only[pre_insInner,andd,dec_iff,ble_iff]at hI;obtain⟨h0,h1,h2,h3⟩:=hI
 by_cases hi:a<j
 ·have hw:W64 (j-1)=j-1:=wrap_small (by omega) (by simp only[big]at h3;omega);obtain⟨n,hn⟩:∃n:Nat,j=(n:Int)+1:=⟨(j-1).toNat,by omega⟩;have e1:j.toNat=n+1:=by omega
  have e2:(j-1).toNat=n:=by omega
  have b1:inb j l.length=true:=inb_ok (by omega) h2;have b2:inb (j-1) l.length=true:=inb_ok (by omega) (by omega);have hs:onL (Go.Sort.insInner ltI a.toNat (n+1)) l=bif ltI (l.getD (n+1) 0) (l.getD n 0)then onL (Go.Sort.insInner ltI a.toNat n) (swL l (n+1) n)else l:=by
   unfold onL;rw[Go.Sort.insInner,at_arr,at_arr,sw_arr,zT (show n+1 > a.toNat by omega),Bool.true_and]
   cases ltI (l.getD (n+1) 0) (l.getD n 0)<;>rfl
  simp only[hi,decide_true,hw,b1,b2,length_set,Bool.cond_self,need_t,e1,e2,cond_true]at hx
  cases hc:ltI (l.getD (n+1) 0) (l.getD n 0)
  ·left;intro R;refine(hx R).trans ?_;simp only[res_insInner,e1,hs,hc];rfl
  ·right;refine⟨a,b,i,j-1,swL l (n+1) n, ?_, ?_, ?_,fun R=>(hx R).trans ?_⟩
   ·simp only[pre_insInner,andd,dec_iff,ble_iff,swL_len];omega
   ·simp only[mu_insInner];omega
   ·simp only[res_insInner,e1,e2,hs,hc];rfl
   ·rw[hc];rfl
 ·left;intro R;refine(hx R).trans ?_;have e:j=a:=by omega
  subst e;simp only[hi,decide_false,cond_false];show K _ _=_;have hs:onL (Go.Sort.insInner ltI j.toNat j.toNat) l=l:=by
   unfold onL
   cases hn:j.toNat with
   |zero=>rfl
   |succ n=>rw[Go.Sort.insInner,zF (by omega),Bool.false_and];rfl
  simp only[res_insInner,hs]
def g_insInner:St→Cont→Option Fin:=gP sh_insInner (fun v=>match v with | ((a,b,i,j,()),(l,()))=>pre_insInner a b i j l) (fun v K=>match v with | ((a,b,i,j,()),(l,()))=>res_insInner a b i j l K)
def L_insInner:LpL:=(4,g_insInner)::[]
def cx_insInner:Cx:=(cb_insSort).withLoops (look L_insInner)
theorem l_insInner {L:LpL} (n:Nat) (h1:L.drop n=[]) (h2:idsFree (L.take n) (loopOf Tryz.f173 1)=true):LoopsTo g_insInner (cb_insSort) (loopOf Tryz.f173 1) 4 L :=
 with_drop h1 h2 (gP_ok (fun v=>match v with | ((a,b,i,j,()),(l,()))=>mu_insInner a b i j l) fun v K hI=>by
  obtain⟨⟨a,b,i,j,⟨⟩⟩,⟨l,⟨⟩⟩⟩:=v;exact(r_insInner a b i j l K hI).imp id fun⟨a',b',i',j',l',h⟩=>⟨((a',b',i',j',()),(l',())),h⟩)
abbrev st_insOuter (a b i:Int) (l:List (Int)):St:=⟨[(0, .d (.one (.own 0))),(1,vI a),(2,vI b),(6,vI i)],[(0,some (.lis 5 TU8 l))]⟩
theorem x_slices_insertionSortOrdered_byte (l:List Int) (a b i:Int) (R:St→Option Fin) (K:Cont):evC cx_insInner (loopOf Tryz.f173 0) (st_insOuter a b i l) (onward (headAt cx_insInner 1) R K)=(
branch (decide (i<b)) (
 need (pre_insInner a b i i l) <| R (st_insOuter a b (W64 (i+1)) (onL (Go.Sort.insInner ltI a.toNat i.toNat) l))) ( K (.exit 0) (.mk [] [(0,some (.lis 5 TU8 l))]))):=by kernel_rfl
def cx0_insOuter:Cx:=(cb_insSort).withLoops (look L_insInner)
def sh_insOuter:Sh:=([(0, .own 0),(1, .d TI64),(2, .d TI64),(6, .d TI64)],[(0, .lis 5 TU8)])
def pre_insOuter (a b i:Int) (l:List (Int)):Bool:=decide (0≤a)&&(decide (a≤i)&&(decide (b≤(length l:Int))&&Nat.ble (length l) big))
def res_insOuter (a b i:Int) (l:List (Int)) (K:Cont):Option Fin:=K (.exit 0) ⟨[],[(0,some (.lis 5 TU8 (onL (Go.Sort.insOuter ltI a.toNat b.toNat i.toNat) l)))]⟩
def mu_insOuter (_a b i:Int) (_l:List (Int)):Nat:=(b-i).toNat
theorem r_insOuter (a b i:Int) (l:List (Int)) (K:Cont) (hI:pre_insOuter a b i l=true):(∀R:St→Option Fin,evC cx0_insOuter (loopOf Tryz.f173 0) (st_insOuter a b i l) (onward (headAt cx0_insOuter 1) R K)=res_insOuter a b i l K) ∨
  (∃(a' b' i':Int) (l':List (Int)),pre_insOuter a' b' i' l'=true∧mu_insOuter a' b' i' l'<mu_insOuter a b i l∧res_insOuter a' b' i' l' K=res_insOuter a b i l K∧∀R:St→Option Fin,evC cx0_insOuter (loopOf Tryz.f173 0) (st_insOuter a b i l) (onward (headAt cx0_insOuter 1) R K)=R (st_insOuter a' b' i' l')):=by
 have hx:=fun R=>x_slices_insertionSortOrdered_byte l a b i R K;simp only[pre_insOuter,andd,dec_iff,ble_iff]at hI;obtain⟨h0,h1,h2,h3⟩:=hI
 by_cases hi:i<b
 ·have hw:W64 (i+1)=i+1:=wrap_small (by omega) (by simp only[big]at h3;omega);have hp:pre_insInner a b i i l=true:=by simp only[pre_insInner,andd,dec_iff,ble_iff];omega
  simp only[hi,decide_true,hw,hp]at hx;right;refine⟨a,b,i+1,onL (Go.Sort.insInner ltI a.toNat i.toNat) l, ?_, ?_, ?_,fun R=>(hx R).trans ?_⟩
  ·simp only[pre_insOuter,andd,dec_iff,ble_iff,onL_len (insInner_size _ _)];omega
  ·simp only[mu_insOuter];omega
  ·simp only[res_insOuter];have:onL (Go.Sort.insOuter ltI a.toNat b.toNat i.toNat) l=onL (Go.Sort.insOuter ltI a.toNat b.toNat (i+1).toNat) (onL (Go.Sort.insInner ltI a.toNat i.toNat) l):=by
    unfold onL;rw[Go.Sort.insOuter,if_pos (by omega),show (i+1).toNat=i.toNat+1 by omega]
   rw[this]
  ·rfl
 ·left;intro R;refine(hx R).trans ?_;simp only[hi,decide_false];show K _ _=_;have:onL (Go.Sort.insOuter ltI a.toNat b.toNat i.toNat) l=l:=by unfold onL;rw[Go.Sort.insOuter,if_neg (by omega)]
  simp only[res_insOuter,this]
def g_insOuter:St→Cont→Option Fin:=gP sh_insOuter (fun v=>match v with | ((a,b,i,()),(l,()))=>pre_insOuter a b i l) (fun v K=>match v with | ((a,b,i,()),(l,()))=>res_insOuter a b i l K)
def L_insOuter:LpL:=(1,g_insOuter)::L_insInner
def cx_insOuter:Cx:=(cb_insSort).withLoops (look L_insOuter)
theorem l_insOuter {L:LpL} (n:Nat) (h1:L.drop n=L_insInner) (h2:idsFree (L.take n) (loopOf Tryz.f173 0)=true):LoopsTo g_insOuter (cb_insSort) (loopOf Tryz.f173 0) 1 L :=
 with_drop h1 h2 (gP_ok (fun v=>match v with | ((a,b,i,()),(l,()))=>mu_insOuter a b i l) fun v K hI=>by
  obtain⟨⟨a,b,i,⟨⟩⟩,⟨l,⟨⟩⟩⟩:=v;exact(r_insOuter a b i l K hI).imp id fun⟨a',b',i',l',h⟩=>⟨((a',b',i',()),(l',())),h⟩)
theorem y_slices_insertionSortOrdered_byte (l:List Int) (a:Int) (b:Int):evFn cx_insOuter Tryz.f173 false [.one (.own 0),ofD TI64 a,ofD TI64 b] [.lis 5 TU8 l]=(
need (pre_insOuter a b (W64 (a+1)) l) <| some ((.tup []),[(0,(.some (.lis 5 TU8 (onL (Go.Sort.insOuter ltI a.toNat b.toNat (W64 (a+1)).toNat) l))))])):=by kernel_rfl
theorem s_slices_insertionSortOrdered_byte (l:List (Int)) (_hl:Fit (.list TU8) l) (a:Int) (_ha:Fit TI64 a) (b:Int) (_hb:Fit TI64 b) (hpre:(decide (0≤a)&&(decide (a≤1000000)&&(decide (b≤(length l:Int))&&Nat.ble (length l) 1000000)))=true):Sat Tryz.prog 173 [.one (.own 0),ofD TI64 a,ofD TI64 b] [.lis 5 TU8 l] (.tup []) [(0,some (.lis 5 TU8 (onL (fun d=>Go.Sort.insertionSort ltI d a.toNat b.toNat) l)))] :=
 fn_sound (cx:=cx_insOuter) Tryz.func173 rfl ttOk Γ34ok mixed (fun c hc=>LoopsOk.all (l:=[(1,loopOf Tryz.f173 0),(4,loopOf Tryz.f173 1)]) (by cases hc;kernel_rfl) ⟨atLoop rfl (l_insOuter 1 rfl (by kernel_rfl)),atLoop rfl (l_insInner 2 rfl (by kernel_rfl)),trivial⟩) (ro:=false) (by
  simp only[andd,dec_iff,ble_iff]at hpre;obtain⟨h0,h1,h2,h3⟩:=hpre;have hw:W64 (a+1)=a+1:=wrap_small (by omega) (by omega);have hp:pre_insOuter a b (a+1) l=true:=by simp only[pre_insOuter,andd,dec_iff,ble_iff,big];omega
  rw[y_slices_insertionSortOrdered_byte,hw,hp,show (a+1).toNat=a.toNat+1 by omega];rfl)
def c_slices_insertionSortOrdered_byte:Con:=conL 5 TU8 [TI64,TI64] fun(l:List (Int)) (a:Int) (b:Int)=>(some (decide (0≤a)&&(decide (a≤1000000)&&(decide (b≤(length l:Int))&&Nat.ble (length l) 1000000))), .tup [],onL (fun d=>Go.Sort.insertionSort ltI d a.toNat b.toNat) l)
theorem k_slices_insertionSortOrdered_byte:ConOk Tryz.prog 173 c_slices_insertionSortOrdered_byte:=conL_ok rfl Tryz.call173 fun l hl a ha b hb hqq=>s_slices_insertionSortOrdered_byte l hl a ha b hb (pre_of hqq)
def Γ35:GL:=(173,c_slices_insertionSortOrdered_byte)::Γ34
theorem Γ35ok:GO Γ35 := .cons k_slices_insertionSortOrdered_byte Γ34ok
def siftB (hi first root:Nat) (l:List Int):Bool :=
 if _h:2*root+1≥hi then true else
  bif decide (2*root+1+1<hi)&&ltI (l.getD (first+(2*root+1)) 0) (l.getD (first+(2*root+1)+1) 0)then
   bif !ltI (l.getD (first+root) 0) (l.getD (first+(2*root+2)) 0)then false else siftB hi first (2*root+2) (swL l (first+root) (first+(2*root+2)))
  else bif !ltI (l.getD (first+root) 0) (l.getD (first+(2*root+1)) 0)then false else siftB hi first (2*root+1) (swL l (first+root) (first+(2*root+1)))
termination_by hi-root
theorem sift_eq (hi first root:Nat) (l:List Int):onL (Go.Sort.siftDown ltI hi first root) l=if 2*root+1≥hi then l else
  bif decide (2*root+1+1<hi)&&ltI (l.getD (first+(2*root+1)) 0) (l.getD (first+(2*root+1)+1) 0)then
   bif !ltI (l.getD (first+root) 0) (l.getD (first+(2*root+2)) 0)then l else onL (Go.Sort.siftDown ltI hi first (2*root+2)) (swL l (first+root) (first+(2*root+2)))
  else bif !ltI (l.getD (first+root) 0) (l.getD (first+(2*root+1)) 0)then l else onL (Go.Sort.siftDown ltI hi first (2*root+1)) (swL l (first+root) (first+(2*root+1))):=by
 unfold onL;rw[Go.Sort.siftDown,at_arr,at_arr,at_arr,at_arr,sw_arr,sw_arr]
 by_cases h:2*root+1≥hi
 ·rw[dif_pos h,if_pos h]
 ·rw[dif_neg h,if_neg h]
  by_cases h2:2*root+1+1<hi
  ·rw[dif_pos (show 2*root+2<hi by omega)];simp only[h2,decide_true,Bool.true_and]
   cases ltI (l.getD (first+(2*root+1)) 0) (l.getD (first+(2*root+1)+1) 0)<;>cases ltI (l.getD (first+root) 0) (l.getD (first+(2*root+2)) 0)<;>cases ltI (l.getD (first+root) 0) (l.getD (first+(2*root+1)) 0)<;>rfl
  ·simp only[h2,decide_false,Bool.false_and,cond_false]
   cases ltI (l.getD (first+root) 0) (l.getD (first+(2*root+1)) 0)<;>rfl
def cb_sift:Cx:=cxOf Γ35 Tryz.f189.ntmps [(1,[0,2,3,8])] [(0,[]),(1,[0,2,3,8]),(1000000,[])] [] []
theorem x_sift (l:List Int) (hi first root:Int) (R:St→Option Fin) (K:Cont):evC (cb_sift.withLoops (look [])) (loopOf Tryz.f189 0) ⟨[(0, .d (.one (.own 0))),(2,vI hi),(3,vI first),(8,vI root)],[(0,some (.lis 5 TU8 l))]⟩ (onward (headAt (cb_sift.withLoops (look [])) 1) R K)=(
branch (decide (hi≤W64 (W64 (2*root)+1))) ( K (.exit 0) (.mk [] [(0,some (.lis 5 TU8 l))])) (
 need (bif decide (decide (W64 (W64 (W64 (2*root)+1)+1)<hi)=true)then inb (W64 (first+W64 (W64 (2*root)+1))) l.length else true) <|
 need (bif decide (decide (W64 (W64 (W64 (2*root)+1)+1)<hi)=true)then inb (W64 (W64 (first+W64 (W64 (2*root)+1))+1)) l.length else true) <|
 branch (bif decide (W64 (W64 (W64 (2*root)+1)+1)<hi)then ltI (l.getD (W64 (first+W64 (W64 (2*root)+1))).toNat 0) (l.getD (W64 (W64 (first+W64 (W64 (2*root)+1))+1)).toNat 0)else false) (
 need (inb (W64 (first+root)) l.length) <|
 need (inb (W64 (first+W64 (W64 (W64 (2*root)+1)+1))) l.length) <|
 branch (!ltI (l.getD (W64 (first+root)).toNat 0) (l.getD (W64 (first+W64 (W64 (W64 (2*root)+1)+1))).toNat 0)) ( K (.ret) (.mk [] [(0,some (.lis 5 TU8 l))])) (
  need (inb (W64 (first+W64 (W64 (W64 (2*root)+1)+1))) l.length) <|
  need (inb (W64 (first+root)) l.length) <|
  need (inb (W64 (first+root)) l.length) <|
  need (inb (W64 (first+W64 (W64 (W64 (2*root)+1)+1))) (l.set (W64 (first+root)).toNat (l.getD (W64 (first+W64 (W64 (W64 (2*root)+1)+1))).toNat 0)).length) <| R (.mk [(0,(.d (.one (.own 0)))),(2,vI hi),(3,vI first),(8,(vI (W64 (W64 (W64 (2*root)+1)+1))))] [(0,(.some (.lis 5 TU8 ((l.set (W64 (first+root)).toNat (l.getD (W64 (first+W64 (W64 (W64 (2*root)+1)+1))).toNat 0)).set (W64 (first+W64 (W64 (W64 (2*root)+1)+1))).toNat (l.getD (W64 (first+root)).toNat 0)))))]))) (
 need (inb (W64 (first+root)) l.length) <|
 need (inb (W64 (first+W64 (W64 (2*root)+1))) l.length) <|
 branch (!ltI (l.getD (W64 (first+root)).toNat 0) (l.getD (W64 (first+W64 (W64 (2*root)+1))).toNat 0)) ( K (.ret) (.mk [] [(0,some (.lis 5 TU8 l))])) (
  need (inb (W64 (first+W64 (W64 (2*root)+1))) l.length) <|
  need (inb (W64 (first+root)) l.length) <|
  need (inb (W64 (first+root)) l.length) <|
  need (inb (W64 (first+W64 (W64 (2*root)+1))) (l.set (W64 (first+root)).toNat (l.getD (W64 (first+W64 (W64 (2*root)+1))).toNat 0)).length) <| R (.mk [(0,(.d (.one (.own 0)))),(2,vI hi),(3,vI first),(8,(vI (W64 (W64 (2*root)+1))))] [(0,(.some (.lis 5 TU8 ((l.set (W64 (first+root)).toNat (l.getD (W64 (first+W64 (W64 (2*root)+1))).toNat 0)).set (W64 (first+W64 (W64 (2*root)+1))).toNat (l.getD (W64 (first+root)).toNat 0)))))]))))):=by kernel_rfl
def cx0_sift:Cx:=(cb_sift).withLoops (look [])
def sh_sift:Sh:=([(0, .own 0),(2, .d TI64),(3, .d TI64),(8, .d TI64)],[(0, .lis 5 TU8)])
abbrev st_sift (hi first root:Int) (l:List (Int)):St:=⟨[(0, .d (.one (.own 0))),(2,vI hi),(3,vI first),(8,vI root)],[(0,some (.lis 5 TU8 l))]⟩
def pre_sift (hi first root:Int) (l:List (Int)):Bool:=decide (0≤root)&&(decide (0≤first)&&(decide (0≤hi)&&(decide (root≤1000000)&&(decide (first+hi≤(length l:Int))&&Nat.ble (length l) 1000000))))
def res_sift (hi first root:Int) (l:List (Int)) (K:Cont):Option Fin:=branch (siftB hi.toNat first.toNat root.toNat l) (K (.exit 0) ⟨[],[(0,some (.lis 5 TU8 (onL (Go.Sort.siftDown ltI hi.toNat first.toNat root.toNat) l)))]⟩) (K .ret ⟨[],[(0,some (.lis 5 TU8 (onL (Go.Sort.siftDown ltI hi.toNat first.toNat root.toNat) l)))]⟩)
def mu_sift (hi _first root:Int) (_l:List (Int)):Nat:=(hi-root).toNat
theorem r_sift (hi first root:Int) (l:List (Int)) (K:Cont) (hI:pre_sift hi first root l=true):(∀R:St→Option Fin,evC cx0_sift (loopOf Tryz.f189 0) (st_sift hi first root l) (onward (headAt cx0_sift 1) R K)=res_sift hi first root l K) ∨
  (∃(hi' first' root':Int) (l':List (Int)),pre_sift hi' first' root' l'=true∧mu_sift hi' first' root' l'<mu_sift hi first root l∧res_sift hi' first' root' l' K=res_sift hi first root l K∧∀R:St→Option Fin,evC cx0_sift (loopOf Tryz.f189 0) (st_sift hi first root l) (onward (headAt cx0_sift 1) R K)=R (st_sift hi' first' root' l')):=by
 have hx:=fun R=>x_sift l hi first root R K;simp only[pre_sift,andd,dec_iff,ble_iff]at hI;obtain⟨h0,h1,h2,h3,h4,h5⟩:=hI;obtain⟨r,rfl⟩:=Int.eq_ofNat_of_zero_le h0;obtain⟨f,rfl⟩:=Int.eq_ofNat_of_zero_le h1;obtain⟨b,rfl⟩:=Int.eq_ofNat_of_zero_le h2;have w1:W64 (2*(r:Int))=2*(r:Int):=wrap_small (by omega) (by omega);have w2:W64 (2*(r:Int)+1)=2*(r:Int)+1:=wrap_small (by omega) (by omega);have w3:W64 (2*(r:Int)+1+1)=2*(r:Int)+1+1:=wrap_small (by omega) (by omega);have w4:W64 ((f:Int)+r)=(f:Int)+r:=wrap_small (by omega) (by omega);have w5:W64 ((f:Int)+(2*(r:Int)+1))=(f:Int)+(2*(r:Int)+1):=wrap_small (by omega) (by omega);have w6:W64 ((f:Int)+(2*(r:Int)+1)+1)=(f:Int)+(2*(r:Int)+1)+1:=wrap_small (by omega) (by omega);have w7:W64 ((f:Int)+(2*(r:Int)+1+1))=(f:Int)+(2*(r:Int)+1+1):=wrap_small (by omega) (by omega);have t4:((f:Int)+r).toNat=f+r:=by omega
 have t5:((f:Int)+(2*(r:Int)+1)).toNat=f+(2*r+1):=by omega
 have t6:((f:Int)+(2*(r:Int)+1)+1).toNat=f+(2*r+1)+1:=by omega
 have t7:((f:Int)+(2*(r:Int)+1+1)).toNat=f+(2*r+2):=by omega
 simp only[w1,w2,w3,w4,w5,w6,w7,t4,t5,t6,t7,length_set]at hx;have hs:=sift_eq b f r l;have hb:=siftB.eq_1 b f r l;simp only[res_sift,mu_sift,Int.toNat_natCast]
 by_cases g1:(b:Int)≤2*(r:Int)+1
 ·left;intro R;refine(hx R).trans ?_;rw[zT g1,hs,hb,if_pos (by omega),dif_pos (by omega)];rfl
 ·rw[if_neg (by omega)]at hs;rw[dif_neg (by omega)]at hb;have i4:inb ((f:Int)+r) l.length=true:=inb_ok (by omega) (by omega);have i5:inb ((f:Int)+(2*(r:Int)+1)) l.length=true:=inb_ok (by omega) (by omega);have c8:decide (2*(r:Int)+1+1<(b:Int))=decide (2*r+1+1<b):=by rw[decide_eq_decide];omega
  simp only[g1,decide_false,branch_false,i4,i5,c8,Bool.cond_self,need_t]at hx
  by_cases g2:2*r+1+1<b
  ·have i6:inb ((f:Int)+(2*(r:Int)+1)+1) l.length=true:=inb_ok (by omega) (by omega);have i7:inb ((f:Int)+(2*(r:Int)+1+1)) l.length=true:=inb_ok (by omega) (by omega);simp only[g2,decide_true,i6,i7,Bool.cond_self,need_t,cond_true,Bool.true_and]at hx hs hb
   cases hc:ltI (l.getD (f+(2*r+1)) 0) (l.getD (f+(2*r+1)+1) 0)
   ·simp only[hc,branch_false,cond_false]at hx hs hb
    cases hd:ltI (l.getD (f+r) 0) (l.getD (f+(2*r+1)) 0)
    ·left;intro R;refine(hx R).trans ?_;rw[hs,hb,hd];rfl
    ·right;refine⟨(b:Int),(f:Int),2*(r:Int)+1,swL l (f+r) (f+(2*r+1)), ?_, ?_, ?_,fun R=>(hx R).trans ?_⟩
     ·simp only[pre_sift,andd,dec_iff,ble_iff,swL_len];omega
     ·omega
     ·rw[hs,hb,hd,show (2*(r:Int)+1).toNat=2*r+1 by omega];rfl
     ·rw[hd];rfl
   ·simp only[hc,branch_true,cond_true]at hx hs hb
    cases hd:ltI (l.getD (f+r) 0) (l.getD (f+(2*r+2)) 0)
    ·left;intro R;refine(hx R).trans ?_;rw[hs,hb,hd];rfl
    ·right;refine⟨(b:Int),(f:Int),2*(r:Int)+1+1,swL l (f+r) (f+(2*r+2)), ?_, ?_, ?_,fun R=>(hx R).trans ?_⟩
     ·simp only[pre_sift,andd,dec_iff,ble_iff,swL_len];omega
     ·omega
     ·rw[hs,hb,hd,show (2*(r:Int)+1+1).toNat=2*r+2 by omega];rfl
     ·rw[hd];rfl
  ·simp only[g2,decide_false,cond_false,Bool.false_and,branch_false]at hx hs hb
   cases hd:ltI (l.getD (f+r) 0) (l.getD (f+(2*r+1)) 0)
   ·left;intro R;refine(hx R).trans ?_;rw[hs,hb,hd];rfl
   ·right;refine⟨(b:Int),(f:Int),2*(r:Int)+1,swL l (f+r) (f+(2*r+1)), ?_, ?_, ?_,fun R=>(hx R).trans ?_⟩
    ·simp only[pre_sift,andd,dec_iff,ble_iff,swL_len];omega
    ·omega
    ·rw[hs,hb,hd,show (2*(r:Int)+1).toNat=2*r+1 by omega];rfl
    ·rw[hd];rfl
def g_sift:St→Cont→Option Fin:=gP sh_sift (fun v=>match v with | ((hi,first,root,()),(l,()))=>pre_sift hi first root l) (fun v K=>match v with | ((hi,first,root,()),(l,()))=>res_sift hi first root l K)
def L_sift:LpL:=(1,g_sift)::[]
def cx_sift:Cx:=(cb_sift).withLoops (look L_sift)
theorem l_sift {L:LpL} (n:Nat) (h1:L.drop n=[]) (h2:idsFree (L.take n) (loopOf Tryz.f189 0)=true):LoopsTo g_sift (cb_sift) (loopOf Tryz.f189 0) 1 L :=
 with_drop h1 h2 (gP_ok (fun v=>match v with | ((hi,first,root,()),(l,()))=>mu_sift hi first root l) fun v K hI=>by
  obtain⟨⟨hi,first,root,⟨⟩⟩,⟨l,⟨⟩⟩⟩:=v;exact(r_sift hi first root l K hI).imp id fun⟨hi',first',root',l',h⟩=>⟨((hi',first',root',()),(l',())),h⟩)
theorem y_slices_siftDownOrdered_byte (l:List Int) (lo:Int) (hi:Int) (first:Int):evFn cx_sift Tryz.f189 false [.one (.own 0),ofD TI64 lo,ofD TI64 hi,ofD TI64 first] [.lis 5 TU8 l]=(
need (pre_sift hi first lo l) <|
branch (siftB hi.toNat first.toNat lo.toNat l) ( some ((.tup []),[(0,(.some (.lis 5 TU8 (onL (Go.Sort.siftDown ltI hi.toNat first.toNat lo.toNat) l))))])) ( some ((.tup []),[(0,(.some (.lis 5 TU8 (onL (Go.Sort.siftDown ltI hi.toNat first.toNat lo.toNat) l))))]))):=by kernel_rfl
theorem s_slices_siftDownOrdered_byte (l:List (Int)) (_hl:Fit (.list TU8) l) (lo:Int) (_hlo:Fit TI64 lo) (hi:Int) (_hhi:Fit TI64 hi) (first:Int) (_hfirst:Fit TI64 first) (hpre:(pre_sift hi first lo l)=true):Sat Tryz.prog 189 [.one (.own 0),ofD TI64 lo,ofD TI64 hi,ofD TI64 first] [.lis 5 TU8 l] (.tup []) [(0,some (.lis 5 TU8 (onL (Go.Sort.siftDown ltI hi.toNat first.toNat lo.toNat) l)))] :=
 fn_sound (cx:=cx_sift) Tryz.func189 rfl ttOk Γ35ok mixed (fun c hc=>LoopsOk.all (l:=[(1,loopOf Tryz.f189 0)]) (by cases hc;kernel_rfl) ⟨atLoop rfl (l_sift 1 rfl (by kernel_rfl)),trivial⟩) (ro:=false) (by
  rw[y_slices_siftDownOrdered_byte,hpre]
  cases siftB hi.toNat first.toNat lo.toNat l<;>rfl)
def c_slices_siftDownOrdered_byte:Con:=conL 5 TU8 [TI64,TI64,TI64] fun(l:List (Int)) (lo:Int) (hi:Int) (first:Int)=>(some (pre_sift hi first lo l), .tup [],onL (Go.Sort.siftDown ltI hi.toNat first.toNat lo.toNat) l)
theorem k_slices_siftDownOrdered_byte:ConOk Tryz.prog 189 c_slices_siftDownOrdered_byte:=conL_ok rfl Tryz.call189 fun l hl lo hlo hi hhi first hfirst hqq=>s_slices_siftDownOrdered_byte l hl lo hlo hi hhi first hfirst (pre_of hqq)
def Γ36:GL:=(189,c_slices_siftDownOrdered_byte)::Γ35
theorem Γ36ok:GO Γ36 := .cons k_slices_siftDownOrdered_byte Γ35ok
set_option maxHeartbeats 1000000
theorem sift_size (hi first:Nat):∀(n root:Nat) (d:Array Int),hi-root≤n→(Go.Sort.siftDown ltI hi first root d).size=d.size
 |0,root,d,h=>by rw[Go.Sort.siftDown,dif_pos (by omega)]
 |n+1,root,d,h=>by
  rw[Go.Sort.siftDown]
  split
  ·rfl
  ·split
   ·split
    ·rfl
    ·split
     ·rw[sift_size hi first n _ _ (by omega),Go.Sort.swp_size]
     ·rfl
   ·split
    ·rfl
    ·rw[sift_size hi first n _ _ (by omega),Go.Sort.swp_size]
theorem siftL_len (hi first root:Nat) (l:List Int):(onL (Go.Sort.siftDown ltI hi first root) l).length=l.length:=onL_len (fun d=>sift_size hi first _ root d (Nat.le_refl _)) l
theorem swo:Go.Sort.SWO ltI:=Go.Sort.swo_ltInt
theorem extract_get {d:Array Int} {a b k:Nat} (hb:b≤d.size) (hk:k<b-a):(d.extract a b)[k]! = d[a+k]! := by
 rw[getElem!_pos (d.extract a b) k (by rw[Array.size_extract];omega),getElem!_pos d (a+k) (by omega),Array.getElem_extract]
theorem sorted_one {d d1 d2:Array Int} {a b:Nat} (_ha:a≤b) (hb:b≤d.size) (p1:Go.Sort.PermIn a b d d1) (s1:Go.Sort.SortedIn ltI a b d1) (p2:Go.Sort.PermIn a b d d2) (s2:Go.Sort.SortedIn ltI a b d2):d1=d2:=by
 have key:∀d':Array Int,Go.Sort.PermIn a b d d'→Go.Sort.SortedIn ltI a b d'→(d'.extract a b).toList=(d.extract a b).toList.mergeSort (fun x y => !ltI y x):=by
  intro d' p s;have hs:d'.size=d.size:=p.1;have e1:(d'.extract a b).size=b-a:=by rw[Array.size_extract];omega
  have e2:(d.extract a b).size=b-a:=by rw[Array.size_extract];omega
  refine Go.Sort.sorted_unique_holds swo (fun x y h1 h2=>by have h1:=of_decide_eq_false h1;have h2:=of_decide_eq_false h2;omega) _ _ ⟨by rw[e1,e2],fun i hi => ?_, ?_⟩ fun i j _ hij hj => ?_
  ·rw[getElem!_neg _ _ (by omega),getElem!_neg _ _ (by omega)]
  ·rw[show (d.extract a b).size=(d'.extract a b).size by rw[e1,e2],Array.extract_size,show (d'.extract a b).size=(d.extract a b).size by rw[e1,e2],Array.extract_size];exact p.2.2
  ·rw[e2]at hj;rw[extract_get (by omega) hj,extract_get (by omega) (by omega)];exact s (a+i) (a+j) (by omega) (by omega) (by omega)
 have k:(d1.extract a b).toList=(d2.extract a b).toList:=(key d1 p1 s1).trans (key d2 p2 s2).symm;have k:d1.extract a b=d2.extract a b:=Array.toList_inj.1 k;refine Array.ext (by rw[p1.1,p2.1]) fun i h1 h2 => ?_;have:d1[i]! = d2[i]! := by
  by_cases h:a≤i∧i<b
  ·have z1:=extract_get (d:=d1) (a:=a) (b:=b) (k:=i-a) (by rw[p1.1];exact hb) (by omega);have z2:=extract_get (d:=d2) (a:=a) (b:=b) (k:=i-a) (by rw[p2.1];exact hb) (by omega);rw[show a+(i-a)=i by omega]at z1 z2;rw[← z1,← z2,k]
  ·rw[p1.2.1 i (by omega),p2.2.1 i (by omega)]
 rwa [getElem!_pos d1 i h1,getElem!_pos d2 i h2]at this
theorem heapBuild_size (hi first:Nat):∀(k:Nat) (d:Array Int),(Go.Sort.heapBuild ltI hi first k d).size=d.size
 |0,_=>rfl
 |k+1,d=>by rw[Go.Sort.heapBuild,heapBuild_size hi first k,sift_size hi first _ k d (Nat.le_refl _)]
abbrev srt (a b:Nat) (l:List Int):List Int:=onL (fun d=>Go.Sort.insertionSort ltI d a b) l
theorem srt_of {l:List Int} {d':Array Int} {a b:Nat} (ha:a≤b) (hb:b≤l.length) (p:Go.Sort.PermIn a b l.toArray d') (s:Go.Sort.SortedIn ltI a b d'):d'.toList=srt a b l:=by
 obtain⟨q1,q2⟩:=Go.Sort.insertionSort_holds swo l.toArray a b ha hb;show d'.toList=(Go.Sort.insertionSort ltI l.toArray a b).toList;rw[sorted_one ha hb p s q1 q2]
def cb_heap:Cx:=cxOf Γ36 Tryz.f174.ntmps [(8,[0,6,7,10]),(4,[0,6,7,8,9])] [(2,[]),(3,[0,6,7,10]),(0,[0,6,7,8]),(1,[0,6,7,8,9])] [] []
theorem x_heapPop (l:List Int) (first lo i:Int) (R:St→Option Fin) (K:Cont):evC (cb_heap.withLoops (look [])) (loopOf Tryz.f174 1) ⟨[(0, .d (.one (.own 0))),(6,vI first),(7,vI lo),(10,vI i)],[(0,some (.lis 5 TU8 l))]⟩ (onward (headAt (cb_heap.withLoops (look [])) 8) R K)=(
branch (decide (0≤i)) (
 need (inb (W64 (first+i)) l.length) <|
 need (inb first l.length) <|
 need (inb first l.length) <|
 need (inb (W64 (first+i)) (l.set first.toNat (l.getD (W64 (first+i)).toNat 0)).length) <|
 need (pre_sift i first lo ((l.set first.toNat (l.getD (W64 (first+i)).toNat 0)).set (W64 (first+i)).toNat (l.getD first.toNat 0))) <| R (.mk [(0,(.d (.one (.own 0)))),(6,vI first),(7,vI lo),(10,vI (W64 (i-1)))] [(0,(.some (.lis 5 TU8 (onL (Go.Sort.siftDown ltI i.toNat first.toNat lo.toNat) ((l.set first.toNat (l.getD (W64 (first+i)).toNat 0)).set (W64 (first+i)).toNat (l.getD first.toNat 0))))))])) ( K (.exit 2) (.mk [] [(0,some (.lis 5 TU8 l))]))):=by kernel_rfl
def cx0_heapPop:Cx:=(cb_heap).withLoops (look [])
def sh_heapPop:Sh:=([(0, .own 0),(6, .d TI64),(7, .d TI64),(10, .d TI64)],[(0, .lis 5 TU8)])
abbrev st_heapPop (first lo i:Int) (l:List (Int)):St:=⟨[(0, .d (.one (.own 0))),(6,vI first),(7,vI lo),(10,vI i)],[(0,some (.lis 5 TU8 l))]⟩
def pre_heapPop (first lo i:Int) (l:List (Int)):Bool:=decide (0≤first)&&(decide (lo=0)&&(decide (-1≤i)&&(decide (first+i<(length l:Int))&&Nat.ble (length l) 1000000)))
def res_heapPop (first _lo i:Int) (l:List (Int)) (K:Cont):Option Fin:=K (.exit 2) ⟨[],[(0,some (.lis 5 TU8 (onL (Go.Sort.heapPop ltI first.toNat (i+1).toNat) l)))]⟩
def mu_heapPop (_first _lo i:Int) (_l:List (Int)):Nat:=(i+1).toNat
theorem r_heapPop (first lo i:Int) (l:List (Int)) (K:Cont) (hI:pre_heapPop first lo i l=true):(∀R:St→Option Fin,evC cx0_heapPop (loopOf Tryz.f174 1) (st_heapPop first lo i l) (onward (headAt cx0_heapPop 8) R K)=res_heapPop first lo i l K) ∨
  (∃(first' lo' i':Int) (l':List (Int)),pre_heapPop first' lo' i' l'=true∧mu_heapPop first' lo' i' l'<mu_heapPop first lo i l∧res_heapPop first' lo' i' l' K=res_heapPop first lo i l K∧∀R:St→Option Fin,evC cx0_heapPop (loopOf Tryz.f174 1) (st_heapPop first lo i l) (onward (headAt cx0_heapPop 8) R K)=R (st_heapPop first' lo' i' l')):=by
 have hx:=fun R=>x_heapPop l first lo i R K;simp only[pre_heapPop,andd,dec_iff,ble_iff]at hI;obtain⟨h0,rfl,h2,h3,h4⟩:=hI
 by_cases hi:0≤i
 ·obtain ⟨k,rfl⟩:=Int.eq_ofNat_of_zero_le hi;obtain⟨f,rfl⟩:=Int.eq_ofNat_of_zero_le h0;have w1:W64 ((f:Int)+k)=(f:Int)+k:=wrap_small (by omega) (by omega);have w2:W64 ((k:Int)-1)=(k:Int)-1:=wrap_small (by omega) (by omega);have t1:((f:Int)+k).toNat=f+k:=by omega
  have b1:inb ((f:Int)+k) l.length=true:=inb_ok (by omega) (by omega);have b2:inb (f:Int) l.length=true:=inb_ok (by omega) (by omega);have hp:pre_sift k f 0 (swL l f (f+k))=true:=by simp only[pre_sift,andd,dec_iff,ble_iff,swL_len];omega
  simp only[hi,decide_true,w1,w2,t1,b1,b2,Int.toNat_natCast,length_set,hp]at hx;right;refine⟨(f:Int),0,(k:Int)-1,onL (Go.Sort.siftDown ltI k f 0) (swL l f (f+k)), ?_, ?_, ?_,fun R=>(hx R).trans ?_⟩
  ·simp only[pre_heapPop,andd,dec_iff,ble_iff,siftL_len,swL_len,true_and];omega
  ·simp only[mu_heapPop];omega
  ·have e:onL (Go.Sort.heapPop ltI f (k+1)) l=onL (Go.Sort.heapPop ltI f k) (onL (Go.Sort.siftDown ltI k f 0) (swL l f (f+k))):=by
    unfold onL;rw[Go.Sort.heapPop,sw_arr]
   simp only[res_heapPop,Int.toNat_natCast,show ((k:Int)-1+1).toNat=k by omega,show ((k:Int)+1).toNat=k+1 by omega,e]
  ·rfl
 ·left;intro R;refine(hx R).trans ?_;have e:i = -1:=by omega
  subst e;simp only[hi,decide_false];rfl
def g_heapPop:St→Cont→Option Fin:=gP sh_heapPop (fun v=>match v with | ((first,lo,i,()),(l,()))=>pre_heapPop first lo i l) (fun v K=>match v with | ((first,lo,i,()),(l,()))=>res_heapPop first lo i l K)
def L_heapPop:LpL:=(8,g_heapPop)::[]
def cx_heapPop:Cx:=(cb_heap).withLoops (look L_heapPop)
theorem l_heapPop {L:LpL} (n:Nat) (h1:L.drop n=[]) (h2:idsFree (L.take n) (loopOf Tryz.f174 1)=true):LoopsTo g_heapPop (cb_heap) (loopOf Tryz.f174 1) 8 L :=
 with_drop h1 h2 (gP_ok (fun v=>match v with | ((first,lo,i,()),(l,()))=>mu_heapPop first lo i l) fun v K hI=>by
  obtain⟨⟨first,lo,i,⟨⟩⟩,⟨l,⟨⟩⟩⟩:=v;exact(r_heapPop first lo i l K hI).imp id fun⟨first',lo',i',l',h⟩=>⟨((first',lo',i',()),(l',())),h⟩)
theorem x_heapBuild (l:List Int) (first lo hi i:Int) (R:St→Option Fin) (K:Cont):evC cx_heapPop (loopOf Tryz.f174 0) ⟨[(0, .d (.one (.own 0))),(6,vI first),(7,vI lo),(8,vI hi),(9,vI i)],[(0,some (.lis 5 TU8 l))]⟩ (onward (headAt cx_heapPop 4) R K)=(
branch (decide (0≤i)) (
 need (pre_sift hi first i l) <| R (.mk [(0,(.d (.one (.own 0)))),(6,vI first),(7,vI lo),(8,vI hi),(9,vI (W64 (i-1)))] [(0,(.some (.lis 5 TU8 (onL (Go.Sort.siftDown ltI hi.toNat first.toNat i.toNat) l))))])) ( K (.exit 0) (.mk [(0,(.d (.one (.own 0)))),(6,vI first),(7,vI lo),(8,vI hi)] [(0,some (.lis 5 TU8 l))]))):=by kernel_rfl
def cx0_heapBuild:Cx:=(cb_heap).withLoops (look L_heapPop)
def sh_heapBuild:Sh:=([(0, .own 0),(6, .d TI64),(7, .d TI64),(8, .d TI64),(9, .d TI64)],[(0, .lis 5 TU8)])
abbrev st_heapBuild (first lo hi i:Int) (l:List (Int)):St:=⟨[(0, .d (.one (.own 0))),(6,vI first),(7,vI lo),(8,vI hi),(9,vI i)],[(0,some (.lis 5 TU8 l))]⟩
def pre_heapBuild (first _lo hi i:Int) (l:List (Int)):Bool:=decide (0≤first)&&(decide (0≤hi)&&(decide (-1≤i)&&(decide (i≤1000000)&&(decide (first+hi≤(length l:Int))&&Nat.ble (length l) 1000000))))
def res_heapBuild (first lo hi i:Int) (l:List (Int)) (K:Cont):Option Fin:=K (.exit 0) ⟨[(0, .d (.one (.own 0))),(6,vI first),(7,vI lo),(8,vI hi)],[(0,some (.lis 5 TU8 (onL (Go.Sort.heapBuild ltI hi.toNat first.toNat (i+1).toNat) l)))]⟩
def mu_heapBuild (_first _lo _hi i:Int) (_l:List (Int)):Nat:=(i+1).toNat
theorem r_heapBuild (first lo hi i:Int) (l:List (Int)) (K:Cont) (hI:pre_heapBuild first lo hi i l=true):(∀R:St→Option Fin,evC cx0_heapBuild (loopOf Tryz.f174 0) (st_heapBuild first lo hi i l) (onward (headAt cx0_heapBuild 4) R K)=res_heapBuild first lo hi i l K) ∨
  (∃(first' lo' hi' i':Int) (l':List (Int)),pre_heapBuild first' lo' hi' i' l'=true∧mu_heapBuild first' lo' hi' i' l'<mu_heapBuild first lo hi i l∧res_heapBuild first' lo' hi' i' l' K=res_heapBuild first lo hi i l K∧∀R:St→Option Fin,evC cx0_heapBuild (loopOf Tryz.f174 0) (st_heapBuild first lo hi i l) (onward (headAt cx0_heapBuild 4) R K)=R (st_heapBuild first' lo' hi' i' l')):=by
 have hx:=fun R=>x_heapBuild l first lo hi i R K;simp only[pre_heapBuild,andd,dec_iff,ble_iff]at hI;obtain⟨h0,h1,h2,h3,h4,h5⟩:=hI
 by_cases hi':0≤i
 ·obtain ⟨k,rfl⟩:=Int.eq_ofNat_of_zero_le hi';obtain⟨f,rfl⟩:=Int.eq_ofNat_of_zero_le h0;obtain⟨b,rfl⟩:=Int.eq_ofNat_of_zero_le h1;have w2:W64 ((k:Int)-1)=(k:Int)-1:=wrap_small (by omega) (by omega);have hp:pre_sift b f k l=true:=by simp only[pre_sift,andd,dec_iff,ble_iff];omega
  simp only[hi',decide_true,w2,Int.toNat_natCast,hp]at hx;right;refine⟨(f:Int),lo,(b:Int),(k:Int)-1,onL (Go.Sort.siftDown ltI b f k) l, ?_, ?_, ?_,fun R=>(hx R).trans ?_⟩
  ·simp only[pre_heapBuild,andd,dec_iff,ble_iff,siftL_len];omega
  ·simp only[mu_heapBuild];omega
  ·have e:onL (Go.Sort.heapBuild ltI b f (k+1)) l=onL (Go.Sort.heapBuild ltI b f k) (onL (Go.Sort.siftDown ltI b f k) l):=by
    unfold onL;rw[Go.Sort.heapBuild]
   simp only[res_heapBuild,Int.toNat_natCast,show ((k:Int)-1+1).toNat=k by omega,show ((k:Int)+1).toNat=k+1 by omega,e]
  ·rfl
 ·left;intro R;refine(hx R).trans ?_;have e:i = -1:=by omega
  subst e;simp only[hi',decide_false];rfl
def g_heapBuild:St→Cont→Option Fin:=gP sh_heapBuild (fun v=>match v with | ((first,lo,hi,i,()),(l,()))=>pre_heapBuild first lo hi i l) (fun v K=>match v with | ((first,lo,hi,i,()),(l,()))=>res_heapBuild first lo hi i l K)
def L_heapBuild:LpL:=(4,g_heapBuild)::L_heapPop
def cx_heapBuild:Cx:=(cb_heap).withLoops (look L_heapBuild)
theorem l_heapBuild {L:LpL} (n:Nat) (h1:L.drop n=L_heapPop) (h2:idsFree (L.take n) (loopOf Tryz.f174 0)=true):LoopsTo g_heapBuild (cb_heap) (loopOf Tryz.f174 0) 4 L :=
 with_drop h1 h2 (gP_ok (fun v=>match v with | ((first,lo,hi,i,()),(l,()))=>mu_heapBuild first lo hi i l) fun v K hI=>by
  obtain⟨⟨first,lo,hi,i,⟨⟩⟩,⟨l,⟨⟩⟩⟩:=v;exact(r_heapBuild first lo hi i l K hI).imp id fun⟨first',lo',hi',i',l',h⟩=>⟨((first',lo',hi',i',()),(l',())),h⟩)
theorem y_slices_heapSortOrdered_byte (l:List Int) (a:Int) (b:Int):evFn cx_heapBuild Tryz.f174 false [.one (.own 0),ofD TI64 a,ofD TI64 b] [.lis 5 TU8 l]=(
need (!decide (2=0)) <|
need (pre_heapBuild a 0 (W64 (b-a)) (W64 ((W64 (W64 (b-a)-1)).tdiv 2)) l) <|
need (pre_heapPop a 0 (W64 (W64 (b-a)-1)) (onL (Go.Sort.heapBuild ltI (W64 (b-a)).toNat a.toNat (W64 ((W64 (W64 (b-a)-1)).tdiv 2)+1).toNat) l)) <| some ((.tup []),[(0,(.some (.lis 5 TU8 (onL (Go.Sort.heapPop ltI a.toNat (W64 (W64 (b-a)-1)+1).toNat) (onL (Go.Sort.heapBuild ltI (W64 (b-a)).toNat a.toNat (W64 ((W64 (W64 (b-a)-1)).tdiv 2)+1).toNat) l)))))])):=by kernel_rfl
theorem s_slices_heapSortOrdered_byte (l:List (Int)) (_hl:Fit (.list TU8) l) (a:Int) (_ha:Fit TI64 a) (b:Int) (_hb:Fit TI64 b) (hpre:(decide (0≤a)&&(decide (a≤b)&&(decide (b≤(length l:Int))&&Nat.ble (length l) 1000000)))=true):Sat Tryz.prog 174 [.one (.own 0),ofD TI64 a,ofD TI64 b] [.lis 5 TU8 l] (.tup []) [(0,some (.lis 5 TU8 (srt a.toNat b.toNat l)))] :=
 fn_sound (cx:=cx_heapBuild) Tryz.func174 rfl ttOk Γ36ok mixed (fun c hc=>LoopsOk.all (l:=[(4,loopOf Tryz.f174 0),(8,loopOf Tryz.f174 1)]) (by cases hc;kernel_rfl) ⟨atLoop rfl (l_heapBuild 1 rfl (by kernel_rfl)),atLoop rfl (l_heapPop 2 rfl (by kernel_rfl)),trivial⟩) (ro:=false) (by
  simp only[andd,dec_iff,ble_iff]at hpre;obtain⟨h0,h1,h2,h3⟩:=hpre;obtain⟨x,rfl⟩:=Int.eq_ofNat_of_zero_le h0;obtain⟨y,rfl⟩:=Int.eq_ofNat_of_zero_le (Int.le_trans h0 h1);have w1:W64 ((y:Int)-x)=(y:Int)-x:=wrap_small (by omega) (by omega);have w2:W64 ((y:Int)-x-1)=(y:Int)-x-1:=wrap_small (by omega) (by omega);have t:((y:Int)-x-1).tdiv 2+1=((y-x-1) / 2+1:Nat):=by
   by_cases h:y=x
   ·subst h;rw[show ((y:Int)-y-1) = -1 by omega];simp
   ·rw[show ((y:Int)-x-1)=((y-x-1:Nat):Int)by omega,show ((y-x-1:Nat):Int).tdiv 2=(((y-x-1) / 2:Nat):Int)from rfl];rfl
  have w3:W64 (((y:Int)-x-1).tdiv 2)=((y:Int)-x-1).tdiv 2:=wrap_small (by omega) (by omega);have t1:((y:Int)-x).toNat=y-x:=by omega
  have t2:((y:Int)-x-1+1).toNat=y-x:=by omega
  have t3:(((y:Int)-x-1).tdiv 2+1).toNat=(y-x-1) / 2+1:=by omega
  have hp:pre_heapBuild x 0 ((y:Int)-x) (((y:Int)-x-1).tdiv 2) l=true:=by simp only[pre_heapBuild,andd,dec_iff,ble_iff];omega
  have hn:(onL (Go.Sort.heapBuild ltI (y-x) x ((y-x-1) / 2+1)) l).length=l.length:=onL_len (fun d=>heapBuild_size _ _ _ d) l;have hq:pre_heapPop x 0 ((y:Int)-x-1) (onL (Go.Sort.heapBuild ltI (y-x) x ((y-x-1) / 2+1)) l)=true:=by simp only[pre_heapPop,andd,dec_iff,ble_iff,hn,true_and];omega
  rw[y_slices_heapSortOrdered_byte];simp only[w1,w2,w3,t1,t2,t3,Int.toNat_natCast,hp,hq];obtain⟨p,s⟩:=Go.Sort.heapSort_holds swo l.toArray x y (by omega) (by show y≤l.length;omega);rw[← srt_of (by omega) (by omega) p s];rfl)
def c_slices_heapSortOrdered_byte:Con:=conL 5 TU8 [TI64,TI64] fun(l:List (Int)) (a:Int) (b:Int)=>(some (decide (0≤a)&&(decide (a≤b)&&(decide (b≤(length l:Int))&&Nat.ble (length l) 1000000))), .tup [],srt a.toNat b.toNat l)
theorem k_slices_heapSortOrdered_byte:ConOk Tryz.prog 174 c_slices_heapSortOrdered_byte:=conL_ok rfl Tryz.call174 fun l hl a ha b hb hqq=>s_slices_heapSortOrdered_byte l hl a ha b hb (pre_of hqq)
def Γ37:GL:=(174,c_slices_heapSortOrdered_byte)::Γ36
theorem Γ37ok:GO Γ37 := .cons k_slices_heapSortOrdered_byte Γ36ok
set_option maxHeartbeats 1000000
def cb_rev:Cx:=cxOf Γ37 Tryz.f177.ntmps [(2,[0,6,7])] [(0,[]),(1,[0,6,7])] [] []
theorem x_rev (l:List Int) (i j:Int) (R:St→Option Fin) (K:Cont):evC (cb_rev.withLoops (look [])) (loopOf Tryz.f177 0) ⟨[(0, .d (.one (.own 0))),(6,vI i),(7,vI j)],[(0,some (.lis 5 TU8 l))]⟩ (onward (headAt (cb_rev.withLoops (look [])) 2) R K)=(
branch (decide (i<j)) (
 need (inb j l.length) <|
 need (inb i l.length) <|
 need (inb i l.length) <|
 need (inb j (l.set i.toNat (l.getD j.toNat 0)).length) <| R ⟨[(0, .d (.one (.own 0))),(6,vI (W64 (i+1))),(7,vI (W64 (j-1)))],[(0,some (.lis 5 TU8 (swL l i.toNat j.toNat)))]⟩)
 (K (.exit 0) ⟨[],[(0,some (.lis 5 TU8 l))]⟩)):=by kernel_rfl
def cx0_rev:Cx:=(cb_rev).withLoops (look [])
def sh_rev:Sh:=([(0, .own 0),(6, .d TI64),(7, .d TI64)],[(0, .lis 5 TU8)])
abbrev st_rev (i j:Int) (l:List (Int)):St:=⟨[(0, .d (.one (.own 0))),(6,vI i),(7,vI j)],[(0,some (.lis 5 TU8 l))]⟩
def pre_rev (i j:Int) (l:List (Int)):Bool:=decide (0≤i)&&(decide (0≤j)&&(decide (i≤2000000)&&(decide (j<(length l:Int))&&Nat.ble (length l) 1000000)))
def res_rev (i j:Int) (l:List (Int)) (K:Cont):Option Fin:=K (.exit 0) ⟨[],[(0,some (.lis 5 TU8 (onL (Go.Sort.reverseLoop i.toNat j.toNat) l)))]⟩
def mu_rev (i j:Int) (_l:List (Int)):Nat:=(j-i).toNat
theorem r_rev (i j:Int) (l:List (Int)) (K:Cont) (hI:pre_rev i j l=true):(∀R:St→Option Fin,evC cx0_rev (loopOf Tryz.f177 0) (st_rev i j l) (onward (headAt cx0_rev 2) R K)=res_rev i j l K) ∨
  (∃(i' j':Int) (l':List (Int)),pre_rev i' j' l'=true∧mu_rev i' j' l'<mu_rev i j l∧res_rev i' j' l' K=res_rev i j l K∧∀R:St→Option Fin,evC cx0_rev (loopOf Tryz.f177 0) (st_rev i j l) (onward (headAt cx0_rev 2) R K)=R (st_rev i' j' l')):=by
 have hx:=fun R=>x_rev l i j R K;simp only[pre_rev,andd,dec_iff,ble_iff]at hI;obtain⟨h0,h1,h2,h3,h4⟩:=hI;obtain⟨x,rfl⟩:=Int.eq_ofNat_of_zero_le h0;obtain⟨y,rfl⟩:=Int.eq_ofNat_of_zero_le h1;have e:onL (Go.Sort.reverseLoop x y) l=if x<y then onL (Go.Sort.reverseLoop (x+1) (y-1)) (swL l x y)else l:=by
  unfold onL;rw[Go.Sort.reverseLoop,sw_arr]
  split<;>rfl
 by_cases hi:x<y
 ·have w1:W64 ((x:Int)+1)=(x:Int)+1:=wrap_small (by omega) (by omega);have w2:W64 ((y:Int)-1)=(y:Int)-1:=wrap_small (by omega) (by omega);have b1:inb (x:Int) l.length=true:=inb_ok (by omega) (by omega);have b2:inb (y:Int) l.length=true:=inb_ok (by omega) (by omega);simp only[show (x:Int)<y by omega,decide_true,w1,w2,b1,b2,Int.toNat_natCast,length_set]at hx;right;refine⟨(x:Int)+1,(y:Int)-1,swL l x y, ?_, ?_, ?_,fun R=>(hx R).trans ?_⟩
  ·simp only[pre_rev,andd,dec_iff,ble_iff,swL_len];omega
  ·simp only[mu_rev];omega
  ·simp only[res_rev,Int.toNat_natCast,show ((x:Int)+1).toNat=x+1 by omega,show ((y:Int)-1).toNat=y-1 by omega,e,if_pos hi]
  ·rfl
 ·left;intro R;refine(hx R).trans ?_;simp only[show ¬(x:Int)<y by omega,decide_false,res_rev,Int.toNat_natCast,e,if_neg hi];rfl
def g_rev:St→Cont→Option Fin:=gP sh_rev (fun v=>match v with | ((i,j,()),(l,()))=>pre_rev i j l) (fun v K=>match v with | ((i,j,()),(l,()))=>res_rev i j l K)
def L_rev:LpL:=(2,g_rev)::[]
def cx_rev:Cx:=(cb_rev).withLoops (look L_rev)
theorem l_rev {L:LpL} (n:Nat) (h1:L.drop n=[]) (h2:idsFree (L.take n) (loopOf Tryz.f177 0)=true):LoopsTo g_rev (cb_rev) (loopOf Tryz.f177 0) 2 L :=
 with_drop h1 h2 (gP_ok (fun v=>match v with | ((i,j,()),(l,()))=>mu_rev i j l) fun v K hI=>by
  obtain⟨⟨i,j,⟨⟩⟩,⟨l,⟨⟩⟩⟩:=v;exact(r_rev i j l K hI).imp id fun⟨i',j',l',h⟩=>⟨((i',j',()),(l',())),h⟩)
theorem y_slices_reverseRangeOrdered_byte (l:List Int) (a:Int) (b:Int):evFn cx_rev Tryz.f177 false [.one (.own 0),ofD TI64 a,ofD TI64 b] [.lis 5 TU8 l]=(
need (pre_rev a (W64 (b-1)) l) <| some ((.tup []),[(0,(.some (.lis 5 TU8 (onL (Go.Sort.reverseLoop a.toNat (W64 (b-1)).toNat) l))))])):=by kernel_rfl
theorem s_slices_reverseRangeOrdered_byte (l:List (Int)) (_hl:Fit (.list TU8) l) (a:Int) (_ha:Fit TI64 a) (b:Int) (_hb:Fit TI64 b) (hpre:(decide (0≤a)&&(decide (a<b)&&(decide (b≤(length l:Int))&&Nat.ble (length l) 1000000)))=true):Sat Tryz.prog 177 [.one (.own 0),ofD TI64 a,ofD TI64 b] [.lis 5 TU8 l] (.tup []) [(0,some (.lis 5 TU8 (onL (fun d=>Go.Sort.reverseRange d a.toNat b.toNat) l)))] :=
 fn_sound (cx:=cx_rev) Tryz.func177 rfl ttOk Γ37ok mixed (fun c hc=>LoopsOk.all (l:=[(2,loopOf Tryz.f177 0)]) (by cases hc;kernel_rfl) ⟨atLoop rfl (l_rev 1 rfl (by kernel_rfl)),trivial⟩) (ro:=false) (by
  simp only[andd,dec_iff,ble_iff]at hpre;obtain⟨h0,h1,h2,h3⟩:=hpre;have w1:W64 (b-1)=b-1:=wrap_small (by omega) (by omega);have hp:pre_rev a (b-1) l=true:=by simp only[pre_rev,andd,dec_iff,ble_iff];omega
  rw[y_slices_reverseRangeOrdered_byte,w1,hp,show (b-1).toNat=b.toNat-1 by omega];rfl)
def c_slices_reverseRangeOrdered_byte:Con:=conL 5 TU8 [TI64,TI64] fun(l:List (Int)) (a:Int) (b:Int)=>(some (decide (0≤a)&&(decide (a<b)&&(decide (b≤(length l:Int))&&Nat.ble (length l) 1000000))), .tup [],onL (fun d=>Go.Sort.reverseRange d a.toNat b.toNat) l)
theorem k_slices_reverseRangeOrdered_byte:ConOk Tryz.prog 177 c_slices_reverseRangeOrdered_byte:=conL_ok rfl Tryz.call177 fun l hl a ha b hb hqq=>s_slices_reverseRangeOrdered_byte l hl a ha b hb (pre_of hqq)
def Γ38:GL:=(177,c_slices_reverseRangeOrdered_byte)::Γ37
theorem Γ38ok:GO Γ38 := .cons k_slices_reverseRangeOrdered_byte Γ37ok
abbrev oN (n:Int):Obj:=boxD 3 TI64 n
abbrev hLN (l:List Int) (n:Int):Heap:=[(0,some (.lis 5 TU8 l)),(1,some (oN n))]
def ord2 (l:List Int) (a b n:Int):Int×Int×Int:=bif ltI (l.getD b.toNat 0) (l.getD a.toNat 0)then(b,a,W64 (n+1))else(a,b,n)
theorem y_order2 (l:List Int) (a b n:Int):evFn (cxOf Γ38 Tryz.f197.ntmps [] [] [] []) Tryz.f197 false [.one (.own 0),ofD TI64 a,ofD TI64 b, .one (.ptr 1 0)] [.lis 5 TU8 l,oN n]=(
need (inb b l.length) <| need (inb a l.length) <| branch (ltI (l.getD b.toNat 0) (l.getD a.toNat 0)) (some (.tup [ofD TI64 b,ofD TI64 a],hLN l (W64 (n+1)))) (some (.tup [ofD TI64 a,ofD TI64 b],hLN l n))):=by kernel_rfl
theorem s_order2 (l:List Int) (a b n:Int) (h:(inb a l.length&&inb b l.length)=true):Sat Tryz.prog 197 [.one (.own 0),ofD TI64 a,ofD TI64 b, .one (.ptr 1 0)] [.lis 5 TU8 l,oN n] (.tup [ofD TI64 (ord2 l a b n).1,ofD TI64 (ord2 l a b n).2.1]) (hLN l (ord2 l a b n).2.2) :=
 fn_sound (cx:=cxOf Γ38 Tryz.f197.ntmps [] [] [] []) Tryz.func197 rfl ttOk Γ38ok mixed (fun _ _=>LoopsOk.no fun _=>rfl) (ro:=false) (by
  obtain⟨h1,h2⟩:=andd.1 h;rw[y_order2,h1,h2];unfold ord2
  cases ltI (l.getD b.toNat 0) (l.getD a.toNat 0)<;>rfl)
def c_slices_order2Ordered_byte:Con:=⟨false,fun ds os=>match ds,os with
 | [.one (.own 0), .one (.r (.v (.int .i64 a))), .one (.r (.v (.int .i64 b))), .one (.ptr 1 0)],[o,p]=>match exLis 5 TU8 (some o),exBox 3 TI64 (some p)with
  |some l,some n=>some (some (inb a (length l)&&inb b (length l)), .tup [ofD TI64 (ord2 l a b n).1,ofD TI64 (ord2 l a b n).2.1],hLN l (ord2 l a b n).2.2)
  |_,_=>none
 |_,_=>none⟩
theorem k_slices_order2Ordered_byte:ConOk Tryz.prog 197 c_slices_order2Ordered_byte:=by
 refine⟨Tryz.call197,fun ds os c x objs hc hok => ?_⟩;unfold c_slices_order2Ordered_byte at hc;dsimp only at hc
 split at hc
 ·split at hc
  ·rename_i l n e1 e2
   cases hc
   have e1:=Option.some.inj (exLis_some e1);have e2:=Option.some.inj (exBox_some e2);subst e1;subst e2;exact s_order2 l _ _ n (pre_of hok)
  ·cases hc
 ·cases hc
def Γ39:GL:=(197,c_slices_order2Ordered_byte)::Γ38
theorem Γ39ok:GO Γ39 := .cons k_slices_order2Ordered_byte Γ38ok
def med (l:List Int) (a b c n:Int):Int×Int :=
 let r1:=ord2 l a b n
 let r2:=ord2 l r1.2.1 c r1.2.2
 let r3:=ord2 l r1.1 r2.1 r2.2.2
 (r3.2.1,r3.2.2)
theorem ord2_in (l:List Int) (a b n:Int) (k:Nat):(inb a k&&inb b k)=true→inb (ord2 l a b n).1 k=true∧inb (ord2 l a b n).2.1 k=true:=by
 intro h;obtain⟨h1,h2⟩:=andd.1 h;unfold ord2
 cases ltI (l.getD b.toNat 0) (l.getD a.toNat 0)
 ·exact ⟨h1,h2⟩
 ·exact ⟨h2,h1⟩
theorem y_median (l:List Int) (a b c n:Int):evFn (cxOf Γ39 Tryz.f193.ntmps [] [] [] []) Tryz.f193 false [.one (.own 0),ofD TI64 a,ofD TI64 b,ofD TI64 c, .one (.ptr 1 0)] [.lis 5 TU8 l,oN n]=(
need (inb a l.length&&inb b l.length) <| need (inb (ord2 l a b n).2.1 l.length&&inb c l.length) <| need (inb (ord2 l a b n).1 l.length&&inb (ord2 l (ord2 l a b n).2.1 c (ord2 l a b n).2.2).1 l.length) <| some (vI (med l a b c n).1,hLN l (med l a b c n).2)):=by kernel_rfl
theorem s_median (l:List Int) (a b c n:Int) (h:(inb a l.length&&(inb b l.length&&inb c l.length))=true):Sat Tryz.prog 193 [.one (.own 0),ofD TI64 a,ofD TI64 b,ofD TI64 c, .one (.ptr 1 0)] [.lis 5 TU8 l,oN n] (vI (med l a b c n).1) (hLN l (med l a b c n).2) :=
 fn_sound (cx:=cxOf Γ39 Tryz.f193.ntmps [] [] [] []) Tryz.func193 rfl ttOk Γ39ok mixed (fun _ _=>LoopsOk.no fun _=>rfl) (ro:=false) (by
  obtain⟨h1,h2⟩:=andd.1 h;obtain⟨h2,h3⟩:=andd.1 h2;have g1:=ord2_in l a b n l.length (andd.2 ⟨h1,h2⟩);have g2:=ord2_in l (ord2 l a b n).2.1 c (ord2 l a b n).2.2 l.length (andd.2 ⟨g1.2,h3⟩);rw[y_median,h1,h2,h3,g1.1,g1.2,g2.1];rfl)
def c_slices_medianOrdered_byte:Con:=⟨false,fun ds os=>match ds,os with
 | [.one (.own 0), .one (.r (.v (.int .i64 a))), .one (.r (.v (.int .i64 b))), .one (.r (.v (.int .i64 c))), .one (.ptr 1 0)],[o,p]=>match exLis 5 TU8 (some o),exBox 3 TI64 (some p)with
  |some l,some n=>some (some (inb a (length l)&&(inb b (length l)&&inb c (length l))),vI (med l a b c n).1,hLN l (med l a b c n).2)
  |_,_=>none
 |_,_=>none⟩
theorem k_slices_medianOrdered_byte:ConOk Tryz.prog 193 c_slices_medianOrdered_byte:=by
 refine⟨Tryz.call193,fun ds os c x objs hc hok => ?_⟩;unfold c_slices_medianOrdered_byte at hc;dsimp only at hc
 split at hc
 ·split at hc
  ·rename_i l n e1 e2
   cases hc
   have e1:=Option.some.inj (exLis_some e1);have e2:=Option.some.inj (exBox_some e2);subst e1;subst e2;exact s_median l _ _ _ n (pre_of hok)
  ·cases hc
 ·cases hc
def Γ40:GL:=(193,c_slices_medianOrdered_byte)::Γ39
theorem Γ40ok:GO Γ40 := .cons k_slices_medianOrdered_byte Γ39ok
abbrev chI (a b k:Int):Int:=W64 (a+W64 (W64 ((W64 (b-a)).tdiv 4)*k))
def hintV (n:Int):Int:=bif decide (n=0)then 1 else bif decide (n=12)then 2 else 0
abbrev chM (l:List Int) (a b:Int):Int×Int:=med l (chI a b 1) (chI a b 2) (chI a b 3) 0
theorem y_choosePivot (l:List Int) (a b:Int):∃z,evFn (cxOf Γ40 Tryz.f176.ntmps [] [(0,[6,7]),(1000000,[6,7])] [] []) Tryz.f176 false [.one (.own 0),ofD TI64 a,ofD TI64 b] [.lis 5 TU8 l] =
 branch (decide (8≤W64 (b-a))) (branch (decide (50≤W64 (b-a))) none
  (need (inb (chI a b 1) l.length&&(inb (chI a b 2) l.length&&inb (chI a b 3) l.length))
   (branch (decide ((chM l a b).2=0)) (some (.tup [ofD TI64 (chM l a b).1,ofD TI64 (1:Int)],[(0,some (.lis 5 TU8 l))]))
    (branch (decide ((chM l a b).2=12)) (some (.tup [ofD TI64 (chM l a b).1,ofD TI64 (2:Int)],[(0,some (.lis 5 TU8 l))]))
     (some (.tup [ofD TI64 (chM l a b).1,ofD TI64 (0:Int)],[(0,some (.lis 5 TU8 l))])))))) z :=
 ⟨some (.tup [ofD TI64 (chI a b 2),ofD TI64 (1:Int)],[(0,some (.lis 5 TU8 l))]),by kernel_rfl⟩
theorem chI_eq {a b k:Int} (h0:0≤a) (h1:a≤b) (h2:b≤1000000) (h3:0≤k) (h4:k≤3):chI a b k=a+(b-a) / 4*k∧a≤chI a b k∧(12<b-a→chI a b k<b):=by
 have w1:W64 (b-a)=b-a:=wrap_small (by omega) (by omega);have e:(b-a).tdiv 4=(b-a) / 4:=Int.tdiv_eq_ediv_of_nonneg (by omega);have w2:W64 ((b-a) / 4)=(b-a) / 4:=wrap_small (by omega) (by omega);have hk:k=0∨k=1∨k=2∨k=3:=by omega
 have w3:W64 ((b-a) / 4*k)=(b-a) / 4*k:=by rcases hk with rfl | rfl | rfl | rfl<;>exact wrap_small (by omega) (by omega)
 have w4:W64 (a+(b-a) / 4*k)=a+(b-a) / 4*k:=by rcases hk with rfl | rfl | rfl | rfl<;>exact wrap_small (by omega) (by omega)
 have e4:chI a b k=a+(b-a) / 4*k:=by unfold chI;rw[w1,e,w2,w3,w4]
 refine⟨e4, ?_, ?_⟩<;>rw[e4]<;>rcases hk with rfl | rfl | rfl | rfl<;>omega
theorem med_in (l:List Int) (a b c n:Int) (p:Int→Prop) (ha:p a) (hb:p b) (hc:p c):p (med l a b c n).1:=by
 have key:∀x y n,p x→p y→p (ord2 l x y n).1∧p (ord2 l x y n).2.1:=by
  intro x y n hx hy;unfold ord2
  cases ltI (l.getD y.toNat 0) (l.getD x.toNat 0)
  ·exact ⟨hx,hy⟩
  ·exact ⟨hy,hx⟩
 unfold med;have k1:=key a b n ha hb;have k2:=key _ c (ord2 l a b n).2.2 k1.2 hc;exact(key _ _ _ k1.1 k2.1).2
theorem s_slices_choosePivotOrdered_byte (l:List (Int)) (_hl:Fit (.list TU8) l) (a:Int) (_ha:Fit TI64 a) (b:Int) (_hb:Fit TI64 b) (hpre:(decide (0≤a)&&(decide (12<b-a)&&(decide (b-a<50)&&(decide (b≤(length l:Int))&&Nat.ble (length l) 1000000))))=true):Sat Tryz.prog 176 [.one (.own 0),ofD TI64 a,ofD TI64 b] [.lis 5 TU8 l] (.tup [ofD TI64 (chM l a b).1,ofD TI64 (hintV (chM l a b).2)]) [(0,some (.lis 5 TU8 (l)))] :=
 fn_sound (cx:=cxOf Γ40 Tryz.f176.ntmps [] [(0,[6,7]),(1000000,[6,7])] [] []) Tryz.func176 rfl ttOk Γ40ok mixed (fun _ _=>LoopsOk.no fun _=>rfl) (ro:=false) (by
  simp only[andd,dec_iff,ble_iff]at hpre;obtain⟨h0,h1,h2,h3,h4⟩:=hpre;obtain⟨z,hz⟩:=y_choosePivot l a b;have w1:W64 (b-a)=b-a:=wrap_small (by omega) (by omega);have q:∀k:Int,0≤k→k≤3→inb (chI a b k) l.length=true:=fun k g1 g2=>by
   obtain⟨_,g3,g4⟩:=chI_eq (a:=a) (b:=b) h0 (by omega) (by omega) g1 g2;exact inb_ok (by omega) (by have:=g4 h1;omega)
  rw[hz,q 1 (by omega) (by omega),q 2 (by omega) (by omega),q 3 (by omega) (by omega),w1,zT (by omega:(8:Int)≤b-a),zF (by omega:¬(50:Int)≤b-a)];show branch _ _ _=_;unfold hintV
  cases decide ((chM l a b).2=0)
  ·cases decide ((chM l a b).2=12)<;>rfl
  ·rfl)
def c_slices_choosePivotOrdered_byte:Con:=conL 5 TU8 [TI64,TI64] fun(l:List (Int)) (a:Int) (b:Int)=>(some (decide (0≤a)&&(decide (12<b-a)&&(decide (b-a<50)&&(decide (b≤(length l:Int))&&Nat.ble (length l) 1000000)))), .tup [ofD TI64 (chM l a b).1,ofD TI64 (hintV (chM l a b).2)],l)
theorem k_slices_choosePivotOrdered_byte:ConOk Tryz.prog 176 c_slices_choosePivotOrdered_byte:=conL_ok rfl Tryz.call176 fun l hl a ha b hb hqq=>s_slices_choosePivotOrdered_byte l hl a ha b hb (pre_of hqq)
def Γ41:GL:=(176,c_slices_choosePivotOrdered_byte)::Γ40
theorem Γ41ok:GO Γ41 := .cons k_slices_choosePivotOrdered_byte Γ40ok
abbrev TU64:Ty := .int .u64
def lenTab:Str:=replicate 1 0++(replicate 1 1++(replicate 2 2++(replicate 4 3++(replicate 8 4++(replicate 16 5++(replicate 32 6++(replicate 64 7++replicate 128 8)))))))
def lenW (x n:Int):Int:=W64 (n+W64 (byteAt lenTab (IntKind.u8.wrap x)))
def lenV (x:Int):Int:=lenW x 0
def len8 (x n:Int):Option Fin:=need (inb (IntKind.u8.wrap x) 256) (some (vI (lenW x n),[]))
def len16 (x n:Int):Option Fin:=branch (decide (256≤x)) (len8 (x.fdiv (2 ^ 8)) (W64 (n+8))) (len8 x n)
def len32 (x n:Int):Option Fin:=branch (decide (65536≤x)) (len16 (x.fdiv (2 ^ 16)) (W64 (n+16))) (len16 x n)
theorem y_Len64 (x:Int):evFn (cxOf Γ41 Tryz.f183.ntmps [] [] [] []) Tryz.f183 true [ofD TU64 x] []=(
branch (decide (4294967296≤x)) (len32 (x.fdiv (2 ^ 32)) 32) (len32 x 0)):=by kernel_rfl
theorem len_tab (n:Nat) (h:n<64):lenV n=((if n=0 then 0 else Nat.log2 n+1:Nat):Int)∧n<2 ^ (lenV n).toNat∧2 ^ (lenV n).toNat≤max 1 (2*n):=by
 have key:∀m:_root_.Fin 64,lenV (m:Nat)=((if (m:Nat)=0 then 0 else Nat.log2 m+1:Nat):Int)∧(m:Nat)<2 ^ (lenV (m:Nat)).toNat∧2 ^ (lenV (m:Nat)).toNat≤max 1 (2*(m:Nat)):=by decide +kernel
 exact key ⟨n,h⟩
theorem s_math_bits_Len64 (x:Int) (_hx:Fit TU64 x) (hpre:(decide (0≤x)&&decide (x<64))=true):Sat Tryz.prog 183 [ofD TU64 x] [] (.d (ofD TI64 (lenV x))) [] :=
 fn_sound (cx:=cxOf Γ41 Tryz.f183.ntmps [] [] [] []) Tryz.func183 rfl ttOk Γ41ok mixed (fun _ _=>LoopsOk.no fun _=>rfl) (ro:=true) (by
  obtain⟨h0,h1⟩:=andd.1 hpre;have h0:=dec_iff.1 h0;have h1:=dec_iff.1 h1;have hw:IntKind.u8.wrap x=x:=by rw[IntKind.wrap_u8];omega
  rw[y_Len64,zF (by omega:¬ 4294967296≤x)];show len32 x 0=_;unfold len32;rw[zF (by omega:¬ 65536≤x)];show len16 x 0=_;unfold len16;rw[zF (by omega:¬ 256≤x)];show len8 x 0=_;unfold len8;rw[hw,inb_ok h0 (by omega)];rfl)
def c_math_bits_Len64:Con:=conT [TU64] fun(x:Int)=>(some (decide (0≤x)&&decide (x<64)), .d (ofD TI64 (lenV x)))
theorem k_math_bits_Len64:ConOk Tryz.prog 183 c_math_bits_Len64:=conT_ok Tryz.call183 fun x hx hqq=>s_math_bits_Len64 x hx (pre_of hqq)
def Γ42:GL:=(183,c_math_bits_Len64)::Γ41
theorem Γ42ok:GO Γ42 := .cons k_math_bits_Len64 Γ41ok
theorem s_math_bits_Len (x:Int) (_hx:Fit TU64 x) (hpre:(decide (0≤x)&&decide (x<64))=true):Sat Tryz.prog 157 [ofD TU64 x] [] (.d (ofD TI64 (lenV x))) [] :=
 fn_sound (cx:=cxOf Γ42 Tryz.f157.ntmps [] [] [] []) Tryz.func157 rfl ttOk Γ42ok mixed (fun _ _=>LoopsOk.no fun _=>rfl) (ro:=true) (by
  have y:evFn (cxOf Γ42 Tryz.f157.ntmps [] [] [] []) Tryz.f157 true [ofD TU64 x] []=need (decide (0≤x)&&decide (x<64)) (some (vI (lenV x),[])):=by kernel_rfl
  rw[y,hpre];rfl)
def c_math_bits_Len:Con:=conT [TU64] fun(x:Int)=>(some (decide (0≤x)&&decide (x<64)), .d (ofD TI64 (lenV x)))
theorem k_math_bits_Len:ConOk Tryz.prog 157 c_math_bits_Len:=conT_ok Tryz.call157 fun x hx hqq=>s_math_bits_Len x hx (pre_of hqq)
def Γ43:GL:=(157,c_math_bits_Len)::Γ42
theorem Γ43ok:GO Γ43 := .cons k_math_bits_Len Γ42ok
def powV (x:Int):Int:=IntKind.u64.wrap (1*2 ^ (min (lenV (IntKind.u64.wrap x)).toNat 64))
theorem y_nextPow (x:Int):evFn (cxOf Γ43 Tryz.f190.ntmps [] [] [] []) Tryz.f190 true [ofD TI64 x] []=need (decide (0≤IntKind.u64.wrap x)&&decide (IntKind.u64.wrap x<64)) (need (decide (0≤lenV (IntKind.u64.wrap x))) (some (.d (ofD TU64 (powV x)),[]))):=by kernel_rfl
theorem s_slices_nextPowerOfTwo (x:Int) (_hx:Fit TI64 x) (hpre:(decide (0≤x)&&decide (x<64))=true):Sat Tryz.prog 190 [ofD TI64 x] [] (.d (ofD TU64 (powV x))) [] :=
 fn_sound (cx:=cxOf Γ43 Tryz.f190.ntmps [] [] [] []) Tryz.func190 rfl ttOk Γ43ok mixed (fun _ _=>LoopsOk.no fun _=>rfl) (ro:=true) (by
  obtain⟨h0,h1⟩:=andd.1 hpre;have h0:=dec_iff.1 h0;have h1:=dec_iff.1 h1;have hw:IntKind.u64.wrap x=x:=by simp only[IntKind.wrap,IntKind.bits,IntKind.signed];simp;omega
  obtain⟨n,rfl⟩:=Int.eq_ofNat_of_zero_le h0;have hl:=(len_tab n (by omega)).1;rw[y_nextPow,hw,zT h0,zT h1,zT (by omega)];rfl)
def c_slices_nextPowerOfTwo:Con:=conT [TI64] fun(x:Int)=>(some (decide (0≤x)&&decide (x<64)), .d (ofD TU64 (powV x)))
theorem k_slices_nextPowerOfTwo:ConOk Tryz.prog 190 c_slices_nextPowerOfTwo:=conT_ok Tryz.call190 fun x hx hqq=>s_slices_nextPowerOfTwo x hx (pre_of hqq)
theorem pow_in (n:Nat) (h:n<64):1≤powV n∧powV n≤max 1 (2*(n:Int)):=by
 have key:∀m:_root_.Fin 64,1≤powV (m:Nat)∧powV (m:Nat)≤max 1 (2*((m:Nat):Int)):=by decide +kernel
 exact key ⟨n,h⟩
def Γ44:GL:=(190,c_slices_nextPowerOfTwo)::Γ43
theorem Γ44ok:GO Γ44 := .cons k_slices_nextPowerOfTwo Γ43ok
def xo (x y:Int):Int:=IntKind.u64.wrap ((BitVec.ofInt 64 x ^^^ BitVec.ofInt 64 y).toNat:Int)
def xr (r:Int):Int :=
 let r1:=xo r (IntKind.u64.wrap (r*2 ^ 13))
 let r2:=xo r1 (r1.fdiv (2 ^ 7))
 xo r2 (IntKind.u64.wrap (r2*2 ^ 17))
theorem y_Next (r:Int):evFn (cxOf Γ44 Tryz.f191.ntmps [] [] [] []) Tryz.f191 false [.one (.ptr 0 0)] [boxD 192 TU64 r]=some (.d (ofD TU64 (xr r)),[(0,some (boxD 192 TU64 (xr r)))]):=by kernel_rfl
theorem s_Next (r:Int):Sat Tryz.prog 191 [.one (.ptr 0 0)] [boxD 192 TU64 r] (.d (ofD TU64 (xr r))) [(0,some (boxD 192 TU64 (xr r)))] :=
 fn_sound (cx:=cxOf Γ44 Tryz.f191.ntmps [] [] [] []) Tryz.func191 rfl ttOk Γ44ok mixed (fun _ _=>LoopsOk.no fun _=>rfl) (ro:=false) (y_Next r)
def c_slices_xorshift_Next:Con:=conB 192 TU64 [] fun(r:Int)=>(none, .d (ofD TU64 (xr r)),xr r)
theorem k_slices_xorshift_Next:ConOk Tryz.prog 191 c_slices_xorshift_Next:=conB_ok Tryz.call191 fun r _ _=>s_Next r
def Γ45:GL:=(191,c_slices_xorshift_Next)::Γ44
theorem Γ45ok:GO Γ45 := .cons k_slices_xorshift_Next Γ44ok
def cb_brk:Cx:=cxOf Γ45 Tryz.f175.ntmps [(5,[0,1,6,7,8,9])] [(0,[]),(1,[0,1,6,7,8,9])] [] []
def othV (r m:Int):Int:=W64 (IntKind.u64.wrap (((BitVec.ofInt IntKind.u64.bits (xr r)).and (BitVec.ofInt IntKind.u64.bits (IntKind.u64.wrap (m-1)))).toNat:Int))
theorem oth_in {r m:Int} (h0:1≤m) (h1:m≤1000):0≤othV r m∧othV r m<m:=by
 have hw:IntKind.u64.wrap (m-1)=m-1:=by simp only[IntKind.wrap,IntKind.bits,IntKind.signed];simp;omega
 have hb:(BitVec.ofInt IntKind.u64.bits (m-1)).toNat=(m-1).toNat:=by
  show(BitVec.ofInt 64 (m-1)).toNat=_;rw[BitVec.toNat_ofInt];rw[Int.emod_eq_of_lt (by omega) (by simp;omega)]
 have hn:((BitVec.ofInt IntKind.u64.bits (xr r)).and (BitVec.ofInt IntKind.u64.bits (m-1))).toNat≤(m-1).toNat:=by
  show((BitVec.ofInt IntKind.u64.bits (xr r)) &&& (BitVec.ofInt IntKind.u64.bits (m-1))).toNat≤_;rw[BitVec.toNat_and,hb];exact Nat.and_le_right
 unfold othV;rw[hw]
 generalize ((BitVec.ofInt IntKind.u64.bits (xr r)).and (BitVec.ofInt IntKind.u64.bits (m-1))).toNat=q at hn
 have h2:IntKind.u64.wrap (q:Int)=q:=by simp only[IntKind.wrap,IntKind.bits,IntKind.signed];simp;omega
 rw[h2,show W64 (q:Int)=q from wrap_small (by omega) (by omega)];omega
theorem x_brk (l:List Int) (a n r m i:Int) (R:St→Option Fin) (K:Cont):evC (cb_brk.withLoops (look [])) (loopOf Tryz.f175 0) ⟨[(0, .d (.one (.own 0))),(1,vI a),(6,vI n),(7, kp0),(8, .d (ofD TU64 m)),(9,vI i)],[(0,some (.lis 5 TU8 l)),(500000,some (boxD 192 TU64 r))]⟩ (onward (headAt (cb_brk.withLoops (look [])) 5) R K)=(
branch (decide (i≤W64 (W64 (a+W64 (W64 (n.tdiv 4)*2))+1))) (
 branch (decide (n≤othV r m)) (
 need (inb (W64 (a+W64 (othV r m-n))) l.length) <|
 need (inb i l.length) <|
 need (inb i l.length) <|
 need (inb (W64 (a+W64 (othV r m-n))) (l.set i.toNat (l.getD (W64 (a+W64 (othV r m-n))).toNat 0)).length) <| R ⟨[(0, .d (.one (.own 0))),(1,vI a),(6,vI n),(7, kp0),(8, .d (ofD TU64 m)),(9,vI (W64 (i+1)))],[(0,some (.lis 5 TU8 (swL l i.toNat (W64 (a+W64 (othV r m-n))).toNat))),(500000,some (boxD 192 TU64 (xr r)))]⟩) (
 need (inb (W64 (a+othV r m)) l.length) <|
 need (inb i l.length) <|
 need (inb i l.length) <|
 need (inb (W64 (a+othV r m)) (l.set i.toNat (l.getD (W64 (a+othV r m)).toNat 0)).length) <| R ⟨[(0, .d (.one (.own 0))),(1,vI a),(6,vI n),(7, kp0),(8, .d (ofD TU64 m)),(9,vI (W64 (i+1)))],[(0,some (.lis 5 TU8 (swL l i.toNat (W64 (a+othV r m)).toNat))),(500000,some (boxD 192 TU64 (xr r)))]⟩)) (K (.exit 0) ⟨[],[(0,some (.lis 5 TU8 l))]⟩)):=by kernel_rfl
def permL (a b:Nat) (l m:List Int):Prop:=Go.Sort.PermIn a b l.toArray m.toArray
theorem permL_len {a b:Nat} {l m:List Int} (h:permL a b l m):m.length=l.length:=h.1
theorem permL_sw {a b i j:Nat} {l:List Int} (h0:a≤i) (h1:i<b) (h2:a≤j) (h3:j<b) (h4:b≤l.length):permL a b l (swL l i j):=by
 unfold permL;rw[← sw_arr];exact Go.Sort.swp_permIn _ _ _ _ _ h0 h1 h2 h3 h4
theorem permL_refl (a b:Nat) (l:List Int):permL a b l l:=Go.Sort.permIn_refl _ _ _
theorem permL_trans {a b:Nat} {l m n:List Int} (h:permL a b l m) (g:permL a b m n):permL a b l n:=Go.Sort.permIn_trans _ _ _ _ _ h g
def cx0_brk:Cx:=cb_brk
def sh_brk:Sh:=([(0, .own 0),(1, .d TI64),(6, .d TI64),(7, .ptr 500000 0),(8, .d TU64),(9, .d TI64)],[(0, .lis 5 TU8),(500000, .box 192 TU64)])
abbrev st_brk (a:Int) (n:Int) (m:Int) (i:Int) (l:List (Int)) (r:Int):St:=⟨[(0, .d (.one (.own 0))),(1,vI a),(6,vI n),(7, kp0),(8, .d (ofD TU64 m)),(9,vI i)],[(0,some (.lis 5 TU8 l)),(500000,some (boxD 192 TU64 r))]⟩
def V_brk (a:Int) (n:Int) (m:Int) (i:Int) (l:List (Int)) (r:Int):sh_brk.V:=((a,n,m,i,()),(l,r,()))
def out_brk (o:List Int):St:=⟨[],[(0,some (.lis 5 TU8 o))]⟩
def inv_brk (a:Int) (n:Int) (m:Int) (i:Int) (l:List (Int)) (_r:Int):Bool:=decide (0≤a)&&(decide (8≤n)&&(decide (n<64)&&(decide (1≤m)&&(decide (m≤2*n)&&(decide (a≤i)&&(decide (a+n≤(length l:Int))&&Nat.ble (length l) 1000000))))))
def post_brk (a:Int) (n:Int) (_m:Int) (_i:Int) (l:List (Int)) (_r:Int) (o:List Int):Prop:=permL a.toNat (a+n).toNat l o
def mu_brk (a:Int) (n:Int) (_m:Int) (i:Int) (_l:List (Int)) (_r:Int):Nat:=(a+n-i).toNat
theorem r_brk (a:Int) (n:Int) (m:Int) (i:Int) (l:List (Int)) (r:Int) (hI:inv_brk a n m i l r=true):(∃o:List Int,post_brk a n m i l r o∧∀(R:St→Option Fin) (K:Cont),evC cx0_brk (loopOf Tryz.f175 0) (st_brk a n m i l r) (onward (headAt cx0_brk 5) R K)=K (.exit 0) (out_brk o)) ∨
  (∃(a':Int) (n':Int) (m':Int) (i':Int) (l':List (Int)) (r':Int),inv_brk a' n' m' i' l' r'=true∧mu_brk a' n' m' i' l' r'<mu_brk a n m i l r∧(∀o,post_brk a' n' m' i' l' r' o→post_brk a n m i l r o)∧∀(R:St→Option Fin) (K:Cont),evC cx0_brk (loopOf Tryz.f175 0) (st_brk a n m i l r) (onward (headAt cx0_brk 5) R K)=R (st_brk a' n' m' i' l' r')):=by
 have hx:=fun R K=>x_brk l a n r m i R K;simp only[inv_brk,andd,dec_iff,ble_iff]at hI;obtain⟨h0,h1,h2,h3,h4,h5,h6,h7⟩:=hI;have w0:W64 (W64 (a+W64 (W64 (n.tdiv 4)*2))+1)=a+n / 4*2+1:=by
  rw[Int.tdiv_eq_ediv_of_nonneg (by omega)];rw[show W64 (n / 4)=n / 4 from wrap_small (by omega) (by omega),show W64 (n / 4*2)=n / 4*2 from wrap_small (by omega) (by omega),show W64 (a+n / 4*2)=a+n / 4*2 from wrap_small (by omega) (by omega)];exact wrap_small (by omega) (by omega)
 rw[w0]at hx;obtain⟨o0,o1⟩:=oth_in (r:=r) h3 (by omega:m≤1000)
 by_cases hi:i≤a+n / 4*2+1
 ·right;have wi:W64 (i+1)=i+1:=wrap_small (by omega) (by omega);have bi:inb i l.length=true:=inb_ok (by omega) (by omega);have fin:∀k:Int,0≤k→k<n→(∀(R:St→Option Fin) (K:Cont),branch (decide (n≤othV r m)) (
    need (inb (W64 (a+W64 (othV r m-n))) l.length) <| need (inb i l.length) <| need (inb i l.length) <|
    need (inb (W64 (a+W64 (othV r m-n))) (l.set i.toNat (l.getD (W64 (a+W64 (othV r m-n))).toNat 0)).length) <| R ⟨[(0, .d (.one (.own 0))),(1,vI a),(6,vI n),(7, kp0),(8, .d (ofD TU64 m)),(9,vI (W64 (i+1)))],[(0,some (.lis 5 TU8 (swL l i.toNat (W64 (a+W64 (othV r m-n))).toNat))),(500000,some (boxD 192 TU64 (xr r)))]⟩) (
    need (inb (W64 (a+othV r m)) l.length) <| need (inb i l.length) <| need (inb i l.length) <|
    need (inb (W64 (a+othV r m)) (l.set i.toNat (l.getD (W64 (a+othV r m)).toNat 0)).length) <| R ⟨[(0, .d (.one (.own 0))),(1,vI a),(6,vI n),(7, kp0),(8, .d (ofD TU64 m)),(9,vI (W64 (i+1)))],[(0,some (.lis 5 TU8 (swL l i.toNat (W64 (a+othV r m)).toNat))),(500000,some (boxD 192 TU64 (xr r)))]⟩)
    = R ⟨[(0, .d (.one (.own 0))),(1,vI a),(6,vI n),(7, kp0),(8, .d (ofD TU64 m)),(9,vI (i+1))],[(0,some (.lis 5 TU8 (swL l i.toNat (a+k).toNat))),(500000,some (boxD 192 TU64 (xr r)))]⟩) →
    ∃a' n' m' i' l' r',inv_brk a' n' m' i' l' r'=true∧mu_brk a' n' m' i' l' r'<mu_brk a n m i l r∧(∀o,post_brk a' n' m' i' l' r' o→post_brk a n m i l r o)∧∀(R:St→Option Fin) (K:Cont),evC cx0_brk (loopOf Tryz.f175 0) ⟨[(0, .d (.one (.own 0))),(1,vI a),(6,vI n),(7, kp0),(8, .d (ofD TU64 m)),(9,vI i)],[(0,some (.lis 5 TU8 l)),(500000,some (boxD 192 TU64 r))]⟩ (onward (headAt cx0_brk 5) R K)=R ⟨[(0, .d (.one (.own 0))),(1, .d (ofD TI64 a')),(6, .d (ofD TI64 n')),(7, kp0),(8, .d (ofD TU64 m')),(9, .d (ofD TI64 i'))],[(0,some (.lis 5 TU8 l')),(500000,some (boxD 192 TU64 r'))]⟩:=by
   intro k k0 k1 hk;have hp:permL a.toNat (a+n).toNat l (swL l i.toNat (a+k).toNat):=permL_sw (by omega) (by omega) (by omega) (by omega) (by omega);refine⟨a,n,m,i+1,swL l i.toNat (a+k).toNat,xr r, ?_, ?_, ?_,fun R K=>(hx R K).trans ?_⟩
   ·simp only[inv_brk,andd,dec_iff,ble_iff,swL_len];omega
   ·simp only[mu_brk];omega
   ·intro o ho;exact permL_trans hp ho
   ·rw[zT hi,branch_true];exact hk R K
  by_cases ho:n≤othV r m
  ·have w1:W64 (othV r m-n)=othV r m-n:=wrap_small (by omega) (by omega);have w2:W64 (a+(othV r m-n))=a+(othV r m-n):=wrap_small (by omega) (by omega);refine fin (othV r m-n) (by omega) (by omega) fun R K => ?_;have b1:inb (a+(othV r m-n)) l.length=true:=inb_ok (by omega) (by omega);rw[zT ho,branch_true];simp only[w1,w2,wi,bi,b1,length_set,need_t]
  ·have w2:W64 (a+othV r m)=a+othV r m:=wrap_small (by omega) (by omega);refine fin (othV r m) (by omega) (by omega) fun R K => ?_;have b1:inb (a+othV r m) l.length=true:=inb_ok (by omega) (by omega);rw[zF ho,branch_false];simp only[w2,wi,bi,b1,length_set,need_t]
 ·left;refine⟨l,permL_refl _ _ _,fun R K => ?_⟩;refine(hx R K).trans ?_;rw[zF hi];rfl
def I_brk:sh_brk.V→Bool:=fun v=>match v with | ((a,n,m,i,()),(l,r,()))=>inv_brk a n m i l r
def P_brk:sh_brk.V→List Int→Prop:=fun v o=>match v with | ((a,n,m,i,()),(l,r,()))=>post_brk a n m i l r o
def M_brk:sh_brk.V→Nat:=fun v=>match v with | ((a,n,m,i,()),(l,r,()))=>mu_brk a n m i l r
theorem a_brk:∀v:sh_brk.V,I_brk v=true→∃o,P_brk v o∧∀K r,K (.exit 0) (out_brk o)=some r→∃N,iter (evC cx0_brk (loopOf Tryz.f175 0)) (headAt cx0_brk 5) N (sh_brk.mk v) K=some r :=
 loop_any (fun v=>I_brk v=true) P_brk (.exit 0) M_brk fun v hI=>by
  obtain⟨⟨(a:Int),(n:Int),(m:Int),(i:Int),⟨⟩⟩,⟨(l:List (Int)),(r:Int),⟨⟩⟩⟩:=v;rcases r_brk a n m i l r hI with⟨o,h1,h2⟩ | ⟨a',n',m',i',l',r',h1,h2,h3,h4⟩
  ·exact .inl ⟨o,h1,h2⟩
  ·exact .inr ⟨V_brk a' n' m' i' l' r',h1,h2,h3,h4⟩
def g_brk:St→Cont→Option Fin:=gEnd sh_brk I_brk out_brk (evC cx0_brk (loopOf Tryz.f175 0)) (headAt cx0_brk 5) P_brk (.exit 0)
def E_brk (a:Int) (n:Int) (m:Int) (i:Int) (l:List (Int)) (r:Int):List Int:=endOf sh_brk.mk out_brk (evC cx0_brk (loopOf Tryz.f175 0)) (headAt cx0_brk 5) P_brk (.exit 0) (V_brk a n m i l r)
theorem q_brk (a:Int) (n:Int) (m:Int) (i:Int) (l:List (Int)) (r:Int) (hI:inv_brk a n m i l r=true):post_brk a n m i l r (E_brk a n m i l r):=(endOf_spec (a_brk (V_brk a n m i l r) hI)).1
def cx_brk:Cx:=cx0_brk.withLoops (look [(5,g_brk)])
theorem l_brk:∀st K r,g_brk st K=some r→∃N,iter (evC cx_brk (loopOf Tryz.f175 0)) (headAt cx_brk 5) N st K=some r:=with_ok (by kernel_rfl) (gEnd_ok a_brk)
theorem y_slices_breakPatternsOrdered_byte (l:List Int) (a:Int) (b:Int):evFn cx_brk Tryz.f175 false [.one (.own 0),ofD TI64 a,ofD TI64 b] [.lis 5 TU8 l]=(
branch (decide (8≤W64 (b-a))) (
 need (decide (0≤W64 (b-a))&&decide (W64 (b-a)<64)) <|
 need (!decide (4=0)) <|
 need (inv_brk a (W64 (b-a)) (powV (W64 (b-a))) (W64 (W64 (a+W64 (W64 ((W64 (b-a)).tdiv 4)*2))-1)) l (IntKind.u64.wrap (W64 (b-a)))) <| some ((.tup []),[(0,(.some (.lis 5 TU8 (E_brk a (W64 (b-a)) (powV (W64 (b-a))) (W64 (W64 (a+W64 (W64 ((W64 (b-a)).tdiv 4)*2))-1)) l (IntKind.u64.wrap (W64 (b-a)))))))])) ( some ((.tup []),[(0,some (.lis 5 TU8 l))]))):=by kernel_rfl
def brkV (l:List Int) (a b:Int):List Int:=E_brk a (W64 (b-a)) (powV (W64 (b-a))) (W64 (W64 (a+W64 (W64 ((W64 (b-a)).tdiv 4)*2))-1)) l (IntKind.u64.wrap (W64 (b-a)))
def brkP (l:List Int) (a b:Int):Bool:=decide (0≤a)&&(decide (12<b-a)&&(decide (b-a<50)&&(decide (b≤(length l:Int))&&Nat.ble (length l) 1000000)))
theorem brk_inv {l:List Int} {a b:Int} (h:brkP l a b=true):W64 (b-a)=b-a∧inv_brk a (W64 (b-a)) (powV (W64 (b-a))) (W64 (W64 (a+W64 (W64 ((W64 (b-a)).tdiv 4)*2))-1)) l (IntKind.u64.wrap (W64 (b-a)))=true:=by
 simp only[brkP,andd,dec_iff,ble_iff]at h;obtain⟨h0,h1,h2,h3,h4⟩:=h;have w1:W64 (b-a)=b-a:=wrap_small (by omega) (by omega);refine⟨w1, ?_⟩;have w0:W64 (W64 (a+W64 (W64 ((b-a).tdiv 4)*2))-1)=a+(b-a) / 4*2-1:=by
  rw[Int.tdiv_eq_ediv_of_nonneg (by omega)];rw[show W64 ((b-a) / 4)=(b-a) / 4 from wrap_small (by omega) (by omega),show W64 ((b-a) / 4*2)=(b-a) / 4*2 from wrap_small (by omega) (by omega),show W64 (a+(b-a) / 4*2)=a+(b-a) / 4*2 from wrap_small (by omega) (by omega)];exact wrap_small (by omega) (by omega)
 rw[w1,w0];obtain⟨n,hn⟩:=Int.eq_ofNat_of_zero_le (show 0≤b-a by omega);have hp:=pow_in n (by omega);rw[← hn]at hp;simp only[inv_brk,andd,dec_iff,ble_iff];omega
theorem brk_perm {l:List Int} {a b:Int} (h:brkP l a b=true):permL a.toNat b.toNat l (brkV l a b):=by
 obtain⟨h1,h2⟩:=brk_inv h;have q:=q_brk _ _ _ _ _ _ h2;unfold post_brk at q;rw[h1,show a+(b-a)=b by omega]at q;unfold brkV;rw[h1];exact q
theorem s_slices_breakPatternsOrdered_byte (l:List (Int)) (_hl:Fit (.list TU8) l) (a:Int) (_ha:Fit TI64 a) (b:Int) (_hb:Fit TI64 b) (hpre:(brkP l a b)=true):Sat Tryz.prog 175 [.one (.own 0),ofD TI64 a,ofD TI64 b] [.lis 5 TU8 l] (.tup []) [(0,some (.lis 5 TU8 (brkV l a b)))] :=
 fn_sound (cx:=cx_brk) Tryz.func175 rfl ttOk Γ45ok mixed (fun c hc=>LoopsOk.one (b:=loopOf Tryz.f175 0) (id:=5) (g:=g_brk) (by cases hc;kernel_rfl) rfl l_brk) (ro:=false) (by
  obtain⟨h1,h2⟩:=brk_inv hpre;have hpre':=hpre;simp only[brkP,andd,dec_iff,ble_iff]at hpre';rw[y_slices_breakPatternsOrdered_byte,h2,h1,zT (by omega:(8:Int)≤b-a),zT (by omega:(0:Int)≤b-a),zT (by omega:b-a<64)];unfold brkV;rw[h1];rfl)
def c_slices_breakPatternsOrdered_byte:Con:=conL 5 TU8 [TI64,TI64] fun(l:List (Int)) (a:Int) (b:Int)=>(some (brkP l a b), .tup [],brkV l a b)
theorem k_slices_breakPatternsOrdered_byte:ConOk Tryz.prog 175 c_slices_breakPatternsOrdered_byte:=conL_ok rfl Tryz.call175 fun l hl a ha b hb hqq=>s_slices_breakPatternsOrdered_byte l hl a ha b hb (pre_of hqq)
def Γ46:GL:=(175,c_slices_breakPatternsOrdered_byte)::Γ45
theorem Γ46ok:GO Γ46 := .cons k_slices_breakPatternsOrdered_byte Γ45ok
def cb_pins:Cx:=cxOf Γ46 Tryz.f178.ntmps [(20,[0,1,2,7,8,10]),(14,[0,1,2,7,8,9]),(5,[0,1,2,7,8]),(3,[0,1,2,7,8])] [(0,[]),(1,[0,1,2,7,8]),(6,[0,1,2,7,8]),(7,[0,1,2,7,8,10]),(4,[0,1,2,7,8]),(5,[0,1,2,7,8,9]),(2,[0,1,2,7,8]),(3,[0,1,2,7,8]),(1000000,[6])] [] []
theorem x_scan (l:List Int) (a b i j:Int) (R:St→Option Fin) (K:Cont):evC (cb_pins.withLoops (look [])) (loopOf Tryz.f178 1) ⟨[(0, .d (.one (.own 0))),(1,vI a),(2,vI b),(7,vI i),(8,vI j)],[(0,some (.lis 5 TU8 l))]⟩ (onward (headAt (cb_pins.withLoops (look [])) 5) R K)=(
need (bif decide (decide (i<b)=true)then inb i l.length else true) <|
need (bif decide (decide (i<b)=true)then inb (W64 (i-1)) l.length else true) <|
branch (bif decide (i<b)then !ltI (l.getD i.toNat 0) (l.getD (W64 (i-1)).toNat 0)else false) ( R (.mk [(0,(.d (.one (.own 0)))),(1,vI a),(2,vI b),(7,vI (W64 (i+1))),(8,vI j)] [(0,some (.lis 5 TU8 l))])) ( K (.exit 2) (.mk [(0,(.d (.one (.own 0)))),(1,vI a),(2,vI b),(7,vI i),(8,vI j)] [(0,some (.lis 5 TU8 l))]))):=by kernel_rfl
abbrev scanN (l:List Int) (b i:Nat):Nat:=Go.Sort.scanSorted ltI l.toArray b i
theorem scanN_eq (l:List Int) (b i:Nat):scanN l b i=if i<b∧ltI (l.getD i 0) (l.getD (i-1) 0)=false then scanN l b (i+1)else i:=by
 unfold scanN;rw[Go.Sort.scanSorted,at_arr,at_arr]
 by_cases h:i<b
 ·cases hc:ltI (l.getD i 0) (l.getD (i-1) 0)
  ·rw[if_pos (by simp[h]),if_pos ⟨h,rfl⟩]
  ·rw[if_neg (by simp),if_neg (by simp)]
 ·rw[if_neg (by simp[h]),if_neg (by simp[h])]
def cx0_scan:Cx:=(cb_pins).withLoops (look [])
def sh_scan:Sh:=([(0, .own 0),(1, .d TI64),(2, .d TI64),(7, .d TI64),(8, .d TI64)],[(0, .lis 5 TU8)])
abbrev st_scan (a b i j:Int) (l:List (Int)):St:=⟨[(0, .d (.one (.own 0))),(1,vI a),(2,vI b),(7,vI i),(8,vI j)],[(0,some (.lis 5 TU8 l))]⟩
def pre_scan (_a b i _j:Int) (l:List (Int)):Bool:=decide (1≤i)&&(decide (i≤1000001)&&(decide (b≤(length l:Int))&&Nat.ble (length l) 1000000))
def res_scan (a b i j:Int) (l:List (Int)) (K:Cont):Option Fin:=K (.exit 2) ⟨[(0, .d (.one (.own 0))),(1,vI a),(2,vI b),(7,vI (scanN l b.toNat i.toNat:Nat)),(8,vI j)],[(0,some (.lis 5 TU8 l))]⟩
def mu_scan (_a b i _j:Int) (_l:List (Int)):Nat:=(b-i).toNat
theorem r_scan (a b i j:Int) (l:List (Int)) (K:Cont) (hI:pre_scan a b i j l=true):(∀R:St→Option Fin,evC cx0_scan (loopOf Tryz.f178 1) (st_scan a b i j l) (onward (headAt cx0_scan 5) R K)=res_scan a b i j l K) ∨
  (∃(a' b' i' j':Int) (l':List (Int)),pre_scan a' b' i' j' l'=true∧mu_scan a' b' i' j' l'<mu_scan a b i j l∧res_scan a' b' i' j' l' K=res_scan a b i j l K∧∀R:St→Option Fin,evC cx0_scan (loopOf Tryz.f178 1) (st_scan a b i j l) (onward (headAt cx0_scan 5) R K)=R (st_scan a' b' i' j' l')):=by
 have hx:=fun R=>x_scan l a b i j R K;simp only[pre_scan,andd,dec_iff,ble_iff]at hI;obtain⟨h0,h1,h2,h3⟩:=hI;have w1:W64 (i-1)=i-1:=wrap_small (by omega) (by omega);have w2:W64 (i+1)=i+1:=wrap_small (by omega) (by omega);have t1:(i-1).toNat=i.toNat-1:=by omega
 have t2:(i+1).toNat=i.toNat+1:=by omega
 have e:=scanN_eq l b.toNat i.toNat;simp only[w1,w2,t1]at hx
 by_cases hi:i<b
 ·have b1:inb i l.length=true:=inb_ok (by omega) (by omega);have b2:inb (i-1) l.length=true:=inb_ok (by omega) (by omega);simp only[hi,decide_true,b1,b2,Bool.cond_self,cond_true]at hx
  cases hc:ltI (l.getD i.toNat 0) (l.getD (i.toNat-1) 0)
  ·right;rw[if_pos ⟨by omega,hc⟩]at e;refine⟨a,b,i+1,j,l, ?_, ?_, ?_,fun R=>(hx R).trans ?_⟩
   ·simp only[pre_scan,andd,dec_iff,ble_iff];omega
   ·simp only[mu_scan];omega
   ·simp only[res_scan,t2,e]
   ·rw[hc];rfl
  ·left;intro R;rw[if_neg (by rw[hc];simp)]at e;refine(hx R).trans ?_;rw[hc];simp only[res_scan,e,Int.toNat_of_nonneg (show 0≤i by omega)];rfl
 ·left;intro R;rw[if_neg (by omega)]at e;refine(hx R).trans ?_;simp only[hi,decide_false,cond_false,res_scan,e,Int.toNat_of_nonneg (show 0≤i by omega)];rfl
def g_scan:St→Cont→Option Fin:=gP sh_scan (fun v=>match v with | ((a,b,i,j,()),(l,()))=>pre_scan a b i j l) (fun v K=>match v with | ((a,b,i,j,()),(l,()))=>res_scan a b i j l K)
def L_scan:LpL:=(5,g_scan)::[]
def cx_scan:Cx:=(cb_pins).withLoops (look L_scan)
theorem l_scan {L:LpL} (n:Nat) (h1:L.drop n=[]) (h2:idsFree (L.take n) (loopOf Tryz.f178 1)=true):LoopsTo g_scan (cb_pins) (loopOf Tryz.f178 1) 5 L :=
 with_drop h1 h2 (gP_ok (fun v=>match v with | ((a,b,i,j,()),(l,()))=>mu_scan a b i j l) fun v K hI=>by
  obtain⟨⟨a,b,i,j,⟨⟩⟩,⟨l,⟨⟩⟩⟩:=v;exact(r_scan a b i j l K hI).imp id fun⟨a',b',i',j',l',h⟩=>⟨((a',b',i',j',()),(l',())),h⟩)
theorem x_pins (l:List Int) (a b i:Int) (R:St→Option Fin) (K:Cont):evC cx_scan (loopOf Tryz.f178 0) ⟨[(0, .d (.one (.own 0))),(1,vI a),(2,vI b),(7,vI i),(8,vI 0)],[(0,some (.lis 5 TU8 l))]⟩ (onward (headAt cx_scan 3) R K)=(
branch (decide (0<5)) (
 need (pre_scan a b i 0 l) <|
 branch (decide ((scanN l b.toNat i.toNat:Int)=b)) ( K (.ret) (.mk [(6,vB true)] [(0,some (.lis 5 TU8 l))])) (
 branch (decide (W64 (b-a)<50)) ( K (.ret) (.mk [(6,vB false)] [(0,some (.lis 5 TU8 l))])) (
  need (inb (W64 ((scanN l b.toNat i.toNat:Int)-1)) l.length) <|
  need (inb ((scanN l b.toNat i.toNat:Int)) l.length) <|
  need (inb ((scanN l b.toNat i.toNat:Int)) l.length) <|
  need (inb (W64 ((scanN l b.toNat i.toNat:Int)-1)) (l.set ((scanN l b.toNat i.toNat:Int)).toNat (l.getD (W64 ((scanN l b.toNat i.toNat:Int)-1)).toNat 0)).length) <|
  branch (decide (2≤W64 ((scanN l b.toNat i.toNat:Int)-a))) ( none) (
  branch (decide (2≤W64 (b-(scanN l b.toNat i.toNat:Int)))) ( none) ( R (.mk [(0,(.d (.one (.own 0)))),(1,vI a),(2,vI b),(7,vI (scanN l b.toNat i.toNat:Int)),(8,vI (W64 (0+1)))] [(0,(.some (.lis 5 TU8 ((l.set ((scanN l b.toNat i.toNat:Int)).toNat (l.getD (W64 ((scanN l b.toNat i.toNat:Int)-1)).toNat 0)).set (W64 ((scanN l b.toNat i.toNat:Int)-1)).toNat (l.getD ((scanN l b.toNat i.toNat:Int)).toNat 0)))))])))))) ( K (.exit 0) (.mk [] [(0,some (.lis 5 TU8 l))]))):=by kernel_rfl
def cx0_pins:Cx:=(cb_pins).withLoops (look L_scan)
def sh_pins:Sh:=([(0, .own 0),(1, .d TI64),(2, .d TI64),(7, .d TI64),(8, .d TI64)],[(0, .lis 5 TU8)])
abbrev st_pins (a b i j:Int) (l:List (Int)):St:=⟨[(0, .d (.one (.own 0))),(1,vI a),(2,vI b),(7,vI i),(8,vI j)],[(0,some (.lis 5 TU8 l))]⟩
def pre_pins (a b i j:Int) (l:List (Int)):Bool:=decide (j=0)&&(decide (W64 (b-a)<50)&&pre_scan a b i 0 l)
def res_pins (_a b i _j:Int) (l:List (Int)) (K:Cont):Option Fin:=K .ret ⟨[(6,vB (decide (((scanN l b.toNat i.toNat:Nat):Int)=b)))],[(0,some (.lis 5 TU8 l))]⟩
def mu_pins (_a _b _i _j:Int) (_l:List (Int)):Nat:=0
theorem r_pins (a b i j:Int) (l:List (Int)) (K:Cont) (hI:pre_pins a b i j l=true):(∀R:St→Option Fin,evC cx0_pins (loopOf Tryz.f178 0) (st_pins a b i j l) (onward (headAt cx0_pins 3) R K)=res_pins a b i j l K) ∨
  (∃(a' b' i' j':Int) (l':List (Int)),pre_pins a' b' i' j' l'=true∧mu_pins a' b' i' j' l'<mu_pins a b i j l∧res_pins a' b' i' j' l' K=res_pins a b i j l K∧∀R:St→Option Fin,evC cx0_pins (loopOf Tryz.f178 0) (st_pins a b i j l) (onward (headAt cx0_pins 3) R K)=R (st_pins a' b' i' j' l')):=by
 simp only[pre_pins,andd,dec_iff]at hI;obtain⟨rfl,h1,h2⟩:=hI;left;intro R;refine(x_pins l a b i R K).trans ?_;rw[h2,zT h1];simp only[res_pins]
 cases decide (((scanN l b.toNat i.toNat:Nat):Int)=b)<;>rfl
def g_pins:St→Cont→Option Fin:=gP sh_pins (fun v=>match v with | ((a,b,i,j,()),(l,()))=>pre_pins a b i j l) (fun v K=>match v with | ((a,b,i,j,()),(l,()))=>res_pins a b i j l K)
def L_pins:LpL:=(3,g_pins)::L_scan
def cx_pins:Cx:=(cb_pins).withLoops (look L_pins)
theorem l_pins {L:LpL} (n:Nat) (h1:L.drop n=L_scan) (h2:idsFree (L.take n) (loopOf Tryz.f178 0)=true):LoopsTo g_pins (cb_pins) (loopOf Tryz.f178 0) 3 L :=
 with_drop h1 h2 (gP_ok (fun v=>match v with | ((a,b,i,j,()),(l,()))=>mu_pins a b i j l) fun v K hI=>by
  obtain⟨⟨a,b,i,j,⟨⟩⟩,⟨l,⟨⟩⟩⟩:=v;exact(r_pins a b i j l K hI).imp id fun⟨a',b',i',j',l',h⟩=>⟨((a',b',i',j',()),(l',())),h⟩)
theorem y_slices_partialInsertionSortOrdered_byte (l:List Int) (a:Int) (b:Int):evFn cx_pins Tryz.f178 false [.one (.own 0),ofD TI64 a,ofD TI64 b] [.lis 5 TU8 l]=(
need (pre_pins a b (W64 (a+1)) 0 l) <| some ((vB (decide ((scanN l b.toNat (W64 (a+1)).toNat:Int)=b))),[(0,some (.lis 5 TU8 l))])):=by kernel_rfl
def isSrt (l:List Int) (a b:Int):Bool:=decide (((scanN l b.toNat (a.toNat+1):Nat):Int)=b)
theorem s_slices_partialInsertionSortOrdered_byte (l:List (Int)) (_hl:Fit (.list TU8) l) (a:Int) (_ha:Fit TI64 a) (b:Int) (_hb:Fit TI64 b) (hpre:(brkP l a b)=true):Sat Tryz.prog 178 [.one (.own 0),ofD TI64 a,ofD TI64 b] [.lis 5 TU8 l] (.d (ofD .bool (isSrt l a b))) [(0,some (.lis 5 TU8 (l)))] :=
 fn_sound (cx:=cx_pins) Tryz.func178 rfl ttOk Γ46ok mixed (fun c hc=>LoopsOk.all (l:=[(3,loopOf Tryz.f178 0),(5,loopOf Tryz.f178 1),(14,loopOf Tryz.f178 2),(20,loopOf Tryz.f178 3)]) (by cases hc;kernel_rfl) ⟨atLoop rfl (l_pins 1 rfl (by kernel_rfl)),atLoop rfl (l_scan 2 rfl (by kernel_rfl)),(fun _ hg=>nomatch (show none=some _ from hg)),(fun _ hg=>nomatch (show none=some _ from hg)),trivial⟩) (ro:=false) (by
  simp only[brkP,andd,dec_iff,ble_iff]at hpre;obtain⟨h0,h1,h2,h3,h4⟩:=hpre;have w1:W64 (a+1)=a+1:=wrap_small (by omega) (by omega);have w2:W64 (b-a)=b-a:=wrap_small (by omega) (by omega);have hp:pre_pins a b (a+1) 0 l=true:=by simp only[pre_pins,pre_scan,andd,dec_iff,ble_iff,w2,true_and];omega
  rw[y_slices_partialInsertionSortOrdered_byte,w1,hp,show (a+1).toNat=a.toNat+1 by omega];rfl)
def c_slices_partialInsertionSortOrdered_byte:Con:=conL 5 TU8 [TI64,TI64] fun(l:List (Int)) (a:Int) (b:Int)=>(some (brkP l a b), .d (ofD .bool (isSrt l a b)),l)
theorem k_slices_partialInsertionSortOrdered_byte:ConOk Tryz.prog 178 c_slices_partialInsertionSortOrdered_byte:=conL_ok rfl Tryz.call178 fun l hl a ha b hb hqq=>s_slices_partialInsertionSortOrdered_byte l hl a ha b hb (pre_of hqq)
def Γ47:GL:=(178,c_slices_partialInsertionSortOrdered_byte)::Γ46
theorem Γ47ok:GO Γ47 := .cons k_slices_partialInsertionSortOrdered_byte Γ46ok
end
end Go.Proofs.YtmeiebnfmhddnaaGreatDoor.Ev
