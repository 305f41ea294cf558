/-
  The table of the types that these functions use.
-/
import Derived.Test.YtmeiebnfmhddnaaGreatDoorProg
import Derived.Test.YtmeiebnfmhddnaaGreatDoorEv3
import Derived.Sort.AssemblyPlain
namespace Go.Proofs.YtmeiebnfmhddnaaGreatDoor.Ev
open Go
open List (length length_append length_cons length_singleton length_replicate length_set length_take length_drop mem_cons_of_mem mem_cons_self getD replicate mem_append_left mem_append_right all_eq_true drop_eq_getElem_cons drop_eq_nil_of_le append_assoc mem_singleton getElem?_append_left getElem?_append_right getElem?_eq_none getElem?_take mem_append)
noncomputable section
abbrev ty3:Ty:=(.int .i64)
abbrev ty4:Ty := .bool
abbrev ty5:Ty:=(.int .u8)
abbrev ty9:Ty := .str
abbrev ty21:Ty:=(.int .i32)
abbrev ty22:Ty:=(.list (.int .u8))
abbrev ty23:Ty:=(.list (.struct (.pair .str .str)))
abbrev ty25:Ty:=(.struct (.pair .str (.list (.struct (.pair .str .str)))))
abbrev ty35:Ty:=(.struct (.pair (.int .i64) (.pair (.int .i64) .str)))
abbrev ty40:Ty:=(.list (.struct (.pair (.int .i64) (.pair (.int .i64) .str))))
abbrev ty44:Ty:=(.list (.struct (.pair .str .str)))
abbrev ty46:Ty:=(.struct (.pair .str (.list (.struct (.pair .str .str)))))
abbrev ty63:Ty:=(.struct (.pair .str .str))
abbrev ty68:Ty:=(.list (.int .i64))
abbrev ty100:Ty:=(.ref (.struct (.pair (.struct (.pair .str (.list (.struct (.pair .str .str))))) (.pair .str (.map (.struct (.pair .str (.pair (.int .i64) (.int .i64)))) (.int .i64))))))
abbrev ty101:Ty:=(.map (.struct (.pair .str (.pair (.int .i64) (.int .i64)))) (.int .i64))
abbrev ty103:Ty:=(.struct (.pair (.struct (.pair .str (.list (.struct (.pair .str .str))))) (.pair .str (.map (.struct (.pair .str (.pair (.int .i64) (.int .i64)))) (.int .i64)))))
abbrev ty106:Ty:=(.struct (.pair .str (.pair (.int .i64) (.int .i64))))
abbrev ty107:Ty:=(.list (.list (.int .i64)))
abbrev ty109:Ty:=(.list (.list (.list (.int .i64))))
abbrev ty116:Ty:=(.struct (.pair .str .str))
abbrev ty159:Ty:=(.int .u64)
abbrev ty173:Ty:=(.int .u32)
abbrev ty176:Ty:=(.int .u64)
abbrev ty181:Ty:=(.int .i64)
abbrev ty192:Ty:=(.int .u64)
abbrev ty196:Ty:=(.ref (.int .i64))
abbrev ty203:Ty:=(.ref (.int .u64))
def ttList:List (Nat×TI):=[(3,⟨Tryz.t3,Tryz.t3.desc,[],some ty3⟩),
 (4,⟨Tryz.t4,Tryz.t4.desc,[],some ty4⟩),
 (5,⟨Tryz.t5,Tryz.t5.desc,[],some ty5⟩),
 (9,⟨Tryz.t9,Tryz.t9.desc,[],some ty9⟩),
 (21,⟨Tryz.t21,Tryz.t21.desc,[],some ty21⟩),
 (22,⟨Tryz.t22,Tryz.t22.desc,[.v (.int .u8 0)],some ty22⟩),
 (23,⟨Tryz.t23,Tryz.t23.desc,[.v (.string (mk [])), .v (.string (mk []))],some ty23⟩),
 (25,⟨Tryz.t25,Tryz.t24.desc,[],some ty25⟩),
 (35,⟨Tryz.t35,Tryz.t34.desc,[],some ty35⟩),
 (40,⟨Tryz.t40,Tryz.t40.desc,[.v (.int .i64 0), .v (.int .i64 0), .v (.string (mk []))],some ty40⟩),
 (44,⟨Tryz.t44,Tryz.t44.desc,[.v (.string (mk [])), .v (.string (mk []))],some ty44⟩),
 (46,⟨Tryz.t46,Tryz.t45.desc,[],some ty46⟩),
 (61,⟨Tryz.t61,Tryz.t61.desc,[],none⟩),
 (63,⟨Tryz.t63,Tryz.t62.desc,[],some ty63⟩),
 (68,⟨Tryz.t68,Tryz.t68.desc,[.v (.int .i64 0)],some ty68⟩),
 (100,⟨Tryz.t100,Tryz.t100.desc,[],some ty100⟩),
 (101,⟨Tryz.t101,Tryz.t101.desc,[],some ty101⟩),
 (103,⟨Tryz.t103,Tryz.t102.desc,[],some ty103⟩),
 (106,⟨Tryz.t106,Tryz.t105.desc,[],some ty106⟩),
 (107,⟨Tryz.t107,Tryz.t107.desc,[],some ty107⟩),
 (109,⟨Tryz.t109,Tryz.t108.desc,[],some ty109⟩),
 (116,⟨Tryz.t116,Tryz.t62.desc,[],some ty116⟩),
 (127,⟨Tryz.t127,Tryz.t127.desc,[],none⟩),
 (152,⟨Tryz.t152,Tryz.t151.desc,[],none⟩),
 (156,⟨Tryz.t156,Tryz.t156.desc,[],none⟩),
 (159,⟨Tryz.t159,Tryz.t159.desc,[],some ty159⟩),
 (173,⟨Tryz.t173,Tryz.t173.desc,[],some ty173⟩),
 (176,⟨Tryz.t176,Tryz.t176.desc,[],some ty176⟩),
 (181,⟨Tryz.t181,Tryz.t3.desc,[],some ty181⟩),
 (192,⟨Tryz.t192,Tryz.t176.desc,[],some ty192⟩),
 (196,⟨Tryz.t196,Tryz.t196.desc,[],some ty196⟩),
 (203,⟨Tryz.t203,Tryz.t203.desc,[],some ty203⟩)]
def tt:Types:=look ttList
theorem ttOk:TTok Tryz.prog tt:=TTok.of (l:=ttList) ⟨
 ⟨(by kernel_rfl),(by kernel_rfl),fun _ h=>(by cases h)⟩,
 ⟨(by kernel_rfl),(by kernel_rfl),fun _ h=>(by cases h)⟩,
 ⟨(by kernel_rfl),(by kernel_rfl),fun _ h=>(by cases h)⟩,
 ⟨(by kernel_rfl),(by kernel_rfl),fun _ h=>(by cases h)⟩,
 ⟨(by kernel_rfl),(by kernel_rfl),fun _ h=>(by cases h)⟩,
 ⟨(by kernel_rfl),(by kernel_rfl),fun _ h=>(by cases h)⟩,
 ⟨(by kernel_rfl),(by kernel_rfl),fun _ h=>(by cases h)⟩,
 ⟨(by kernel_rfl),(by kernel_rfl),fun _ _=>⟨Tryz.stoodInHeld25,Tryz.eqGuardType25⟩⟩,
 ⟨(by kernel_rfl),(by kernel_rfl),fun _ _=>⟨Tryz.stoodInHeld35,Tryz.eqGuardType35⟩⟩,
 ⟨(by kernel_rfl),(by kernel_rfl),fun _ h=>(by cases h)⟩,
 ⟨(by kernel_rfl),(by kernel_rfl),fun _ h=>(by cases h)⟩,
 ⟨(by kernel_rfl),(by kernel_rfl),fun _ _=>⟨Tryz.stoodInHeld46,Tryz.eqGuardType46⟩⟩,
 ⟨(by kernel_rfl),(by kernel_rfl),fun _ h=>(by cases h)⟩,
 ⟨(by kernel_rfl),(by kernel_rfl),fun _ _=>⟨Tryz.stoodInHeld63,Tryz.eqGuardType63⟩⟩,
 ⟨(by kernel_rfl),(by kernel_rfl),fun _ h=>(by cases h)⟩,
 ⟨(by kernel_rfl),(by kernel_rfl),fun _ h=>(by cases h)⟩,
 ⟨(by kernel_rfl),(by kernel_rfl),fun _ h=>(by cases h)⟩,
 ⟨(by kernel_rfl),(by kernel_rfl),fun _ _=>⟨Tryz.stoodInHeld103,Tryz.eqGuardType103⟩⟩,
 ⟨(by kernel_rfl),(by kernel_rfl),fun _ _=>⟨Tryz.stoodInHeld106,Tryz.eqGuardType106⟩⟩,
 ⟨(by kernel_rfl),(by kernel_rfl),fun _ h=>(by cases h)⟩,
 ⟨(by kernel_rfl),(by kernel_rfl),fun _ h=>(by cases h)⟩,
 ⟨(by kernel_rfl),(by kernel_rfl),fun _ _=>⟨Tryz.stoodInHeld116,Tryz.eqGuardType116⟩⟩,
 ⟨(by kernel_rfl),(by kernel_rfl),fun _ h=>(by cases h)⟩,
 ⟨(by kernel_rfl),(by kernel_rfl),fun _ h=>(by cases h)⟩,
 ⟨(by kernel_rfl),(by kernel_rfl),fun _ h=>(by cases h)⟩,
 ⟨(by kernel_rfl),(by kernel_rfl),fun _ h=>(by cases h)⟩,
 ⟨(by kernel_rfl),(by kernel_rfl),fun _ h=>(by cases h)⟩,
 ⟨(by kernel_rfl),(by kernel_rfl),fun _ h=>(by cases h)⟩,
 ⟨(by kernel_rfl),(by kernel_rfl),fun _ h=>(by cases h)⟩,
 ⟨(by kernel_rfl),(by kernel_rfl),fun _ h=>(by cases h)⟩,
 ⟨(by kernel_rfl),(by kernel_rfl),fun _ h=>(by cases h)⟩,
 ⟨(by kernel_rfl),(by kernel_rfl),fun _ h=>(by cases h)⟩,
 trivial⟩
def cxOf (Γ:List (Nat×Con)) (size:Nat) (heads ends:List (Nat×List Nat)) (nils:List (Nat×List (Nat×TypeId×Ty))) (loops:List (Nat×(St→Cont→Option Fin))):Cx:=⟨tt,look Γ,size,heads,ends,[],nils,look loops⟩
theorem mixed:Tryz.prog.follows .mixedOrders=true:=by kernel_rfl
def bodyOf (fn:Func):Code:=match fn.body with | some c=>c | none => .skip
def loopOf (fn:Func) (k:Nat):Code:=match (loopsOf (bodyOf fn))[k]? with | some (_,b)=>b | none => .skip
abbrev LpL:=List (Nat×(St→Cont→Option Fin))
abbrev LoopsTo (g:St→Cont→Option Fin) (cb:Cx) (body:Code) (id:Nat) (L:LpL):Prop:=∀st K r,g st K=some r→∃N,iter (evC (cb.withLoops (look L)) body) (headAt (cb.withLoops (look L)) id) N st K=some r
abbrev GL:=List (Nat×Con)
abbrev GO (l:GL):Prop:=EnvOk Tryz.prog (look l)
abbrev kp0:T := .d (.one (.ptr 500000 0))
abbrev kp1:T := .d (.one (.ptr 500001 0))
abbrev ko0:T := .d (.one (.own 500000))
abbrev ko1:T := .d (.one (.own 500001))
abbrev ko2:T := .d (.one (.own 500002))
abbrev ko3:T := .d (.one (.own 500003))
def Γ0:List (Nat×Con):=[]
theorem Γ0ok:EnvOk Tryz.prog (look Γ0) := .nil
abbrev no:Option Fin:=some (.d (ofD .bool false),[])
abbrev TI64:Ty := .int .i64
abbrev Str:Type:=List UInt8
def isB:R→Bool
 | .v (.bool _)=>true
 |_=>false
def theB:R→Bool
 | .v (.bool b)=>b
 |_=>false
def boolsB (get:Nat→R):Bool:=(List.range 256).all fun i=>isB (get i)
def ropB (p:Nat→Bool):R := .rop 256 fun i => .v (.bool (p i))
abbrev arg1 (r:R):D := .one (.r r)
theorem bools_at {get:Nat→R} (h:boolsB get=true) {i:Nat} (hi:i<256):get i = .v (.bool (theB (get i))):=by
 have h1:=all_eq_true.1 h i (List.mem_range.2 hi)
 generalize get i=r at h1 ⊢
 unfold isB at h1
 split at h1
 ·rfl
 ·cases h1
theorem rop_bools {w:World} {F:Nat→Prop} {h:HF} {β:Nat→Value} {m:Nat} {get:Nat→R} {u:Value} (hb:(Nat.beq m 256&&boolsB get)=true) (hr:RepD w F h β (arg1 (.rop m get)) u):RepD w F h β (arg1 (ropB fun i=>theB (get i))) u:=by
 simp only[Bool.and_eq_true]at hb;have:=zB hb.1;subst this;obtain⟨b,off,h1,h2,h3⟩:=hr;refine⟨b,off,h1,h2,fun j hj => ?_⟩;obtain⟨y,g1,g2⟩:=h3 j hj;exact⟨y,g1,by rw[bools_at hb.2 hj]at g2;exact g2⟩
theorem y_asciiHas (p:Nat→Bool) (n:Int):evFn (cxOf Γ0 Tryz.f159.ntmps [] [] [] []) Tryz.f159 true [arg1 (ropB p),ofD (.int .u8) n] []=need (inb n 256) (some (.d (ofD .bool (p (n.toNat*1+0))),[])):=by kernel_rfl
theorem s_asciiHas (p:Nat→Bool) (n:Int) (h0:0≤n) (h1:n<256):Sat Tryz.prog 159 [arg1 (ropB p),ofD (.int .u8) n] [] (.d (ofD .bool (p n.toNat))) [] :=
 fn_sound (cx:=cxOf Γ0 Tryz.f159.ntmps [] [] [] []) Tryz.func159 rfl ttOk Γ0ok mixed (fun c hc=>LoopsOk.nil (by cases hc;kernel_rfl)) (ro:=true) (by
  rw[y_asciiHas,inb_ok h0 (by omega),Nat.mul_one,Nat.add_zero];rfl)
def c_strings_asciiSet_contains:Con:=⟨true,fun ds os=>match ds,os with
 | [.one (.r (.rop m get)), .one (.r (.v (.int .u8 n)))],[]=>some (some (Nat.beq m 256&&boolsB get), .d (ofD .bool (theB (get n.toNat))),[])
 |_,_=>none⟩
theorem k_strings_asciiSet_contains:ConOk Tryz.prog 159 c_strings_asciiSet_contains:=by
 refine⟨Tryz.call159,fun ds os c x objs hc hok => ?_⟩;unfold c_strings_asciiSet_contains at hc;dsimp only at hc
 split at hc
 ·rename_i m get n
  cases hc
  rcases hok with h | h
  ·cases h
  ·have hb:=Option.some.inj h;intro w F β args H hds
   cases hds with | cons g1 g2=>cases g2 with | cons g2 g3 =>
   have hf:=RepD_fit (t := .int .u8) (x:=n) g2;have hf:IntKind.u8.wrap n=n:=hf;rw[IntKind.wrap_u8]at hf;exact s_asciiHas (fun i=>theB (get i)) n (by omega) (by omega) w F β _ H (.cons (rop_bools hb g1) (.cons g2 g3))
 ·cases hc
def Γ1:GL:=(159,c_strings_asciiSet_contains)::Γ0
theorem Γ1ok:GO Γ1 := .cons k_strings_asciiSet_contains Γ0ok
abbrev W64 (n:Int):Int:=IntKind.i64.wrap n
def hasB (get:Nat→R) (c:UInt8):Bool:=theB (get c.toNat)
def trimR (p:UInt8→Bool) (s:List UInt8):List UInt8:=(s.reverse.dropWhile p).reverse
def trimL (p:UInt8→Bool) (s:List UInt8):List UInt8:=s.dropWhile p
def g_trim (f:(UInt8→Bool)→List UInt8→List UInt8) (st:St) (K:Cont):Option Fin:=match st with
 | ⟨[(0,x0),(1, .d (.one (.r (.rop m get))))],[]⟩=>match exS x0 with
  |some s=>need (Nat.ble s.length 9223372036854775807) (need (Nat.beq m 256&&boolsB get) (K (.exit 0) ⟨[(0,vS (f (hasB get) s))],[]⟩))
  |none=>none
 |_=>none
theorem trim_loop {f:(UInt8→Bool)→List UInt8→List UInt8} {F:St→Cont→Option Fin} {head:St→St}
  (h:∀(N:Nat) (s:List UInt8) (get:Nat→R) (K:Cont) (r:Fin),s.length<N→s.length≤9223372036854775807→boolsB get=true→K (.exit 0) ⟨[(0,vS (f (hasB get) s))],[]⟩=some r→iter F head N ⟨[(0,vS s),(1, .d (arg1 (.rop 256 get)))],[]⟩ K=some r) :
  ∀st K r,g_trim f st K=some r→∃N,iter F head N st K=some r:=by
 intro st K r hg;unfold g_trim at hg
 split at hg
 ·split at hg
  ·rename_i s hs;rw[need_some,need_some,Nat.ble_eq,Bool.and_eq_true]at hg;obtain⟨h0,⟨h1,h2⟩,h3⟩:=hg;have:=zB h1;subst this;rw[exS_some hs];exact⟨_,h _ s _ K r (Nat.lt_succ_self _) h0 h2 h3⟩
  ·cases hg
 ·cases hg
theorem byteAt_0 (c:UInt8) (s:List UInt8):(byteAt (c::s) 0).toNat=c.toNat:=rfl
def cx_trimLeftASCII:Cx:=cxOf Γ1 Tryz.f142.ntmps [(1,[0,1])] [(0,[0]),(1,[0,1])] [] [(1,g_trim trimL)]
theorem x_trimLeftASCII (s:Str) (get:Nat→R) (R:St→Option Fin) (K:Cont):evC cx_trimLeftASCII (loopOf Tryz.f142 0) ⟨[(0,vS s),(1, .d (arg1 (.rop 256 get)))],[]⟩ (onward (headAt cx_trimLeftASCII 1) R K) =
  branch (decide ((0:Int)<(s.length:Int))) (need (inb 0 s.length) <| need (Nat.beq 256 256&&boolsB get) <| branch (!theB (get (byteAt s 0).toNat)) (K (.exit 0) ⟨[(0,vS s)],[]⟩)
   (need (inr 1 (s.length:Int) s.length) <| R ⟨[(0,vS (List.take ((s.length:Int).toNat-(1:Int).toNat) (List.drop (1:Int).toNat s))),(1, .d (arg1 (.rop 256 get)))],[]⟩))
  (K (.exit 0) ⟨[(0,vS s)],[]⟩):=by kernel_rfl
theorem l_trimLeftASCII:∀st K r,g_trim trimL st K=some r→∃N,iter (evC cx_trimLeftASCII (loopOf Tryz.f142 0)) (headAt cx_trimLeftASCII 1) N st K=some r:=by
 refine trim_loop fun N => ?_
 induction N with
 |zero=>intro s get K r hN;omega
 |succ N ih =>
  intro s get K r hN hl hb hr;rw[iter_succ,x_trimLeftASCII]
  cases s with
  |nil=>exact hr
  |cons c s =>
   have hi:inr 1 ((c::s).length:Int) (c::s).length=true:=zT ⟨by omega,by simp;omega,by omega⟩;rw[zT (by simp:(0:Int)<((c::s).length:Int)),branch_true,inb_ok (by omega) (by simp),hb,hi,byteAt_0];simp only[need,branch_true,Nat.beq_refl,Bool.true_and,Int.toNat_natCast];have hd:trimL (hasB get) (c::s)=bif hasB get c then trimL (hasB get) s else c::s:=by unfold trimL;rw[List.dropWhile_cons];cases hasB get c<;>rfl
   rw[hd]at hr;unfold hasB at hr
   cases hc:theB (get c.toNat)
   ·rw[hc]at hr;exact hr
   ·rw[hc]at hr;rw[Bool.not_true,branch_false];have e:List.take ((c::s).length-(1:Int).toNat) (List.drop (1:Int).toNat (c::s))=s:=by simp
    rw[e];exact ih s get K r (by simp at hN;omega) (by simp at hl;omega) hb hr
theorem y_trimLeftASCII (s:Str) (p:Nat→Bool):evFn cx_trimLeftASCII Tryz.f142 true [ofD .str s,arg1 (ropB p)] []=need (Nat.ble s.length 9223372036854775807) (some (.d (ofD .str (trimL (hasB fun i => .v (.bool (p i))) s)),[])):=by kernel_rfl
theorem s_trimLeftASCII (s:Str) (p:Nat→Bool) (hs:s.length≤9223372036854775807):Sat Tryz.prog 142 [ofD .str s,arg1 (ropB p)] [] (.d (ofD .str (trimL (fun c=>p c.toNat) s))) [] :=
 fn_sound (cx:=cx_trimLeftASCII) Tryz.func142 rfl ttOk Γ1ok mixed (fun c hc=>LoopsOk.one (b:=loopOf Tryz.f142 0) (id:=1) (g:=g_trim trimL) (by cases hc;kernel_rfl) rfl l_trimLeftASCII) (ro:=true) (by
  rw[y_trimLeftASCII,Nat.ble_eq_true_of_le hs];rfl)
def c_strings_trimLeftASCII:Con:=⟨true,fun ds os=>match ds,os with
 | [.one (.r (.v (.string s))), .one (.r (.rop m get))],[]=>some (some (Nat.beq m 256&&boolsB get), .d (ofD .str (trimL (hasB get) s.data.toList)),[])
 |_,_=>none⟩
theorem k_strings_trimLeftASCII:ConOk Tryz.prog 142 c_strings_trimLeftASCII:=by
 refine⟨Tryz.call142,fun ds os c x objs hc hok => ?_⟩;unfold c_strings_trimLeftASCII at hc;dsimp only at hc
 split at hc
 ·rename_i s m get
  cases hc
  rcases hok with h | h
  ·cases h
  ·have hb:=Option.some.inj h;intro w F β args H hds
   cases hds with | cons g1 g2=>cases g2 with | cons g2 g3 =>
   have hf:s.data.toList.length≤9223372036854775807:=RepD_fit (t := .str) (x:=s.data.toList) g1;exact s_trimLeftASCII s.data.toList (fun i=>theB (get i)) hf w F β _ H (.cons g1 (.cons (rop_bools hb g2) g3))
 ·cases hc
def Γ2:GL:=(142,c_strings_trimLeftASCII)::Γ1
theorem Γ2ok:GO Γ2 := .cons k_strings_trimLeftASCII Γ1ok
def cx_trimRightASCII:Cx:=cxOf Γ2 Tryz.f143.ntmps [(1,[0,1])] [(0,[0]),(1,[0,1])] [] [(1,g_trim trimR)]
theorem x_trimRightASCII (s:Str) (get:Nat→R) (R:St→Option Fin) (K:Cont):evC cx_trimRightASCII (loopOf Tryz.f143 0) ⟨[(0,vS s),(1, .d (arg1 (.rop 256 get)))],[]⟩ (onward (headAt cx_trimRightASCII 1) R K) =
  branch (decide ((0:Int)<(s.length:Int))) (need (inb (W64 ((s.length:Int)-1)) s.length) <| need (Nat.beq 256 256&&boolsB get) <| branch (!theB (get (byteAt s (W64 ((s.length:Int)-1))).toNat)) (K (.exit 0) ⟨[(0,vS s)],[]⟩)
   (need (inr 0 (W64 ((s.length:Int)-1)) s.length) <| R ⟨[(0,vS (List.take ((W64 ((s.length:Int)-1)).toNat-(0:Int).toNat) (List.drop (0:Int).toNat s))),(1, .d (arg1 (.rop 256 get)))],[]⟩))
  (K (.exit 0) ⟨[(0,vS s)],[]⟩):=by kernel_rfl
theorem trimR_snoc (p:UInt8→Bool) (s:List UInt8) (c:UInt8):trimR p (s++[c])=bif p c then trimR p s else s++[c]:=by
 unfold trimR;rw[List.reverse_append];show(List.dropWhile p (c::s.reverse)).reverse=_;rw[List.dropWhile_cons]
 cases p c
 ·simp
 ·rfl
theorem l_trimRightASCII:∀st K r,g_trim trimR st K=some r→∃N,iter (evC cx_trimRightASCII (loopOf Tryz.f143 0)) (headAt cx_trimRightASCII 1) N st K=some r:=by
 refine trim_loop fun N => ?_
 induction N with
 |zero=>intro s get K r hN;omega
 |succ N ih =>
  intro s get K r hN hl hb hr;rw[iter_succ,x_trimRightASCII];have hcc:s=[]∨∃l c,s=l++[c]:=by
   rcases List.eq_nil_or_concat s with hn | ⟨l,e,hl⟩
   ·exact .inl hn
   ·exact .inr ⟨l,e,by rw[hl,List.concat_eq_append]⟩
  rcases hcc with rfl | ⟨s,c,rfl⟩
  ·exact hr
  ·have hlen:(s++[c]).length=s.length+1:=by simp
   rw[hlen]at hN hl ⊢;have e1:W64 (((s.length+1:Nat):Int)-1)=(s.length:Int):=by simp only[W64];rw[wrap_small (by omega) (by omega)];omega
   have e2:byteAt (s++[c]) (s.length:Int)=(c.toNat:Int):=by unfold byteAt;simp[getD]
   have hi:inr 0 (s.length:Int) (s.length+1)=true:=zT ⟨by omega,by omega,by omega⟩;rw[zT (by omega:(0:Int)<((s.length+1:Nat):Int)),branch_true,e1,e2,inb_ok (by omega) (by omega),hb,hi];simp only[need,branch_true,Nat.beq_refl,Bool.true_and,Int.toNat_natCast];rw[trimR_snoc]at hr;unfold hasB at hr
   cases hc:theB (get c.toNat)
   ·rw[hc]at hr;exact hr
   ·rw[hc]at hr;rw[Bool.not_true,branch_false];have e:List.take (s.length-(0:Int).toNat) (List.drop (0:Int).toNat (s++[c]))=s:=by simp
    rw[e];exact ih s get K r (by omega) (by omega) hb hr
theorem y_trimRightASCII (s:Str) (p:Nat→Bool):evFn cx_trimRightASCII Tryz.f143 true [ofD .str s,arg1 (ropB p)] []=need (Nat.ble s.length 9223372036854775807) (some (.d (ofD .str (trimR (hasB fun i => .v (.bool (p i))) s)),[])):=by kernel_rfl
theorem s_trimRightASCII (s:Str) (p:Nat→Bool) (hs:s.length≤9223372036854775807):Sat Tryz.prog 143 [ofD .str s,arg1 (ropB p)] [] (.d (ofD .str (trimR (fun c=>p c.toNat) s))) [] :=
 fn_sound (cx:=cx_trimRightASCII) Tryz.func143 rfl ttOk Γ2ok mixed (fun c hc=>LoopsOk.one (b:=loopOf Tryz.f143 0) (id:=1) (g:=g_trim trimR) (by cases hc;kernel_rfl) rfl l_trimRightASCII) (ro:=true) (by
  rw[y_trimRightASCII,Nat.ble_eq_true_of_le hs];rfl)
def c_strings_trimRightASCII:Con:=⟨true,fun ds os=>match ds,os with
 | [.one (.r (.v (.string s))), .one (.r (.rop m get))],[]=>some (some (Nat.beq m 256&&boolsB get), .d (ofD .str (trimR (hasB get) s.data.toList)),[])
 |_,_=>none⟩
theorem k_strings_trimRightASCII:ConOk Tryz.prog 143 c_strings_trimRightASCII:=by
 refine⟨Tryz.call143,fun ds os c x objs hc hok => ?_⟩;unfold c_strings_trimRightASCII at hc;dsimp only at hc
 split at hc
 ·rename_i s m get
  cases hc
  rcases hok with h | h
  ·cases h
  ·have hb:=Option.some.inj h;intro w F β args H hds
   cases hds with | cons g1 g2=>cases g2 with | cons g2 g3 =>
   have hf:s.data.toList.length≤9223372036854775807:=RepD_fit (t := .str) (x:=s.data.toList) g1;exact s_trimRightASCII s.data.toList (fun i=>theB (get i)) hf w F β _ H (.cons g1 (.cons (rop_bools hb g2) g3))
 ·cases hc
def Γ3:GL:=(143,c_strings_trimRightASCII)::Γ2
theorem Γ3ok:GO Γ3 := .cons k_strings_trimRightASCII Γ2ok
def cutA:Str:=[97,98,99,100]
def cutB:Str:=[65,66,67,68,69,97,98,99,100]
def isCut (s:Str):Bool:=decide (s=cutA)||decide (s=cutB)
def setOf (l:Str) (i:Nat):Bool:=l.any fun c=>Nat.beq c.toNat i
def cells256 (l:Str):List C:=(List.range 256).map fun i => .r (.v (.bool (setOf l i)))
def inCut (l:Str) (c:UInt8):Bool:=setOf l c.toNat
def trim (cut s:Str):Str:=trimL (inCut cut) (trimR (inCut cut) s)
theorem isCut_iff {s:Str} (h:isCut s=true):s=cutA∨s=cutB:=by
 unfold isCut at h;rw[Bool.or_eq_true,decide_eq_true_eq,decide_eq_true_eq]at h;exact h
def cx_mkSet0:Cx:=cxOf Γ3 Tryz.f141.ntmps [(2,[0,2,4])] [(0,[2]),(1,[0,2,4])] [] []
def cx_mkSet:Cx:=cx_mkSet0.withLoops (look [(2,unroll cx_mkSet0 (loopOf Tryz.f141 0) 2 12)])
theorem y_mkSetA:evFn cx_mkSet Tryz.f141 true [ofD .str cutA] []=some (.tup [.agg (cells256 cutA), .one (.r (.v (.bool true)))],[]):=by kernel_rfl
theorem y_mkSetB:evFn cx_mkSet Tryz.f141 true [ofD .str cutB] []=some (.tup [.agg (cells256 cutB), .one (.r (.v (.bool true)))],[]):=by kernel_rfl
theorem s_mkSet (s:Str) (h:isCut s=true):Sat Tryz.prog 141 [ofD .str s] [] (.tup [.agg (cells256 s), .one (.r (.v (.bool true)))]) [] :=
 fn_sound (cx:=cx_mkSet) Tryz.func141 rfl ttOk Γ3ok mixed (fun c hc=>LoopsOk.one (b:=loopOf Tryz.f141 0) (id:=2) (g:=unroll cx_mkSet0 (loopOf Tryz.f141 0) 2 12) (by cases hc;kernel_rfl) rfl (unroll_ok (by kernel_rfl))) (ro:=true) (by
  rcases isCut_iff h with rfl | rfl
  ·exact y_mkSetA
  ·exact y_mkSetB)
def c_strings_makeASCIISet:Con:=⟨true,fun ds os=>match ds,os with
 | [.one (.r (.v (.string s)))],[]=>match isCut s.data.toList with
  |true=>some (none, .tup [.agg (cells256 s.data.toList), .one (.r (.v (.bool true)))],[])
  |false=>none
 |_,_=>none⟩
theorem k_strings_makeASCIISet:ConOk Tryz.prog 141 c_strings_makeASCIISet:=by
 refine⟨Tryz.call141,fun ds os c x objs hc hok => ?_⟩;unfold c_strings_makeASCIISet at hc;dsimp only at hc
 split at hc
 ·rename_i s
  split at hc
  ·rename_i hb
   cases hc
   exact s_mkSet s.data.toList hb
  ·cases hc
 ·cases hc
def Γ4:GL:=(141,c_strings_makeASCIISet)::Γ3
theorem Γ4ok:GO Γ4 := .cons k_strings_makeASCIISet Γ3ok
theorem y_trimA (s:Str):evFn (cxOf Γ4 Tryz.f105.ntmps [] [] [] []) Tryz.f105 true [ofD .str s,ofD .str cutA] []=branch (bif decide (s=[])then true else false) (some (.d (ofD .str s),[])) (need true (need true (some (.d (ofD .str (trimL (hasB fun i=>((List.range 256).map fun i=>R.v (.bool (setOf cutA i))).getD i z0) (trimR (hasB fun i=>((List.range 256).map fun i=>R.v (.bool (setOf cutA i))).getD i z0) s))),[])))):=by kernel_rfl
theorem y_trimB (s:Str):evFn (cxOf Γ4 Tryz.f105.ntmps [] [] [] []) Tryz.f105 true [ofD .str s,ofD .str cutB] []=branch (bif decide (s=[])then true else false) (some (.d (ofD .str s),[])) (need true (need true (some (.d (ofD .str (trimL (hasB fun i=>((List.range 256).map fun i=>R.v (.bool (setOf cutB i))).getD i z0) (trimR (hasB fun i=>((List.range 256).map fun i=>R.v (.bool (setOf cutB i))).getD i z0) s))),[])))):=by kernel_rfl
theorem hasB_cells (cut:Str):(hasB fun i=>((List.range 256).map fun i=>R.v (.bool (setOf cut i))).getD i z0)=inCut cut:=by
 funext c
 unfold hasB inCut;show theB (((List.range 256).map fun i=>R.v (.bool (setOf cut i))).getD c.toNat z0)=_;rw[zG,List.getElem?_map,List.getElem?_range c.toNat_lt];rfl
theorem s_trim (s cut:Str) (h:isCut cut=true):Sat Tryz.prog 105 [ofD .str s,ofD .str cut] [] (.d (ofD .str (trim cut s))) [] :=
 fn_sound (cx:=cxOf Γ4 Tryz.f105.ntmps [] [] [] []) Tryz.func105 rfl ttOk Γ4ok mixed (fun c hc=>LoopsOk.nil (by cases hc;kernel_rfl)) (ro:=true) (by
  have key:∀(cut:Str),branch (bif decide (s=[])then true else false) (some ((.d (ofD .str s),[]):Fin)) (need true (need true (some (.d (ofD .str (trimL (hasB fun i=>((List.range 256).map fun i=>R.v (.bool (setOf cut i))).getD i z0) (trimR (hasB fun i=>((List.range 256).map fun i=>R.v (.bool (setOf cut i))).getD i z0) s))),[]))))=some (.d (ofD .str (trim cut s)),[]):=by
   intro cut;rw[hasB_cells]
   by_cases hs:s=[]
   ·subst hs;rfl
   ·rw[zF hs];rfl
  rcases isCut_iff h with rfl | rfl
  ·rw[y_trimA];exact key cutA
  ·rw[y_trimB];exact key cutB)
def c_strings_Trim:Con:=conT [.str, .str] fun s cut=>(some (isCut cut), .d (ofD .str (trim cut s)))
theorem k_strings_Trim:ConOk Tryz.prog 105 c_strings_Trim:=conT_ok Tryz.call105 fun s _ cut _ h=>s_trim s cut (by
 rcases h with h | h
 ·cases h
 ·exact Option.some.inj h)
def Γ5:GL:=(105,c_strings_Trim)::Γ4
theorem Γ5ok:GO Γ5 := .cons k_strings_Trim Γ4ok
theorem dropWhile_nil {p:UInt8→Bool}:∀ {s:Str},s.dropWhile p=[]↔s.all p=true
 | []=>by simp
 |c::s=>by
  rw[List.dropWhile_cons,List.all_cons]
  cases h:p c
  ·simp
  ·simp[dropWhile_nil (s:=s)]
theorem trim_nil {cut s:Str}:trim cut s=[]↔s.all (inCut cut)=true:=by
 unfold trim trimL trimR;rw[dropWhile_nil,List.all_reverse]
 constructor
 ·intro h;have h1:∀(l:Str),(l.dropWhile (inCut cut)).all (inCut cut)=true→l.all (inCut cut)=true:=by
   intro l
   induction l with
   |nil=>intro _;rfl
   |cons c l ih =>
    intro hl;rw[List.dropWhile_cons]at hl
    cases hc:inCut cut c
    ·rw[hc]at hl;exact hl
    ·rw[hc]at hl;rw[List.all_cons,hc,ih hl];rfl
  have:=h1 _ h
  rwa [List.all_reverse]at this
 ·intro h;have:s.reverse.dropWhile (inCut cut)=[]:=dropWhile_nil.2 (by rw[List.all_reverse];exact h);rw[this];rfl
theorem inCut_A (c:UInt8):inCut cutA c=(Nat.ble 97 c.toNat&&Nat.ble c.toNat 100):=by
 have:∀n:_root_.Fin 256,setOf cutA n.val=(Nat.ble 97 n.val&&Nat.ble n.val 100):=by decide +kernel
 exact this ⟨c.toNat,c.toNat_lt⟩
theorem inCut_B (c:UInt8):inCut cutB c=((Nat.ble 65 c.toNat&&Nat.ble c.toNat 69)||(Nat.ble 97 c.toNat&&Nat.ble c.toNat 100)):=by
 have:∀n:_root_.Fin 256,setOf cutB n.val=((Nat.ble 65 n.val&&Nat.ble n.val 69)||(Nat.ble 97 n.val&&Nat.ble n.val 100)):=by decide +kernel
 exact this ⟨c.toNat,c.toNat_lt⟩
def small (c:UInt8):Bool:=Nat.ble 97 c.toNat&&Nat.ble c.toNat 100
def smallS:Str→Bool
 | [c]=>small c
 |_=>false
theorem smallS_one {s:Str} (h:smallS s=true):∃c,s=[c]∧small c=true:=by
 unfold smallS at h
 split at h
 ·exact ⟨_,rfl,h⟩
 ·cases h
def smallI (c:Int):Bool:=bif decide (97≤c)then decide (c≤100)else false
theorem smallI_nat (c:UInt8):smallI (c.toNat:Int)=small c:=by
 unfold smallI small
 by_cases h1:97≤c.toNat
 ·rw[zT (by omega:(97:Int)≤(c.toNat:Int)),Nat.ble_eq_true_of_le h1]
  by_cases h2:c.toNat≤100
  ·rw[Nat.ble_eq_true_of_le h2];simp;omega
  ·have:Nat.ble c.toNat 100=false:=by
    cases hb:Nat.ble c.toNat 100
    ·rfl
    ·exact absurd (Nat.le_of_ble_eq_true hb) h2
   rw[this];simp;omega
 ·have:Nat.ble 97 c.toNat=false:=by
   cases hb:Nat.ble 97 c.toNat
   ·rfl
   ·exact absurd (Nat.le_of_ble_eq_true hb) h1
  rw[zF (by omega:¬(97:Int)≤(c.toNat:Int)),this];rfl
theorem byteAt_get {s:Str} {i:Int} (_h0:0≤i) (h1:i.toNat<s.length):byteAt s i=(s[i.toNat].toNat:Int):=by
 unfold byteAt;rw[zG,zE h1];rfl
theorem s_spec_l1Small (c:Int) (_hc:Fit (.int .u8) c):Sat Tryz.prog 130 [ofD (.int .u8) c] [] (.d (ofD .bool (smallI c))) [] :=
 fn_sound (cx:=cxOf Γ5 Tryz.f130.ntmps [] [] [] []) Tryz.func130 rfl ttOk Γ5ok mixed (fun _ _=>LoopsOk.no fun _=>rfl) (ro:=true) (by
  kernel_rfl)
def c_spec_l1Small:Con:=conT [(.int .u8)] fun(c:Int)=>(none, .d (ofD .bool (smallI c)))
theorem k_spec_l1Small:ConOk Tryz.prog 130 c_spec_l1Small:=conT_ok Tryz.call130 fun c hc _=>s_spec_l1Small c hc
def Γ6:GL:=(130,c_spec_l1Small)::Γ5
theorem Γ6ok:GO Γ6 := .cons k_spec_l1Small Γ5ok
theorem y_spec_SignSmall (s:Str):evFn (cxOf Γ6 Tryz.f151.ntmps [] [] [] []) Tryz.f151 true [ofD .str s] []=need (bif decide (decide ((s.length:Int)=1)=true)then inb 0 s.length else true) (some (vB (bif decide ((s.length:Int)=1)then smallI (byteAt s 0)else false),[])):=by kernel_rfl
theorem s_spec_SignSmall (s:Str) (_hs:Fit .str s):Sat Tryz.prog 151 [ofD .str s] [] (.d (ofD .bool (smallS s))) [] :=
 fn_sound (cx:=cxOf Γ6 Tryz.f151.ntmps [] [] [] []) Tryz.func151 rfl ttOk Γ6ok mixed (fun _ _=>LoopsOk.no fun _=>rfl) (ro:=true) (by
  rw[y_spec_SignSmall]
  cases s with
  |nil=>rfl
  |cons c s=>cases s with
   |nil=>exact congrArg (fun b=>some ((vB b,[]):Fin)) (smallI_nat c)
   |cons d s =>
    rw[zF (by simp;omega:¬((c::d::s).length:Int)=1)];rfl)
def c_spec_SignSmall:Con:=conT [.str] fun(s:Str)=>(none, .d (ofD .bool (smallS s)))
theorem k_spec_SignSmall:ConOk Tryz.prog 151 c_spec_SignSmall:=conT_ok Tryz.call151 fun s hs _=>s_spec_SignSmall s hs
def Γ7:GL:=(151,c_spec_SignSmall)::Γ6
theorem Γ7ok:GO Γ7 := .cons k_spec_SignSmall Γ6ok
def isIn (s:Str) (a b:Int):Bool:=bif (bif decide ((s.length:Int)=1)then decide (a≤byteAt s 0)else false)then decide (byteAt s 0≤b)else false
theorem y_impl_isIn (s:Str) (a:Int) (b:Int):evFn (cxOf Γ7 Tryz.f90.ntmps [] [] [] []) Tryz.f90 true [ofD .str s,ofD (.int .u8) a,ofD (.int .u8) b] []=need (bif decide (decide ((s.length:Int)=1)=true)then inb 0 s.length else true) (need (bif decide ((bif decide ((s.length:Int)=1)then decide (a≤byteAt s 0)else false)=true)then inb 0 s.length else true) (some (vB (isIn s a b),[]))):=by kernel_rfl
theorem s_impl_isIn (s:Str) (_hs:Fit .str s) (a:Int) (_ha:Fit (.int .u8) a) (b:Int) (_hb:Fit (.int .u8) b):Sat Tryz.prog 90 [ofD .str s,ofD (.int .u8) a,ofD (.int .u8) b] [] (.d (ofD .bool (isIn s a b))) [] :=
 fn_sound (cx:=cxOf Γ7 Tryz.f90.ntmps [] [] [] []) Tryz.func90 rfl ttOk Γ7ok mixed (fun _ _=>LoopsOk.no fun _=>rfl) (ro:=true) (by
  rw[y_impl_isIn]
  by_cases h:s.length=1
  ·rw[zT (by omega:(s.length:Int)=1),h]
   cases decide (a≤byteAt s 0)<;>rfl
  ·rw[zF (by omega:¬(s.length:Int)=1)];rfl)
def c_impl_isIn:Con:=conT [.str,(.int .u8),(.int .u8)] fun(s:Str) (a:Int) (b:Int)=>(none, .d (ofD .bool (isIn s a b)))
theorem k_impl_isIn:ConOk Tryz.prog 90 c_impl_isIn:=conT_ok Tryz.call90 fun s hs a ha b hb _=>s_impl_isIn s hs a ha b hb
def Γ8:GL:=(90,c_impl_isIn)::Γ7
theorem Γ8ok:GO Γ8 := .cons k_impl_isIn Γ7ok
theorem s_impl_SignSmall (s:Str) (_hs:Fit .str s):Sat Tryz.prog 55 [ofD .str s] [] (.d (ofD .bool (smallS s))) [] :=
 fn_sound (cx:=cxOf Γ8 Tryz.f55.ntmps [] [] [] []) Tryz.func55 rfl ttOk Γ8ok mixed (fun _ _=>LoopsOk.no fun _=>rfl) (ro:=true) (by
  have:evFn (cxOf Γ8 Tryz.f55.ntmps [] [] [] []) Tryz.f55 true [ofD .str s] []=some (vB (isIn s 97 100),[]):=by kernel_rfl
  rw[this];have:isIn s 97 100=smallS s:=by
   unfold isIn
   cases s with
   |nil=>rfl
   |cons c s=>cases s with
    |nil=>exact smallI_nat c
    |cons d s=>rw[zF (by simp;omega:¬((c::d::s).length:Int)=1)];rfl
  rw[this];rfl)
def c_impl_SignSmall:Con:=conT [.str] fun(s:Str)=>(none, .d (ofD .bool (smallS s)))
theorem k_impl_SignSmall:ConOk Tryz.prog 55 c_impl_SignSmall:=conT_ok Tryz.call55 fun s hs _=>s_impl_SignSmall s hs
def Γ9:GL:=(55,c_impl_SignSmall)::Γ8
theorem Γ9ok:GO Γ9 := .cons k_impl_SignSmall Γ8ok
def areSm (s:Str) (n:Int):Bool:=bif decide ((s.length:Int)≤n)then s.all small else false
theorem y_impl_areSmalls (s:Str) (n:Int):evFn (cxOf Γ9 Tryz.f56.ntmps [] [] [] []) Tryz.f56 true [ofD .str s,ofD TI64 n] [] =
 need (bif decide (decide ((s.length:Int)≤n)=true)then isCut cutA else true) (some (vB (bif decide ((s.length:Int)≤n)then decide (trim cutA s=[])else false),[])):=by kernel_rfl
theorem trimA_nil (s:Str):decide (trim cutA s=[])=s.all small:=by
 have e:(inCut cutA)=small:=by funext c;exact inCut_A c
 have h:=trim_nil (cut:=cutA) (s:=s);rw[e]at h
 by_cases g:trim cutA s=[]
 ·rw[zT g,h.1 g]
 ·rw[zF g]
  cases hs:s.all small
  ·rfl
  ·exact absurd (h.2 hs) g
theorem s_impl_areSmalls (s:Str) (_hs:Fit .str s) (n:Int) (_hn:Fit TI64 n):Sat Tryz.prog 56 [ofD .str s,ofD TI64 n] [] (.d (ofD .bool (areSm s n))) [] :=
 fn_sound (cx:=cxOf Γ9 Tryz.f56.ntmps [] [] [] []) Tryz.func56 rfl ttOk Γ9ok mixed (fun _ _=>LoopsOk.no fun _=>rfl) (ro:=true) (by
  rw[y_impl_areSmalls,trimA_nil];unfold areSm
  cases decide ((s.length:Int)≤n)<;>rfl)
def c_impl_areSmalls:Con:=conT [.str,TI64] fun(s:Str) (n:Int)=>(none, .d (ofD .bool (areSm s n)))
theorem k_impl_areSmalls:ConOk Tryz.prog 56 c_impl_areSmalls:=conT_ok Tryz.call56 fun s hs n hn _=>s_impl_areSmalls s hs n hn
def Γ10:GL:=(56,c_impl_areSmalls)::Γ9
theorem Γ10ok:GO Γ10 := .cons k_impl_areSmalls Γ9ok
abbrev Rd:Type:=List Int×Int
def rdGo (x:Rd) (k:Int):Rd:=(x.1,x.2+k)
def rdOk (x:Rd):Bool:=decide (0≤x.2)&&decide (x.2≤10000001000000)
abbrev TIS:Ty := .list (.int .i64)
def rdAt (x:Rd) (k:Int):Bool:=decide (0≤x.2)&&decide (x.2≤k)
def Adv (x x':Rd) (c:Int):Prop:=x'.1=x.1∧x.2≤x'.2∧x'.2≤x.2+c
theorem rdAt_iff {x:Rd} {k:Int}:rdAt x k=true↔0≤x.2∧x.2≤k:=by unfold rdAt;rw[Bool.and_eq_true,decide_eq_true_eq,decide_eq_true_eq]
theorem rdOk_iff {x:Rd}:rdOk x=true↔0≤x.2∧x.2≤10000001000000:=rdAt_iff
theorem Adv.ok {x x':Rd} {c k:Int} (h:Adv x x' c) (hk:rdAt x k=true) (hc:k+c≤10000001000000):rdOk x'=true:=by
 have:=rdAt_iff.1 hk;obtain⟨_,h1,h2⟩:=h;exact rdOk_iff.2 ⟨by omega,by omega⟩
theorem Adv.at {x x':Rd} {c k k':Int} (h:Adv x x' c) (hk:rdAt x k=true) (hc:k+c≤k'):rdAt x' k'=true:=by
 have:=rdAt_iff.1 hk;obtain⟨_,h1,h2⟩:=h;exact rdAt_iff.2 ⟨by omega,by omega⟩
theorem Adv.refl (x:Rd):Adv x x 0:=⟨rfl,by omega,by omega⟩
theorem Adv.one (x:Rd):Adv x (rdGo x 1) 1:=⟨rfl,by simp only[rdGo];omega,by simp only[rdGo];omega⟩
theorem Adv.trans {x y z:Rd} {c d:Int} (h:Adv x y c) (g:Adv y z d):Adv x z (c+d):=⟨g.1.trans h.1,Int.le_trans h.2.1 g.2.1,by have:=h.2.2;have:=g.2.2;omega⟩
/-! ### loops, by what they come to -/
theorem loopP {V:Type} {mk:V→St} {f:St→Cont→Option Fin} {head:St→St} {P:V→Cont→Option Fin} {ok:V→Prop} (μ:V→Nat)
  (h:∀v K,ok v→(∀R:St→Option Fin,f (mk v) (onward head R K)=P v K)∨∃v',ok v'∧μ v'<μ v∧P v' K=P v K∧∀R:St→Option Fin,f (mk v) (onward head R K)=R (mk v')):∀v,ok v→∀K,∃N,iter f head N (mk v) K=P v K:=by
 have key:∀(d:Nat) v,μ v<d→ok v→∀K,∃N,iter f head N (mk v) K=P v K:=by
  intro d
  induction d with
  |zero=>intro v hv;omega
  |succ d ih =>
   intro v hv ho K;rcases h v K ho with h1 | ⟨v',h1,h2,h3,h4⟩
   ·exact ⟨1,by rw[iter_succ];exact h1 _⟩
   ·obtain ⟨n,hn⟩:=ih v' (by omega) h1 K;exact⟨n+1,by rw[iter_succ,h4,hn,h3]⟩
 exact fun v=>key _ v (Nat.lt_succ_self _)
def gP (s:Sh) (pre:s.V→Bool) (P:s.V→Cont→Option Fin):St→Cont→Option Fin:=orc s fun v K=>need (pre v) (P v K)
theorem gP_ok {s:Sh} {pre:s.V→Bool} {P:s.V→Cont→Option Fin} {f:St→Cont→Option Fin} {head:St→St} (μ:s.V→Nat)
  (h:∀v K,pre v=true→(∀R:St→Option Fin,f (s.mk v) (onward head R K)=P v K)∨∃v',pre v'=true∧μ v'<μ v∧P v' K=P v K∧∀R:St→Option Fin,f (s.mk v) (onward head R K)=R (s.mk v')):∀st K r,gP s pre P st K=some r→∃N,iter f head N st K=some r :=
 orc_ok fun v K r hr=>by
  obtain⟨h1,h2⟩:=need_some.1 hr;obtain⟨N,hN⟩:=loopP (ok:=fun v=>pre v=true) μ h v h1 K;exact⟨N,by rw[hN];exact h2⟩
theorem evC_agree (cx:Cx) (l l':Nat→Option (St→Cont→Option Fin)):∀c,(∀p∈loopsOf c,l p.1=l' p.1)→∀st K,evC (cx.withLoops l) c st K=evC (cx.withLoops l') c st K:=by
 intro c
 induction c with
 |seq x y ihx ihy =>
  intro h st K;simp only[evC];rw[ihx fun p hp=>h p (mem_append_left _ hp)]
  congr 1
  funext e st'
  cases e<;>first | rfl | exact ihy (fun p hp=>h p (mem_append_right _ hp)) _ _
 |cond o y z ihy ihz =>
  intro h st K;simp only[evC];have h1:=ihy fun p hp=>h p (mem_append_left _ hp);have h2:=ihz fun p hp=>h p (mem_append_right _ hp)
  cases (evOpd st.env o).bind nilD with
  |some n=>dsimp only;rw[h1,h2]
  |none =>
   cases (evOpd st.env o).bind boolD with
   |none=>rfl
   |some t=>dsimp only;rw[h1,h2]
 |block id c ih =>
  intro h st K;simp only[evC];rw[ih h]
 |loop c _ =>
  intro h st K;simp only[evC];have:=h ((firstRegion c).getD 0,c) (mem_cons_self ..);show(match (l ((firstRegion c).getD 0))with | some g=>g (headAt (cx.withLoops l) ((firstRegion c).getD 0) st) K | none=>none)=(match (l' ((firstRegion c).getD 0))with | some g=>g (headAt (cx.withLoops l') ((firstRegion c).getD 0) st) K | none=>none)
  rw[this];rfl
 |region id ops draw =>
  intro _ st K;simp only[evC,region]
  split<;>rw[steps_indep,steps_indep]<;>rfl
 |_=>intro _ st K;rfl
def idsFree (L:List (Nat×(St→Cont→Option Fin))) (b:Code):Bool:=L.all fun p=>(loopsOf b).all fun q => !Nat.beq p.1 q.1
theorem look_free {L m:List (Nat×(St→Cont→Option Fin))} {i:Nat} (h:L.all (fun p => !Nat.beq p.1 i)=true):look (L++m) i=look m i:=by
 induction L with
 |nil=>rfl
 |cons p L ih =>
  obtain⟨k,g⟩:=p;simp only[List.all_cons,Bool.and_eq_true,Bool.not_eq_true']at h;simp only[List.cons_append,look,h.1,cond_false];exact ih h.2
theorem with_drop {cb:Cx} {b:Code} {id:Nat} {g:St→Cont→Option Fin} {m L:List (Nat×(St→Cont→Option Fin))} {n:Nat} (h1:L.drop n=m) (h2:idsFree (L.take n) b=true)
  (hg:∀st K r,g st K=some r→∃N,iter (evC (cb.withLoops (look m)) b) (headAt (cb.withLoops (look m)) id) N st K=some r) :
  ∀st K r,g st K=some r→∃N,iter (evC (cb.withLoops (look L)) b) (headAt (cb.withLoops (look L)) id) N st K=some r:=by
 intro st K r hr;have:evC (cb.withLoops (look L)) b=evC (cb.withLoops (look m)) b:=by
  funext st K
  refine evC_agree cb _ _ b (fun p hp => ?_) st K;rw[← List.take_append_drop n L,h1];refine look_free (all_eq_true.2 fun q hq => ?_);exact all_eq_true.1 (all_eq_true.1 h2 q hq) p hp
 rw[this];exact hg st K r hr
def LoopsAll (cx:Cx):List (Nat×Code)→Prop
 | []=>True
 | (id,b)::l=>(∀g,cx.loops id=some g→∀st K r,g st K=some r→∃N,iter (evC cx b) (headAt cx id) N st K=some r)∧LoopsAll cx l
theorem LoopsOk.all {cx:Cx} {c:Code} {l:List (Nat×Code)} (hl:loopsOf c=l) (h:LoopsAll cx l):LoopsOk cx c:=by
 refine LoopsOk.of hl ?_;clear hl
 induction l with
 |nil=>intro id b hm;cases hm
 |cons p l ih =>
  intro id b hm;rcases List.mem_cons.1 hm with e | hm
  ·cases e;exact h.1
  ·exact ih h.2 id b hm
theorem atLoop {cx:Cx} {b:Code} {id:Nat} {g:St→Cont→Option Fin} (hg:cx.loops id=some g) (h:∀st K r,g st K=some r→∃N,iter (evC cx b) (headAt cx id) N st K=some r):∀g',cx.loops id=some g'→∀st K r,g' st K=some r→∃N,iter (evC cx b) (headAt cx id) N st K=some r:=fun g' hg'=>by
 rw[hg]at hg';cases hg';exact h
theorem b2 {a b:Bool}:(bif a then b else false)=(a&&b):=by cases a<;>rfl
theorem b3 {a b:Bool}:(bif a then true else b)=(a||b):=by cases a<;>rfl
abbrev TRu:Ty:=ty63
abbrev TRL:Ty:=ty23
abbrev TG:Ty:=ty25
abbrev Rule:Type:=Str×Str
abbrev Gram:Type:=Str×List Rule
def bigI (c:Int):Bool:=bif decide (65≤c)then decide (c≤69)else false
def bigc (c:UInt8):Bool:=Nat.ble 65 c.toNat&&Nat.ble c.toNat 69
def bigS:Str→Bool
 | [c]=>bigc c
 |_=>false
theorem ble_dec (a b:Nat):Nat.ble a b=decide (a≤b):=by
 by_cases h:a≤b
 ·rw[Nat.ble_eq_true_of_le h,zT h]
 ·rw[zF h]
  cases hb:Nat.ble a b
  ·rfl
  ·exact absurd (Nat.le_of_ble_eq_true hb) h
theorem bigI_nat (c:UInt8):bigI (c.toNat:Int)=bigc c:=by
 unfold bigI bigc;rw[ble_dec,ble_dec,b2]
 congr 1<;>(rw[decide_eq_decide];omega)
theorem s_spec_l1Big (c:Int) (_hc:Fit (.int .u8) c):Sat Tryz.prog 118 [ofD (.int .u8) c] [] (.d (ofD .bool (bigI c))) [] :=
 fn_sound (cx:=cxOf Γ10 Tryz.f118.ntmps [] [] [] []) Tryz.func118 rfl ttOk Γ10ok mixed (fun _ _=>LoopsOk.no fun _=>rfl) (ro:=true) (by
  kernel_rfl)
def c_spec_l1Big:Con:=conT [(.int .u8)] fun(c:Int)=>(none, .d (ofD .bool (bigI c)))
theorem k_spec_l1Big:ConOk Tryz.prog 118 c_spec_l1Big:=conT_ok Tryz.call118 fun c hc _=>s_spec_l1Big c hc
def Γ11:GL:=(118,c_spec_l1Big)::Γ10
theorem Γ11ok:GO Γ11 := .cons k_spec_l1Big Γ10ok
theorem y_spec_SignBig (s:Str):evFn (cxOf Γ11 Tryz.f86.ntmps [] [] [] []) Tryz.f86 true [ofD .str s] []=(
need (bif decide (decide ((s.length:Int)=1)=true)then inb 0 s.length else true) <|
 some ((vB (bif decide ((s.length:Int)=1)then bigI (byteAt s 0)else false)),[])):=by kernel_rfl
theorem s_spec_SignBig (s:Str) (_hs:Fit .str s):Sat Tryz.prog 86 [ofD .str s] [] (.d (ofD .bool (bigS s))) [] :=
 fn_sound (cx:=cxOf Γ11 Tryz.f86.ntmps [] [] [] []) Tryz.func86 rfl ttOk Γ11ok mixed (fun _ _=>LoopsOk.no fun _=>rfl) (ro:=true) (by
  rw[y_spec_SignBig]
  cases s with
  |nil=>rfl
  |cons c s=>cases s with
   |nil=>exact congrArg (fun b=>some ((vB b,[]):Fin)) (bigI_nat c)
   |cons d s =>
    rw[zF (by simp;omega:¬((c::d::s).length:Int)=1)];rfl)
def c_spec_SignBig:Con:=conT [.str] fun(s:Str)=>(none, .d (ofD .bool (bigS s)))
theorem k_spec_SignBig:ConOk Tryz.prog 86 c_spec_SignBig:=conT_ok Tryz.call86 fun s hs _=>s_spec_SignBig s hs
def Γ12:GL:=(86,c_spec_SignBig)::Γ11
theorem Γ12ok:GO Γ12 := .cons k_spec_SignBig Γ11ok
theorem s_impl_SignBig (s:Str) (_hs:Fit .str s):Sat Tryz.prog 42 [ofD .str s] [] (.d (ofD .bool (bigS s))) [] :=
 fn_sound (cx:=cxOf Γ12 Tryz.f42.ntmps [] [] [] []) Tryz.func42 rfl ttOk Γ12ok mixed (fun _ _=>LoopsOk.no fun _=>rfl) (ro:=true) (by
  have:evFn (cxOf Γ12 Tryz.f42.ntmps [] [] [] []) Tryz.f42 true [ofD .str s] []=some (vB (isIn s 65 69),[]):=by kernel_rfl
  rw[this];have:isIn s 65 69=bigS s:=by
   unfold isIn
   cases s with
   |nil=>rfl
   |cons c s=>cases s with
    |nil=>exact bigI_nat c
    |cons d s=>rw[zF (by simp;omega:¬((c::d::s).length:Int)=1)];rfl
  rw[this];rfl)
def c_impl_SignBig:Con:=conT [.str] fun(s:Str)=>(none, .d (ofD .bool (bigS s)))
theorem k_impl_SignBig:ConOk Tryz.prog 42 c_impl_SignBig:=conT_ok Tryz.call42 fun s hs _=>s_impl_SignBig s hs
def Γ13:GL:=(42,c_impl_SignBig)::Γ12
theorem Γ13ok:GO Γ13 := .cons k_impl_SignBig Γ12ok
def sign (c:UInt8):Bool:=bigc c||small c
def areS (s:Str) (n:Int):Bool:=s.all sign&&decide ((s.length:Int)≤n)
theorem smalls_at {s:Str} {i:Int} {p:UInt8→Bool} (h0:0≤i) (h1:i<(s.length:Int)):(s.drop i.toNat).all p=(p (s.getD i.toNat 0)&&(s.drop (i+1).toNat).all p):=by
 have hn:i.toNat<s.length:=by omega
 rw[drop_eq_getElem_cons hn,List.all_cons,show (i+1).toNat=i.toNat+1 by omega,zG,zE hn];rfl
theorem at_byte (s:Str) (i:Int):byteAt s i=((s.getD i.toNat 0).toNat:Int):=rfl
theorem drop_end {s:Str} {i:Int} {p:UInt8→Bool} (h1:(s.length:Int)≤i):(s.drop i.toNat).all p=true:=by rw[drop_eq_nil_of_le (by omega)];rfl
theorem sig_bool (a b:Bool):(bif !a then !b else false) = !(a||b):=by cases a<;>cases b<;>rfl
theorem need_t {α:Type} {x:Option α}:need true x=x:=rfl
theorem W1 {i:Int} {n:Nat} (h0:0≤i) (h1:i<(n:Int)) (hn:n≤big):W64 (i+1)=i+1:=wrap_small (by omega) (by simp only[big]at hn;omega)
theorem andd {a b:Bool}:(a&&b)=true↔a=true∧b=true:=by cases a<;>cases b<;>simp
theorem ble_iff {a b:Nat}:Nat.ble a b=true↔a≤b:=⟨Nat.le_of_ble_eq_true,Nat.ble_eq_true_of_le⟩
theorem dec_iff {p:Prop} [Decidable p]:decide p=true↔p:=decide_eq_true_iff
def cb_l1Right:Cx:=cxOf Γ13 Tryz.f116.ntmps [(2,[0,1,5])] [(0,[0,1]),(1,[0,1,5]),(1000000,[4])] [] []
abbrev st_l1Right (s:Str) (m i:Int):St:=⟨[(0,vS s),(1,vI m),(5,vI i)],[]⟩
theorem x_spec_l1Right (s:Str) (m:Int) (i:Int) (R:St→Option Fin) (K:Cont):evC (cb_l1Right.withLoops (look [])) (loopOf Tryz.f116 0) (st_l1Right s m i) (onward (headAt (cb_l1Right.withLoops (look [])) 2) R K)=(
branch (decide (i<(s.length:Int))) (
 need (inb i s.length) <|
 need (bif decide ((!bigI (byteAt s i))=true)then inb i s.length else true) <|
  branch (bif !bigI (byteAt s i)then !smallI (byteAt s i)else false) (
  K (.ret) (.mk [(4,(vB false))] [])) (
  R (st_l1Right s m (W64 (i+1))))) (
 K (.exit 0) (.mk [(0,(vS s)),(1,(vI m))] []))):=by kernel_rfl
def cx0_l1Right:Cx:=(cb_l1Right).withLoops (look [])
def sh_l1Right:Sh:=([(0, .d .str),(1, .d TI64),(5, .d TI64)],[])
def pre_l1Right (s:Str) (_m i:Int):Bool:=decide (0≤i)&&Nat.ble (length s) big
def res_l1Right (s:Str) (m i:Int) (K:Cont):Option Fin:=branch ((s.drop i.toNat).all sign) (K (.exit 0) ⟨[(0,vS s),(1,vI m)],[]⟩) (K .ret ⟨[(4,vB false)],[]⟩)
def mu_l1Right (s:Str) (_m i:Int):Nat:=length s-i.toNat
theorem r_l1Right (s:Str) (m i:Int) (K:Cont) (hI:pre_l1Right s m i=true):(∀R:St→Option Fin,evC cx0_l1Right (loopOf Tryz.f116 0) (st_l1Right s m i) (onward (headAt cx0_l1Right 2) R K)=res_l1Right s m i K) ∨
  (∃(s':Str) (m' i':Int),pre_l1Right s' m' i'=true∧mu_l1Right s' m' i'<mu_l1Right s m i∧res_l1Right s' m' i' K=res_l1Right s m i K∧∀R:St→Option Fin,evC cx0_l1Right (loopOf Tryz.f116 0) (st_l1Right s m i) (onward (headAt cx0_l1Right 2) R K)=R (st_l1Right s' m' i')):=by
 have hx:=fun R=>x_spec_l1Right s m i R K;simp only[pre_l1Right,andd,dec_iff,ble_iff]at hI;obtain⟨h0,h1⟩:=hI
 by_cases hi:i<(s.length:Int)
 ·simp only[hi,decide_true,inb_ok h0 hi,Bool.cond_self,branch_true,sig_bool,at_byte,bigI_nat,smallI_nat,W1 h0 hi h1]at hx
  cases hc:sign (s.getD i.toNat 0)
  ·left;intro R;refine(hx R).trans ?_;have hc':(bigc (s.getD i.toNat 0)||small (s.getD i.toNat 0))=false:=hc;simp only[res_l1Right,smalls_at (p:=sign) h0 hi,hc,hc',Bool.false_and,Bool.not_false];rfl
  ·right;have hc':(bigc (s.getD i.toNat 0)||small (s.getD i.toNat 0))=true:=hc;refine⟨s,m,i+1, ?_, ?_, ?_,fun R=>(hx R).trans ?_⟩
   ·simp only[pre_l1Right,andd,dec_iff,ble_iff];omega
   ·simp only[mu_l1Right];omega
   ·simp only[res_l1Right,smalls_at (p:=sign) h0 hi,hc,Bool.true_and]
   ·rw[hc'];rfl
 ·left;intro R;refine(hx R).trans ?_;simp only[hi,decide_false,branch_false,res_l1Right,drop_end (p:=sign) (by omega:(s.length:Int)≤i),branch_true]
def g_l1Right:St→Cont→Option Fin:=gP sh_l1Right (fun v=>match v with | ((s,m,i,()),())=>pre_l1Right s m i) (fun v K=>match v with | ((s,m,i,()),())=>res_l1Right s m i K)
def L_l1Right:LpL:=(2,g_l1Right)::[]
def cx_l1Right:Cx:=(cb_l1Right).withLoops (look L_l1Right)
theorem l_l1Right {L:LpL} (n:Nat) (h1:L.drop n=[]) (h2:idsFree (L.take n) (loopOf Tryz.f116 0)=true):LoopsTo g_l1Right (cb_l1Right) (loopOf Tryz.f116 0) 2 L :=
 with_drop h1 h2 (gP_ok (fun v=>match v with | ((s,m,i,()),())=>mu_l1Right s m i) fun v K hI=>by
  obtain⟨⟨s,m,i,⟨⟩⟩,⟨⟩⟩:=v;exact(r_l1Right s m i K hI).imp id fun⟨s',m',i',h⟩=>⟨((s',m',i',()),()),h⟩)
theorem y_spec_l1Right (s:Str) (m:Int):evFn cx_l1Right Tryz.f116 true [ofD .str s,ofD TI64 m] []=(
need (pre_l1Right s m 0) <|
 branch ((List.drop ((0:Int).toNat) s).all sign) (
 some ((vB (decide ((s.length:Int)≤m))),[])) (
 some ((vB false),[]))):=by kernel_rfl
theorem s_spec_l1Right (s:Str) (hs:Fit .str s) (m:Int) (_hm:Fit TI64 m):Sat Tryz.prog 116 [ofD .str s,ofD TI64 m] [] (.d (ofD .bool (areS s m))) [] :=
 fn_sound (cx:=cx_l1Right) Tryz.func116 rfl ttOk Γ13ok mixed (fun c hc=>LoopsOk.all (l:=[(2,loopOf Tryz.f116 0)]) (by cases hc;kernel_rfl) ⟨atLoop rfl (l_l1Right 1 rfl (by kernel_rfl)),trivial⟩) (ro:=true) (by
  have h:pre_l1Right s m 0=true:=andd.2 ⟨rfl,ble_iff.2 hs⟩;rw[y_spec_l1Right,h];unfold areS;show need true (branch (s.all sign) _ _)=_
  cases s.all sign<;>rfl)
def c_spec_l1Right:Con:=conT [.str,TI64] fun(s:Str) (m:Int)=>(none, .d (ofD .bool (areS s m)))
theorem k_spec_l1Right:ConOk Tryz.prog 116 c_spec_l1Right:=conT_ok Tryz.call116 fun s hs m hm _=>s_spec_l1Right s hs m hm
def Γ14:GL:=(116,c_spec_l1Right)::Γ13
theorem Γ14ok:GO Γ14 := .cons k_spec_l1Right Γ13ok
theorem y_impl_areSigns (s:Str) (n:Int):evFn (cxOf Γ14 Tryz.f91.ntmps [] [] [] []) Tryz.f91 true [ofD .str s,ofD TI64 n] []=(
need (bif decide (decide ((s.length:Int)≤n)=true)then isCut cutB else true) <| some ((vB (bif decide ((s.length:Int)≤n)then decide ((trim cutB s)=[])else false)),[])):=by kernel_rfl
theorem trimB_nil (s:Str):decide (trim cutB s=[])=s.all sign:=by
 have e:(inCut cutB)=sign:=by funext c;exact inCut_B c
 have h:=trim_nil (cut:=cutB) (s:=s);rw[e]at h
 by_cases g:trim cutB s=[]
 ·rw[zT g,h.1 g]
 ·rw[zF g]
  cases hs:s.all sign
  ·rfl
  ·exact absurd (h.2 hs) g
theorem s_impl_areSigns (s:Str) (_hs:Fit .str s) (n:Int) (_hn:Fit TI64 n):Sat Tryz.prog 91 [ofD .str s,ofD TI64 n] [] (.d (ofD .bool (areS s n))) [] :=
 fn_sound (cx:=cxOf Γ14 Tryz.f91.ntmps [] [] [] []) Tryz.func91 rfl ttOk Γ14ok mixed (fun _ _=>LoopsOk.no fun _=>rfl) (ro:=true) (by
  rw[y_impl_areSigns,trimB_nil];unfold areS
  cases decide ((s.length:Int)≤n)<;>cases s.all sign<;>rfl)
def c_impl_areSigns:Con:=conT [.str,TI64] fun(s:Str) (n:Int)=>(none, .d (ofD .bool (areS s n)))
theorem k_impl_areSigns:ConOk Tryz.prog 91 c_impl_areSigns:=conT_ok Tryz.call91 fun s hs n hn _=>s_impl_areSigns s hs n hn
def Γ15:GL:=(91,c_impl_areSigns)::Γ14
theorem Γ15ok:GO Γ15 := .cons k_impl_areSigns Γ14ok
def pos {α:Type} (p:α→Bool):List α→Nat→Option Nat
 | [],_=>none
 |a::l,i=>bif p a then some i else pos p l (i+1)
def eqRu (a b:Rule):Bool:=decide (a.1=b.1)&&(decide (a.2=b.2)&&true)
def placeV (l:List Rule) (x:Rule):Int:=match pos (fun y=>eqRu y x) l 0 with | some k=>(k:Int) | none => -1
theorem pos_at {α:Type} {p:α→Bool} {l:List α} {i:Int} (d:α) (h0:0≤i) (h1:i<(l.length:Int)):pos p (l.drop i.toNat) i.toNat=bif p (l.getD i.toNat d)then some i.toNat else pos p (l.drop (i+1).toNat) (i+1).toNat:=by
 have hn:i.toNat<l.length:=by omega
 rw[drop_eq_getElem_cons hn,show (i+1).toNat=i.toNat+1 by omega,zG,zE hn];rfl
theorem pos_end {α:Type} {p:α→Bool} {l:List α} {i:Int} (h1:(l.length:Int)≤i):pos p (l.drop i.toNat) i.toNat=none:=by rw[drop_eq_nil_of_le (by omega)];rfl
theorem pos_any {α:Type} {p:α→Bool}:∀ {l:List α} {i:Nat},(pos p l i).isSome=l.any p
 | [],_=>rfl
 |a::l,i=>by
  rw[pos,List.any_cons]
  cases p a
  ·exact pos_any
  ·rfl
theorem eqRu_comm (a b:Rule):eqRu a b=eqRu b a:=by
 unfold eqRu;rw[show decide (a.1=b.1)=decide (b.1=a.1)by rw[decide_eq_decide];exact eq_comm,show decide (a.2=b.2)=decide (b.2=a.2)by rw[decide_eq_decide];exact eq_comm]
theorem placeV_neg {l:List Rule} {x:Rule}:decide (0≤placeV l x)=l.any (fun y=>eqRu y x):=by
 rw[← pos_any (i:=0)];unfold placeV
 cases pos (fun y=>eqRu y x) l 0 with
 |none=>rfl
 |some k=>simp
abbrev d0:Rule:=([],[])
theorem inr_take {i:Int} {n:Nat} (h0:0≤i) (h1:i<(n:Int)):inr 0 i n=true:=zT ⟨by omega,by omega,by omega⟩
def cb_l1Place:Cx:=cxOf Γ15 Tryz.f112.ntmps [(2,[0,3,5])] [(0,[]),(1,[0,3,5]),(1000000,[4])] [] []
abbrev st_l1Place (l:List Rule) (i:Int) (x:Rule):St:=⟨[(0, .d (ofD TRL l)),(3, kp0),(5,vI i)],[(500000,some (boxD 63 TRu x))]⟩
theorem x_spec_l1Place (l:List Rule) (x:Rule) (i:Int) (R:St→Option Fin) (K:Cont):evC (cb_l1Place.withLoops (look [])) (loopOf Tryz.f112 0) (st_l1Place l i x) (onward (headAt (cb_l1Place.withLoops (look [])) 2) R K)=(
branch (decide (i<↑l.length)) (
 need (inb i l.length) <|
 branch (decide ((l.getD i.toNat (dflt (Ty.str.pair Ty.str).struct)).fst=x.fst)&&(decide ((l.getD i.toNat (dflt (Ty.str.pair Ty.str).struct)).snd=x.snd)&&true)) ( K (.ret) (.mk [(4,vI i)] [])) ( R (.mk [(0,(.d (.one (.r (.li ((Ty.str.pair Ty.str).struct) l))))),(3,kp0),(5,vI (W64 (i+1)))] [(500000,(.some (.box 63 [(.r (.v (Value.string (mk x.fst)))),(.r (.v (Value.string (mk x.snd))))])))]))) ( K (.exit 0) (.mk [] []))):=by kernel_rfl
def cx0_l1Place:Cx:=(cb_l1Place).withLoops (look [])
def sh_l1Place:Sh:=([(0, .d TRL),(3, .ptr 500000 0),(5, .d TI64)],[(500000, .box 63 TRu)])
def pre_l1Place (l:List Rule) (i:Int) (_x:Rule):Bool:=decide (0≤i)&&Nat.ble (length l) big
def res_l1Place (l:List Rule) (i:Int) (x:Rule) (K:Cont):Option Fin:=branch (pos (fun y=>eqRu y x) (l.drop i.toNat) i.toNat).isSome (K .ret ⟨[(4,vI (((pos (fun y=>eqRu y x) (l.drop i.toNat) i.toNat).getD 0:Nat):Int))],[]⟩) (K (.exit 0) ⟨[],[]⟩)
def mu_l1Place (l:List Rule) (i:Int) (_x:Rule):Nat:=length l-i.toNat
theorem r_l1Place (l:List Rule) (i:Int) (x:Rule) (K:Cont) (hI:pre_l1Place l i x=true):(∀R:St→Option Fin,evC cx0_l1Place (loopOf Tryz.f112 0) (st_l1Place l i x) (onward (headAt cx0_l1Place 2) R K)=res_l1Place l i x K) ∨
  (∃(l':List Rule) (i':Int) (x':Rule),pre_l1Place l' i' x'=true∧mu_l1Place l' i' x'<mu_l1Place l i x∧res_l1Place l' i' x' K=res_l1Place l i x K∧∀R:St→Option Fin,evC cx0_l1Place (loopOf Tryz.f112 0) (st_l1Place l i x) (onward (headAt cx0_l1Place 2) R K)=R (st_l1Place l' i' x')):=by
 have hx:=fun R=>x_spec_l1Place l x i R K;simp only[pre_l1Place,andd,dec_iff,ble_iff]at hI;obtain⟨h0,h1⟩:=hI
 by_cases hi:i<(l.length:Int)
 ·simp only[hi,decide_true,inb_ok h0 hi,branch_true,W1 h0 hi h1]at hx;have hp:=pos_at (p:=fun y=>eqRu y x) d0 h0 hi
  cases hc:eqRu (l.getD i.toNat d0) x
  ·right;rw[hc]at hp;refine⟨l,i+1,x, ?_, ?_, ?_,fun R=>(hx R).trans ?_⟩
   ·simp only[pre_l1Place,andd,dec_iff,ble_iff];omega
   ·simp only[mu_l1Place];omega
   ·simp only[res_l1Place];rw[hp];rfl
   ·rw[show (decide ((l.getD i.toNat (dflt (Ty.str.pair Ty.str).struct)).fst=x.fst)&&(decide ((l.getD i.toNat (dflt (Ty.str.pair Ty.str).struct)).snd=x.snd)&&true))=false from hc];rfl
  ·left;intro R;rw[hc]at hp;refine(hx R).trans ?_;simp only[res_l1Place];rw[show (decide ((l.getD i.toNat (dflt (Ty.str.pair Ty.str).struct)).fst=x.fst)&&(decide ((l.getD i.toNat (dflt (Ty.str.pair Ty.str).struct)).snd=x.snd)&&true))=true from hc,hp];show K .ret _=K .ret _;simp only[cond_true,Option.getD_some,Int.toNat_of_nonneg h0]
 ·left;intro R;refine(hx R).trans ?_;simp only[hi,decide_false,branch_false,res_l1Place];rw[pos_end (by omega)];rfl
def g_l1Place:St→Cont→Option Fin:=gP sh_l1Place (fun v=>match v with | ((l,i,()),(x,()))=>pre_l1Place l i x) (fun v K=>match v with | ((l,i,()),(x,()))=>res_l1Place l i x K)
def L_l1Place:LpL:=(2,g_l1Place)::[]
def cx_l1Place:Cx:=(cb_l1Place).withLoops (look L_l1Place)
theorem l_l1Place {L:LpL} (n:Nat) (h1:L.drop n=[]) (h2:idsFree (L.take n) (loopOf Tryz.f112 0)=true):LoopsTo g_l1Place (cb_l1Place) (loopOf Tryz.f112 0) 2 L :=
 with_drop h1 h2 (gP_ok (fun v=>match v with | ((l,i,()),(x,()))=>mu_l1Place l i x) fun v K hI=>by
  obtain⟨⟨l,i,⟨⟩⟩,⟨x,⟨⟩⟩⟩:=v;exact(r_l1Place l i x K hI).imp id fun⟨l',i',x',h⟩=>⟨((l',i',()),(x',())),h⟩)
theorem y_spec_l1Place (l:List Rule) (x:Rule):evFn cx_l1Place Tryz.f112 true [ofD TRL l,ofD TRu x] []=(
need (pre_l1Place l 0 x) <|
branch ((pos (fun y=>eqRu y x) (List.drop ((0:Int).toNat) l) ((0:Int).toNat)).isSome) ( some ((vI ↑((pos (fun y=>eqRu y x) (List.drop ((0:Int).toNat) l) ((0:Int).toNat)).getD 0)),[])) ( some ((vI (Int.neg 1)),[]))):=by kernel_rfl
theorem s_spec_l1Place (l:List Rule) (hl:Fit TRL l) (x:Rule) (_hx:Fit TRu x):Sat Tryz.prog 112 [ofD TRL l,ofD TRu x] [] (.d (ofD TI64 (placeV l x))) [] :=
 fn_sound (cx:=cx_l1Place) Tryz.func112 rfl ttOk Γ15ok mixed (fun c hc=>LoopsOk.all (l:=[(2,loopOf Tryz.f112 0)]) (by cases hc;kernel_rfl) ⟨atLoop rfl (l_l1Place 1 rfl (by kernel_rfl)),trivial⟩) (ro:=true) (by
  have h:pre_l1Place l 0 x=true:=andd.2 ⟨rfl,ble_iff.2 hl.1⟩;rw[y_spec_l1Place,h];unfold placeV;show need true (branch (pos (fun y=>eqRu y x) l 0).isSome _ _)=_
  cases hq:pos (fun y=>eqRu y x) l 0 with
  |none=>rfl
  |some k =>
   show some (vI (((pos (fun y=>eqRu y x) l 0).getD 0:Nat):Int),[])=_;rw[hq];rfl)
def c_spec_l1Place:Con:=conT [TRL,TRu] fun(l:List Rule) (x:Rule)=>(none, .d (ofD TI64 (placeV l x)))
theorem k_spec_l1Place:ConOk Tryz.prog 112 c_spec_l1Place:=conT_ok Tryz.call112 fun l hl x hx _=>s_spec_l1Place l hl x hx
def Γ16:GL:=(112,c_spec_l1Place)::Γ15
theorem Γ16ok:GO Γ16 := .cons k_spec_l1Place Γ15ok
def cb_ixRule:Cx:=cxOf Γ16 Tryz.f125.ntmps [(2,[0,3,7,8])] [(0,[]),(1,[0,3,7,8]),(1000000,[4])] [] []
abbrev st_ixRule (l:List Rule) (n i:Int) (x:Rule):St:=⟨[(0, .d (ofD TRL l)),(3, kp0),(7,vI n),(8,vI i)],[(500000,some (boxD 63 TRu x))]⟩
theorem x_slices_Index_impl_Rule_impl_Rule (l:List Rule) (x:Rule) (n i:Int) (R:St→Option Fin) (K:Cont):evC (cb_ixRule.withLoops (look [])) (loopOf Tryz.f125 0) (st_ixRule l n i x) (onward (headAt (cb_ixRule.withLoops (look [])) 2) R K)=(
branch (decide (i<n)) (
 need (inb i l.length) <|
 branch (decide (x.fst=(l.getD i.toNat (dflt (Ty.str.pair Ty.str).struct)).fst)&&(decide (x.snd=(l.getD i.toNat (dflt (Ty.str.pair Ty.str).struct)).snd)&&true)) ( K (.ret) (.mk [(4,vI i)] [])) ( R (.mk [(0,(.d (.one (.r (.li ((Ty.str.pair Ty.str).struct) l))))),(3,kp0),(7,vI n),(8,vI (W64 (i+1)))] [(500000,(.some (.box 63 [(.r (.v (Value.string (mk x.fst)))),(.r (.v (Value.string (mk x.snd))))])))]))) ( K (.exit 0) (.mk [] []))):=by kernel_rfl
def cx0_ixRule:Cx:=(cb_ixRule).withLoops (look [])
def sh_ixRule:Sh:=([(0, .d TRL),(3, .ptr 500000 0),(7, .d TI64),(8, .d TI64)],[(500000, .box 63 TRu)])
def pre_ixRule (l:List Rule) (n i:Int) (_x:Rule):Bool:=decide (0≤i)&&(Nat.ble (length l) big&&decide (n=(length l:Int)))
def res_ixRule (l:List Rule) (_n i:Int) (x:Rule) (K:Cont):Option Fin:=branch (pos (fun y=>eqRu x y) (l.drop i.toNat) i.toNat).isSome (K .ret ⟨[(4,vI (((pos (fun y=>eqRu x y) (l.drop i.toNat) i.toNat).getD 0:Nat):Int))],[]⟩) (K (.exit 0) ⟨[],[]⟩)
def mu_ixRule (l:List Rule) (_n i:Int) (_x:Rule):Nat:=length l-i.toNat
theorem r_ixRule (l:List Rule) (n i:Int) (x:Rule) (K:Cont) (hI:pre_ixRule l n i x=true):(∀R:St→Option Fin,evC cx0_ixRule (loopOf Tryz.f125 0) (st_ixRule l n i x) (onward (headAt cx0_ixRule 2) R K)=res_ixRule l n i x K) ∨
  (∃(l':List Rule) (n' i':Int) (x':Rule),pre_ixRule l' n' i' x'=true∧mu_ixRule l' n' i' x'<mu_ixRule l n i x∧res_ixRule l' n' i' x' K=res_ixRule l n i x K∧∀R:St→Option Fin,evC cx0_ixRule (loopOf Tryz.f125 0) (st_ixRule l n i x) (onward (headAt cx0_ixRule 2) R K)=R (st_ixRule l' n' i' x')):=by
 have hx:=fun R=>x_slices_Index_impl_Rule_impl_Rule l x n i R K;simp only[pre_ixRule,andd,dec_iff,ble_iff]at hI;obtain⟨h0,h1,rfl⟩:=hI
 by_cases hi:i<(l.length:Int)
 ·simp only[hi,decide_true,inb_ok h0 hi,branch_true,W1 h0 hi h1]at hx;have hp:=pos_at (p:=fun y=>eqRu x y) d0 h0 hi
  cases hc:eqRu x (l.getD i.toNat d0)
  ·right;rw[hc]at hp;refine⟨l,(l.length:Int),i+1,x, ?_, ?_, ?_,fun R=>(hx R).trans ?_⟩
   ·exact andd.2 ⟨dec_iff.2 (by omega),andd.2 ⟨ble_iff.2 h1,zT rfl⟩⟩
   ·simp only[mu_ixRule];omega
   ·simp only[res_ixRule];rw[hp];rfl
   ·rw[show (decide (x.fst=(l.getD i.toNat (dflt (Ty.str.pair Ty.str).struct)).fst)&&(decide (x.snd=(l.getD i.toNat (dflt (Ty.str.pair Ty.str).struct)).snd)&&true))=false from hc];rfl
  ·left;intro R;rw[hc]at hp;refine(hx R).trans ?_;simp only[res_ixRule];rw[show (decide (x.fst=(l.getD i.toNat (dflt (Ty.str.pair Ty.str).struct)).fst)&&(decide (x.snd=(l.getD i.toNat (dflt (Ty.str.pair Ty.str).struct)).snd)&&true))=true from hc,hp];show K .ret _=K .ret _;simp only[cond_true,Option.getD_some,Int.toNat_of_nonneg h0]
 ·left;intro R;refine(hx R).trans ?_;simp only[hi,decide_false,branch_false,res_ixRule];rw[pos_end (by omega)];rfl
def g_ixRule:St→Cont→Option Fin:=gP sh_ixRule (fun v=>match v with | ((l,n,i,()),(x,()))=>pre_ixRule l n i x) (fun v K=>match v with | ((l,n,i,()),(x,()))=>res_ixRule l n i x K)
def L_ixRule:LpL:=(2,g_ixRule)::[]
def cx_ixRule:Cx:=(cb_ixRule).withLoops (look L_ixRule)
theorem l_ixRule {L:LpL} (n:Nat) (h1:L.drop n=[]) (h2:idsFree (L.take n) (loopOf Tryz.f125 0)=true):LoopsTo g_ixRule (cb_ixRule) (loopOf Tryz.f125 0) 2 L :=
 with_drop h1 h2 (gP_ok (fun v=>match v with | ((l,n,i,()),(x,()))=>mu_ixRule l n i x) fun v K hI=>by
  obtain⟨⟨l,n,i,⟨⟩⟩,⟨x,⟨⟩⟩⟩:=v;exact(r_ixRule l n i x K hI).imp id fun⟨l',n',i',x',h⟩=>⟨((l',n',i',()),(x',())),h⟩)
theorem y_slices_Index_impl_Rule_impl_Rule (l:List Rule) (x:Rule):evFn cx_ixRule Tryz.f125 true [ofD TRL l,ofD TRu x] []=(
need (pre_ixRule l (↑l.length) 0 x) <|
branch ((pos (fun y=>eqRu x y) (List.drop ((0:Int).toNat) l) ((0:Int).toNat)).isSome) ( some ((vI ↑((pos (fun y=>eqRu x y) (List.drop ((0:Int).toNat) l) ((0:Int).toNat)).getD 0)),[])) ( some ((vI (Int.neg 1)),[]))):=by kernel_rfl
def indexV (l:List Rule) (x:Rule):Int:=match pos (fun y=>eqRu x y) l 0 with | some k=>(k:Int) | none => -1
theorem s_slices_Index_impl_Rule_impl_Rule (l:List Rule) (hl:Fit TRL l) (x:Rule) (_hx:Fit TRu x):Sat Tryz.prog 125 [ofD TRL l,ofD TRu x] [] (.d (ofD TI64 (indexV l x))) [] :=
 fn_sound (cx:=cx_ixRule) Tryz.func125 rfl ttOk Γ16ok mixed (fun c hc=>LoopsOk.all (l:=[(2,loopOf Tryz.f125 0)]) (by cases hc;kernel_rfl) ⟨atLoop rfl (l_ixRule 1 rfl (by kernel_rfl)),trivial⟩) (ro:=true) (by
  have h:pre_ixRule l (l.length:Int) 0 x=true:=andd.2 ⟨rfl,andd.2 ⟨ble_iff.2 hl.1,zT rfl⟩⟩;rw[y_slices_Index_impl_Rule_impl_Rule,h];unfold indexV;show need true (branch (pos (fun y=>eqRu x y) l 0).isSome _ _)=_
  cases hq:pos (fun y=>eqRu x y) l 0 with
  |none=>rfl
  |some k =>
   show some (vI (((pos (fun y=>eqRu x y) l 0).getD 0:Nat):Int),[])=_;rw[hq];rfl)
def c_slices_Index_impl_Rule_impl_Rule:Con:=conT [TRL,TRu] fun(l:List Rule) (x:Rule)=>(none, .d (ofD TI64 (indexV l x)))
theorem k_slices_Index_impl_Rule_impl_Rule:ConOk Tryz.prog 125 c_slices_Index_impl_Rule_impl_Rule:=conT_ok Tryz.call125 fun l hl x hx _=>s_slices_Index_impl_Rule_impl_Rule l hl x hx
def Γ17:GL:=(125,c_slices_Index_impl_Rule_impl_Rule)::Γ16
theorem Γ17ok:GO Γ17 := .cons k_slices_Index_impl_Rule_impl_Rule Γ16ok
theorem indexV_neg {l:List Rule} {x:Rule}:decide (0≤indexV l x)=l.any (fun y=>eqRu y x):=by
 rw[← placeV_neg];have:indexV l x=placeV l x:=by
  unfold indexV placeV;rw[show (fun y=>eqRu x y)=fun y=>eqRu y x from funext fun y=>eqRu_comm x y]
 rw[this]
def hasRule (l:List Rule) (x:Rule):Bool:=l.any (fun y=>eqRu y x)
theorem y_slices_Contains_impl_Rule_impl_Rule (l:List Rule) (x:Rule):evFn (cxOf Γ17 Tryz.f92.ntmps [] [] [] []) Tryz.f92 true [ofD TRL l,ofD TRu x] []=(
some ((vB (decide (0≤indexV l x))),[])):=by kernel_rfl
theorem s_slices_Contains_impl_Rule_impl_Rule (l:List Rule) (_hl:Fit TRL l) (x:Rule) (_hx:Fit TRu x):Sat Tryz.prog 92 [ofD TRL l,ofD TRu x] [] (.d (ofD .bool (hasRule l x))) [] :=
 fn_sound (cx:=cxOf Γ17 Tryz.f92.ntmps [] [] [] []) Tryz.func92 rfl ttOk Γ17ok mixed (fun _ _=>LoopsOk.no fun _=>rfl) (ro:=true) (by
  rw[y_slices_Contains_impl_Rule_impl_Rule];have:=@indexV_neg l x;unfold hasRule;rw[← this];rfl)
def c_slices_Contains_impl_Rule_impl_Rule:Con:=conT [TRL,TRu] fun(l:List Rule) (x:Rule)=>(none, .d (ofD .bool (hasRule l x)))
theorem k_slices_Contains_impl_Rule_impl_Rule:ConOk Tryz.prog 92 c_slices_Contains_impl_Rule_impl_Rule:=conT_ok Tryz.call92 fun l hl x hx _=>s_slices_Contains_impl_Rule_impl_Rule l hl x hx
def Γ18:GL:=(92,c_slices_Contains_impl_Rule_impl_Rule)::Γ17
theorem Γ18ok:GO Γ18 := .cons k_slices_Contains_impl_Rule_impl_Rule Γ17ok
def okAt (l:List Rule) (i:Nat):Bool:=bigS (l.getD i d0).1&&(areS (l.getD i d0).2 4 && !hasRule (l.take i) (l.getD i d0))
def okFrom (l:List Rule) (i:Nat):Bool:=(List.range' i (l.length-i)).all (okAt l)
def okG (g:Gram):Bool:=bigS g.1&&(decide ((g.2.length:Int)≤8)&&okFrom g.2 0)
theorem okFrom_end {l:List Rule} {i:Nat} (h:l.length≤i):okFrom l i=true:=by
 unfold okFrom;rw[show l.length-i=0 by omega];rfl
theorem okFrom_go {l:List Rule} {i:Nat} (h:i<l.length):okFrom l i=(okAt l i&&okFrom l (i+1)):=by
 unfold okFrom;rw[show l.length-i=(l.length-(i+1))+1 by omega,List.range'_succ];rfl
theorem not_le8 (n:Nat):decide ((8:Int)<(n:Int)) = !decide ((n:Int)≤8):=by
 by_cases h:(n:Int)≤8
 ·rw[zT h,zF (by omega)];rfl
 ·rw[zF h,zT (by omega)];rfl
def cb_sGramOk:Cx:=cxOf Γ18 Tryz.f71.ntmps [(4,[1,3])] [(0,[]),(1,[1,3]),(1000000,[2])] [] []
abbrev st_sGramOk (i:Int) (g:Gram):St:=⟨[(1, kp0),(3,vI i)],[(500000,some (boxD 25 TG g))]⟩
theorem x_spec_GramOk (g:Gram) (i:Int) (R:St→Option Fin) (K:Cont):evC (cb_sGramOk.withLoops (look [])) (loopOf Tryz.f71 0) (st_sGramOk i g) (onward (headAt (cb_sGramOk.withLoops (look [])) 4) R K)=(
branch (decide (i<↑(length g.snd))) (
 need (inb i (length g.snd)) <|
 need (bif decide ((!bigS (getD g.snd i.toNat d0).fst)=false)then inb i (length g.snd)else true) <|
 need (bif decide ((bif !bigS (getD g.snd i.toNat d0).fst then true else !areS (getD g.snd i.toNat d0).snd 4)=false)then inr 0 i (length g.snd)else true) <|
 need (bif decide ((bif !bigS (getD g.snd i.toNat d0).fst then true else !areS (getD g.snd i.toNat d0).snd 4)=false)then inb i (length g.snd)else true) <|
 branch (bif bif !bigS (getD g.snd i.toNat d0).fst then true else !areS (getD g.snd i.toNat d0).snd 4 then true else decide (0≤placeV (List.take i.toNat g.snd) (getD g.snd i.toNat d0))) ( K (.ret) (.mk [(2,vB false)] [])) ( R (st_sGramOk (W64 (i+1)) g))) ( K (.exit 0) (.mk [] []))):=by kernel_rfl
theorem okAt_tree (a b c:Bool):(bif bif !a then true else !b then true else c) = !(a&&(b && !c)):=by cases a<;>cases b<;>cases c<;>rfl
def cx0_sGramOk:Cx:=(cb_sGramOk).withLoops (look [])
def sh_sGramOk:Sh:=([(1, .ptr 500000 0),(3, .d TI64)],[(500000, .box 25 TG)])
def pre_sGramOk (i:Int) (g:Gram):Bool:=decide (0≤i)&&Nat.ble (length g.2) big
def res_sGramOk (i:Int) (g:Gram) (K:Cont):Option Fin:=branch (okFrom g.2 i.toNat) (K (.exit 0) ⟨[],[]⟩) (K .ret ⟨[(2,vB false)],[]⟩)
def mu_sGramOk (i:Int) (g:Gram):Nat:=length g.2-i.toNat
theorem r_sGramOk (i:Int) (g:Gram) (K:Cont) (hI:pre_sGramOk i g=true):(∀R:St→Option Fin,evC cx0_sGramOk (loopOf Tryz.f71 0) (st_sGramOk i g) (onward (headAt cx0_sGramOk 4) R K)=res_sGramOk i g K) ∨
  (∃(i':Int) (g':Gram),pre_sGramOk i' g'=true∧mu_sGramOk i' g'<mu_sGramOk i g∧res_sGramOk i' g' K=res_sGramOk i g K∧∀R:St→Option Fin,evC cx0_sGramOk (loopOf Tryz.f71 0) (st_sGramOk i g) (onward (headAt cx0_sGramOk 4) R K)=R (st_sGramOk i' g')):=by
 have hx:=fun R=>x_spec_GramOk g i R K;simp only[pre_sGramOk,andd,dec_iff,ble_iff]at hI;obtain⟨h0,h1⟩:=hI
 by_cases hi:i<(length g.2:Int)
 ·simp only[hi,decide_true,inb_ok h0 hi,inr_take h0 hi,Bool.cond_self,branch_true,okAt_tree,placeV_neg,W1 h0 hi h1]at hx;have hn:i.toNat<length g.2:=by omega
  have hg:=okFrom_go hn;rw[show i.toNat+1=(i+1).toNat by omega]at hg
  cases hc:okAt g.2 i.toNat
  ·left;intro R;rw[hc]at hg;refine(hx R).trans ?_;have hc':=hc;unfold okAt hasRule at hc';rw[hc'];simp only[res_sGramOk,hg];rfl
  ·right;rw[hc]at hg;refine⟨i+1,g, ?_, ?_, ?_,fun R=>(hx R).trans ?_⟩
   ·exact andd.2 ⟨dec_iff.2 (by omega),ble_iff.2 h1⟩
   ·simp only[mu_sGramOk];omega
   ·simp only[res_sGramOk,hg];rfl
   ·have hc':=hc;unfold okAt hasRule at hc';rw[hc'];rfl
 ·left;intro R;refine(hx R).trans ?_;simp only[hi,decide_false,branch_false,res_sGramOk];rw[okFrom_end (by omega)];rfl
def g_sGramOk:St→Cont→Option Fin:=gP sh_sGramOk (fun v=>match v with | ((i,()),(g,()))=>pre_sGramOk i g) (fun v K=>match v with | ((i,()),(g,()))=>res_sGramOk i g K)
def L_sGramOk:LpL:=(4,g_sGramOk)::[]
def cx_sGramOk:Cx:=(cb_sGramOk).withLoops (look L_sGramOk)
theorem l_sGramOk {L:LpL} (n:Nat) (h1:L.drop n=[]) (h2:idsFree (L.take n) (loopOf Tryz.f71 0)=true):LoopsTo g_sGramOk (cb_sGramOk) (loopOf Tryz.f71 0) 4 L :=
 with_drop h1 h2 (gP_ok (fun v=>match v with | ((i,()),(g,()))=>mu_sGramOk i g) fun v K hI=>by
  obtain⟨⟨i,⟨⟩⟩,⟨g,⟨⟩⟩⟩:=v;exact(r_sGramOk i g K hI).imp id fun⟨i',g',h⟩=>⟨((i',()),(g',())),h⟩)
theorem y_spec_GramOk (g:Gram):evFn cx_sGramOk Tryz.f71 true [ofD TG g] []=(
branch (bif !bigS g.fst then true else decide (8<(length g.snd:Int))) ( some ((vB false),[])) (
 need (pre_sGramOk 0 g) <|
 branch (okFrom g.snd ((0:Int).toNat)) ( some ((vB true),[])) ( some ((vB false),[])))):=by kernel_rfl
theorem s_spec_GramOk (g:Gram) (hg:Fit TG g):Sat Tryz.prog 71 [ofD TG g] [] (.d (ofD .bool (okG g))) [] :=
 fn_sound (cx:=cx_sGramOk) Tryz.func71 rfl ttOk Γ18ok mixed (fun c hc=>LoopsOk.all (l:=[(4,loopOf Tryz.f71 0)]) (by cases hc;kernel_rfl) ⟨atLoop rfl (l_sGramOk 1 rfl (by kernel_rfl)),trivial⟩) (ro:=true) (by
  have h:pre_sGramOk 0 g=true:=andd.2 ⟨rfl,ble_iff.2 hg.2.1⟩;rw[y_spec_GramOk,h,not_le8];unfold okG
  cases bigS g.1
  ·rfl
  ·cases decide ((length g.2:Int)≤8)
   ·rfl
   ·show need true (branch (okFrom g.2 0) _ _)=_
    cases okFrom g.2 0<;>rfl)
def c_spec_GramOk:Con:=conT [TG] fun(g:Gram)=>(none, .d (ofD .bool (okG g)))
theorem k_spec_GramOk:ConOk Tryz.prog 71 c_spec_GramOk:=conT_ok Tryz.call71 fun g hg _=>s_spec_GramOk g hg
def Γ19:GL:=(71,c_spec_GramOk)::Γ18
theorem Γ19ok:GO Γ19 := .cons k_spec_GramOk Γ18ok
def cb_iGramOk:Cx:=cxOf Γ19 Tryz.f43.ntmps [(4,[1,16,17,18])] [(0,[]),(1,[1,16,17,18]),(1000000,[2])] [] []
abbrev st_iGramOk (l:List Rule) (n i:Int) (g:Gram):St:=⟨[(1, kp0),(16, .d (ofD TRL l)),(17,vI n),(18,vI i)],[(500000,some (boxD 25 TG g))]⟩
theorem x_impl_GramOk (g:Gram) (l:List Rule) (n i:Int) (R:St→Option Fin) (K:Cont):evC (cb_iGramOk.withLoops (look [])) (loopOf Tryz.f43 0) (st_iGramOk l n i g) (onward (headAt (cb_iGramOk.withLoops (look [])) 4) R K)=(
branch (decide (i<n)) (
 need (inb i l.length) <|
 need (bif decide ((bif !bigS (l.getD i.toNat d0).fst then true else !areS (l.getD i.toNat d0).snd 4)=false)then inr 0 i (length g.snd)else true) <|
 branch (bif bif !bigS (l.getD i.toNat d0).fst then true else !areS (l.getD i.toNat d0).snd 4 then true else hasRule (List.take i.toNat g.snd) (l.getD i.toNat d0)) ( K (.ret) (.mk [(2,vB false)] [])) ( R (st_iGramOk l n (W64 (i+1)) g))) ( K (.exit 0) (.mk [] []))):=by kernel_rfl
def cx0_iGramOk:Cx:=(cb_iGramOk).withLoops (look [])
def sh_iGramOk:Sh:=([(1, .ptr 500000 0),(16, .d TRL),(17, .d TI64),(18, .d TI64)],[(500000, .box 25 TG)])
def pre_iGramOk (l:List Rule) (n i:Int) (g:Gram):Bool:=decide (0≤i)&&(Nat.ble (length g.2) big&&(decide (n=(length g.2:Int))&&decide (l=g.2)))
def res_iGramOk (_l:List Rule) (_n i:Int) (g:Gram) (K:Cont):Option Fin:=branch (okFrom g.2 i.toNat) (K (.exit 0) ⟨[],[]⟩) (K .ret ⟨[(2,vB false)],[]⟩)
def mu_iGramOk (_l:List Rule) (_n i:Int) (g:Gram):Nat:=length g.2-i.toNat
theorem r_iGramOk (l:List Rule) (n i:Int) (g:Gram) (K:Cont) (hI:pre_iGramOk l n i g=true):(∀R:St→Option Fin,evC cx0_iGramOk (loopOf Tryz.f43 0) (st_iGramOk l n i g) (onward (headAt cx0_iGramOk 4) R K)=res_iGramOk l n i g K) ∨
  (∃(l':List Rule) (n' i':Int) (g':Gram),pre_iGramOk l' n' i' g'=true∧mu_iGramOk l' n' i' g'<mu_iGramOk l n i g∧res_iGramOk l' n' i' g' K=res_iGramOk l n i g K∧∀R:St→Option Fin,evC cx0_iGramOk (loopOf Tryz.f43 0) (st_iGramOk l n i g) (onward (headAt cx0_iGramOk 4) R K)=R (st_iGramOk l' n' i' g')):=by
 have hx:=fun R=>x_impl_GramOk g l n i R K;simp only[pre_iGramOk,andd,dec_iff,ble_iff]at hI;obtain⟨h0,h1,rfl,rfl⟩:=hI
 by_cases hi:i<(length g.2:Int)
 ·simp only[hi,decide_true,inb_ok h0 hi,inr_take h0 hi,Bool.cond_self,branch_true,okAt_tree,W1 h0 hi h1]at hx;have hn:i.toNat<length g.2:=by omega
  have hg:=okFrom_go hn;rw[show i.toNat+1=(i+1).toNat by omega]at hg
  cases hc:okAt g.2 i.toNat
  ·left;intro R;rw[hc]at hg;refine(hx R).trans ?_;have hc':=hc;unfold okAt at hc';rw[hc'];simp only[res_iGramOk,hg];rfl
  ·right;rw[hc]at hg;refine⟨g.2,(length g.2:Int),i+1,g, ?_, ?_, ?_,fun R=>(hx R).trans ?_⟩
   ·exact andd.2 ⟨dec_iff.2 (by omega),andd.2 ⟨ble_iff.2 h1,andd.2 ⟨zT rfl,zT rfl⟩⟩⟩
   ·simp only[mu_iGramOk];omega
   ·simp only[res_iGramOk,hg];rfl
   ·have hc':=hc;unfold okAt at hc';rw[hc'];rfl
 ·left;intro R;refine(hx R).trans ?_;simp only[hi,decide_false,branch_false,res_iGramOk];rw[okFrom_end (by omega)];rfl
def g_iGramOk:St→Cont→Option Fin:=gP sh_iGramOk (fun v=>match v with | ((l,n,i,()),(g,()))=>pre_iGramOk l n i g) (fun v K=>match v with | ((l,n,i,()),(g,()))=>res_iGramOk l n i g K)
def L_iGramOk:LpL:=(4,g_iGramOk)::[]
def cx_iGramOk:Cx:=(cb_iGramOk).withLoops (look L_iGramOk)
theorem l_iGramOk {L:LpL} (n:Nat) (h1:L.drop n=[]) (h2:idsFree (L.take n) (loopOf Tryz.f43 0)=true):LoopsTo g_iGramOk (cb_iGramOk) (loopOf Tryz.f43 0) 4 L :=
 with_drop h1 h2 (gP_ok (fun v=>match v with | ((l,n,i,()),(g,()))=>mu_iGramOk l n i g) fun v K hI=>by
  obtain⟨⟨l,n,i,⟨⟩⟩,⟨g,⟨⟩⟩⟩:=v;exact(r_iGramOk l n i g K hI).imp id fun⟨l',n',i',g',h⟩=>⟨((l',n',i',()),(g',())),h⟩)
theorem y_impl_GramOk (g:Gram):evFn cx_iGramOk Tryz.f43 true [ofD TG g] []=(
branch (bif !bigS g.fst then true else decide (8<(length g.snd:Int))) ( some ((vB false),[])) (
 need (pre_iGramOk g.snd ((length g.snd:Int)) 0 g) <|
 branch (okFrom g.snd ((0:Int).toNat)) ( some ((vB true),[])) ( some ((vB false),[])))):=by kernel_rfl
theorem s_impl_GramOk (g:Gram) (hg:Fit TG g):Sat Tryz.prog 43 [ofD TG g] [] (.d (ofD .bool (okG g))) [] :=
 fn_sound (cx:=cx_iGramOk) Tryz.func43 rfl ttOk Γ19ok mixed (fun c hc=>LoopsOk.all (l:=[(4,loopOf Tryz.f43 0)]) (by cases hc;kernel_rfl) ⟨atLoop rfl (l_iGramOk 1 rfl (by kernel_rfl)),trivial⟩) (ro:=true) (by
  have h:pre_iGramOk g.2 (length g.2:Int) 0 g=true:=andd.2 ⟨rfl,andd.2 ⟨ble_iff.2 hg.2.1,andd.2 ⟨zT rfl,zT rfl⟩⟩⟩;rw[y_impl_GramOk,h,not_le8];unfold okG
  cases bigS g.1
  ·rfl
  ·cases decide ((length g.2:Int)≤8)
   ·rfl
   ·show need true (branch (okFrom g.2 0) _ _)=_
    cases okFrom g.2 0<;>rfl)
def c_impl_GramOk:Con:=conT [TG] fun(g:Gram)=>(none, .d (ofD .bool (okG g)))
theorem k_impl_GramOk:ConOk Tryz.prog 43 c_impl_GramOk:=conT_ok Tryz.call43 fun g hg _=>s_impl_GramOk g hg
def Γ20:GL:=(43,c_impl_GramOk)::Γ19
theorem Γ20ok:GO Γ20 := .cons k_impl_GramOk Γ19ok
theorem fits_ok {n b:Nat} (hn:n≤100000) (hb:b≤100000):fits n b=true:=by
 unfold fits;refine zT ?_;have:=Nat.mul_le_mul hn hb;omega
theorem intBytes:Tryz.t3.bytes=8:=by kernel_rfl
abbrev TU8:Ty := .int .u8
theorem byteL_nat (b:UInt8):UInt8.ofNat ((b.toNat:Int)).toNat=b:=by
 rw[show ((b.toNat:Int)).toNat=b.toNat by omega];exact UInt8.ofNat_toNat
def inS (s:Str) (c:Int):Bool:=s.any fun b=>decide ((b.toNat:Int)=c)
theorem inS_at {s:Str} {i c:Int} (h0:0≤i) (h1:i<(s.length:Int)):inS (s.drop i.toNat) c=(decide (byteAt s i=c)||inS (s.drop (i+1).toNat) c):=by
 have hn:i.toNat<s.length:=by omega
 unfold inS;rw[drop_eq_getElem_cons hn,List.any_cons,show (i+1).toNat=i.toNat+1 by omega,byteAt_get h0 hn]
theorem inS_mem {s:Str} {c:UInt8}:inS s (c.toNat:Int)=true↔c∈s:=by
 unfold inS;rw[List.any_eq_true]
 constructor
 ·rintro ⟨x,h1,h2⟩;have:x=c:=UInt8.toNat_inj.1 (by have:=of_decide_eq_true h2;omega);exact this ▸ h1
 ·intro h;exact⟨c,h,zT rfl⟩
theorem u8_nat {c:Int} (h:Fit TU8 c):((UInt8.ofNat c.toNat).toNat:Int)=c:=by
 have h1:IntKind.u8.wrap c=c:=h;rw[IntKind.wrap_u8]at h1;rw[UInt8.toNat_ofNat'];omega
def sgsOf (l:List Rule):Str:=l.flatMap fun r=>r.1++r.2
def signsG (g:Gram):Str:=g.1++sgsOf g.2
theorem sgs_at {l:List Rule} {i:Int} (h0:0≤i) (h1:i<(l.length:Int)):sgsOf (l.drop i.toNat)=(l.getD i.toNat d0).1++(l.getD i.toNat d0).2++sgsOf (l.drop (i+1).toNat):=by
 have hn:i.toNat<l.length:=by omega
 unfold sgsOf;rw[drop_eq_getElem_cons hn,List.flatMap_cons,show (i+1).toNat=i.toNat+1 by omega,getD_at hn]
theorem sgs_end {l:List Rule} {i:Int} (h:(l.length:Int)≤i):sgsOf (l.drop i.toNat)=[]:=by
 rw[drop_eq_nil_of_le (by omega)];rfl
theorem okAt_iff {l:List Rule} {i:Nat} (h:okAt l i=true):bigS (l.getD i d0).1=true∧areS (l.getD i d0).2 4=true:=by
 unfold okAt at h;rw[andd,andd]at h;exact⟨h.1,h.2.1⟩
theorem okG_iff {g:Gram} (h:okG g=true):bigS g.1=true∧g.2.length≤8∧∀r∈g.2,bigS r.1=true∧areS r.2 4=true:=by
 unfold okG at h;rw[andd,andd]at h;obtain⟨h1,h2,h3⟩:=h;refine⟨h1,by have:=of_decide_eq_true h2;omega,fun r hr => ?_⟩;obtain⟨i,hi,rfl⟩:=List.getElem_of_mem hr;unfold okFrom at h3;have:=okAt_iff (all_eq_true.1 h3 i (List.mem_range'.2 ⟨i,by omega,by omega⟩));rw[getD_at hi]at this;exact this
theorem bigS_one {s:Str} (h:bigS s=true):∃c,s=[c]∧bigc c=true:=by
 unfold bigS at h
 split at h
 ·exact ⟨_,rfl,h⟩
 ·cases h
theorem areS_iff {s:Str} {n:Int} (h:areS s n=true):(∀c∈s,sign c=true)∧(s.length:Int)≤n:=by
 unfold areS at h;rw[andd]at h;exact⟨fun c hc=>all_eq_true.1 h.1 c hc,of_decide_eq_true h.2⟩
theorem sgs_len:∀ {l:List Rule},(∀r∈l,bigS r.1=true∧areS r.2 4=true)→(sgsOf l).length≤5*l.length
 | [],_=>Nat.zero_le _
 |r::l,h=>by
  obtain⟨h1,h2⟩:=h r mem_cons_self;obtain⟨c,h1,_⟩:=bigS_one h1;have h2:=(areS_iff h2).2;have ih:=sgs_len (l:=l) fun r hr=>h r (mem_cons_of_mem _ hr);unfold sgsOf at *;rw[List.flatMap_cons,length_append,length_append,h1];simp only[length_cons,List.length_nil];omega
theorem signs_len {g:Gram} (h:okG g=true):(signsG g).length≤41:=by
 obtain⟨h1,h2,h3⟩:=okG_iff h;obtain⟨c,h1,_⟩:=bigS_one h1;have:=sgs_len h3;unfold signsG;rw[length_append,h1];simp only[length_cons,List.length_nil];omega
theorem sign_big {c:UInt8} (h:bigc c=true):sign c=true:=by unfold sign;rw[h];rfl
theorem signs_all {g:Gram} (h:okG g=true):∀c∈signsG g,sign c=true:=by
 obtain⟨h1,h2,h3⟩:=okG_iff h;obtain⟨c0,h1,h4⟩:=bigS_one h1;intro c hc;unfold signsG at hc;rcases mem_append.1 hc with hc | hc
 ·rw[h1]at hc;rw[mem_singleton.1 hc];exact sign_big h4
 ·unfold sgsOf at hc;obtain⟨r,hr,hc⟩:=List.mem_flatMap.1 hc;obtain⟨g1,g2⟩:=h3 r hr;rcases mem_append.1 hc with hc | hc
  ·obtain ⟨c1,g1,g3⟩:=bigS_one g1;rw[g1]at hc;rw[mem_singleton.1 hc];exact sign_big g3
  ·exact (areS_iff g2).1 c hc
theorem big_small (c:UInt8):¬(bigc c=true∧small c=true):=by
 unfold bigc small;rw[andd,andd,ble_iff,ble_iff,ble_iff,ble_iff];omega
theorem slice_one {s:Str} {i:Int} (h0:0≤i) (h1:i<(s.length:Int)):List.take ((i+1).toNat-i.toNat) (List.drop i.toNat s)=[s.getD i.toNat 0]:=by
 have hn:i.toNat<s.length:=by omega
 rw[show (i+1).toNat-i.toNat=1 by omega,drop_eq_getElem_cons hn,zG,zE hn];rfl
theorem okG_big {g:Gram} (h:okG g=true):bigS g.1=true:=(okG_iff h).1
set_option maxHeartbeats 1000000
def conL (t:TypeId) (s:Ty) (ts:List Ty) (G:List (Den s)→Fn ts (Option Bool×T×List (Den s))):Con:=⟨false,fun ds os=>match ds,os with
 | .one (.own 0)::ds,[o]=>match exLis t s (some o)with
  |some l=>match applyD ts (G l) ds with
   |some (c,r,m)=>some (c,r,[(0,some (.lis t s m))])
   |none=>none
  |none=>none
 |_,_=>none⟩
theorem lis_fit {P:Program} {f:FuncId} {t:TypeId} {s:Ty} {l:List (Den s)} {ds:List D} {r:T} {objs:Heap} (hs:tyFlat s=true) (h:Fit (.list s) l→Sat P f ds [.lis t s l] r objs):Sat P f ds [.lis t s l] r objs:=by
 intro w F β args H hds;have h0:hOf [Obj.lis t s l] 0=some (some (.lis t s l)):=by rw[hOf_eq];rfl
 have hr:LeafAt _ _ t s l (β 0):=RepO.leaf.1 (H.obj 0 _ h0);refine h (fit_list ?_ fun k hk => ?_) w F β args H hds
 ·rcases hr with⟨_,_,h2⟩ | ⟨_,cap,_,_,_,_,h4,h5,_⟩
  ·omega
  ·exact Nat.le_trans h4 (Nat.le_trans h5 (by decide))
 ·rcases hr with⟨_,_,h2⟩ | ⟨b,cap,cur,h1,h⟩
  ·omega
  ·obtain ⟨us,_,_,q⟩:=deep_elem (cap:=cap) (b:=b) hs (.inr ⟨b,cap,cur,rfl,h⟩) hk;exact RoL_fit (RoL_cells.2 q)
theorem conL_ok {P:Program} {f:FuncId} {t:TypeId} {s:Ty} {ts:List Ty} {G:List (Den s)→Fn ts (Option Bool×T×List (Den s))} (hs:tyFlat s=true) (hin:∀args w,(callFunc f args).run P w = .ok (.enter f args) w)
  (he:∀l,Fit (.list s) l→EachF ts (G l) fun ds r=>(r.1=none∨r.1=some true)→Sat P f (.one (.own 0)::ds) [.lis t s l] r.2.1 [(0,some (.lis t s r.2.2))]):ConOk P f (conL t s ts G):=by
 refine⟨hin,fun ds os c x objs hc hok => ?_⟩;simp only[conL]at hc
 split at hc
 ·rename_i ds o
  split at hc
  ·rename_i l e2;have e2:=Option.some.inj (exLis_some e2);subst e2
   split at hc
   ·rename_i c' r m hap
    cases hc
    refine lis_fit hs fun hf => ?_;intro w F β args H hds
    cases hds with
    |cons g1 g2 =>
     obtain⟨ds',q1,q2⟩:=each_of (he l hf) hap g2;exact q1 hok w F β _ H (.cons g1 q2)
   ·cases hc
  ·cases hc
 ·cases hc
def ltI (x y:Int):Bool:=decide (x<y)
theorem s_cmp_isNaN_byte (a:Int) (_ha:Fit (.int .u8) a):Sat Tryz.prog 194 [ofD (.int .u8) a] [] (.d (ofD .bool false)) [] :=
 fn_sound (cx:=cxOf Γ20 Tryz.f194.ntmps [] [] [] []) Tryz.func194 rfl ttOk Γ20ok mixed (fun _ _=>LoopsOk.no fun _=>rfl) (ro:=true) (by
  have y:evFn (cxOf Γ20 Tryz.f194.ntmps [] [] [] []) Tryz.f194 true [ofD (.int .u8) a] []=some (vB !decide (a=a),[]):=by kernel_rfl
  rw[y,zT rfl];rfl)
def c_cmp_isNaN_byte:Con:=conT [(.int .u8)] fun(_a:Int)=>(none, .d (ofD .bool false))
theorem k_cmp_isNaN_byte:ConOk Tryz.prog 194 c_cmp_isNaN_byte:=conT_ok Tryz.call194 fun a ha _=>s_cmp_isNaN_byte a ha
def Γ21:GL:=(194,c_cmp_isNaN_byte)::Γ20
theorem Γ21ok:GO Γ21 := .cons k_cmp_isNaN_byte Γ20ok
theorem s_cmp_Less_byte (a:Int) (_ha:Fit (.int .u8) a) (b:Int) (_hb:Fit (.int .u8) b):Sat Tryz.prog 179 [ofD (.int .u8) a,ofD (.int .u8) b] [] (.d (ofD .bool (ltI a b))) [] :=
 fn_sound (cx:=cxOf Γ21 Tryz.f179.ntmps [] [] [] []) Tryz.func179 rfl ttOk Γ21ok mixed (fun _ _=>LoopsOk.no fun _=>rfl) (ro:=true) (by
  have y:evFn (cxOf Γ21 Tryz.f179.ntmps [] [] [] []) Tryz.f179 true [ofD (.int .u8) a,ofD (.int .u8) b] []=some (vB (ltI a b),[]):=by kernel_rfl
  rw[y];rfl)
def c_cmp_Less_byte:Con:=conT [(.int .u8),(.int .u8)] fun(a:Int) (b:Int)=>(none, .d (ofD .bool (ltI a b)))
theorem k_cmp_Less_byte:ConOk Tryz.prog 179 c_cmp_Less_byte:=conT_ok Tryz.call179 fun a ha b hb _=>s_cmp_Less_byte a ha b hb
def Γ22:GL:=(179,c_cmp_Less_byte)::Γ21
theorem Γ22ok:GO Γ22 := .cons k_cmp_Less_byte Γ21ok
abbrev swL (l:List Int) (i j:Nat):List Int:=(l.set i (l.getD j 0)).set j (l.getD i 0)
theorem at_arr (l:List Int) (i:Nat):l.toArray[i]! = l.getD i 0:=by simp[List.getD_eq_getElem?_getD]
theorem sw_arr (l:List Int) (i j:Nat):Go.Sort.swp l.toArray i j=(swL l i j).toArray:=by
 unfold Go.Sort.swp;rw[at_arr,at_arr,List.setIfInBounds_toArray,List.setIfInBounds_toArray]
theorem swL_len (l:List Int) (i j:Nat):(swL l i j).length=l.length:=by simp
abbrev onL (f:Array Int→Array Int) (l:List Int):List Int:=(f l.toArray).toList
theorem onL_len {f:Array Int→Array Int} (h:∀d,(f d).size=d.size) (l:List Int):(onL f l).length=l.length:=by
 unfold onL;rw[Array.length_toList,h];rfl
theorem onL_arr (f:Array Int→Array Int) (l:List Int):(onL f l).toArray=f l.toArray:=by unfold onL;rw[Array.toArray_toList]
theorem insInner_size (a:Nat):∀(j:Nat) (d:Array Int),(Go.Sort.insInner ltI a j d).size=d.size
 |0,d=>rfl
 |j+1,d=>by
  rw[Go.Sort.insInner]
  split
  ·rw[insInner_size a j];unfold Go.Sort.swp;rw[Array.size_setIfInBounds,Array.size_setIfInBounds]
  ·rfl
def cb_insSort:Cx:=cxOf Γ22 Tryz.f173.ntmps [(4,[0,1,2,6,7]),(1,[0,1,2,6])] [(0,[]),(1,[0,1,2,6]),(2,[0,1,2,6]),(3,[0,1,2,6,7])] [] []
theorem x_insInner (l:List Int) (a b i j:Int) (R:St→Option Fin) (K:Cont):evC (cb_insSort.withLoops (look [])) (loopOf Tryz.f173 1) ⟨[(0, .d (.one (.own 0))),(1,vI a),(2,vI b),(6,vI i),(7,vI j)],[(0,some (.lis 5 TU8 l))]⟩ (onward (headAt (cb_insSort.withLoops (look [])) 4) R K)=(
need (bif decide (decide (a<j)=true)then inb j l.length else true) <|
need (bif decide (decide (a<j)=true)then inb (W64 (j-1)) l.length else true) <|
branch (bif decide (a<j)then ltI (l.getD j.toNat 0) (l.getD (W64 (j-1)).toNat 0)else false) (
 need (inb (W64 (j-1)) l.length) <|
 need (inb j l.length) <|
 need (inb j l.length) <|
 need (inb (W64 (j-1)) (l.set j.toNat (l.getD (W64 (j-1)).toNat 0)).length) <| R ⟨[(0, .d (.one (.own 0))),(1,vI a),(2,vI b),(6,vI i),(7,vI (W64 (j-1)))],[(0,some (.lis 5 TU8 (swL l j.toNat (W64 (j-1)).toNat)))]⟩)
 (K (.exit 2) ⟨[(0, .d (.one (.own 0))),(1,vI a),(2,vI b),(6,vI i)],[(0,some (.lis 5 TU8 l))]⟩)):=by kernel_rfl
def cx0_insInner:Cx:=(cb_insSort).withLoops (look [])
def sh_insInner:Sh:=([(0, .own 0),(1, .d TI64),(2, .d TI64),(6, .d TI64),(7, .d TI64)],[(0, .lis 5 TU8)])
abbrev st_insInner (a b i j:Int) (l:List (Int)):St:=⟨[(0, .d (.one (.own 0))),(1,vI a),(2,vI b),(6,vI i),(7,vI j)],[(0,some (.lis 5 TU8 l))]⟩
def pre_insInner (a _b _i j:Int) (l:List (Int)):Bool:=decide (0≤a)&&(decide (a≤j)&&(decide (j<(length l:Int))&&Nat.ble (length l) big))
def res_insInner (a b i j:Int) (l:List (Int)) (K:Cont):Option Fin:=K (.exit 2) ⟨[(0, .d (.one (.own 0))),(1,vI a),(2,vI b),(6,vI i)],[(0,some (.lis 5 TU8 (onL (Go.Sort.insInner ltI a.toNat j.toNat) l)))]⟩
def mu_insInner (_a _b _i j:Int) (_l:List (Int)):Nat:=j.toNat
theorem r_insInner (a b i j:Int) (l:List (Int)) (K:Cont) (hI:pre_insInner a b i j l=true):(∀R:St→Option Fin,evC cx0_insInner (loopOf Tryz.f173 1) (st_insInner a b i j l) (onward (headAt cx0_insInner 4) R K)=res_insInner a b i j l K) ∨
  (∃(a' b' i' j':Int) (l':List (Int)),pre_insInner a' b' i' j' l'=true∧mu_insInner a' b' i' j' l'<mu_insInner a b i j l∧res_insInner a' b' i' j' l' K=res_insInner a b i j l K∧∀R:St→Option Fin,evC cx0_insInner (loopOf Tryz.f173 1) (st_insInner a b i j l) (onward (headAt cx0_insInner 4) R K)=R (st_insInner a' b' i' j' l')):=by
 have hx:=fun R=>x_insInner l a b i j R K;simp only[pre_insInner,andd,dec_iff,ble_iff]at hI;obtain⟨h0,h1,h2,h3⟩:=hI
 by_cases hi:a<j
 ·have hw:W64 (j-1)=j-1:=wrap_small (by omega) (by simp only[big]at h3;omega);obtain⟨n,hn⟩:∃n:Nat,j=(n:Int)+1:=⟨(j-1).toNat,by omega⟩;have e1:j.toNat=n+1:=by omega
  have e2:(j-1).toNat=n:=by omega
  have b1:inb j l.length=true:=inb_ok (by omega) h2;have b2:inb (j-1) l.length=true:=inb_ok (by omega) (by omega);have hs:onL (Go.Sort.insInner ltI a.toNat (n+1)) l=bif ltI (l.getD (n+1) 0) (l.getD n 0)then onL (Go.Sort.insInner ltI a.toNat n) (swL l (n+1) n)else l:=by
   unfold onL;rw[Go.Sort.insInner,at_arr,at_arr,sw_arr,zT (show n+1 > a.toNat by omega),Bool.true_and]
   cases ltI (l.getD (n+1) 0) (l.getD n 0)<;>rfl
  simp only[hi,decide_true,hw,b1,b2,length_set,Bool.cond_self,need_t,e1,e2,cond_true]at hx
  cases hc:ltI (l.getD (n+1) 0) (l.getD n 0)
  ·left;intro R;refine(hx R).trans ?_;simp only[res_insInner,e1,hs,hc];rfl
  ·right;refine⟨a,b,i,j-1,swL l (n+1) n, ?_, ?_, ?_,fun R=>(hx R).trans ?_⟩
   ·simp only[pre_insInner,andd,dec_iff,ble_iff,swL_len];omega
   ·simp only[mu_insInner];omega
   ·simp only[res_insInner,e1,e2,hs,hc];rfl
   ·rw[hc];rfl
 ·left;intro R;refine(hx R).trans ?_;have e:j=a:=by omega
  subst e;simp only[hi,decide_false,cond_false];show K _ _=_;have hs:onL (Go.Sort.insInner ltI j.toNat j.toNat) l=l:=by
   unfold onL
   cases hn:j.toNat with
   |zero=>rfl
   |succ n=>rw[Go.Sort.insInner,zF (by omega),Bool.false_and];rfl
  simp only[res_insInner,hs]
def g_insInner:St→Cont→Option Fin:=gP sh_insInner (fun v=>match v with | ((a,b,i,j,()),(l,()))=>pre_insInner a b i j l) (fun v K=>match v with | ((a,b,i,j,()),(l,()))=>res_insInner a b i j l K)
def L_insInner:LpL:=(4,g_insInner)::[]
def cx_insInner:Cx:=(cb_insSort).withLoops (look L_insInner)
theorem l_insInner {L:LpL} (n:Nat) (h1:L.drop n=[]) (h2:idsFree (L.take n) (loopOf Tryz.f173 1)=true):LoopsTo g_insInner (cb_insSort) (loopOf Tryz.f173 1) 4 L :=
 with_drop h1 h2 (gP_ok (fun v=>match v with | ((a,b,i,j,()),(l,()))=>mu_insInner a b i j l) fun v K hI=>by
  obtain⟨⟨a,b,i,j,⟨⟩⟩,⟨l,⟨⟩⟩⟩:=v;exact(r_insInner a b i j l K hI).imp id fun⟨a',b',i',j',l',h⟩=>⟨((a',b',i',j',()),(l',())),h⟩)
abbrev st_insOuter (a b i:Int) (l:List (Int)):St:=⟨[(0, .d (.one (.own 0))),(1,vI a),(2,vI b),(6,vI i)],[(0,some (.lis 5 TU8 l))]⟩
theorem x_slices_insertionSortOrdered_byte (l:List Int) (a b i:Int) (R:St→Option Fin) (K:Cont):evC cx_insInner (loopOf Tryz.f173 0) (st_insOuter a b i l) (onward (headAt cx_insInner 1) R K)=(
branch (decide (i<b)) (
 need (pre_insInner a b i i l) <| R (st_insOuter a b (W64 (i+1)) (onL (Go.Sort.insInner ltI a.toNat i.toNat) l))) ( K (.exit 0) (.mk [] [(0,some (.lis 5 TU8 l))]))):=by kernel_rfl
def cx0_insOuter:Cx:=(cb_insSort).withLoops (look L_insInner)
def sh_insOuter:Sh:=([(0, .own 0),(1, .d TI64),(2, .d TI64),(6, .d TI64)],[(0, .lis 5 TU8)])
def pre_insOuter (a b i:Int) (l:List (Int)):Bool:=decide (0≤a)&&(decide (a≤i)&&(decide (b≤(length l:Int))&&Nat.ble (length l) big))
def res_insOuter (a b i:Int) (l:List (Int)) (K:Cont):Option Fin:=K (.exit 0) ⟨[],[(0,some (.lis 5 TU8 (onL (Go.Sort.insOuter ltI a.toNat b.toNat i.toNat) l)))]⟩
def mu_insOuter (_a b i:Int) (_l:List (Int)):Nat:=(b-i).toNat
theorem r_insOuter (a b i:Int) (l:List (Int)) (K:Cont) (hI:pre_insOuter a b i l=true):(∀R:St→Option Fin,evC cx0_insOuter (loopOf Tryz.f173 0) (st_insOuter a b i l) (onward (headAt cx0_insOuter 1) R K)=res_insOuter a b i l K) ∨
  (∃(a' b' i':Int) (l':List (Int)),pre_insOuter a' b' i' l'=true∧mu_insOuter a' b' i' l'<mu_insOuter a b i l∧res_insOuter a' b' i' l' K=res_insOuter a b i l K∧∀R:St→Option Fin,evC cx0_insOuter (loopOf Tryz.f173 0) (st_insOuter a b i l) (onward (headAt cx0_insOuter 1) R K)=R (st_insOuter a' b' i' l')):=by
 have hx:=fun R=>x_slices_insertionSortOrdered_byte l a b i R K;simp only[pre_insOuter,andd,dec_iff,ble_iff]at hI;obtain⟨h0,h1,h2,h3⟩:=hI
 by_cases hi:i<b
 ·have hw:W64 (i+1)=i+1:=wrap_small (by omega) (by simp only[big]at h3;omega);have hp:pre_insInner a b i i l=true:=by simp only[pre_insInner,andd,dec_iff,ble_iff];omega
  simp only[hi,decide_true,hw,hp]at hx;right;refine⟨a,b,i+1,onL (Go.Sort.insInner ltI a.toNat i.toNat) l, ?_, ?_, ?_,fun R=>(hx R).trans ?_⟩
  ·simp only[pre_insOuter,andd,dec_iff,ble_iff,onL_len (insInner_size _ _)];omega
  ·simp only[mu_insOuter];omega
  ·simp only[res_insOuter];have:onL (Go.Sort.insOuter ltI a.toNat b.toNat i.toNat) l=onL (Go.Sort.insOuter ltI a.toNat b.toNat (i+1).toNat) (onL (Go.Sort.insInner ltI a.toNat i.toNat) l):=by
    unfold onL;rw[Go.Sort.insOuter,if_pos (by omega),show (i+1).toNat=i.toNat+1 by omega]
   rw[this]
  ·rfl
 ·left;intro R;refine(hx R).trans ?_;simp only[hi,decide_false];show K _ _=_;have:onL (Go.Sort.insOuter ltI a.toNat b.toNat i.toNat) l=l:=by unfold onL;rw[Go.Sort.insOuter,if_neg (by omega)]
  simp only[res_insOuter,this]
def g_insOuter:St→Cont→Option Fin:=gP sh_insOuter (fun v=>match v with | ((a,b,i,()),(l,()))=>pre_insOuter a b i l) (fun v K=>match v with | ((a,b,i,()),(l,()))=>res_insOuter a b i l K)
def L_insOuter:LpL:=(1,g_insOuter)::L_insInner
def cx_insOuter:Cx:=(cb_insSort).withLoops (look L_insOuter)
theorem l_insOuter {L:LpL} (n:Nat) (h1:L.drop n=L_insInner) (h2:idsFree (L.take n) (loopOf Tryz.f173 0)=true):LoopsTo g_insOuter (cb_insSort) (loopOf Tryz.f173 0) 1 L :=
 with_drop h1 h2 (gP_ok (fun v=>match v with | ((a,b,i,()),(l,()))=>mu_insOuter a b i l) fun v K hI=>by
  obtain⟨⟨a,b,i,⟨⟩⟩,⟨l,⟨⟩⟩⟩:=v;exact(r_insOuter a b i l K hI).imp id fun⟨a',b',i',l',h⟩=>⟨((a',b',i',()),(l',())),h⟩)
theorem y_slices_insertionSortOrdered_byte (l:List Int) (a:Int) (b:Int):evFn cx_insOuter Tryz.f173 false [.one (.own 0),ofD TI64 a,ofD TI64 b] [.lis 5 TU8 l]=(
need (pre_insOuter a b (W64 (a+1)) l) <| some ((.tup []),[(0,(.some (.lis 5 TU8 (onL (Go.Sort.insOuter ltI a.toNat b.toNat (W64 (a+1)).toNat) l))))])):=by kernel_rfl
theorem s_slices_insertionSortOrdered_byte (l:List (Int)) (_hl:Fit (.list TU8) l) (a:Int) (_ha:Fit TI64 a) (b:Int) (_hb:Fit TI64 b) (hpre:(decide (0≤a)&&(decide (a≤1000000)&&(decide (b≤(length l:Int))&&Nat.ble (length l) 1000000)))=true):Sat Tryz.prog 173 [.one (.own 0),ofD TI64 a,ofD TI64 b] [.lis 5 TU8 l] (.tup []) [(0,some (.lis 5 TU8 (onL (fun d=>Go.Sort.insertionSort ltI d a.toNat b.toNat) l)))] :=
 fn_sound (cx:=cx_insOuter) Tryz.func173 rfl ttOk Γ22ok mixed (fun c hc=>LoopsOk.all (l:=[(1,loopOf Tryz.f173 0),(4,loopOf Tryz.f173 1)]) (by cases hc;kernel_rfl) ⟨atLoop rfl (l_insOuter 1 rfl (by kernel_rfl)),atLoop rfl (l_insInner 2 rfl (by kernel_rfl)),trivial⟩) (ro:=false) (by
  simp only[andd,dec_iff,ble_iff]at hpre;obtain⟨h0,h1,h2,h3⟩:=hpre;have hw:W64 (a+1)=a+1:=wrap_small (by omega) (by omega);have hp:pre_insOuter a b (a+1) l=true:=by simp only[pre_insOuter,andd,dec_iff,ble_iff,big];omega
  rw[y_slices_insertionSortOrdered_byte,hw,hp,show (a+1).toNat=a.toNat+1 by omega];rfl)
def c_slices_insertionSortOrdered_byte:Con:=conL 5 TU8 [TI64,TI64] fun(l:List (Int)) (a:Int) (b:Int)=>(some (decide (0≤a)&&(decide (a≤1000000)&&(decide (b≤(length l:Int))&&Nat.ble (length l) 1000000))), .tup [],onL (fun d=>Go.Sort.insertionSort ltI d a.toNat b.toNat) l)
theorem k_slices_insertionSortOrdered_byte:ConOk Tryz.prog 173 c_slices_insertionSortOrdered_byte:=conL_ok rfl Tryz.call173 fun l hl a ha b hb hqq=>s_slices_insertionSortOrdered_byte l hl a ha b hb (pre_of hqq)
def Γ23:GL:=(173,c_slices_insertionSortOrdered_byte)::Γ22
theorem Γ23ok:GO Γ23 := .cons k_slices_insertionSortOrdered_byte Γ22ok
def siftB (hi first root:Nat) (l:List Int):Bool :=
 if _h:2*root+1≥hi then true else
  bif decide (2*root+1+1<hi)&&ltI (l.getD (first+(2*root+1)) 0) (l.getD (first+(2*root+1)+1) 0)then
   bif !ltI (l.getD (first+root) 0) (l.getD (first+(2*root+2)) 0)then false else siftB hi first (2*root+2) (swL l (first+root) (first+(2*root+2)))
  else bif !ltI (l.getD (first+root) 0) (l.getD (first+(2*root+1)) 0)then false else siftB hi first (2*root+1) (swL l (first+root) (first+(2*root+1)))
termination_by hi-root
theorem sift_eq (hi first root:Nat) (l:List Int):onL (Go.Sort.siftDown ltI hi first root) l=if 2*root+1≥hi then l else
  bif decide (2*root+1+1<hi)&&ltI (l.getD (first+(2*root+1)) 0) (l.getD (first+(2*root+1)+1) 0)then
   bif !ltI (l.getD (first+root) 0) (l.getD (first+(2*root+2)) 0)then l else onL (Go.Sort.siftDown ltI hi first (2*root+2)) (swL l (first+root) (first+(2*root+2)))
  else bif !ltI (l.getD (first+root) 0) (l.getD (first+(2*root+1)) 0)then l else onL (Go.Sort.siftDown ltI hi first (2*root+1)) (swL l (first+root) (first+(2*root+1))):=by
 unfold onL;rw[Go.Sort.siftDown,at_arr,at_arr,at_arr,at_arr,sw_arr,sw_arr]
 by_cases h:2*root+1≥hi
 ·rw[dif_pos h,if_pos h]
 ·rw[dif_neg h,if_neg h]
  by_cases h2:2*root+1+1<hi
  ·rw[dif_pos (show 2*root+2<hi by omega)];simp only[h2,decide_true,Bool.true_and]
   cases ltI (l.getD (first+(2*root+1)) 0) (l.getD (first+(2*root+1)+1) 0)<;>cases ltI (l.getD (first+root) 0) (l.getD (first+(2*root+2)) 0)<;>cases ltI (l.getD (first+root) 0) (l.getD (first+(2*root+1)) 0)<;>rfl
  ·simp only[h2,decide_false,Bool.false_and,cond_false]
   cases ltI (l.getD (first+root) 0) (l.getD (first+(2*root+1)) 0)<;>rfl
def cb_sift:Cx:=cxOf Γ23 Tryz.f189.ntmps [(1,[0,2,3,8])] [(0,[]),(1,[0,2,3,8]),(1000000,[])] [] []
theorem x_sift (l:List Int) (hi first root:Int) (R:St→Option Fin) (K:Cont):evC (cb_sift.withLoops (look [])) (loopOf Tryz.f189 0) ⟨[(0, .d (.one (.own 0))),(2,vI hi),(3,vI first),(8,vI root)],[(0,some (.lis 5 TU8 l))]⟩ (onward (headAt (cb_sift.withLoops (look [])) 1) R K)=(
branch (decide (hi≤W64 (W64 (2*root)+1))) ( K (.exit 0) (.mk [] [(0,some (.lis 5 TU8 l))])) (
 need (bif decide (decide (W64 (W64 (W64 (2*root)+1)+1)<hi)=true)then inb (W64 (first+W64 (W64 (2*root)+1))) l.length else true) <|
 need (bif decide (decide (W64 (W64 (W64 (2*root)+1)+1)<hi)=true)then inb (W64 (W64 (first+W64 (W64 (2*root)+1))+1)) l.length else true) <|
 branch (bif decide (W64 (W64 (W64 (2*root)+1)+1)<hi)then ltI (l.getD (W64 (first+W64 (W64 (2*root)+1))).toNat 0) (l.getD (W64 (W64 (first+W64 (W64 (2*root)+1))+1)).toNat 0)else false) (
 need (inb (W64 (first+root)) l.length) <|
 need (inb (W64 (first+W64 (W64 (W64 (2*root)+1)+1))) l.length) <|
 branch (!ltI (l.getD (W64 (first+root)).toNat 0) (l.getD (W64 (first+W64 (W64 (W64 (2*root)+1)+1))).toNat 0)) ( K (.ret) (.mk [] [(0,some (.lis 5 TU8 l))])) (
  need (inb (W64 (first+W64 (W64 (W64 (2*root)+1)+1))) l.length) <|
  need (inb (W64 (first+root)) l.length) <|
  need (inb (W64 (first+root)) l.length) <|
  need (inb (W64 (first+W64 (W64 (W64 (2*root)+1)+1))) (l.set (W64 (first+root)).toNat (l.getD (W64 (first+W64 (W64 (W64 (2*root)+1)+1))).toNat 0)).length) <| R (.mk [(0,(.d (.one (.own 0)))),(2,vI hi),(3,vI first),(8,(vI (W64 (W64 (W64 (2*root)+1)+1))))] [(0,(.some (.lis 5 TU8 ((l.set (W64 (first+root)).toNat (l.getD (W64 (first+W64 (W64 (W64 (2*root)+1)+1))).toNat 0)).set (W64 (first+W64 (W64 (W64 (2*root)+1)+1))).toNat (l.getD (W64 (first+root)).toNat 0)))))]))) (
 need (inb (W64 (first+root)) l.length) <|
 need (inb (W64 (first+W64 (W64 (2*root)+1))) l.length) <|
 branch (!ltI (l.getD (W64 (first+root)).toNat 0) (l.getD (W64 (first+W64 (W64 (2*root)+1))).toNat 0)) ( K (.ret) (.mk [] [(0,some (.lis 5 TU8 l))])) (
  need (inb (W64 (first+W64 (W64 (2*root)+1))) l.length) <|
  need (inb (W64 (first+root)) l.length) <|
  need (inb (W64 (first+root)) l.length) <|
  need (inb (W64 (first+W64 (W64 (2*root)+1))) (l.set (W64 (first+root)).toNat (l.getD (W64 (first+W64 (W64 (2*root)+1))).toNat 0)).length) <| R (.mk [(0,(.d (.one (.own 0)))),(2,vI hi),(3,vI first),(8,(vI (W64 (W64 (2*root)+1))))] [(0,(.some (.lis 5 TU8 ((l.set (W64 (first+root)).toNat (l.getD (W64 (first+W64 (W64 (2*root)+1))).toNat 0)).set (W64 (first+W64 (W64 (2*root)+1))).toNat (l.getD (W64 (first+root)).toNat 0)))))]))))):=by kernel_rfl
def cx0_sift:Cx:=(cb_sift).withLoops (look [])
def sh_sift:Sh:=([(0, .own 0),(2, .d TI64),(3, .d TI64),(8, .d TI64)],[(0, .lis 5 TU8)])
abbrev st_sift (hi first root:Int) (l:List (Int)):St:=⟨[(0, .d (.one (.own 0))),(2,vI hi),(3,vI first),(8,vI root)],[(0,some (.lis 5 TU8 l))]⟩
def pre_sift (hi first root:Int) (l:List (Int)):Bool:=decide (0≤root)&&(decide (0≤first)&&(decide (0≤hi)&&(decide (root≤1000000)&&(decide (first+hi≤(length l:Int))&&Nat.ble (length l) 1000000))))
def res_sift (hi first root:Int) (l:List (Int)) (K:Cont):Option Fin:=branch (siftB hi.toNat first.toNat root.toNat l) (K (.exit 0) ⟨[],[(0,some (.lis 5 TU8 (onL (Go.Sort.siftDown ltI hi.toNat first.toNat root.toNat) l)))]⟩) (K .ret ⟨[],[(0,some (.lis 5 TU8 (onL (Go.Sort.siftDown ltI hi.toNat first.toNat root.toNat) l)))]⟩)
def mu_sift (hi _first root:Int) (_l:List (Int)):Nat:=(hi-root).toNat
theorem r_sift (hi first root:Int) (l:List (Int)) (K:Cont) (hI:pre_sift hi first root l=true):(∀R:St→Option Fin,evC cx0_sift (loopOf Tryz.f189 0) (st_sift hi first root l) (onward (headAt cx0_sift 1) R K)=res_sift hi first root l K) ∨
  (∃(hi' first' root':Int) (l':List (Int)),pre_sift hi' first' root' l'=true∧mu_sift hi' first' root' l'<mu_sift hi first root l∧res_sift hi' first' root' l' K=res_sift hi first root l K∧∀R:St→Option Fin,evC cx0_sift (loopOf Tryz.f189 0) (st_sift hi first root l) (onward (headAt cx0_sift 1) R K)=R (st_sift hi' first' root' l')):=by
 have hx:=fun R=>x_sift l hi first root R K;simp only[pre_sift,andd,dec_iff,ble_iff]at hI;obtain⟨h0,h1,h2,h3,h4,h5⟩:=hI;obtain⟨r,rfl⟩:=Int.eq_ofNat_of_zero_le h0;obtain⟨f,rfl⟩:=Int.eq_ofNat_of_zero_le h1;obtain⟨b,rfl⟩:=Int.eq_ofNat_of_zero_le h2;have w1:W64 (2*(r:Int))=2*(r:Int):=wrap_small (by omega) (by omega);have w2:W64 (2*(r:Int)+1)=2*(r:Int)+1:=wrap_small (by omega) (by omega);have w3:W64 (2*(r:Int)+1+1)=2*(r:Int)+1+1:=wrap_small (by omega) (by omega);have w4:W64 ((f:Int)+r)=(f:Int)+r:=wrap_small (by omega) (by omega);have w5:W64 ((f:Int)+(2*(r:Int)+1))=(f:Int)+(2*(r:Int)+1):=wrap_small (by omega) (by omega);have w6:W64 ((f:Int)+(2*(r:Int)+1)+1)=(f:Int)+(2*(r:Int)+1)+1:=wrap_small (by omega) (by omega);have w7:W64 ((f:Int)+(2*(r:Int)+1+1))=(f:Int)+(2*(r:Int)+1+1):=wrap_small (by omega) (by omega);have t4:((f:Int)+r).toNat=f+r:=by omega
 have t5:((f:Int)+(2*(r:Int)+1)).toNat=f+(2*r+1):=by omega
 have t6:((f:Int)+(2*(r:Int)+1)+1).toNat=f+(2*r+1)+1:=by omega
 have t7:((f:Int)+(2*(r:Int)+1+1)).toNat=f+(2*r+2):=by omega
 simp only[w1,w2,w3,w4,w5,w6,w7,t4,t5,t6,t7,length_set]at hx;have hs:=sift_eq b f r l;have hb:=siftB.eq_1 b f r l;simp only[res_sift,mu_sift,Int.toNat_natCast]
 by_cases g1:(b:Int)≤2*(r:Int)+1
 ·left;intro R;refine(hx R).trans ?_;rw[zT g1,hs,hb,if_pos (by omega),dif_pos (by omega)];rfl
 ·rw[if_neg (by omega)]at hs;rw[dif_neg (by omega)]at hb;have i4:inb ((f:Int)+r) l.length=true:=inb_ok (by omega) (by omega);have i5:inb ((f:Int)+(2*(r:Int)+1)) l.length=true:=inb_ok (by omega) (by omega);have c8:decide (2*(r:Int)+1+1<(b:Int))=decide (2*r+1+1<b):=by rw[decide_eq_decide];omega
  simp only[g1,decide_false,branch_false,i4,i5,c8,Bool.cond_self,need_t]at hx
  by_cases g2:2*r+1+1<b
  ·have i6:inb ((f:Int)+(2*(r:Int)+1)+1) l.length=true:=inb_ok (by omega) (by omega);have i7:inb ((f:Int)+(2*(r:Int)+1+1)) l.length=true:=inb_ok (by omega) (by omega);simp only[g2,decide_true,i6,i7,Bool.cond_self,need_t,cond_true,Bool.true_and]at hx hs hb
   cases hc:ltI (l.getD (f+(2*r+1)) 0) (l.getD (f+(2*r+1)+1) 0)
   ·simp only[hc,branch_false,cond_false]at hx hs hb
    cases hd:ltI (l.getD (f+r) 0) (l.getD (f+(2*r+1)) 0)
    ·left;intro R;refine(hx R).trans ?_;rw[hs,hb,hd];rfl
    ·right;refine⟨(b:Int),(f:Int),2*(r:Int)+1,swL l (f+r) (f+(2*r+1)), ?_, ?_, ?_,fun R=>(hx R).trans ?_⟩
     ·simp only[pre_sift,andd,dec_iff,ble_iff,swL_len];omega
     ·omega
     ·rw[hs,hb,hd,show (2*(r:Int)+1).toNat=2*r+1 by omega];rfl
     ·rw[hd];rfl
   ·simp only[hc,branch_true,cond_true]at hx hs hb
    cases hd:ltI (l.getD (f+r) 0) (l.getD (f+(2*r+2)) 0)
    ·left;intro R;refine(hx R).trans ?_;rw[hs,hb,hd];rfl
    ·right;refine⟨(b:Int),(f:Int),2*(r:Int)+1+1,swL l (f+r) (f+(2*r+2)), ?_, ?_, ?_,fun R=>(hx R).trans ?_⟩
     ·simp only[pre_sift,andd,dec_iff,ble_iff,swL_len];omega
     ·omega
     ·rw[hs,hb,hd,show (2*(r:Int)+1+1).toNat=2*r+2 by omega];rfl
     ·rw[hd];rfl
  ·simp only[g2,decide_false,cond_false,Bool.false_and,branch_false]at hx hs hb
   cases hd:ltI (l.getD (f+r) 0) (l.getD (f+(2*r+1)) 0)
   ·left;intro R;refine(hx R).trans ?_;rw[hs,hb,hd];rfl
   ·right;refine⟨(b:Int),(f:Int),2*(r:Int)+1,swL l (f+r) (f+(2*r+1)), ?_, ?_, ?_,fun R=>(hx R).trans ?_⟩
    ·simp only[pre_sift,andd,dec_iff,ble_iff,swL_len];omega
    ·omega
    ·rw[hs,hb,hd,show (2*(r:Int)+1).toNat=2*r+1 by omega];rfl
    ·rw[hd];rfl
def g_sift:St→Cont→Option Fin:=gP sh_sift (fun v=>match v with | ((hi,first,root,()),(l,()))=>pre_sift hi first root l) (fun v K=>match v with | ((hi,first,root,()),(l,()))=>res_sift hi first root l K)
def L_sift:LpL:=(1,g_sift)::[]
def cx_sift:Cx:=(cb_sift).withLoops (look L_sift)
theorem l_sift {L:LpL} (n:Nat) (h1:L.drop n=[]) (h2:idsFree (L.take n) (loopOf Tryz.f189 0)=true):LoopsTo g_sift (cb_sift) (loopOf Tryz.f189 0) 1 L :=
 with_drop h1 h2 (gP_ok (fun v=>match v with | ((hi,first,root,()),(l,()))=>mu_sift hi first root l) fun v K hI=>by
  obtain⟨⟨hi,first,root,⟨⟩⟩,⟨l,⟨⟩⟩⟩:=v;exact(r_sift hi first root l K hI).imp id fun⟨hi',first',root',l',h⟩=>⟨((hi',first',root',()),(l',())),h⟩)
theorem y_slices_siftDownOrdered_byte (l:List Int) (lo:Int) (hi:Int) (first:Int):evFn cx_sift Tryz.f189 false [.one (.own 0),ofD TI64 lo,ofD TI64 hi,ofD TI64 first] [.lis 5 TU8 l]=(
need (pre_sift hi first lo l) <|
branch (siftB hi.toNat first.toNat lo.toNat l) ( some ((.tup []),[(0,(.some (.lis 5 TU8 (onL (Go.Sort.siftDown ltI hi.toNat first.toNat lo.toNat) l))))])) ( some ((.tup []),[(0,(.some (.lis 5 TU8 (onL (Go.Sort.siftDown ltI hi.toNat first.toNat lo.toNat) l))))]))):=by kernel_rfl
theorem s_slices_siftDownOrdered_byte (l:List (Int)) (_hl:Fit (.list TU8) l) (lo:Int) (_hlo:Fit TI64 lo) (hi:Int) (_hhi:Fit TI64 hi) (first:Int) (_hfirst:Fit TI64 first) (hpre:(pre_sift hi first lo l)=true):Sat Tryz.prog 189 [.one (.own 0),ofD TI64 lo,ofD TI64 hi,ofD TI64 first] [.lis 5 TU8 l] (.tup []) [(0,some (.lis 5 TU8 (onL (Go.Sort.siftDown ltI hi.toNat first.toNat lo.toNat) l)))] :=
 fn_sound (cx:=cx_sift) Tryz.func189 rfl ttOk Γ23ok mixed (fun c hc=>LoopsOk.all (l:=[(1,loopOf Tryz.f189 0)]) (by cases hc;kernel_rfl) ⟨atLoop rfl (l_sift 1 rfl (by kernel_rfl)),trivial⟩) (ro:=false) (by
  rw[y_slices_siftDownOrdered_byte,hpre]
  cases siftB hi.toNat first.toNat lo.toNat l<;>rfl)
def c_slices_siftDownOrdered_byte:Con:=conL 5 TU8 [TI64,TI64,TI64] fun(l:List (Int)) (lo:Int) (hi:Int) (first:Int)=>(some (pre_sift hi first lo l), .tup [],onL (Go.Sort.siftDown ltI hi.toNat first.toNat lo.toNat) l)
theorem k_slices_siftDownOrdered_byte:ConOk Tryz.prog 189 c_slices_siftDownOrdered_byte:=conL_ok rfl Tryz.call189 fun l hl lo hlo hi hhi first hfirst hqq=>s_slices_siftDownOrdered_byte l hl lo hlo hi hhi first hfirst (pre_of hqq)
def Γ24:GL:=(189,c_slices_siftDownOrdered_byte)::Γ23
theorem Γ24ok:GO Γ24 := .cons k_slices_siftDownOrdered_byte Γ23ok
set_option maxHeartbeats 1000000
theorem sift_size (hi first:Nat):∀(n root:Nat) (d:Array Int),hi-root≤n→(Go.Sort.siftDown ltI hi first root d).size=d.size
 |0,root,d,h=>by rw[Go.Sort.siftDown,dif_pos (by omega)]
 |n+1,root,d,h=>by
  rw[Go.Sort.siftDown]
  split
  ·rfl
  ·split
   ·split
    ·rfl
    ·split
     ·rw[sift_size hi first n _ _ (by omega),Go.Sort.swp_size]
     ·rfl
   ·split
    ·rfl
    ·rw[sift_size hi first n _ _ (by omega),Go.Sort.swp_size]
theorem siftL_len (hi first root:Nat) (l:List Int):(onL (Go.Sort.siftDown ltI hi first root) l).length=l.length:=onL_len (fun d=>sift_size hi first _ root d (Nat.le_refl _)) l
theorem swo:Go.Sort.SWO ltI:=Go.Sort.swo_ltInt
theorem extract_get {d:Array Int} {a b k:Nat} (hb:b≤d.size) (hk:k<b-a):(d.extract a b)[k]! = d[a+k]! := by
 rw[getElem!_pos (d.extract a b) k (by rw[Array.size_extract];omega),getElem!_pos d (a+k) (by omega),Array.getElem_extract]
theorem sorted_one {d d1 d2:Array Int} {a b:Nat} (_ha:a≤b) (hb:b≤d.size) (p1:Go.Sort.PermIn a b d d1) (s1:Go.Sort.SortedIn ltI a b d1) (p2:Go.Sort.PermIn a b d d2) (s2:Go.Sort.SortedIn ltI a b d2):d1=d2:=by
 have key:∀d':Array Int,Go.Sort.PermIn a b d d'→Go.Sort.SortedIn ltI a b d'→(d'.extract a b).toList=(d.extract a b).toList.mergeSort (fun x y => !ltI y x):=by
  intro d' p s;have hs:d'.size=d.size:=p.1;have e1:(d'.extract a b).size=b-a:=by rw[Array.size_extract];omega
  have e2:(d.extract a b).size=b-a:=by rw[Array.size_extract];omega
  refine Go.Sort.sorted_unique_holds swo (fun x y h1 h2=>by have h1:=of_decide_eq_false h1;have h2:=of_decide_eq_false h2;omega) _ _ ⟨by rw[e1,e2],fun i hi => ?_, ?_⟩ fun i j _ hij hj => ?_
  ·rw[getElem!_neg _ _ (by omega),getElem!_neg _ _ (by omega)]
  ·rw[show (d.extract a b).size=(d'.extract a b).size by rw[e1,e2],Array.extract_size,show (d'.extract a b).size=(d.extract a b).size by rw[e1,e2],Array.extract_size];exact p.2.2
  ·rw[e2]at hj;rw[extract_get (by omega) hj,extract_get (by omega) (by omega)];exact s (a+i) (a+j) (by omega) (by omega) (by omega)
 have k:(d1.extract a b).toList=(d2.extract a b).toList:=(key d1 p1 s1).trans (key d2 p2 s2).symm;have k:d1.extract a b=d2.extract a b:=Array.toList_inj.1 k;refine Array.ext (by rw[p1.1,p2.1]) fun i h1 h2 => ?_;have:d1[i]! = d2[i]! := by
  by_cases h:a≤i∧i<b
  ·have z1:=extract_get (d:=d1) (a:=a) (b:=b) (k:=i-a) (by rw[p1.1];exact hb) (by omega);have z2:=extract_get (d:=d2) (a:=a) (b:=b) (k:=i-a) (by rw[p2.1];exact hb) (by omega);rw[show a+(i-a)=i by omega]at z1 z2;rw[← z1,← z2,k]
  ·rw[p1.2.1 i (by omega),p2.2.1 i (by omega)]
 rwa [getElem!_pos d1 i h1,getElem!_pos d2 i h2]at this
theorem heapBuild_size (hi first:Nat):∀(k:Nat) (d:Array Int),(Go.Sort.heapBuild ltI hi first k d).size=d.size
 |0,_=>rfl
 |k+1,d=>by rw[Go.Sort.heapBuild,heapBuild_size hi first k,sift_size hi first _ k d (Nat.le_refl _)]
abbrev srt (a b:Nat) (l:List Int):List Int:=onL (fun d=>Go.Sort.insertionSort ltI d a b) l
theorem srt_of {l:List Int} {d':Array Int} {a b:Nat} (ha:a≤b) (hb:b≤l.length) (p:Go.Sort.PermIn a b l.toArray d') (s:Go.Sort.SortedIn ltI a b d'):d'.toList=srt a b l:=by
 obtain⟨q1,q2⟩:=Go.Sort.insertionSort_holds swo l.toArray a b ha hb;show d'.toList=(Go.Sort.insertionSort ltI l.toArray a b).toList;rw[sorted_one ha hb p s q1 q2]
def cb_heap:Cx:=cxOf Γ24 Tryz.f174.ntmps [(8,[0,6,7,10]),(4,[0,6,7,8,9])] [(2,[]),(3,[0,6,7,10]),(0,[0,6,7,8]),(1,[0,6,7,8,9])] [] []
theorem x_heapPop (l:List Int) (first lo i:Int) (R:St→Option Fin) (K:Cont):evC (cb_heap.withLoops (look [])) (loopOf Tryz.f174 1) ⟨[(0, .d (.one (.own 0))),(6,vI first),(7,vI lo),(10,vI i)],[(0,some (.lis 5 TU8 l))]⟩ (onward (headAt (cb_heap.withLoops (look [])) 8) R K)=(
branch (decide (0≤i)) (
 need (inb (W64 (first+i)) l.length) <|
 need (inb first l.length) <|
 need (inb first l.length) <|
 need (inb (W64 (first+i)) (l.set first.toNat (l.getD (W64 (first+i)).toNat 0)).length) <|
 need (pre_sift i first lo ((l.set first.toNat (l.getD (W64 (first+i)).toNat 0)).set (W64 (first+i)).toNat (l.getD first.toNat 0))) <| R (.mk [(0,(.d (.one (.own 0)))),(6,vI first),(7,vI lo),(10,vI (W64 (i-1)))] [(0,(.some (.lis 5 TU8 (onL (Go.Sort.siftDown ltI i.toNat first.toNat lo.toNat) ((l.set first.toNat (l.getD (W64 (first+i)).toNat 0)).set (W64 (first+i)).toNat (l.getD first.toNat 0))))))])) ( K (.exit 2) (.mk [] [(0,some (.lis 5 TU8 l))]))):=by kernel_rfl
def cx0_heapPop:Cx:=(cb_heap).withLoops (look [])
def sh_heapPop:Sh:=([(0, .own 0),(6, .d TI64),(7, .d TI64),(10, .d TI64)],[(0, .lis 5 TU8)])
abbrev st_heapPop (first lo i:Int) (l:List (Int)):St:=⟨[(0, .d (.one (.own 0))),(6,vI first),(7,vI lo),(10,vI i)],[(0,some (.lis 5 TU8 l))]⟩
def pre_heapPop (first lo i:Int) (l:List (Int)):Bool:=decide (0≤first)&&(decide (lo=0)&&(decide (-1≤i)&&(decide (first+i<(length l:Int))&&Nat.ble (length l) 1000000)))
def res_heapPop (first _lo i:Int) (l:List (Int)) (K:Cont):Option Fin:=K (.exit 2) ⟨[],[(0,some (.lis 5 TU8 (onL (Go.Sort.heapPop ltI first.toNat (i+1).toNat) l)))]⟩
def mu_heapPop (_first _lo i:Int) (_l:List (Int)):Nat:=(i+1).toNat
theorem r_heapPop (first lo i:Int) (l:List (Int)) (K:Cont) (hI:pre_heapPop first lo i l=true):(∀R:St→Option Fin,evC cx0_heapPop (loopOf Tryz.f174 1) (st_heapPop first lo i l) (onward (headAt cx0_heapPop 8) R K)=res_heapPop first lo i l K) ∨
  (∃(first' lo' i':Int) (l':List (Int)),pre_heapPop first' lo' i' l'=true∧mu_heapPop first' lo' i' l'<mu_heapPop first lo i l∧res_heapPop first' lo' i' l' K=res_heapPop first lo i l K∧∀R:St→Option Fin,evC cx0_heapPop (loopOf Tryz.f174 1) (st_heapPop first lo i l) (onward (headAt cx0_heapPop 8) R K)=R (st_heapPop first' lo' i' l')):=by
 have hx:=fun R=>x_heapPop l first lo i R K;simp only[pre_heapPop,andd,dec_iff,ble_iff]at hI;obtain⟨h0,rfl,h2,h3,h4⟩:=hI
 by_cases hi:0≤i
 ·obtain ⟨k,rfl⟩:=Int.eq_ofNat_of_zero_le hi;obtain⟨f,rfl⟩:=Int.eq_ofNat_of_zero_le h0;have w1:W64 ((f:Int)+k)=(f:Int)+k:=wrap_small (by omega) (by omega);have w2:W64 ((k:Int)-1)=(k:Int)-1:=wrap_small (by omega) (by omega);have t1:((f:Int)+k).toNat=f+k:=by omega
  have b1:inb ((f:Int)+k) l.length=true:=inb_ok (by omega) (by omega);have b2:inb (f:Int) l.length=true:=inb_ok (by omega) (by omega);have hp:pre_sift k f 0 (swL l f (f+k))=true:=by simp only[pre_sift,andd,dec_iff,ble_iff,swL_len];omega
  simp only[hi,decide_true,w1,w2,t1,b1,b2,Int.toNat_natCast,length_set,hp]at hx;right;refine⟨(f:Int),0,(k:Int)-1,onL (Go.Sort.siftDown ltI k f 0) (swL l f (f+k)), ?_, ?_, ?_,fun R=>(hx R).trans ?_⟩
  ·simp only[pre_heapPop,andd,dec_iff,ble_iff,siftL_len,swL_len,true_and];omega
  ·simp only[mu_heapPop];omega
  ·have e:onL (Go.Sort.heapPop ltI f (k+1)) l=onL (Go.Sort.heapPop ltI f k) (onL (Go.Sort.siftDown ltI k f 0) (swL l f (f+k))):=by
    unfold onL;rw[Go.Sort.heapPop,sw_arr]
   simp only[res_heapPop,Int.toNat_natCast,show ((k:Int)-1+1).toNat=k by omega,show ((k:Int)+1).toNat=k+1 by omega,e]
  ·rfl
 ·left;intro R;refine(hx R).trans ?_;have e:i = -1:=by omega
  subst e;simp only[hi,decide_false];rfl
def g_heapPop:St→Cont→Option Fin:=gP sh_heapPop (fun v=>match v with | ((first,lo,i,()),(l,()))=>pre_heapPop first lo i l) (fun v K=>match v with | ((first,lo,i,()),(l,()))=>res_heapPop first lo i l K)
def L_heapPop:LpL:=(8,g_heapPop)::[]
def cx_heapPop:Cx:=(cb_heap).withLoops (look L_heapPop)
theorem l_heapPop {L:LpL} (n:Nat) (h1:L.drop n=[]) (h2:idsFree (L.take n) (loopOf Tryz.f174 1)=true):LoopsTo g_heapPop (cb_heap) (loopOf Tryz.f174 1) 8 L :=
 with_drop h1 h2 (gP_ok (fun v=>match v with | ((first,lo,i,()),(l,()))=>mu_heapPop first lo i l) fun v K hI=>by
  obtain⟨⟨first,lo,i,⟨⟩⟩,⟨l,⟨⟩⟩⟩:=v;exact(r_heapPop first lo i l K hI).imp id fun⟨first',lo',i',l',h⟩=>⟨((first',lo',i',()),(l',())),h⟩)
theorem x_heapBuild (l:List Int) (first lo hi i:Int) (R:St→Option Fin) (K:Cont):evC cx_heapPop (loopOf Tryz.f174 0) ⟨[(0, .d (.one (.own 0))),(6,vI first),(7,vI lo),(8,vI hi),(9,vI i)],[(0,some (.lis 5 TU8 l))]⟩ (onward (headAt cx_heapPop 4) R K)=(
branch (decide (0≤i)) (
 need (pre_sift hi first i l) <| R (.mk [(0,(.d (.one (.own 0)))),(6,vI first),(7,vI lo),(8,vI hi),(9,vI (W64 (i-1)))] [(0,(.some (.lis 5 TU8 (onL (Go.Sort.siftDown ltI hi.toNat first.toNat i.toNat) l))))])) ( K (.exit 0) (.mk [(0,(.d (.one (.own 0)))),(6,vI first),(7,vI lo),(8,vI hi)] [(0,some (.lis 5 TU8 l))]))):=by kernel_rfl
def cx0_heapBuild:Cx:=(cb_heap).withLoops (look L_heapPop)
def sh_heapBuild:Sh:=([(0, .own 0),(6, .d TI64),(7, .d TI64),(8, .d TI64),(9, .d TI64)],[(0, .lis 5 TU8)])
abbrev st_heapBuild (first lo hi i:Int) (l:List (Int)):St:=⟨[(0, .d (.one (.own 0))),(6,vI first),(7,vI lo),(8,vI hi),(9,vI i)],[(0,some (.lis 5 TU8 l))]⟩
def pre_heapBuild (first _lo hi i:Int) (l:List (Int)):Bool:=decide (0≤first)&&(decide (0≤hi)&&(decide (-1≤i)&&(decide (i≤1000000)&&(decide (first+hi≤(length l:Int))&&Nat.ble (length l) 1000000))))
def res_heapBuild (first lo hi i:Int) (l:List (Int)) (K:Cont):Option Fin:=K (.exit 0) ⟨[(0, .d (.one (.own 0))),(6,vI first),(7,vI lo),(8,vI hi)],[(0,some (.lis 5 TU8 (onL (Go.Sort.heapBuild ltI hi.toNat first.toNat (i+1).toNat) l)))]⟩
def mu_heapBuild (_first _lo _hi i:Int) (_l:List (Int)):Nat:=(i+1).toNat
theorem r_heapBuild (first lo hi i:Int) (l:List (Int)) (K:Cont) (hI:pre_heapBuild first lo hi i l=true):(∀R:St→Option Fin,evC cx0_heapBuild (loopOf Tryz.f174 0) (st_heapBuild first lo hi i l) (onward (headAt cx0_heapBuild 4) R K)=res_heapBuild first lo hi i l K) ∨
  (∃(first' lo' hi' i':Int) (l':List (Int)),pre_heapBuild first' lo' hi' i' l'=true∧mu_heapBuild first' lo' hi' i' l'<mu_heapBuild first lo hi i l∧res_heapBuild first' lo' hi' i' l' K=res_heapBuild first lo hi i l K∧∀R:St→Option Fin,evC cx0_heapBuild (loopOf Tryz.f174 0) (st_heapBuild first lo hi i l) (onward (headAt cx0_heapBuild 4) R K)=R (st_heapBuild first' lo' hi' i' l')):=by
 have hx:=fun R=>x_heapBuild l first lo hi i R K;simp only[pre_heapBuild,andd,dec_iff,ble_iff]at hI;obtain⟨h0,h1,h2,h3,h4,h5⟩:=hI
 by_cases hi':0≤i
 ·obtain ⟨k,rfl⟩:=Int.eq_ofNat_of_zero_le hi';obtain⟨f,rfl⟩:=Int.eq_ofNat_of_zero_le h0;obtain⟨b,rfl⟩:=Int.eq_ofNat_of_zero_le h1;have w2:W64 ((k:Int)-1)=(k:Int)-1:=wrap_small (by omega) (by omega);have hp:pre_sift b f k l=true:=by simp only[pre_sift,andd,dec_iff,ble_iff];omega
  simp only[hi',decide_true,w2,Int.toNat_natCast,hp]at hx;right;refine⟨(f:Int),lo,(b:Int),(k:Int)-1,onL (Go.Sort.siftDown ltI b f k) l, ?_, ?_, ?_,fun R=>(hx R).trans ?_⟩
  ·simp only[pre_heapBuild,andd,dec_iff,ble_iff,siftL_len];omega
  ·simp only[mu_heapBuild];omega
  ·have e:onL (Go.Sort.heapBuild ltI b f (k+1)) l=onL (Go.Sort.heapBuild ltI b f k) (onL (Go.Sort.siftDown ltI b f k) l):=by
    unfold onL;rw[Go.Sort.heapBuild]
   simp only[res_heapBuild,Int.toNat_natCast,show ((k:Int)-1+1).toNat=k by omega,show ((k:Int)+1).toNat=k+1 by omega,e]
  ·rfl
 ·left;intro R;refine(hx R).trans ?_;have e:i = -1:=by omega
  subst e;simp only[hi',decide_false];rfl
def g_heapBuild:St→Cont→Option Fin:=gP sh_heapBuild (fun v=>match v with | ((first,lo,hi,i,()),(l,()))=>pre_heapBuild first lo hi i l) (fun v K=>match v with | ((first,lo,hi,i,()),(l,()))=>res_heapBuild first lo hi i l K)
def L_heapBuild:LpL:=(4,g_heapBuild)::L_heapPop
def cx_heapBuild:Cx:=(cb_heap).withLoops (look L_heapBuild)
theorem l_heapBuild {L:LpL} (n:Nat) (h1:L.drop n=L_heapPop) (h2:idsFree (L.take n) (loopOf Tryz.f174 0)=true):LoopsTo g_heapBuild (cb_heap) (loopOf Tryz.f174 0) 4 L :=
 with_drop h1 h2 (gP_ok (fun v=>match v with | ((first,lo,hi,i,()),(l,()))=>mu_heapBuild first lo hi i l) fun v K hI=>by
  obtain⟨⟨first,lo,hi,i,⟨⟩⟩,⟨l,⟨⟩⟩⟩:=v;exact(r_heapBuild first lo hi i l K hI).imp id fun⟨first',lo',hi',i',l',h⟩=>⟨((first',lo',hi',i',()),(l',())),h⟩)
theorem y_slices_heapSortOrdered_byte (l:List Int) (a:Int) (b:Int):evFn cx_heapBuild Tryz.f174 false [.one (.own 0),ofD TI64 a,ofD TI64 b] [.lis 5 TU8 l]=(
need (!decide (2=0)) <|
need (pre_heapBuild a 0 (W64 (b-a)) (W64 ((W64 (W64 (b-a)-1)).tdiv 2)) l) <|
need (pre_heapPop a 0 (W64 (W64 (b-a)-1)) (onL (Go.Sort.heapBuild ltI (W64 (b-a)).toNat a.toNat (W64 ((W64 (W64 (b-a)-1)).tdiv 2)+1).toNat) l)) <| some ((.tup []),[(0,(.some (.lis 5 TU8 (onL (Go.Sort.heapPop ltI a.toNat (W64 (W64 (b-a)-1)+1).toNat) (onL (Go.Sort.heapBuild ltI (W64 (b-a)).toNat a.toNat (W64 ((W64 (W64 (b-a)-1)).tdiv 2)+1).toNat) l)))))])):=by kernel_rfl
theorem s_slices_heapSortOrdered_byte (l:List (Int)) (_hl:Fit (.list TU8) l) (a:Int) (_ha:Fit TI64 a) (b:Int) (_hb:Fit TI64 b) (hpre:(decide (0≤a)&&(decide (a≤b)&&(decide (b≤(length l:Int))&&Nat.ble (length l) 1000000)))=true):Sat Tryz.prog 174 [.one (.own 0),ofD TI64 a,ofD TI64 b] [.lis 5 TU8 l] (.tup []) [(0,some (.lis 5 TU8 (srt a.toNat b.toNat l)))] :=
 fn_sound (cx:=cx_heapBuild) Tryz.func174 rfl ttOk Γ24ok mixed (fun c hc=>LoopsOk.all (l:=[(4,loopOf Tryz.f174 0),(8,loopOf Tryz.f174 1)]) (by cases hc;kernel_rfl) ⟨atLoop rfl (l_heapBuild 1 rfl (by kernel_rfl)),atLoop rfl (l_heapPop 2 rfl (by kernel_rfl)),trivial⟩) (ro:=false) (by
  simp only[andd,dec_iff,ble_iff]at hpre;obtain⟨h0,h1,h2,h3⟩:=hpre;obtain⟨x,rfl⟩:=Int.eq_ofNat_of_zero_le h0;obtain⟨y,rfl⟩:=Int.eq_ofNat_of_zero_le (Int.le_trans h0 h1);have w1:W64 ((y:Int)-x)=(y:Int)-x:=wrap_small (by omega) (by omega);have w2:W64 ((y:Int)-x-1)=(y:Int)-x-1:=wrap_small (by omega) (by omega);have t:((y:Int)-x-1).tdiv 2+1=((y-x-1) / 2+1:Nat):=by
   by_cases h:y=x
   ·subst h;rw[show ((y:Int)-y-1) = -1 by omega];simp
   ·rw[show ((y:Int)-x-1)=((y-x-1:Nat):Int)by omega,show ((y-x-1:Nat):Int).tdiv 2=(((y-x-1) / 2:Nat):Int)from rfl];rfl
  have w3:W64 (((y:Int)-x-1).tdiv 2)=((y:Int)-x-1).tdiv 2:=wrap_small (by omega) (by omega);have t1:((y:Int)-x).toNat=y-x:=by omega
  have t2:((y:Int)-x-1+1).toNat=y-x:=by omega
  have t3:(((y:Int)-x-1).tdiv 2+1).toNat=(y-x-1) / 2+1:=by omega
  have hp:pre_heapBuild x 0 ((y:Int)-x) (((y:Int)-x-1).tdiv 2) l=true:=by simp only[pre_heapBuild,andd,dec_iff,ble_iff];omega
  have hn:(onL (Go.Sort.heapBuild ltI (y-x) x ((y-x-1) / 2+1)) l).length=l.length:=onL_len (fun d=>heapBuild_size _ _ _ d) l;have hq:pre_heapPop x 0 ((y:Int)-x-1) (onL (Go.Sort.heapBuild ltI (y-x) x ((y-x-1) / 2+1)) l)=true:=by simp only[pre_heapPop,andd,dec_iff,ble_iff,hn,true_and];omega
  rw[y_slices_heapSortOrdered_byte];simp only[w1,w2,w3,t1,t2,t3,Int.toNat_natCast,hp,hq];obtain⟨p,s⟩:=Go.Sort.heapSort_holds swo l.toArray x y (by omega) (by show y≤l.length;omega);rw[← srt_of (by omega) (by omega) p s];rfl)
def c_slices_heapSortOrdered_byte:Con:=conL 5 TU8 [TI64,TI64] fun(l:List (Int)) (a:Int) (b:Int)=>(some (decide (0≤a)&&(decide (a≤b)&&(decide (b≤(length l:Int))&&Nat.ble (length l) 1000000))), .tup [],srt a.toNat b.toNat l)
theorem k_slices_heapSortOrdered_byte:ConOk Tryz.prog 174 c_slices_heapSortOrdered_byte:=conL_ok rfl Tryz.call174 fun l hl a ha b hb hqq=>s_slices_heapSortOrdered_byte l hl a ha b hb (pre_of hqq)
def Γ25:GL:=(174,c_slices_heapSortOrdered_byte)::Γ24
theorem Γ25ok:GO Γ25 := .cons k_slices_heapSortOrdered_byte Γ24ok
set_option maxHeartbeats 1000000
def cb_rev:Cx:=cxOf Γ25 Tryz.f177.ntmps [(2,[0,6,7])] [(0,[]),(1,[0,6,7])] [] []
theorem x_rev (l:List Int) (i j:Int) (R:St→Option Fin) (K:Cont):evC (cb_rev.withLoops (look [])) (loopOf Tryz.f177 0) ⟨[(0, .d (.one (.own 0))),(6,vI i),(7,vI j)],[(0,some (.lis 5 TU8 l))]⟩ (onward (headAt (cb_rev.withLoops (look [])) 2) R K)=(
branch (decide (i<j)) (
 need (inb j l.length) <|
 need (inb i l.length) <|
 need (inb i l.length) <|
 need (inb j (l.set i.toNat (l.getD j.toNat 0)).length) <| R ⟨[(0, .d (.one (.own 0))),(6,vI (W64 (i+1))),(7,vI (W64 (j-1)))],[(0,some (.lis 5 TU8 (swL l i.toNat j.toNat)))]⟩)
 (K (.exit 0) ⟨[],[(0,some (.lis 5 TU8 l))]⟩)):=by kernel_rfl
def cx0_rev:Cx:=(cb_rev).withLoops (look [])
def sh_rev:Sh:=([(0, .own 0),(6, .d TI64),(7, .d TI64)],[(0, .lis 5 TU8)])
abbrev st_rev (i j:Int) (l:List (Int)):St:=⟨[(0, .d (.one (.own 0))),(6,vI i),(7,vI j)],[(0,some (.lis 5 TU8 l))]⟩
def pre_rev (i j:Int) (l:List (Int)):Bool:=decide (0≤i)&&(decide (0≤j)&&(decide (i≤2000000)&&(decide (j<(length l:Int))&&Nat.ble (length l) 1000000)))
def res_rev (i j:Int) (l:List (Int)) (K:Cont):Option Fin:=K (.exit 0) ⟨[],[(0,some (.lis 5 TU8 (onL (Go.Sort.reverseLoop i.toNat j.toNat) l)))]⟩
def mu_rev (i j:Int) (_l:List (Int)):Nat:=(j-i).toNat
theorem r_rev (i j:Int) (l:List (Int)) (K:Cont) (hI:pre_rev i j l=true):(∀R:St→Option Fin,evC cx0_rev (loopOf Tryz.f177 0) (st_rev i j l) (onward (headAt cx0_rev 2) R K)=res_rev i j l K) ∨
  (∃(i' j':Int) (l':List (Int)),pre_rev i' j' l'=true∧mu_rev i' j' l'<mu_rev i j l∧res_rev i' j' l' K=res_rev i j l K∧∀R:St→Option Fin,evC cx0_rev (loopOf Tryz.f177 0) (st_rev i j l) (onward (headAt cx0_rev 2) R K)=R (st_rev i' j' l')):=by
 have hx:=fun R=>x_rev l i j R K;simp only[pre_rev,andd,dec_iff,ble_iff]at hI;obtain⟨h0,h1,h2,h3,h4⟩:=hI;obtain⟨x,rfl⟩:=Int.eq_ofNat_of_zero_le h0;obtain⟨y,rfl⟩:=Int.eq_ofNat_of_zero_le h1;have e:onL (Go.Sort.reverseLoop x y) l=if x<y then onL (Go.Sort.reverseLoop (x+1) (y-1)) (swL l x y)else l:=by
  unfold onL;rw[Go.Sort.reverseLoop,sw_arr]
  split<;>rfl
 by_cases hi:x<y
 ·have w1:W64 ((x:Int)+1)=(x:Int)+1:=wrap_small (by omega) (by omega);have w2:W64 ((y:Int)-1)=(y:Int)-1:=wrap_small (by omega) (by omega);have b1:inb (x:Int) l.length=true:=inb_ok (by omega) (by omega);have b2:inb (y:Int) l.length=true:=inb_ok (by omega) (by omega);simp only[show (x:Int)<y by omega,decide_true,w1,w2,b1,b2,Int.toNat_natCast,length_set]at hx;right;refine⟨(x:Int)+1,(y:Int)-1,swL l x y, ?_, ?_, ?_,fun R=>(hx R).trans ?_⟩
  ·simp only[pre_rev,andd,dec_iff,ble_iff,swL_len];omega
  ·simp only[mu_rev];omega
  ·simp only[res_rev,Int.toNat_natCast,show ((x:Int)+1).toNat=x+1 by omega,show ((y:Int)-1).toNat=y-1 by omega,e,if_pos hi]
  ·rfl
 ·left;intro R;refine(hx R).trans ?_;simp only[show ¬(x:Int)<y by omega,decide_false,res_rev,Int.toNat_natCast,e,if_neg hi];rfl
def g_rev:St→Cont→Option Fin:=gP sh_rev (fun v=>match v with | ((i,j,()),(l,()))=>pre_rev i j l) (fun v K=>match v with | ((i,j,()),(l,()))=>res_rev i j l K)
def L_rev:LpL:=(2,g_rev)::[]
def cx_rev:Cx:=(cb_rev).withLoops (look L_rev)
theorem l_rev {L:LpL} (n:Nat) (h1:L.drop n=[]) (h2:idsFree (L.take n) (loopOf Tryz.f177 0)=true):LoopsTo g_rev (cb_rev) (loopOf Tryz.f177 0) 2 L :=
 with_drop h1 h2 (gP_ok (fun v=>match v with | ((i,j,()),(l,()))=>mu_rev i j l) fun v K hI=>by
  obtain⟨⟨i,j,⟨⟩⟩,⟨l,⟨⟩⟩⟩:=v;exact(r_rev i j l K hI).imp id fun⟨i',j',l',h⟩=>⟨((i',j',()),(l',())),h⟩)
theorem y_slices_reverseRangeOrdered_byte (l:List Int) (a:Int) (b:Int):evFn cx_rev Tryz.f177 false [.one (.own 0),ofD TI64 a,ofD TI64 b] [.lis 5 TU8 l]=(
need (pre_rev a (W64 (b-1)) l) <| some ((.tup []),[(0,(.some (.lis 5 TU8 (onL (Go.Sort.reverseLoop a.toNat (W64 (b-1)).toNat) l))))])):=by kernel_rfl
theorem s_slices_reverseRangeOrdered_byte (l:List (Int)) (_hl:Fit (.list TU8) l) (a:Int) (_ha:Fit TI64 a) (b:Int) (_hb:Fit TI64 b) (hpre:(decide (0≤a)&&(decide (a<b)&&(decide (b≤(length l:Int))&&Nat.ble (length l) 1000000)))=true):Sat Tryz.prog 177 [.one (.own 0),ofD TI64 a,ofD TI64 b] [.lis 5 TU8 l] (.tup []) [(0,some (.lis 5 TU8 (onL (fun d=>Go.Sort.reverseRange d a.toNat b.toNat) l)))] :=
 fn_sound (cx:=cx_rev) Tryz.func177 rfl ttOk Γ25ok mixed (fun c hc=>LoopsOk.all (l:=[(2,loopOf Tryz.f177 0)]) (by cases hc;kernel_rfl) ⟨atLoop rfl (l_rev 1 rfl (by kernel_rfl)),trivial⟩) (ro:=false) (by
  simp only[andd,dec_iff,ble_iff]at hpre;obtain⟨h0,h1,h2,h3⟩:=hpre;have w1:W64 (b-1)=b-1:=wrap_small (by omega) (by omega);have hp:pre_rev a (b-1) l=true:=by simp only[pre_rev,andd,dec_iff,ble_iff];omega
  rw[y_slices_reverseRangeOrdered_byte,w1,hp,show (b-1).toNat=b.toNat-1 by omega];rfl)
def c_slices_reverseRangeOrdered_byte:Con:=conL 5 TU8 [TI64,TI64] fun(l:List (Int)) (a:Int) (b:Int)=>(some (decide (0≤a)&&(decide (a<b)&&(decide (b≤(length l:Int))&&Nat.ble (length l) 1000000))), .tup [],onL (fun d=>Go.Sort.reverseRange d a.toNat b.toNat) l)
theorem k_slices_reverseRangeOrdered_byte:ConOk Tryz.prog 177 c_slices_reverseRangeOrdered_byte:=conL_ok rfl Tryz.call177 fun l hl a ha b hb hqq=>s_slices_reverseRangeOrdered_byte l hl a ha b hb (pre_of hqq)
def Γ26:GL:=(177,c_slices_reverseRangeOrdered_byte)::Γ25
theorem Γ26ok:GO Γ26 := .cons k_slices_reverseRangeOrdered_byte Γ25ok
abbrev oN (n:Int):Obj:=boxD 3 TI64 n
abbrev hLN (l:List Int) (n:Int):Heap:=[(0,some (.lis 5 TU8 l)),(1,some (oN n))]
def ord2 (l:List Int) (a b n:Int):Int×Int×Int:=bif ltI (l.getD b.toNat 0) (l.getD a.toNat 0)then(b,a,W64 (n+1))else(a,b,n)
theorem y_order2 (l:List Int) (a b n:Int):evFn (cxOf Γ26 Tryz.f197.ntmps [] [] [] []) Tryz.f197 false [.one (.own 0),ofD TI64 a,ofD TI64 b, .one (.ptr 1 0)] [.lis 5 TU8 l,oN n]=(
need (inb b l.length) <| need (inb a l.length) <| branch (ltI (l.getD b.toNat 0) (l.getD a.toNat 0)) (some (.tup [ofD TI64 b,ofD TI64 a],hLN l (W64 (n+1)))) (some (.tup [ofD TI64 a,ofD TI64 b],hLN l n))):=by kernel_rfl
theorem s_order2 (l:List Int) (a b n:Int) (h:(inb a l.length&&inb b l.length)=true):Sat Tryz.prog 197 [.one (.own 0),ofD TI64 a,ofD TI64 b, .one (.ptr 1 0)] [.lis 5 TU8 l,oN n] (.tup [ofD TI64 (ord2 l a b n).1,ofD TI64 (ord2 l a b n).2.1]) (hLN l (ord2 l a b n).2.2) :=
 fn_sound (cx:=cxOf Γ26 Tryz.f197.ntmps [] [] [] []) Tryz.func197 rfl ttOk Γ26ok mixed (fun _ _=>LoopsOk.no fun _=>rfl) (ro:=false) (by
  obtain⟨h1,h2⟩:=andd.1 h;rw[y_order2,h1,h2];unfold ord2
  cases ltI (l.getD b.toNat 0) (l.getD a.toNat 0)<;>rfl)
def c_slices_order2Ordered_byte:Con:=⟨false,fun ds os=>match ds,os with
 | [.one (.own 0), .one (.r (.v (.int .i64 a))), .one (.r (.v (.int .i64 b))), .one (.ptr 1 0)],[o,p]=>match exLis 5 TU8 (some o),exBox 3 TI64 (some p)with
  |some l,some n=>some (some (inb a (length l)&&inb b (length l)), .tup [ofD TI64 (ord2 l a b n).1,ofD TI64 (ord2 l a b n).2.1],hLN l (ord2 l a b n).2.2)
  |_,_=>none
 |_,_=>none⟩
theorem k_slices_order2Ordered_byte:ConOk Tryz.prog 197 c_slices_order2Ordered_byte:=by
 refine⟨Tryz.call197,fun ds os c x objs hc hok => ?_⟩;unfold c_slices_order2Ordered_byte at hc;dsimp only at hc
 split at hc
 ·split at hc
  ·rename_i l n e1 e2
   cases hc
   have e1:=Option.some.inj (exLis_some e1);have e2:=Option.some.inj (exBox_some e2);subst e1;subst e2;exact s_order2 l _ _ n (pre_of hok)
  ·cases hc
 ·cases hc
def Γ27:GL:=(197,c_slices_order2Ordered_byte)::Γ26
theorem Γ27ok:GO Γ27 := .cons k_slices_order2Ordered_byte Γ26ok
def med (l:List Int) (a b c n:Int):Int×Int :=
 let r1:=ord2 l a b n
 let r2:=ord2 l r1.2.1 c r1.2.2
 let r3:=ord2 l r1.1 r2.1 r2.2.2
 (r3.2.1,r3.2.2)
theorem ord2_in (l:List Int) (a b n:Int) (k:Nat):(inb a k&&inb b k)=true→inb (ord2 l a b n).1 k=true∧inb (ord2 l a b n).2.1 k=true:=by
 intro h;obtain⟨h1,h2⟩:=andd.1 h;unfold ord2
 cases ltI (l.getD b.toNat 0) (l.getD a.toNat 0)
 ·exact ⟨h1,h2⟩
 ·exact ⟨h2,h1⟩
theorem y_median (l:List Int) (a b c n:Int):evFn (cxOf Γ27 Tryz.f193.ntmps [] [] [] []) Tryz.f193 false [.one (.own 0),ofD TI64 a,ofD TI64 b,ofD TI64 c, .one (.ptr 1 0)] [.lis 5 TU8 l,oN n]=(
need (inb a l.length&&inb b l.length) <| need (inb (ord2 l a b n).2.1 l.length&&inb c l.length) <| need (inb (ord2 l a b n).1 l.length&&inb (ord2 l (ord2 l a b n).2.1 c (ord2 l a b n).2.2).1 l.length) <| some (vI (med l a b c n).1,hLN l (med l a b c n).2)):=by kernel_rfl
theorem s_median (l:List Int) (a b c n:Int) (h:(inb a l.length&&(inb b l.length&&inb c l.length))=true):Sat Tryz.prog 193 [.one (.own 0),ofD TI64 a,ofD TI64 b,ofD TI64 c, .one (.ptr 1 0)] [.lis 5 TU8 l,oN n] (vI (med l a b c n).1) (hLN l (med l a b c n).2) :=
 fn_sound (cx:=cxOf Γ27 Tryz.f193.ntmps [] [] [] []) Tryz.func193 rfl ttOk Γ27ok mixed (fun _ _=>LoopsOk.no fun _=>rfl) (ro:=false) (by
  obtain⟨h1,h2⟩:=andd.1 h;obtain⟨h2,h3⟩:=andd.1 h2;have g1:=ord2_in l a b n l.length (andd.2 ⟨h1,h2⟩);have g2:=ord2_in l (ord2 l a b n).2.1 c (ord2 l a b n).2.2 l.length (andd.2 ⟨g1.2,h3⟩);rw[y_median,h1,h2,h3,g1.1,g1.2,g2.1];rfl)
def c_slices_medianOrdered_byte:Con:=⟨false,fun ds os=>match ds,os with
 | [.one (.own 0), .one (.r (.v (.int .i64 a))), .one (.r (.v (.int .i64 b))), .one (.r (.v (.int .i64 c))), .one (.ptr 1 0)],[o,p]=>match exLis 5 TU8 (some o),exBox 3 TI64 (some p)with
  |some l,some n=>some (some (inb a (length l)&&(inb b (length l)&&inb c (length l))),vI (med l a b c n).1,hLN l (med l a b c n).2)
  |_,_=>none
 |_,_=>none⟩
theorem k_slices_medianOrdered_byte:ConOk Tryz.prog 193 c_slices_medianOrdered_byte:=by
 refine⟨Tryz.call193,fun ds os c x objs hc hok => ?_⟩;unfold c_slices_medianOrdered_byte at hc;dsimp only at hc
 split at hc
 ·split at hc
  ·rename_i l n e1 e2
   cases hc
   have e1:=Option.some.inj (exLis_some e1);have e2:=Option.some.inj (exBox_some e2);subst e1;subst e2;exact s_median l _ _ _ n (pre_of hok)
  ·cases hc
 ·cases hc
def Γ28:GL:=(193,c_slices_medianOrdered_byte)::Γ27
theorem Γ28ok:GO Γ28 := .cons k_slices_medianOrdered_byte Γ27ok
abbrev chI (a b k:Int):Int:=W64 (a+W64 (W64 ((W64 (b-a)).tdiv 4)*k))
def hintV (n:Int):Int:=bif decide (n=0)then 1 else bif decide (n=12)then 2 else 0
abbrev chM (l:List Int) (a b:Int):Int×Int:=med l (chI a b 1) (chI a b 2) (chI a b 3) 0
theorem y_choosePivot (l:List Int) (a b:Int):∃z,evFn (cxOf Γ28 Tryz.f176.ntmps [] [(0,[6,7]),(1000000,[6,7])] [] []) Tryz.f176 false [.one (.own 0),ofD TI64 a,ofD TI64 b] [.lis 5 TU8 l] =
 branch (decide (8≤W64 (b-a))) (branch (decide (50≤W64 (b-a))) none
  (need (inb (chI a b 1) l.length&&(inb (chI a b 2) l.length&&inb (chI a b 3) l.length))
   (branch (decide ((chM l a b).2=0)) (some (.tup [ofD TI64 (chM l a b).1,ofD TI64 (1:Int)],[(0,some (.lis 5 TU8 l))]))
    (branch (decide ((chM l a b).2=12)) (some (.tup [ofD TI64 (chM l a b).1,ofD TI64 (2:Int)],[(0,some (.lis 5 TU8 l))]))
     (some (.tup [ofD TI64 (chM l a b).1,ofD TI64 (0:Int)],[(0,some (.lis 5 TU8 l))])))))) z :=
 ⟨some (.tup [ofD TI64 (chI a b 2),ofD TI64 (1:Int)],[(0,some (.lis 5 TU8 l))]),by kernel_rfl⟩
theorem chI_eq {a b k:Int} (h0:0≤a) (h1:a≤b) (h2:b≤1000000) (h3:0≤k) (h4:k≤3):chI a b k=a+(b-a) / 4*k∧a≤chI a b k∧(12<b-a→chI a b k<b):=by
 have w1:W64 (b-a)=b-a:=wrap_small (by omega) (by omega);have e:(b-a).tdiv 4=(b-a) / 4:=Int.tdiv_eq_ediv_of_nonneg (by omega);have w2:W64 ((b-a) / 4)=(b-a) / 4:=wrap_small (by omega) (by omega);have hk:k=0∨k=1∨k=2∨k=3:=by omega
 have w3:W64 ((b-a) / 4*k)=(b-a) / 4*k:=by rcases hk with rfl | rfl | rfl | rfl<;>exact wrap_small (by omega) (by omega)
 have w4:W64 (a+(b-a) / 4*k)=a+(b-a) / 4*k:=by rcases hk with rfl | rfl | rfl | rfl<;>exact wrap_small (by omega) (by omega)
 have e4:chI a b k=a+(b-a) / 4*k:=by unfold chI;rw[w1,e,w2,w3,w4]
 refine⟨e4, ?_, ?_⟩<;>rw[e4]<;>rcases hk with rfl | rfl | rfl | rfl<;>omega
theorem med_in (l:List Int) (a b c n:Int) (p:Int→Prop) (ha:p a) (hb:p b) (hc:p c):p (med l a b c n).1:=by
 have key:∀x y n,p x→p y→p (ord2 l x y n).1∧p (ord2 l x y n).2.1:=by
  intro x y n hx hy;unfold ord2
  cases ltI (l.getD y.toNat 0) (l.getD x.toNat 0)
  ·exact ⟨hx,hy⟩
  ·exact ⟨hy,hx⟩
 unfold med;have k1:=key a b n ha hb;have k2:=key _ c (ord2 l a b n).2.2 k1.2 hc;exact(key _ _ _ k1.1 k2.1).2
theorem s_slices_choosePivotOrdered_byte (l:List (Int)) (_hl:Fit (.list TU8) l) (a:Int) (_ha:Fit TI64 a) (b:Int) (_hb:Fit TI64 b) (hpre:(decide (0≤a)&&(decide (12<b-a)&&(decide (b-a<50)&&(decide (b≤(length l:Int))&&Nat.ble (length l) 1000000))))=true):Sat Tryz.prog 176 [.one (.own 0),ofD TI64 a,ofD TI64 b] [.lis 5 TU8 l] (.tup [ofD TI64 (chM l a b).1,ofD TI64 (hintV (chM l a b).2)]) [(0,some (.lis 5 TU8 (l)))] :=
 fn_sound (cx:=cxOf Γ28 Tryz.f176.ntmps [] [(0,[6,7]),(1000000,[6,7])] [] []) Tryz.func176 rfl ttOk Γ28ok mixed (fun _ _=>LoopsOk.no fun _=>rfl) (ro:=false) (by
  simp only[andd,dec_iff,ble_iff]at hpre;obtain⟨h0,h1,h2,h3,h4⟩:=hpre;obtain⟨z,hz⟩:=y_choosePivot l a b;have w1:W64 (b-a)=b-a:=wrap_small (by omega) (by omega);have q:∀k:Int,0≤k→k≤3→inb (chI a b k) l.length=true:=fun k g1 g2=>by
   obtain⟨_,g3,g4⟩:=chI_eq (a:=a) (b:=b) h0 (by omega) (by omega) g1 g2;exact inb_ok (by omega) (by have:=g4 h1;omega)
  rw[hz,q 1 (by omega) (by omega),q 2 (by omega) (by omega),q 3 (by omega) (by omega),w1,zT (by omega:(8:Int)≤b-a),zF (by omega:¬(50:Int)≤b-a)];show branch _ _ _=_;unfold hintV
  cases decide ((chM l a b).2=0)
  ·cases decide ((chM l a b).2=12)<;>rfl
  ·rfl)
def c_slices_choosePivotOrdered_byte:Con:=conL 5 TU8 [TI64,TI64] fun(l:List (Int)) (a:Int) (b:Int)=>(some (decide (0≤a)&&(decide (12<b-a)&&(decide (b-a<50)&&(decide (b≤(length l:Int))&&Nat.ble (length l) 1000000)))), .tup [ofD TI64 (chM l a b).1,ofD TI64 (hintV (chM l a b).2)],l)
theorem k_slices_choosePivotOrdered_byte:ConOk Tryz.prog 176 c_slices_choosePivotOrdered_byte:=conL_ok rfl Tryz.call176 fun l hl a ha b hb hqq=>s_slices_choosePivotOrdered_byte l hl a ha b hb (pre_of hqq)
def Γ29:GL:=(176,c_slices_choosePivotOrdered_byte)::Γ28
theorem Γ29ok:GO Γ29 := .cons k_slices_choosePivotOrdered_byte Γ28ok
abbrev TU64:Ty := .int .u64
def lenTab:Str:=replicate 1 0++(replicate 1 1++(replicate 2 2++(replicate 4 3++(replicate 8 4++(replicate 16 5++(replicate 32 6++(replicate 64 7++replicate 128 8)))))))
def lenW (x n:Int):Int:=W64 (n+W64 (byteAt lenTab (IntKind.u8.wrap x)))
def lenV (x:Int):Int:=lenW x 0
def len8 (x n:Int):Option Fin:=need (inb (IntKind.u8.wrap x) 256) (some (vI (lenW x n),[]))
def len16 (x n:Int):Option Fin:=branch (decide (256≤x)) (len8 (x.fdiv (2 ^ 8)) (W64 (n+8))) (len8 x n)
def len32 (x n:Int):Option Fin:=branch (decide (65536≤x)) (len16 (x.fdiv (2 ^ 16)) (W64 (n+16))) (len16 x n)
theorem y_Len64 (x:Int):evFn (cxOf Γ29 Tryz.f183.ntmps [] [] [] []) Tryz.f183 true [ofD TU64 x] []=(
branch (decide (4294967296≤x)) (len32 (x.fdiv (2 ^ 32)) 32) (len32 x 0)):=by kernel_rfl
theorem len_tab (n:Nat) (h:n<64):lenV n=((if n=0 then 0 else Nat.log2 n+1:Nat):Int)∧n<2 ^ (lenV n).toNat∧2 ^ (lenV n).toNat≤max 1 (2*n):=by
 have key:∀m:_root_.Fin 64,lenV (m:Nat)=((if (m:Nat)=0 then 0 else Nat.log2 m+1:Nat):Int)∧(m:Nat)<2 ^ (lenV (m:Nat)).toNat∧2 ^ (lenV (m:Nat)).toNat≤max 1 (2*(m:Nat)):=by decide +kernel
 exact key ⟨n,h⟩
theorem s_math_bits_Len64 (x:Int) (_hx:Fit TU64 x) (hpre:(decide (0≤x)&&decide (x<64))=true):Sat Tryz.prog 183 [ofD TU64 x] [] (.d (ofD TI64 (lenV x))) [] :=
 fn_sound (cx:=cxOf Γ29 Tryz.f183.ntmps [] [] [] []) Tryz.func183 rfl ttOk Γ29ok mixed (fun _ _=>LoopsOk.no fun _=>rfl) (ro:=true) (by
  obtain⟨h0,h1⟩:=andd.1 hpre;have h0:=dec_iff.1 h0;have h1:=dec_iff.1 h1;have hw:IntKind.u8.wrap x=x:=by rw[IntKind.wrap_u8];omega
  rw[y_Len64,zF (by omega:¬ 4294967296≤x)];show len32 x 0=_;unfold len32;rw[zF (by omega:¬ 65536≤x)];show len16 x 0=_;unfold len16;rw[zF (by omega:¬ 256≤x)];show len8 x 0=_;unfold len8;rw[hw,inb_ok h0 (by omega)];rfl)
def c_math_bits_Len64:Con:=conT [TU64] fun(x:Int)=>(some (decide (0≤x)&&decide (x<64)), .d (ofD TI64 (lenV x)))
theorem k_math_bits_Len64:ConOk Tryz.prog 183 c_math_bits_Len64:=conT_ok Tryz.call183 fun x hx hqq=>s_math_bits_Len64 x hx (pre_of hqq)
def Γ30:GL:=(183,c_math_bits_Len64)::Γ29
theorem Γ30ok:GO Γ30 := .cons k_math_bits_Len64 Γ29ok
theorem s_math_bits_Len (x:Int) (_hx:Fit TU64 x) (hpre:(decide (0≤x)&&decide (x<64))=true):Sat Tryz.prog 157 [ofD TU64 x] [] (.d (ofD TI64 (lenV x))) [] :=
 fn_sound (cx:=cxOf Γ30 Tryz.f157.ntmps [] [] [] []) Tryz.func157 rfl ttOk Γ30ok mixed (fun _ _=>LoopsOk.no fun _=>rfl) (ro:=true) (by
  have y:evFn (cxOf Γ30 Tryz.f157.ntmps [] [] [] []) Tryz.f157 true [ofD TU64 x] []=need (decide (0≤x)&&decide (x<64)) (some (vI (lenV x),[])):=by kernel_rfl
  rw[y,hpre];rfl)
def c_math_bits_Len:Con:=conT [TU64] fun(x:Int)=>(some (decide (0≤x)&&decide (x<64)), .d (ofD TI64 (lenV x)))
theorem k_math_bits_Len:ConOk Tryz.prog 157 c_math_bits_Len:=conT_ok Tryz.call157 fun x hx hqq=>s_math_bits_Len x hx (pre_of hqq)
def Γ31:GL:=(157,c_math_bits_Len)::Γ30
theorem Γ31ok:GO Γ31 := .cons k_math_bits_Len Γ30ok
def powV (x:Int):Int:=IntKind.u64.wrap (1*2 ^ (min (lenV (IntKind.u64.wrap x)).toNat 64))
theorem y_nextPow (x:Int):evFn (cxOf Γ31 Tryz.f190.ntmps [] [] [] []) Tryz.f190 true [ofD TI64 x] []=need (decide (0≤IntKind.u64.wrap x)&&decide (IntKind.u64.wrap x<64)) (need (decide (0≤lenV (IntKind.u64.wrap x))) (some (.d (ofD TU64 (powV x)),[]))):=by kernel_rfl
theorem s_slices_nextPowerOfTwo (x:Int) (_hx:Fit TI64 x) (hpre:(decide (0≤x)&&decide (x<64))=true):Sat Tryz.prog 190 [ofD TI64 x] [] (.d (ofD TU64 (powV x))) [] :=
 fn_sound (cx:=cxOf Γ31 Tryz.f190.ntmps [] [] [] []) Tryz.func190 rfl ttOk Γ31ok mixed (fun _ _=>LoopsOk.no fun _=>rfl) (ro:=true) (by
  obtain⟨h0,h1⟩:=andd.1 hpre;have h0:=dec_iff.1 h0;have h1:=dec_iff.1 h1;have hw:IntKind.u64.wrap x=x:=by simp only[IntKind.wrap,IntKind.bits,IntKind.signed];simp;omega
  obtain⟨n,rfl⟩:=Int.eq_ofNat_of_zero_le h0;have hl:=(len_tab n (by omega)).1;rw[y_nextPow,hw,zT h0,zT h1,zT (by omega)];rfl)
def c_slices_nextPowerOfTwo:Con:=conT [TI64] fun(x:Int)=>(some (decide (0≤x)&&decide (x<64)), .d (ofD TU64 (powV x)))
theorem k_slices_nextPowerOfTwo:ConOk Tryz.prog 190 c_slices_nextPowerOfTwo:=conT_ok Tryz.call190 fun x hx hqq=>s_slices_nextPowerOfTwo x hx (pre_of hqq)
theorem pow_in (n:Nat) (h:n<64):1≤powV n∧powV n≤max 1 (2*(n:Int)):=by
 have key:∀m:_root_.Fin 64,1≤powV (m:Nat)∧powV (m:Nat)≤max 1 (2*((m:Nat):Int)):=by decide +kernel
 exact key ⟨n,h⟩
def Γ32:GL:=(190,c_slices_nextPowerOfTwo)::Γ31
theorem Γ32ok:GO Γ32 := .cons k_slices_nextPowerOfTwo Γ31ok
def xo (x y:Int):Int:=IntKind.u64.wrap ((BitVec.ofInt 64 x ^^^ BitVec.ofInt 64 y).toNat:Int)
def xr (r:Int):Int :=
 let r1:=xo r (IntKind.u64.wrap (r*2 ^ 13))
 let r2:=xo r1 (r1.fdiv (2 ^ 7))
 xo r2 (IntKind.u64.wrap (r2*2 ^ 17))
theorem y_Next (r:Int):evFn (cxOf Γ32 Tryz.f191.ntmps [] [] [] []) Tryz.f191 false [.one (.ptr 0 0)] [boxD 192 TU64 r]=some (.d (ofD TU64 (xr r)),[(0,some (boxD 192 TU64 (xr r)))]):=by kernel_rfl
theorem s_Next (r:Int):Sat Tryz.prog 191 [.one (.ptr 0 0)] [boxD 192 TU64 r] (.d (ofD TU64 (xr r))) [(0,some (boxD 192 TU64 (xr r)))] :=
 fn_sound (cx:=cxOf Γ32 Tryz.f191.ntmps [] [] [] []) Tryz.func191 rfl ttOk Γ32ok mixed (fun _ _=>LoopsOk.no fun _=>rfl) (ro:=false) (y_Next r)
def c_slices_xorshift_Next:Con:=conB 192 TU64 [] fun(r:Int)=>(none, .d (ofD TU64 (xr r)),xr r)
theorem k_slices_xorshift_Next:ConOk Tryz.prog 191 c_slices_xorshift_Next:=conB_ok Tryz.call191 fun r _ _=>s_Next r
def Γ33:GL:=(191,c_slices_xorshift_Next)::Γ32
theorem Γ33ok:GO Γ33 := .cons k_slices_xorshift_Next Γ32ok
def cb_brk:Cx:=cxOf Γ33 Tryz.f175.ntmps [(5,[0,1,6,7,8,9])] [(0,[]),(1,[0,1,6,7,8,9])] [] []
def othV (r m:Int):Int:=W64 (IntKind.u64.wrap (((BitVec.ofInt IntKind.u64.bits (xr r)).and (BitVec.ofInt IntKind.u64.bits (IntKind.u64.wrap (m-1)))).toNat:Int))
theorem oth_in {r m:Int} (h0:1≤m) (h1:m≤1000):0≤othV r m∧othV r m<m:=by
 have hw:IntKind.u64.wrap (m-1)=m-1:=by simp only[IntKind.wrap,IntKind.bits,IntKind.signed];simp;omega
 have hb:(BitVec.ofInt IntKind.u64.bits (m-1)).toNat=(m-1).toNat:=by
  show(BitVec.ofInt 64 (m-1)).toNat=_;rw[BitVec.toNat_ofInt];rw[Int.emod_eq_of_lt (by omega) (by simp;omega)]
 have hn:((BitVec.ofInt IntKind.u64.bits (xr r)).and (BitVec.ofInt IntKind.u64.bits (m-1))).toNat≤(m-1).toNat:=by
  show((BitVec.ofInt IntKind.u64.bits (xr r)) &&& (BitVec.ofInt IntKind.u64.bits (m-1))).toNat≤_;rw[BitVec.toNat_and,hb];exact Nat.and_le_right
 unfold othV;rw[hw]
 generalize ((BitVec.ofInt IntKind.u64.bits (xr r)).and (BitVec.ofInt IntKind.u64.bits (m-1))).toNat=q at hn
 have h2:IntKind.u64.wrap (q:Int)=q:=by simp only[IntKind.wrap,IntKind.bits,IntKind.signed];simp;omega
 rw[h2,show W64 (q:Int)=q from wrap_small (by omega) (by omega)];omega
theorem x_brk (l:List Int) (a n r m i:Int) (R:St→Option Fin) (K:Cont):evC (cb_brk.withLoops (look [])) (loopOf Tryz.f175 0) ⟨[(0, .d (.one (.own 0))),(1,vI a),(6,vI n),(7, kp0),(8, .d (ofD TU64 m)),(9,vI i)],[(0,some (.lis 5 TU8 l)),(500000,some (boxD 192 TU64 r))]⟩ (onward (headAt (cb_brk.withLoops (look [])) 5) R K)=(
branch (decide (i≤W64 (W64 (a+W64 (W64 (n.tdiv 4)*2))+1))) (
 branch (decide (n≤othV r m)) (
 need (inb (W64 (a+W64 (othV r m-n))) l.length) <|
 need (inb i l.length) <|
 need (inb i l.length) <|
 need (inb (W64 (a+W64 (othV r m-n))) (l.set i.toNat (l.getD (W64 (a+W64 (othV r m-n))).toNat 0)).length) <| R ⟨[(0, .d (.one (.own 0))),(1,vI a),(6,vI n),(7, kp0),(8, .d (ofD TU64 m)),(9,vI (W64 (i+1)))],[(0,some (.lis 5 TU8 (swL l i.toNat (W64 (a+W64 (othV r m-n))).toNat))),(500000,some (boxD 192 TU64 (xr r)))]⟩) (
 need (inb (W64 (a+othV r m)) l.length) <|
 need (inb i l.length) <|
 need (inb i l.length) <|
 need (inb (W64 (a+othV r m)) (l.set i.toNat (l.getD (W64 (a+othV r m)).toNat 0)).length) <| R ⟨[(0, .d (.one (.own 0))),(1,vI a),(6,vI n),(7, kp0),(8, .d (ofD TU64 m)),(9,vI (W64 (i+1)))],[(0,some (.lis 5 TU8 (swL l i.toNat (W64 (a+othV r m)).toNat))),(500000,some (boxD 192 TU64 (xr r)))]⟩)) (K (.exit 0) ⟨[],[(0,some (.lis 5 TU8 l))]⟩)):=by kernel_rfl
def permL (a b:Nat) (l m:List Int):Prop:=Go.Sort.PermIn a b l.toArray m.toArray
theorem permL_len {a b:Nat} {l m:List Int} (h:permL a b l m):m.length=l.length:=h.1
theorem permL_sw {a b i j:Nat} {l:List Int} (h0:a≤i) (h1:i<b) (h2:a≤j) (h3:j<b) (h4:b≤l.length):permL a b l (swL l i j):=by
 unfold permL;rw[← sw_arr];exact Go.Sort.swp_permIn _ _ _ _ _ h0 h1 h2 h3 h4
theorem permL_refl (a b:Nat) (l:List Int):permL a b l l:=Go.Sort.permIn_refl _ _ _
theorem permL_trans {a b:Nat} {l m n:List Int} (h:permL a b l m) (g:permL a b m n):permL a b l n:=Go.Sort.permIn_trans _ _ _ _ _ h g
def cx0_brk:Cx:=cb_brk
def sh_brk:Sh:=([(0, .own 0),(1, .d TI64),(6, .d TI64),(7, .ptr 500000 0),(8, .d TU64),(9, .d TI64)],[(0, .lis 5 TU8),(500000, .box 192 TU64)])
abbrev st_brk (a:Int) (n:Int) (m:Int) (i:Int) (l:List (Int)) (r:Int):St:=⟨[(0, .d (.one (.own 0))),(1,vI a),(6,vI n),(7, kp0),(8, .d (ofD TU64 m)),(9,vI i)],[(0,some (.lis 5 TU8 l)),(500000,some (boxD 192 TU64 r))]⟩
def V_brk (a:Int) (n:Int) (m:Int) (i:Int) (l:List (Int)) (r:Int):sh_brk.V:=((a,n,m,i,()),(l,r,()))
def out_brk (o:List Int):St:=⟨[],[(0,some (.lis 5 TU8 o))]⟩
def inv_brk (a:Int) (n:Int) (m:Int) (i:Int) (l:List (Int)) (_r:Int):Bool:=decide (0≤a)&&(decide (8≤n)&&(decide (n<64)&&(decide (1≤m)&&(decide (m≤2*n)&&(decide (a≤i)&&(decide (a+n≤(length l:Int))&&Nat.ble (length l) 1000000))))))
def post_brk (a:Int) (n:Int) (_m:Int) (_i:Int) (l:List (Int)) (_r:Int) (o:List Int):Prop:=permL a.toNat (a+n).toNat l o
def mu_brk (a:Int) (n:Int) (_m:Int) (i:Int) (_l:List (Int)) (_r:Int):Nat:=(a+n-i).toNat
theorem r_brk (a:Int) (n:Int) (m:Int) (i:Int) (l:List (Int)) (r:Int) (hI:inv_brk a n m i l r=true):(∃o:List Int,post_brk a n m i l r o∧∀(R:St→Option Fin) (K:Cont),evC cx0_brk (loopOf Tryz.f175 0) (st_brk a n m i l r) (onward (headAt cx0_brk 5) R K)=K (.exit 0) (out_brk o)) ∨
  (∃(a':Int) (n':Int) (m':Int) (i':Int) (l':List (Int)) (r':Int),inv_brk a' n' m' i' l' r'=true∧mu_brk a' n' m' i' l' r'<mu_brk a n m i l r∧(∀o,post_brk a' n' m' i' l' r' o→post_brk a n m i l r o)∧∀(R:St→Option Fin) (K:Cont),evC cx0_brk (loopOf Tryz.f175 0) (st_brk a n m i l r) (onward (headAt cx0_brk 5) R K)=R (st_brk a' n' m' i' l' r')):=by
 have hx:=fun R K=>x_brk l a n r m i R K;simp only[inv_brk,andd,dec_iff,ble_iff]at hI;obtain⟨h0,h1,h2,h3,h4,h5,h6,h7⟩:=hI;have w0:W64 (W64 (a+W64 (W64 (n.tdiv 4)*2))+1)=a+n / 4*2+1:=by
  rw[Int.tdiv_eq_ediv_of_nonneg (by omega)];rw[show W64 (n / 4)=n / 4 from wrap_small (by omega) (by omega),show W64 (n / 4*2)=n / 4*2 from wrap_small (by omega) (by omega),show W64 (a+n / 4*2)=a+n / 4*2 from wrap_small (by omega) (by omega)];exact wrap_small (by omega) (by omega)
 rw[w0]at hx;obtain⟨o0,o1⟩:=oth_in (r:=r) h3 (by omega:m≤1000)
 by_cases hi:i≤a+n / 4*2+1
 ·right;have wi:W64 (i+1)=i+1:=wrap_small (by omega) (by omega);have bi:inb i l.length=true:=inb_ok (by omega) (by omega);have fin:∀k:Int,0≤k→k<n→(∀(R:St→Option Fin) (K:Cont),branch (decide (n≤othV r m)) (
    need (inb (W64 (a+W64 (othV r m-n))) l.length) <| need (inb i l.length) <| need (inb i l.length) <|
    need (inb (W64 (a+W64 (othV r m-n))) (l.set i.toNat (l.getD (W64 (a+W64 (othV r m-n))).toNat 0)).length) <| R ⟨[(0, .d (.one (.own 0))),(1,vI a),(6,vI n),(7, kp0),(8, .d (ofD TU64 m)),(9,vI (W64 (i+1)))],[(0,some (.lis 5 TU8 (swL l i.toNat (W64 (a+W64 (othV r m-n))).toNat))),(500000,some (boxD 192 TU64 (xr r)))]⟩) (
    need (inb (W64 (a+othV r m)) l.length) <| need (inb i l.length) <| need (inb i l.length) <|
    need (inb (W64 (a+othV r m)) (l.set i.toNat (l.getD (W64 (a+othV r m)).toNat 0)).length) <| R ⟨[(0, .d (.one (.own 0))),(1,vI a),(6,vI n),(7, kp0),(8, .d (ofD TU64 m)),(9,vI (W64 (i+1)))],[(0,some (.lis 5 TU8 (swL l i.toNat (W64 (a+othV r m)).toNat))),(500000,some (boxD 192 TU64 (xr r)))]⟩)
    = R ⟨[(0, .d (.one (.own 0))),(1,vI a),(6,vI n),(7, kp0),(8, .d (ofD TU64 m)),(9,vI (i+1))],[(0,some (.lis 5 TU8 (swL l i.toNat (a+k).toNat))),(500000,some (boxD 192 TU64 (xr r)))]⟩) →
    ∃a' n' m' i' l' r',inv_brk a' n' m' i' l' r'=true∧mu_brk a' n' m' i' l' r'<mu_brk a n m i l r∧(∀o,post_brk a' n' m' i' l' r' o→post_brk a n m i l r o)∧∀(R:St→Option Fin) (K:Cont),evC cx0_brk (loopOf Tryz.f175 0) ⟨[(0, .d (.one (.own 0))),(1,vI a),(6,vI n),(7, kp0),(8, .d (ofD TU64 m)),(9,vI i)],[(0,some (.lis 5 TU8 l)),(500000,some (boxD 192 TU64 r))]⟩ (onward (headAt cx0_brk 5) R K)=R ⟨[(0, .d (.one (.own 0))),(1, .d (ofD TI64 a')),(6, .d (ofD TI64 n')),(7, kp0),(8, .d (ofD TU64 m')),(9, .d (ofD TI64 i'))],[(0,some (.lis 5 TU8 l')),(500000,some (boxD 192 TU64 r'))]⟩:=by
   intro k k0 k1 hk;have hp:permL a.toNat (a+n).toNat l (swL l i.toNat (a+k).toNat):=permL_sw (by omega) (by omega) (by omega) (by omega) (by omega);refine⟨a,n,m,i+1,swL l i.toNat (a+k).toNat,xr r, ?_, ?_, ?_,fun R K=>(hx R K).trans ?_⟩
   ·simp only[inv_brk,andd,dec_iff,ble_iff,swL_len];omega
   ·simp only[mu_brk];omega
   ·intro o ho;exact permL_trans hp ho
   ·rw[zT hi,branch_true];exact hk R K
  by_cases ho:n≤othV r m
  ·have w1:W64 (othV r m-n)=othV r m-n:=wrap_small (by omega) (by omega);have w2:W64 (a+(othV r m-n))=a+(othV r m-n):=wrap_small (by omega) (by omega);refine fin (othV r m-n) (by omega) (by omega) fun R K => ?_;have b1:inb (a+(othV r m-n)) l.length=true:=inb_ok (by omega) (by omega);rw[zT ho,branch_true];simp only[w1,w2,wi,bi,b1,length_set,need_t]
  ·have w2:W64 (a+othV r m)=a+othV r m:=wrap_small (by omega) (by omega);refine fin (othV r m) (by omega) (by omega) fun R K => ?_;have b1:inb (a+othV r m) l.length=true:=inb_ok (by omega) (by omega);rw[zF ho,branch_false];simp only[w2,wi,bi,b1,length_set,need_t]
 ·left;refine⟨l,permL_refl _ _ _,fun R K => ?_⟩;refine(hx R K).trans ?_;rw[zF hi];rfl
def I_brk:sh_brk.V→Bool:=fun v=>match v with | ((a,n,m,i,()),(l,r,()))=>inv_brk a n m i l r
def P_brk:sh_brk.V→List Int→Prop:=fun v o=>match v with | ((a,n,m,i,()),(l,r,()))=>post_brk a n m i l r o
def M_brk:sh_brk.V→Nat:=fun v=>match v with | ((a,n,m,i,()),(l,r,()))=>mu_brk a n m i l r
theorem a_brk:∀v:sh_brk.V,I_brk v=true→∃o,P_brk v o∧∀K r,K (.exit 0) (out_brk o)=some r→∃N,iter (evC cx0_brk (loopOf Tryz.f175 0)) (headAt cx0_brk 5) N (sh_brk.mk v) K=some r :=
 loop_any (fun v=>I_brk v=true) P_brk (.exit 0) M_brk fun v hI=>by
  obtain⟨⟨(a:Int),(n:Int),(m:Int),(i:Int),⟨⟩⟩,⟨(l:List (Int)),(r:Int),⟨⟩⟩⟩:=v;rcases r_brk a n m i l r hI with⟨o,h1,h2⟩ | ⟨a',n',m',i',l',r',h1,h2,h3,h4⟩
  ·exact .inl ⟨o,h1,h2⟩
  ·exact .inr ⟨V_brk a' n' m' i' l' r',h1,h2,h3,h4⟩
def g_brk:St→Cont→Option Fin:=gEnd sh_brk I_brk out_brk (evC cx0_brk (loopOf Tryz.f175 0)) (headAt cx0_brk 5) P_brk (.exit 0)
def E_brk (a:Int) (n:Int) (m:Int) (i:Int) (l:List (Int)) (r:Int):List Int:=endOf sh_brk.mk out_brk (evC cx0_brk (loopOf Tryz.f175 0)) (headAt cx0_brk 5) P_brk (.exit 0) (V_brk a n m i l r)
theorem q_brk (a:Int) (n:Int) (m:Int) (i:Int) (l:List (Int)) (r:Int) (hI:inv_brk a n m i l r=true):post_brk a n m i l r (E_brk a n m i l r):=(endOf_spec (a_brk (V_brk a n m i l r) hI)).1
def cx_brk:Cx:=cx0_brk.withLoops (look [(5,g_brk)])
theorem l_brk:∀st K r,g_brk st K=some r→∃N,iter (evC cx_brk (loopOf Tryz.f175 0)) (headAt cx_brk 5) N st K=some r:=with_ok (by kernel_rfl) (gEnd_ok a_brk)
theorem y_slices_breakPatternsOrdered_byte (l:List Int) (a:Int) (b:Int):evFn cx_brk Tryz.f175 false [.one (.own 0),ofD TI64 a,ofD TI64 b] [.lis 5 TU8 l]=(
branch (decide (8≤W64 (b-a))) (
 need (decide (0≤W64 (b-a))&&decide (W64 (b-a)<64)) <|
 need (!decide (4=0)) <|
 need (inv_brk a (W64 (b-a)) (powV (W64 (b-a))) (W64 (W64 (a+W64 (W64 ((W64 (b-a)).tdiv 4)*2))-1)) l (IntKind.u64.wrap (W64 (b-a)))) <| some ((.tup []),[(0,(.some (.lis 5 TU8 (E_brk a (W64 (b-a)) (powV (W64 (b-a))) (W64 (W64 (a+W64 (W64 ((W64 (b-a)).tdiv 4)*2))-1)) l (IntKind.u64.wrap (W64 (b-a)))))))])) ( some ((.tup []),[(0,some (.lis 5 TU8 l))]))):=by kernel_rfl
def brkV (l:List Int) (a b:Int):List Int:=E_brk a (W64 (b-a)) (powV (W64 (b-a))) (W64 (W64 (a+W64 (W64 ((W64 (b-a)).tdiv 4)*2))-1)) l (IntKind.u64.wrap (W64 (b-a)))
def brkP (l:List Int) (a b:Int):Bool:=decide (0≤a)&&(decide (12<b-a)&&(decide (b-a<50)&&(decide (b≤(length l:Int))&&Nat.ble (length l) 1000000)))
theorem brk_inv {l:List Int} {a b:Int} (h:brkP l a b=true):W64 (b-a)=b-a∧inv_brk a (W64 (b-a)) (powV (W64 (b-a))) (W64 (W64 (a+W64 (W64 ((W64 (b-a)).tdiv 4)*2))-1)) l (IntKind.u64.wrap (W64 (b-a)))=true:=by
 simp only[brkP,andd,dec_iff,ble_iff]at h;obtain⟨h0,h1,h2,h3,h4⟩:=h;have w1:W64 (b-a)=b-a:=wrap_small (by omega) (by omega);refine⟨w1, ?_⟩;have w0:W64 (W64 (a+W64 (W64 ((b-a).tdiv 4)*2))-1)=a+(b-a) / 4*2-1:=by
  rw[Int.tdiv_eq_ediv_of_nonneg (by omega)];rw[show W64 ((b-a) / 4)=(b-a) / 4 from wrap_small (by omega) (by omega),show W64 ((b-a) / 4*2)=(b-a) / 4*2 from wrap_small (by omega) (by omega),show W64 (a+(b-a) / 4*2)=a+(b-a) / 4*2 from wrap_small (by omega) (by omega)];exact wrap_small (by omega) (by omega)
 rw[w1,w0];obtain⟨n,hn⟩:=Int.eq_ofNat_of_zero_le (show 0≤b-a by omega);have hp:=pow_in n (by omega);rw[← hn]at hp;simp only[inv_brk,andd,dec_iff,ble_iff];omega
theorem brk_perm {l:List Int} {a b:Int} (h:brkP l a b=true):permL a.toNat b.toNat l (brkV l a b):=by
 obtain⟨h1,h2⟩:=brk_inv h;have q:=q_brk _ _ _ _ _ _ h2;unfold post_brk at q;rw[h1,show a+(b-a)=b by omega]at q;unfold brkV;rw[h1];exact q
theorem s_slices_breakPatternsOrdered_byte (l:List (Int)) (_hl:Fit (.list TU8) l) (a:Int) (_ha:Fit TI64 a) (b:Int) (_hb:Fit TI64 b) (hpre:(brkP l a b)=true):Sat Tryz.prog 175 [.one (.own 0),ofD TI64 a,ofD TI64 b] [.lis 5 TU8 l] (.tup []) [(0,some (.lis 5 TU8 (brkV l a b)))] :=
 fn_sound (cx:=cx_brk) Tryz.func175 rfl ttOk Γ33ok mixed (fun c hc=>LoopsOk.one (b:=loopOf Tryz.f175 0) (id:=5) (g:=g_brk) (by cases hc;kernel_rfl) rfl l_brk) (ro:=false) (by
  obtain⟨h1,h2⟩:=brk_inv hpre;have hpre':=hpre;simp only[brkP,andd,dec_iff,ble_iff]at hpre';rw[y_slices_breakPatternsOrdered_byte,h2,h1,zT (by omega:(8:Int)≤b-a),zT (by omega:(0:Int)≤b-a),zT (by omega:b-a<64)];unfold brkV;rw[h1];rfl)
def c_slices_breakPatternsOrdered_byte:Con:=conL 5 TU8 [TI64,TI64] fun(l:List (Int)) (a:Int) (b:Int)=>(some (brkP l a b), .tup [],brkV l a b)
theorem k_slices_breakPatternsOrdered_byte:ConOk Tryz.prog 175 c_slices_breakPatternsOrdered_byte:=conL_ok rfl Tryz.call175 fun l hl a ha b hb hqq=>s_slices_breakPatternsOrdered_byte l hl a ha b hb (pre_of hqq)
def Γ34:GL:=(175,c_slices_breakPatternsOrdered_byte)::Γ33
theorem Γ34ok:GO Γ34 := .cons k_slices_breakPatternsOrdered_byte Γ33ok
def cb_pins:Cx:=cxOf Γ34 Tryz.f178.ntmps [(20,[0,1,2,7,8,10]),(14,[0,1,2,7,8,9]),(5,[0,1,2,7,8]),(3,[0,1,2,7,8])] [(0,[]),(1,[0,1,2,7,8]),(6,[0,1,2,7,8]),(7,[0,1,2,7,8,10]),(4,[0,1,2,7,8]),(5,[0,1,2,7,8,9]),(2,[0,1,2,7,8]),(3,[0,1,2,7,8]),(1000000,[6])] [] []
theorem x_scan (l:List Int) (a b i j:Int) (R:St→Option Fin) (K:Cont):evC (cb_pins.withLoops (look [])) (loopOf Tryz.f178 1) ⟨[(0, .d (.one (.own 0))),(1,vI a),(2,vI b),(7,vI i),(8,vI j)],[(0,some (.lis 5 TU8 l))]⟩ (onward (headAt (cb_pins.withLoops (look [])) 5) R K)=(
need (bif decide (decide (i<b)=true)then inb i l.length else true) <|
need (bif decide (decide (i<b)=true)then inb (W64 (i-1)) l.length else true) <|
branch (bif decide (i<b)then !ltI (l.getD i.toNat 0) (l.getD (W64 (i-1)).toNat 0)else false) ( R (.mk [(0,(.d (.one (.own 0)))),(1,vI a),(2,vI b),(7,vI (W64 (i+1))),(8,vI j)] [(0,some (.lis 5 TU8 l))])) ( K (.exit 2) (.mk [(0,(.d (.one (.own 0)))),(1,vI a),(2,vI b),(7,vI i),(8,vI j)] [(0,some (.lis 5 TU8 l))]))):=by kernel_rfl
abbrev scanN (l:List Int) (b i:Nat):Nat:=Go.Sort.scanSorted ltI l.toArray b i
theorem scanN_eq (l:List Int) (b i:Nat):scanN l b i=if i<b∧ltI (l.getD i 0) (l.getD (i-1) 0)=false then scanN l b (i+1)else i:=by
 unfold scanN;rw[Go.Sort.scanSorted,at_arr,at_arr]
 by_cases h:i<b
 ·cases hc:ltI (l.getD i 0) (l.getD (i-1) 0)
  ·rw[if_pos (by simp[h]),if_pos ⟨h,rfl⟩]
  ·rw[if_neg (by simp),if_neg (by simp)]
 ·rw[if_neg (by simp[h]),if_neg (by simp[h])]
def cx0_scan:Cx:=(cb_pins).withLoops (look [])
def sh_scan:Sh:=([(0, .own 0),(1, .d TI64),(2, .d TI64),(7, .d TI64),(8, .d TI64)],[(0, .lis 5 TU8)])
abbrev st_scan (a b i j:Int) (l:List (Int)):St:=⟨[(0, .d (.one (.own 0))),(1,vI a),(2,vI b),(7,vI i),(8,vI j)],[(0,some (.lis 5 TU8 l))]⟩
def pre_scan (_a b i _j:Int) (l:List (Int)):Bool:=decide (1≤i)&&(decide (i≤1000001)&&(decide (b≤(length l:Int))&&Nat.ble (length l) 1000000))
def res_scan (a b i j:Int) (l:List (Int)) (K:Cont):Option Fin:=K (.exit 2) ⟨[(0, .d (.one (.own 0))),(1,vI a),(2,vI b),(7,vI (scanN l b.toNat i.toNat:Nat)),(8,vI j)],[(0,some (.lis 5 TU8 l))]⟩
def mu_scan (_a b i _j:Int) (_l:List (Int)):Nat:=(b-i).toNat
theorem r_scan (a b i j:Int) (l:List (Int)) (K:Cont) (hI:pre_scan a b i j l=true):(∀R:St→Option Fin,evC cx0_scan (loopOf Tryz.f178 1) (st_scan a b i j l) (onward (headAt cx0_scan 5) R K)=res_scan a b i j l K) ∨
  (∃(a' b' i' j':Int) (l':List (Int)),pre_scan a' b' i' j' l'=true∧mu_scan a' b' i' j' l'<mu_scan a b i j l∧res_scan a' b' i' j' l' K=res_scan a b i j l K∧∀R:St→Option Fin,evC cx0_scan (loopOf Tryz.f178 1) (st_scan a b i j l) (onward (headAt cx0_scan 5) R K)=R (st_scan a' b' i' j' l')):=by
 have hx:=fun R=>x_scan l a b i j R K;simp only[pre_scan,andd,dec_iff,ble_iff]at hI;obtain⟨h0,h1,h2,h3⟩:=hI;have w1:W64 (i-1)=i-1:=wrap_small (by omega) (by omega);have w2:W64 (i+1)=i+1:=wrap_small (by omega) (by omega);have t1:(i-1).toNat=i.toNat-1:=by omega
 have t2:(i+1).toNat=i.toNat+1:=by omega
 have e:=scanN_eq l b.toNat i.toNat;simp only[w1,w2,t1]at hx
 by_cases hi:i<b
 ·have b1:inb i l.length=true:=inb_ok (by omega) (by omega);have b2:inb (i-1) l.length=true:=inb_ok (by omega) (by omega);simp only[hi,decide_true,b1,b2,Bool.cond_self,cond_true]at hx
  cases hc:ltI (l.getD i.toNat 0) (l.getD (i.toNat-1) 0)
  ·right;rw[if_pos ⟨by omega,hc⟩]at e;refine⟨a,b,i+1,j,l, ?_, ?_, ?_,fun R=>(hx R).trans ?_⟩
   ·simp only[pre_scan,andd,dec_iff,ble_iff];omega
   ·simp only[mu_scan];omega
   ·simp only[res_scan,t2,e]
   ·rw[hc];rfl
  ·left;intro R;rw[if_neg (by rw[hc];simp)]at e;refine(hx R).trans ?_;rw[hc];simp only[res_scan,e,Int.toNat_of_nonneg (show 0≤i by omega)];rfl
 ·left;intro R;rw[if_neg (by omega)]at e;refine(hx R).trans ?_;simp only[hi,decide_false,cond_false,res_scan,e,Int.toNat_of_nonneg (show 0≤i by omega)];rfl
def g_scan:St→Cont→Option Fin:=gP sh_scan (fun v=>match v with | ((a,b,i,j,()),(l,()))=>pre_scan a b i j l) (fun v K=>match v with | ((a,b,i,j,()),(l,()))=>res_scan a b i j l K)
def L_scan:LpL:=(5,g_scan)::[]
def cx_scan:Cx:=(cb_pins).withLoops (look L_scan)
theorem l_scan {L:LpL} (n:Nat) (h1:L.drop n=[]) (h2:idsFree (L.take n) (loopOf Tryz.f178 1)=true):LoopsTo g_scan (cb_pins) (loopOf Tryz.f178 1) 5 L :=
 with_drop h1 h2 (gP_ok (fun v=>match v with | ((a,b,i,j,()),(l,()))=>mu_scan a b i j l) fun v K hI=>by
  obtain⟨⟨a,b,i,j,⟨⟩⟩,⟨l,⟨⟩⟩⟩:=v;exact(r_scan a b i j l K hI).imp id fun⟨a',b',i',j',l',h⟩=>⟨((a',b',i',j',()),(l',())),h⟩)
theorem x_pins (l:List Int) (a b i:Int) (R:St→Option Fin) (K:Cont):evC cx_scan (loopOf Tryz.f178 0) ⟨[(0, .d (.one (.own 0))),(1,vI a),(2,vI b),(7,vI i),(8,vI 0)],[(0,some (.lis 5 TU8 l))]⟩ (onward (headAt cx_scan 3) R K)=(
branch (decide (0<5)) (
 need (pre_scan a b i 0 l) <|
 branch (decide ((scanN l b.toNat i.toNat:Int)=b)) ( K (.ret) (.mk [(6,vB true)] [(0,some (.lis 5 TU8 l))])) (
 branch (decide (W64 (b-a)<50)) ( K (.ret) (.mk [(6,vB false)] [(0,some (.lis 5 TU8 l))])) (
  need (inb (W64 ((scanN l b.toNat i.toNat:Int)-1)) l.length) <|
  need (inb ((scanN l b.toNat i.toNat:Int)) l.length) <|
  need (inb ((scanN l b.toNat i.toNat:Int)) l.length) <|
  need (inb (W64 ((scanN l b.toNat i.toNat:Int)-1)) (l.set ((scanN l b.toNat i.toNat:Int)).toNat (l.getD (W64 ((scanN l b.toNat i.toNat:Int)-1)).toNat 0)).length) <|
  branch (decide (2≤W64 ((scanN l b.toNat i.toNat:Int)-a))) ( none) (
  branch (decide (2≤W64 (b-(scanN l b.toNat i.toNat:Int)))) ( none) ( R (.mk [(0,(.d (.one (.own 0)))),(1,vI a),(2,vI b),(7,vI (scanN l b.toNat i.toNat:Int)),(8,vI (W64 (0+1)))] [(0,(.some (.lis 5 TU8 ((l.set ((scanN l b.toNat i.toNat:Int)).toNat (l.getD (W64 ((scanN l b.toNat i.toNat:Int)-1)).toNat 0)).set (W64 ((scanN l b.toNat i.toNat:Int)-1)).toNat (l.getD ((scanN l b.toNat i.toNat:Int)).toNat 0)))))])))))) ( K (.exit 0) (.mk [] [(0,some (.lis 5 TU8 l))]))):=by kernel_rfl
def cx0_pins:Cx:=(cb_pins).withLoops (look L_scan)
def sh_pins:Sh:=([(0, .own 0),(1, .d TI64),(2, .d TI64),(7, .d TI64),(8, .d TI64)],[(0, .lis 5 TU8)])
abbrev st_pins (a b i j:Int) (l:List (Int)):St:=⟨[(0, .d (.one (.own 0))),(1,vI a),(2,vI b),(7,vI i),(8,vI j)],[(0,some (.lis 5 TU8 l))]⟩
def pre_pins (a b i j:Int) (l:List (Int)):Bool:=decide (j=0)&&(decide (W64 (b-a)<50)&&pre_scan a b i 0 l)
def res_pins (_a b i _j:Int) (l:List (Int)) (K:Cont):Option Fin:=K .ret ⟨[(6,vB (decide (((scanN l b.toNat i.toNat:Nat):Int)=b)))],[(0,some (.lis 5 TU8 l))]⟩
def mu_pins (_a _b _i _j:Int) (_l:List (Int)):Nat:=0
theorem r_pins (a b i j:Int) (l:List (Int)) (K:Cont) (hI:pre_pins a b i j l=true):(∀R:St→Option Fin,evC cx0_pins (loopOf Tryz.f178 0) (st_pins a b i j l) (onward (headAt cx0_pins 3) R K)=res_pins a b i j l K) ∨
  (∃(a' b' i' j':Int) (l':List (Int)),pre_pins a' b' i' j' l'=true∧mu_pins a' b' i' j' l'<mu_pins a b i j l∧res_pins a' b' i' j' l' K=res_pins a b i j l K∧∀R:St→Option Fin,evC cx0_pins (loopOf Tryz.f178 0) (st_pins a b i j l) (onward (headAt cx0_pins 3) R K)=R (st_pins a' b' i' j' l')):=by
 simp only[pre_pins,andd,dec_iff]at hI;obtain⟨rfl,h1,h2⟩:=hI;left;intro R;refine(x_pins l a b i R K).trans ?_;rw[h2,zT h1];simp only[res_pins]
 cases decide (((scanN l b.toNat i.toNat:Nat):Int)=b)<;>rfl
def g_pins:St→Cont→Option Fin:=gP sh_pins (fun v=>match v with | ((a,b,i,j,()),(l,()))=>pre_pins a b i j l) (fun v K=>match v with | ((a,b,i,j,()),(l,()))=>res_pins a b i j l K)
def L_pins:LpL:=(3,g_pins)::L_scan
def cx_pins:Cx:=(cb_pins).withLoops (look L_pins)
theorem l_pins {L:LpL} (n:Nat) (h1:L.drop n=L_scan) (h2:idsFree (L.take n) (loopOf Tryz.f178 0)=true):LoopsTo g_pins (cb_pins) (loopOf Tryz.f178 0) 3 L :=
 with_drop h1 h2 (gP_ok (fun v=>match v with | ((a,b,i,j,()),(l,()))=>mu_pins a b i j l) fun v K hI=>by
  obtain⟨⟨a,b,i,j,⟨⟩⟩,⟨l,⟨⟩⟩⟩:=v;exact(r_pins a b i j l K hI).imp id fun⟨a',b',i',j',l',h⟩=>⟨((a',b',i',j',()),(l',())),h⟩)
theorem y_slices_partialInsertionSortOrdered_byte (l:List Int) (a:Int) (b:Int):evFn cx_pins Tryz.f178 false [.one (.own 0),ofD TI64 a,ofD TI64 b] [.lis 5 TU8 l]=(
need (pre_pins a b (W64 (a+1)) 0 l) <| some ((vB (decide ((scanN l b.toNat (W64 (a+1)).toNat:Int)=b))),[(0,some (.lis 5 TU8 l))])):=by kernel_rfl
def isSrt (l:List Int) (a b:Int):Bool:=decide (((scanN l b.toNat (a.toNat+1):Nat):Int)=b)
theorem s_slices_partialInsertionSortOrdered_byte (l:List (Int)) (_hl:Fit (.list TU8) l) (a:Int) (_ha:Fit TI64 a) (b:Int) (_hb:Fit TI64 b) (hpre:(brkP l a b)=true):Sat Tryz.prog 178 [.one (.own 0),ofD TI64 a,ofD TI64 b] [.lis 5 TU8 l] (.d (ofD .bool (isSrt l a b))) [(0,some (.lis 5 TU8 (l)))] :=
 fn_sound (cx:=cx_pins) Tryz.func178 rfl ttOk Γ34ok mixed (fun c hc=>LoopsOk.all (l:=[(3,loopOf Tryz.f178 0),(5,loopOf Tryz.f178 1),(14,loopOf Tryz.f178 2),(20,loopOf Tryz.f178 3)]) (by cases hc;kernel_rfl) ⟨atLoop rfl (l_pins 1 rfl (by kernel_rfl)),atLoop rfl (l_scan 2 rfl (by kernel_rfl)),(fun _ hg=>nomatch (show none=some _ from hg)),(fun _ hg=>nomatch (show none=some _ from hg)),trivial⟩) (ro:=false) (by
  simp only[brkP,andd,dec_iff,ble_iff]at hpre;obtain⟨h0,h1,h2,h3,h4⟩:=hpre;have w1:W64 (a+1)=a+1:=wrap_small (by omega) (by omega);have w2:W64 (b-a)=b-a:=wrap_small (by omega) (by omega);have hp:pre_pins a b (a+1) 0 l=true:=by simp only[pre_pins,pre_scan,andd,dec_iff,ble_iff,w2,true_and];omega
  rw[y_slices_partialInsertionSortOrdered_byte,w1,hp,show (a+1).toNat=a.toNat+1 by omega];rfl)
def c_slices_partialInsertionSortOrdered_byte:Con:=conL 5 TU8 [TI64,TI64] fun(l:List (Int)) (a:Int) (b:Int)=>(some (brkP l a b), .d (ofD .bool (isSrt l a b)),l)
theorem k_slices_partialInsertionSortOrdered_byte:ConOk Tryz.prog 178 c_slices_partialInsertionSortOrdered_byte:=conL_ok rfl Tryz.call178 fun l hl a ha b hb hqq=>s_slices_partialInsertionSortOrdered_byte l hl a ha b hb (pre_of hqq)
def Γ35:GL:=(178,c_slices_partialInsertionSortOrdered_byte)::Γ34
theorem Γ35ok:GO Γ35 := .cons k_slices_partialInsertionSortOrdered_byte Γ34ok
set_option maxHeartbeats 1000000
def pLt (l:List Int) (a:Nat) (x:Int):Bool:=ltI x (l.getD a 0)
def pGe (l:List Int) (a:Nat) (x:Int):Bool := !ltI x (l.getD a 0)
def qUp (l:List Int) (a:Nat) (x:Int):Bool := !ltI (l.getD a 0) x
def qDn (l:List Int) (a:Nat) (x:Int):Bool:=ltI (l.getD a 0) x
abbrev upN (p:Int→Bool) (l:List Int) (j i:Nat):Nat:=Go.Sort.scanUp p l.toArray j i
abbrev dnN (p:Int→Bool) (l:List Int) (i j:Nat):Nat:=Go.Sort.scanDown p l.toArray i j
theorem upN_eq (p:Int→Bool) (l:List Int) (j i:Nat):upN p l j i=if i≤j∧p (l.getD i 0)=true then upN p l j (i+1)else i:=by
 unfold upN;rw[Go.Sort.scanUp,at_arr]
 by_cases h:i≤j
 ·cases hc:p (l.getD i 0)
  ·rw[if_neg (by simp),if_neg (by simp)]
  ·rw[if_pos (by simp[h]),if_pos ⟨h,rfl⟩]
 ·rw[if_neg (by simp[h]),if_neg (by simp[h])]
theorem dnN_eq (p:Int→Bool) (l:List Int) {i:Nat} (h1:1≤i) (j:Nat):dnN p l i j=if i≤j∧p (l.getD j 0)=true then dnN p l i (j-1)else j:=by
 unfold dnN
 cases j with
 |zero=>rw[Go.Sort.scanDown,if_neg (by omega)]
 |succ j =>
  rw[Go.Sort.scanDown,at_arr]
  by_cases h:i≤j+1
  ·cases hc:p (l.getD (j+1) 0)
   ·rw[if_neg (by simp),if_neg (by simp)]
   ·rw[if_pos (by simp[h]),if_pos ⟨h,rfl⟩];rfl
  ·rw[if_neg (by simp[h]),if_neg (by simp[h])]
def scP (a i j:Int) (l:List Int):Bool:=decide (0≤a)&&(decide (a<i)&&(decide (0≤j)&&(decide (j<(length l:Int))&&(decide (a<(length l:Int))&&Nat.ble (length l) 1000000))))
theorem scP_iff {a i j:Int} {l:List Int}:scP a i j l=true↔0≤a∧a<i∧0≤j∧j<(l.length:Int)∧a<(l.length:Int)∧l.length≤1000000:=by
 unfold scP;simp only[andd,dec_iff,ble_iff]
def cb_pe:Cx:=cxOf Γ35 Tryz.f180.ntmps [(5,[0,1,9,10]),(3,[0,1,9,10]),(1000003,[0,1,9,10])] [(0,[9]),(1,[0,1,9,10]),(4,[0,1,9,10]),(5,[0,1,9,10]),(2,[0,1,9,10]),(3,[0,1,9,10]),(1000000,[8])] [] []
theorem x_peUp (l:List Int) (a i j:Int) (R:St→Option Fin) (K:Cont):evC (cb_pe.withLoops (look [])) (loopOf Tryz.f180 1) ⟨[(0, .d (.one (.own 0))),(1,vI a),(9,vI i),(10,vI j)],[(0,some (.lis 5 TU8 l))]⟩ (onward (headAt (cb_pe.withLoops (look [])) 3) R K)=(
need (bif decide (decide (i≤j)=true)then inb a l.length else true) <|
need (bif decide (decide (i≤j)=true)then inb i l.length else true) <|
branch (bif decide (i≤j)then qUp l a.toNat (l.getD i.toNat 0)else false) (R ⟨[(0, .d (.one (.own 0))),(1,vI a),(9,vI (W64 (i+1))),(10,vI j)],[(0,some (.lis 5 TU8 l))]⟩) (K (.exit 2) ⟨[(0, .d (.one (.own 0))),(1,vI a),(9,vI i),(10,vI j)],[(0,some (.lis 5 TU8 l))]⟩)):=by kernel_rfl
def cx0_peUp:Cx:=(cb_pe).withLoops (look [])
def sh_peUp:Sh:=([(0, .own 0),(1, .d TI64),(9, .d TI64),(10, .d TI64)],[(0, .lis 5 TU8)])
abbrev st_peUp (a i j:Int) (l:List (Int)):St:=⟨[(0, .d (.one (.own 0))),(1,vI a),(9,vI i),(10,vI j)],[(0,some (.lis 5 TU8 l))]⟩
def pre_peUp (a i j:Int) (l:List (Int)):Bool:=scP a i j l
def res_peUp (a i j:Int) (l:List (Int)) (K:Cont):Option Fin:=K (.exit 2) ⟨[(0, .d (.one (.own 0))),(1,vI a),(9,vI (upN (qUp l a.toNat) l j.toNat i.toNat:Nat)),(10,vI j)],[(0,some (.lis 5 TU8 l))]⟩
def mu_peUp (_a i j:Int) (_l:List (Int)):Nat:=(j+1-i).toNat
theorem r_peUp (a i j:Int) (l:List (Int)) (K:Cont) (hI:pre_peUp a i j l=true):(∀R:St→Option Fin,evC cx0_peUp (loopOf Tryz.f180 1) (st_peUp a i j l) (onward (headAt cx0_peUp 3) R K)=res_peUp a i j l K) ∨
  (∃(a' i' j':Int) (l':List (Int)),pre_peUp a' i' j' l'=true∧mu_peUp a' i' j' l'<mu_peUp a i j l∧res_peUp a' i' j' l' K=res_peUp a i j l K∧∀R:St→Option Fin,evC cx0_peUp (loopOf Tryz.f180 1) (st_peUp a i j l) (onward (headAt cx0_peUp 3) R K)=R (st_peUp a' i' j' l')):=by
 have hx:=fun R=>x_peUp l a i j R K;obtain⟨h0,h1,h2,h3,h4,h5⟩:=scP_iff.1 (show scP a i j l=true from hI);have e:=upN_eq (qUp l a.toNat) l j.toNat i.toNat
 by_cases hi:i≤j
 ·have w1:W64 (i+1)=i+1:=wrap_small (by omega) (by omega);have t1:(i+1).toNat=i.toNat+1:=by omega
  have ba:inb a l.length=true:=inb_ok (by omega) (by omega);have bi:inb i l.length=true:=inb_ok (by omega) (by omega);simp only[hi,decide_true,ba,bi,Bool.cond_self,cond_true,w1]at hx
  cases hc:qUp l a.toNat (l.getD i.toNat 0)
  ·left;intro R;rw[if_neg (by rw[hc];simp)]at e;refine(hx R).trans ?_;rw[hc];simp only[res_peUp,e,Int.toNat_of_nonneg (show 0≤i by omega)];rfl
  ·right;rw[if_pos ⟨by omega,hc⟩]at e;refine⟨a,i+1,j,l,scP_iff.2 ?_, ?_, ?_,fun R=>(hx R).trans ?_⟩
   ·omega
   ·simp only[mu_peUp];omega
   ·simp only[res_peUp,t1,e]
   ·rw[hc];rfl
 ·left;intro R;rw[if_neg (by omega)]at e;refine(hx R).trans ?_;simp only[hi,decide_false,cond_false,res_peUp,e,Int.toNat_of_nonneg (show 0≤i by omega)];rfl
def g_peUp:St→Cont→Option Fin:=gP sh_peUp (fun v=>match v with | ((a,i,j,()),(l,()))=>pre_peUp a i j l) (fun v K=>match v with | ((a,i,j,()),(l,()))=>res_peUp a i j l K)
def L_peUp:LpL:=(3,g_peUp)::[]
def cx_peUp:Cx:=(cb_pe).withLoops (look L_peUp)
theorem l_peUp {L:LpL} (n:Nat) (h1:L.drop n=[]) (h2:idsFree (L.take n) (loopOf Tryz.f180 1)=true):LoopsTo g_peUp (cb_pe) (loopOf Tryz.f180 1) 3 L :=
 with_drop h1 h2 (gP_ok (fun v=>match v with | ((a,i,j,()),(l,()))=>mu_peUp a i j l) fun v K hI=>by
  obtain⟨⟨a,i,j,⟨⟩⟩,⟨l,⟨⟩⟩⟩:=v;exact(r_peUp a i j l K hI).imp id fun⟨a',i',j',l',h⟩=>⟨((a',i',j',()),(l',())),h⟩)
theorem x_peDn (l:List Int) (a i j:Int) (R:St→Option Fin) (K:Cont):evC cx_peUp (loopOf Tryz.f180 2) ⟨[(0, .d (.one (.own 0))),(1,vI a),(9,vI i),(10,vI j)],[(0,some (.lis 5 TU8 l))]⟩ (onward (headAt cx_peUp 5) R K)=(
need (bif decide (decide (i≤j)=true)then inb a l.length else true) <|
need (bif decide (decide (i≤j)=true)then inb j l.length else true) <|
branch (bif decide (i≤j)then qDn l a.toNat (l.getD j.toNat 0)else false) (R ⟨[(0, .d (.one (.own 0))),(1,vI a),(9,vI i),(10,vI (W64 (j-1)))],[(0,some (.lis 5 TU8 l))]⟩) (K (.exit 4) ⟨[(0, .d (.one (.own 0))),(1,vI a),(9,vI i),(10,vI j)],[(0,some (.lis 5 TU8 l))]⟩)):=by kernel_rfl
def cx0_peDn:Cx:=(cb_pe).withLoops (look L_peUp)
def sh_peDn:Sh:=([(0, .own 0),(1, .d TI64),(9, .d TI64),(10, .d TI64)],[(0, .lis 5 TU8)])
abbrev st_peDn (a i j:Int) (l:List (Int)):St:=⟨[(0, .d (.one (.own 0))),(1,vI a),(9,vI i),(10,vI j)],[(0,some (.lis 5 TU8 l))]⟩
def pre_peDn (a i j:Int) (l:List (Int)):Bool:=scP a i j l
def res_peDn (a i j:Int) (l:List (Int)) (K:Cont):Option Fin:=K (.exit 4) ⟨[(0, .d (.one (.own 0))),(1,vI a),(9,vI i),(10,vI (dnN (qDn l a.toNat) l i.toNat j.toNat:Nat))],[(0,some (.lis 5 TU8 l))]⟩
def mu_peDn (_a i j:Int) (_l:List (Int)):Nat:=(j+1-i).toNat
theorem r_peDn (a i j:Int) (l:List (Int)) (K:Cont) (hI:pre_peDn a i j l=true):(∀R:St→Option Fin,evC cx0_peDn (loopOf Tryz.f180 2) (st_peDn a i j l) (onward (headAt cx0_peDn 5) R K)=res_peDn a i j l K) ∨
  (∃(a' i' j':Int) (l':List (Int)),pre_peDn a' i' j' l'=true∧mu_peDn a' i' j' l'<mu_peDn a i j l∧res_peDn a' i' j' l' K=res_peDn a i j l K∧∀R:St→Option Fin,evC cx0_peDn (loopOf Tryz.f180 2) (st_peDn a i j l) (onward (headAt cx0_peDn 5) R K)=R (st_peDn a' i' j' l')):=by
 have hx:=fun R=>x_peDn l a i j R K;obtain⟨h0,h1,h2,h3,h4,h5⟩:=scP_iff.1 (show scP a i j l=true from hI);have e:=dnN_eq (qDn l a.toNat) l (i:=i.toNat) (by omega) j.toNat
 by_cases hi:i≤j
 ·have w1:W64 (j-1)=j-1:=wrap_small (by omega) (by omega);have t1:(j-1).toNat=j.toNat-1:=by omega
  have ba:inb a l.length=true:=inb_ok (by omega) (by omega);have bi:inb j l.length=true:=inb_ok (by omega) (by omega);simp only[hi,decide_true,ba,bi,Bool.cond_self,cond_true,w1]at hx
  cases hc:qDn l a.toNat (l.getD j.toNat 0)
  ·left;intro R;rw[if_neg (by rw[hc];simp)]at e;refine(hx R).trans ?_;rw[hc];simp only[res_peDn,e,Int.toNat_of_nonneg (show 0≤j by omega)];rfl
  ·right;rw[if_pos ⟨by omega,hc⟩]at e;refine⟨a,i,j-1,l,scP_iff.2 ?_, ?_, ?_,fun R=>(hx R).trans ?_⟩
   ·omega
   ·simp only[mu_peDn];omega
   ·simp only[res_peDn,t1,e]
   ·rw[hc];rfl
 ·left;intro R;rw[if_neg (by omega)]at e;refine(hx R).trans ?_;simp only[hi,decide_false,cond_false,res_peDn,e,Int.toNat_of_nonneg (show 0≤j by omega)];rfl
def g_peDn:St→Cont→Option Fin:=gP sh_peDn (fun v=>match v with | ((a,i,j,()),(l,()))=>pre_peDn a i j l) (fun v K=>match v with | ((a,i,j,()),(l,()))=>res_peDn a i j l K)
def L_peDn:LpL:=(5,g_peDn)::L_peUp
def cx_peDn:Cx:=(cb_pe).withLoops (look L_peDn)
theorem l_peDn {L:LpL} (n:Nat) (h1:L.drop n=L_peUp) (h2:idsFree (L.take n) (loopOf Tryz.f180 2)=true):LoopsTo g_peDn (cb_pe) (loopOf Tryz.f180 2) 5 L :=
 with_drop h1 h2 (gP_ok (fun v=>match v with | ((a,i,j,()),(l,()))=>mu_peDn a i j l) fun v K hI=>by
  obtain⟨⟨a,i,j,⟨⟩⟩,⟨l,⟨⟩⟩⟩:=v;exact(r_peDn a i j l K hI).imp id fun⟨a',i',j',l',h⟩=>⟨((a',i',j',()),(l',())),h⟩)
theorem qUp_arr (l:List Int) (a:Nat):(fun x => !ltI l.toArray[a]! x)=qUp l a:=by funext x;unfold qUp;rw[at_arr]
theorem qDn_arr (l:List Int) (a:Nat):(fun x=>ltI l.toArray[a]! x)=qDn l a:=by funext x;unfold qDn;rw[at_arr]
theorem pLt_arr (l:List Int) (a:Nat):(fun x=>ltI x l.toArray[a]!)=pLt l a:=by funext x;unfold pLt;rw[at_arr]
theorem pGe_arr (l:List Int) (a:Nat):(fun x => !ltI x l.toArray[a]!)=pGe l a:=by funext x;unfold pGe;rw[at_arr]
def peE (l:List Int) (a i j:Nat):Nat×List Int:=((Go.Sort.partEqLoop ltI a i j l.toArray).1,(Go.Sort.partEqLoop ltI a i j l.toArray).2.toList)
def ptE (l:List Int) (a i j:Nat):Nat×List Int:=((Go.Sort.partLoop ltI a i j l.toArray).1,(Go.Sort.partLoop ltI a i j l.toArray).2.toList)
abbrev pe2 (l:List Int) (a i j:Nat):Nat:=dnN (qDn l a) l (upN (qUp l a) l j i) j
abbrev pt2 (l:List Int) (a i j:Nat):Nat:=dnN (pGe l a) l (upN (pLt l a) l j i) j
theorem peE_eq (l:List Int) (a i j:Nat):peE l a i j=if upN (qUp l a) l j i > pe2 l a i j then(upN (qUp l a) l j i,l)else peE (swL l (upN (qUp l a) l j i) (pe2 l a i j)) a (upN (qUp l a) l j i+1) (pe2 l a i j-1):=by
 unfold peE;rw[Go.Sort.partEqLoop_eq,qUp_arr,qDn_arr,sw_arr]
 split<;>rfl
theorem ptE_eq (l:List Int) (a i j:Nat):ptE l a i j=if upN (pLt l a) l j i > pt2 l a i j then(pt2 l a i j,l)else ptE (swL l (upN (pLt l a) l j i) (pt2 l a i j)) a (upN (pLt l a) l j i+1) (pt2 l a i j-1):=by
 unfold ptE;rw[Go.Sort.partLoop_eq,pLt_arr,pGe_arr,sw_arr]
 split<;>rfl
theorem upN_ge (p:Int→Bool) (l:List Int) (j i:Nat):i≤upN p l j i:=Go.Sort.scanUp_ge _ _ _ _
theorem dnN_le (p:Int→Bool) (l:List Int) (i j:Nat):dnN p l i j≤j:=Go.Sort.scanDown_le _ _ _ _
theorem x_peL (l:List Int) (a i j:Int) (R:St→Option Fin) (K:Cont):evC cx_peDn (loopOf Tryz.f180 0) ⟨[(0, .d (.one (.own 0))),(1,vI a),(9,vI i),(10,vI j)],[(0,some (.lis 5 TU8 l))]⟩ (onward (headAt cx_peDn 1000003) R K)=(
need (pre_peUp a i j l) <|
need (pre_peDn a ((upN (qUp l a.toNat) l j.toNat i.toNat:Nat):Int) j l) <|
branch (decide (((dnN (qDn l a.toNat) l (upN (qUp l a.toNat) l j.toNat i.toNat) j.toNat:Nat):Int)<((upN (qUp l a.toNat) l j.toNat i.toNat:Nat):Int))) (K (.exit 0) ⟨[(9,vI ((upN (qUp l a.toNat) l j.toNat i.toNat:Nat):Int))],[(0,some (.lis 5 TU8 l))]⟩) (
 need (inb ((dnN (qDn l a.toNat) l (upN (qUp l a.toNat) l j.toNat i.toNat) j.toNat:Nat):Int) l.length) <| need (inb ((upN (qUp l a.toNat) l j.toNat i.toNat:Nat):Int) l.length) <| need (inb ((upN (qUp l a.toNat) l j.toNat i.toNat:Nat):Int) l.length) <|
 need (inb ((dnN (qDn l a.toNat) l (upN (qUp l a.toNat) l j.toNat i.toNat) j.toNat:Nat):Int) (l.set (upN (qUp l a.toNat) l j.toNat i.toNat:Nat) (l.getD (dnN (qDn l a.toNat) l (upN (qUp l a.toNat) l j.toNat i.toNat) j.toNat:Nat) 0)).length) <| R ⟨[(0, .d (.one (.own 0))),(1,vI a),(9,vI (W64 (((upN (qUp l a.toNat) l j.toNat i.toNat:Nat):Int)+1))),(10,vI (W64 (((dnN (qDn l a.toNat) l (upN (qUp l a.toNat) l j.toNat i.toNat) j.toNat:Nat):Int)-1)))],[(0,some (.lis 5 TU8 (swL l (upN (qUp l a.toNat) l j.toNat i.toNat:Nat) (dnN (qDn l a.toNat) l (upN (qUp l a.toNat) l j.toNat i.toNat) j.toNat:Nat))))]⟩)):=by kernel_rfl
def cx0_peL:Cx:=(cb_pe).withLoops (look L_peDn)
def sh_peL:Sh:=([(0, .own 0),(1, .d TI64),(9, .d TI64),(10, .d TI64)],[(0, .lis 5 TU8)])
abbrev st_peL (a i j:Int) (l:List (Int)):St:=⟨[(0, .d (.one (.own 0))),(1,vI a),(9,vI i),(10,vI j)],[(0,some (.lis 5 TU8 l))]⟩
def pre_peL (a i j:Int) (l:List (Int)):Bool:=scP a i j l
def res_peL (a i j:Int) (l:List (Int)) (K:Cont):Option Fin:=K (.exit 0) ⟨[(9,vI ((peE l a.toNat i.toNat j.toNat).1:Nat))],[(0,some (.lis 5 TU8 (peE l a.toNat i.toNat j.toNat).2))]⟩
def mu_peL (_a i j:Int) (_l:List (Int)):Nat:=(j+1-i).toNat
theorem r_peL (a i j:Int) (l:List (Int)) (K:Cont) (hI:pre_peL a i j l=true):(∀R:St→Option Fin,evC cx0_peL (loopOf Tryz.f180 0) (st_peL a i j l) (onward (headAt cx0_peL 1000003) R K)=res_peL a i j l K) ∨
  (∃(a' i' j':Int) (l':List (Int)),pre_peL a' i' j' l'=true∧mu_peL a' i' j' l'<mu_peL a i j l∧res_peL a' i' j' l' K=res_peL a i j l K∧∀R:St→Option Fin,evC cx0_peL (loopOf Tryz.f180 0) (st_peL a i j l) (onward (headAt cx0_peL 1000003) R K)=R (st_peL a' i' j' l')):=by
 have hx:=fun R=>x_peL l a i j R K;have hI':scP a i j l=true:=hI;obtain⟨h0,h1,h2,h3,h4,h5⟩:=scP_iff.1 hI';have e:=peE_eq l a.toNat i.toNat j.toNat;unfold pe2 at e;have u1:=upN_ge (qUp l a.toNat) l j.toNat i.toNat;have d1:=dnN_le (qDn l a.toNat) l (upN (qUp l a.toNat) l j.toNat i.toNat) j.toNat;have hp:∀u:Nat,i.toNat≤u→pre_peDn a (u:Int) j l=true:=fun u hu=>scP_iff.2 (by omega);simp only[show pre_peUp a i j l=true from hI',hp _ u1]at hx;simp only[res_peL]
 generalize hu:upN (qUp l a.toNat) l j.toNat i.toNat=u at *
 generalize hd:dnN (qDn l a.toNat) l u j.toNat=d at *
 by_cases hc:d<u
 ·left;intro R;refine(hx R).trans ?_;rw[zT (by omega:(d:Int)<u),e,if_pos hc];rfl
 ·right;rw[if_neg hc]at e;have w1:W64 ((u:Int)+1)=(u:Int)+1:=wrap_small (by omega) (by omega);have w2:W64 ((d:Int)-1)=(d:Int)-1:=wrap_small (by omega) (by omega);have b1:inb (u:Int) l.length=true:=inb_ok (by omega) (by omega);have b2:inb (d:Int) l.length=true:=inb_ok (by omega) (by omega);simp only[show ¬(d:Int)<u by omega,decide_false,w1,w2,b1,b2,length_set]at hx;refine⟨a,(u:Int)+1,(d:Int)-1,swL l u d,scP_iff.2 ?_, ?_, ?_,fun R=>(hx R).trans ?_⟩
  ·rw[swL_len];omega
  ·simp only[mu_peL];omega
  ·rw[e,show ((u:Int)+1).toNat=u+1 by omega,show ((d:Int)-1).toNat=d-1 by omega]
  ·rfl
def g_peL:St→Cont→Option Fin:=gP sh_peL (fun v=>match v with | ((a,i,j,()),(l,()))=>pre_peL a i j l) (fun v K=>match v with | ((a,i,j,()),(l,()))=>res_peL a i j l K)
def L_peL:LpL:=(1000003,g_peL)::L_peDn
def cx_peL:Cx:=(cb_pe).withLoops (look L_peL)
theorem l_peL {L:LpL} (n:Nat) (h1:L.drop n=L_peDn) (h2:idsFree (L.take n) (loopOf Tryz.f180 0)=true):LoopsTo g_peL (cb_pe) (loopOf Tryz.f180 0) 1000003 L :=
 with_drop h1 h2 (gP_ok (fun v=>match v with | ((a,i,j,()),(l,()))=>mu_peL a i j l) fun v K hI=>by
  obtain⟨⟨a,i,j,⟨⟩⟩,⟨l,⟨⟩⟩⟩:=v;exact(r_peL a i j l K hI).imp id fun⟨a',i',j',l',h⟩=>⟨((a',i',j',()),(l',())),h⟩)
theorem y_partEq (l:List Int) (a b p:Int):evFn cx_peL Tryz.f180 false [.one (.own 0),ofD TI64 a,ofD TI64 b,ofD TI64 p] [.lis 5 TU8 l]=(
need (inb p l.length) <| need (inb a l.length) <| need (inb a l.length) <| need (inb p (l.set a.toNat (l.getD p.toNat 0)).length) <|
need (pre_peL a (W64 (a+1)) (W64 (b-1)) (swL l a.toNat p.toNat)) <| some (vI ((peE (swL l a.toNat p.toNat) a.toNat (W64 (a+1)).toNat (W64 (b-1)).toNat).1:Nat),[(0,some (.lis 5 TU8 (peE (swL l a.toNat p.toNat) a.toNat (W64 (a+1)).toNat (W64 (b-1)).toNat).2))])):=by kernel_rfl
def parP (l:List Int) (a b p:Int):Bool:=decide (0≤a)&&(decide (a≤p)&&(decide (p<b)&&(decide (b≤(length l:Int))&&Nat.ble (length l) 1000000)))
theorem parP_iff {a b p:Int} {l:List Int}:parP l a b p=true↔0≤a∧a≤p∧p<b∧b≤(l.length:Int)∧l.length≤1000000:=by
 unfold parP;simp only[andd,dec_iff,ble_iff]
def parE (l:List Int) (a b p:Int):Nat×List Int:=((Go.Sort.partitionEqual ltI l.toArray a.toNat b.toNat p.toNat).1,(Go.Sort.partitionEqual ltI l.toArray a.toNat b.toNat p.toNat).2.toList)
theorem s_slices_partitionEqualOrdered_byte (l:List (Int)) (_hl:Fit (.list TU8) l) (a:Int) (_ha:Fit TI64 a) (b:Int) (_hb:Fit TI64 b) (p:Int) (_hp:Fit TI64 p) (hpre:(parP l a b p)=true):Sat Tryz.prog 180 [.one (.own 0),ofD TI64 a,ofD TI64 b,ofD TI64 p] [.lis 5 TU8 l] (.d (ofD TI64 ((parE l a b p).1:Int))) [(0,some (.lis 5 TU8 ((parE l a b p).2)))] :=
 fn_sound (cx:=cx_peL) Tryz.func180 rfl ttOk Γ35ok mixed (fun c hc=>LoopsOk.all (l:=[(1000003,loopOf Tryz.f180 0),(3,loopOf Tryz.f180 1),(5,loopOf Tryz.f180 2)]) (by cases hc;kernel_rfl) ⟨atLoop rfl (l_peL 1 rfl (by kernel_rfl)),atLoop rfl (l_peUp 3 rfl (by kernel_rfl)),atLoop rfl (l_peDn 2 rfl (by kernel_rfl)),trivial⟩) (ro:=false) (by
  obtain⟨h0,h1,h2,h3,h4⟩:=parP_iff.1 hpre;have w1:W64 (a+1)=a+1:=wrap_small (by omega) (by omega);have w2:W64 (b-1)=b-1:=wrap_small (by omega) (by omega);have b1:inb a l.length=true:=inb_ok (by omega) (by omega);have b2:inb p l.length=true:=inb_ok (by omega) (by omega);have hpp:pre_peL a (a+1) (b-1) (swL l a.toNat p.toNat)=true:=scP_iff.2 (by rw[swL_len];omega);rw[y_partEq,w1,w2,length_set,b1,b2,hpp,show (a+1).toNat=a.toNat+1 by omega,show (b-1).toNat=b.toNat-1 by omega];show some ((vI ((Go.Sort.partEqLoop ltI a.toNat (a.toNat+1) (b.toNat-1) (swL l a.toNat p.toNat).toArray).1:Nat),[(0,some (Obj.lis 5 TU8 (Go.Sort.partEqLoop ltI a.toNat (a.toNat+1) (b.toNat-1) (swL l a.toNat p.toNat).toArray).2.toList))]):Fin)=_;rw[← sw_arr];rfl)
def c_slices_partitionEqualOrdered_byte:Con:=conL 5 TU8 [TI64,TI64,TI64] fun(l:List (Int)) (a:Int) (b:Int) (p:Int)=>(some (parP l a b p), .d (ofD TI64 ((parE l a b p).1:Int)),(parE l a b p).2)
theorem k_slices_partitionEqualOrdered_byte:ConOk Tryz.prog 180 c_slices_partitionEqualOrdered_byte:=conL_ok rfl Tryz.call180 fun l hl a ha b hb p hp hqq=>s_slices_partitionEqualOrdered_byte l hl a ha b hb p hp (pre_of hqq)
def Γ36:GL:=(180,c_slices_partitionEqualOrdered_byte)::Γ35
theorem Γ36ok:GO Γ36 := .cons k_slices_partitionEqualOrdered_byte Γ35ok
def cb_pt:Cx:=cxOf Γ36 Tryz.f181.ntmps [(15,[0,1,10,11]),(13,[0,1,10,11]),(1000013,[0,1,10,11]),(5,[0,1,10,11]),(3,[0,1,10,11])] [(4,[0,1,11]),(5,[0,1,10,11]),(8,[0,1,10,11]),(9,[0,1,10,11]),(6,[0,1,10,11]),(7,[0,1,10,11]),(2,[0,1,10,11]),(3,[0,1,10,11]),(0,[0,1,10,11]),(1,[0,1,10,11]),(1000000,[8,9])] [] []
theorem x_ptUp (l:List Int) (a i j:Int) (R:St→Option Fin) (K:Cont):evC (cb_pt.withLoops (look [])) (loopOf Tryz.f181 3) ⟨[(0, .d (.one (.own 0))),(1,vI a),(10,vI i),(11,vI j)],[(0,some (.lis 5 TU8 l))]⟩ (onward (headAt (cb_pt.withLoops (look [])) 13) R K)=(
need (bif decide (decide (i≤j)=true)then inb i l.length else true) <|
need (bif decide (decide (i≤j)=true)then inb a l.length else true) <|
branch (bif decide (i≤j)then pLt l a.toNat (l.getD i.toNat 0)else false) (R ⟨[(0, .d (.one (.own 0))),(1,vI a),(10,vI (W64 (i+1))),(11,vI j)],[(0,some (.lis 5 TU8 l))]⟩) (K (.exit 6) ⟨[(0, .d (.one (.own 0))),(1,vI a),(10,vI i),(11,vI j)],[(0,some (.lis 5 TU8 l))]⟩)):=by kernel_rfl
def cx0_ptUp:Cx:=(cb_pt).withLoops (look [])
def sh_ptUp:Sh:=([(0, .own 0),(1, .d TI64),(10, .d TI64),(11, .d TI64)],[(0, .lis 5 TU8)])
abbrev st_ptUp (a i j:Int) (l:List (Int)):St:=⟨[(0, .d (.one (.own 0))),(1,vI a),(10,vI i),(11,vI j)],[(0,some (.lis 5 TU8 l))]⟩
def pre_ptUp (a i j:Int) (l:List (Int)):Bool:=scP a i j l
def res_ptUp (a i j:Int) (l:List (Int)) (K:Cont):Option Fin:=K (.exit 6) ⟨[(0, .d (.one (.own 0))),(1,vI a),(10,vI (upN (pLt l a.toNat) l j.toNat i.toNat:Nat)),(11,vI j)],[(0,some (.lis 5 TU8 l))]⟩
def mu_ptUp (_a i j:Int) (_l:List (Int)):Nat:=(j+1-i).toNat
theorem r_ptUp (a i j:Int) (l:List (Int)) (K:Cont) (hI:pre_ptUp a i j l=true):(∀R:St→Option Fin,evC cx0_ptUp (loopOf Tryz.f181 3) (st_ptUp a i j l) (onward (headAt cx0_ptUp 13) R K)=res_ptUp a i j l K) ∨
  (∃(a' i' j':Int) (l':List (Int)),pre_ptUp a' i' j' l'=true∧mu_ptUp a' i' j' l'<mu_ptUp a i j l∧res_ptUp a' i' j' l' K=res_ptUp a i j l K∧∀R:St→Option Fin,evC cx0_ptUp (loopOf Tryz.f181 3) (st_ptUp a i j l) (onward (headAt cx0_ptUp 13) R K)=R (st_ptUp a' i' j' l')):=by
 have hx:=fun R=>x_ptUp l a i j R K;obtain⟨h0,h1,h2,h3,h4,h5⟩:=scP_iff.1 (show scP a i j l=true from hI);have e:=upN_eq (pLt l a.toNat) l j.toNat i.toNat
 by_cases hi:i≤j
 ·have w1:W64 (i+1)=i+1:=wrap_small (by omega) (by omega);have t1:(i+1).toNat=i.toNat+1:=by omega
  have ba:inb a l.length=true:=inb_ok (by omega) (by omega);have bi:inb i l.length=true:=inb_ok (by omega) (by omega);simp only[hi,decide_true,ba,bi,Bool.cond_self,cond_true,w1]at hx
  cases hc:pLt l a.toNat (l.getD i.toNat 0)
  ·left;intro R;rw[if_neg (by rw[hc];simp)]at e;refine(hx R).trans ?_;rw[hc];simp only[res_ptUp,e,Int.toNat_of_nonneg (show 0≤i by omega)];rfl
  ·right;rw[if_pos ⟨by omega,hc⟩]at e;refine⟨a,i+1,j,l,scP_iff.2 ?_, ?_, ?_,fun R=>(hx R).trans ?_⟩
   ·omega
   ·simp only[mu_ptUp];omega
   ·simp only[res_ptUp,t1,e]
   ·rw[hc];rfl
 ·left;intro R;rw[if_neg (by omega)]at e;refine(hx R).trans ?_;simp only[hi,decide_false,cond_false,res_ptUp,e,Int.toNat_of_nonneg (show 0≤i by omega)];rfl
def g_ptUp:St→Cont→Option Fin:=gP sh_ptUp (fun v=>match v with | ((a,i,j,()),(l,()))=>pre_ptUp a i j l) (fun v K=>match v with | ((a,i,j,()),(l,()))=>res_ptUp a i j l K)
def L_ptUp:LpL:=(13,g_ptUp)::[]
def cx_ptUp:Cx:=(cb_pt).withLoops (look L_ptUp)
theorem l_ptUp {L:LpL} (n:Nat) (h1:L.drop n=[]) (h2:idsFree (L.take n) (loopOf Tryz.f181 3)=true):LoopsTo g_ptUp (cb_pt) (loopOf Tryz.f181 3) 13 L :=
 with_drop h1 h2 (gP_ok (fun v=>match v with | ((a,i,j,()),(l,()))=>mu_ptUp a i j l) fun v K hI=>by
  obtain⟨⟨a,i,j,⟨⟩⟩,⟨l,⟨⟩⟩⟩:=v;exact(r_ptUp a i j l K hI).imp id fun⟨a',i',j',l',h⟩=>⟨((a',i',j',()),(l',())),h⟩)
theorem x_ptDn (l:List Int) (a i j:Int) (R:St→Option Fin) (K:Cont):evC cx_ptUp (loopOf Tryz.f181 4) ⟨[(0, .d (.one (.own 0))),(1,vI a),(10,vI i),(11,vI j)],[(0,some (.lis 5 TU8 l))]⟩ (onward (headAt cx_ptUp 15) R K)=(
need (bif decide (decide (i≤j)=true)then inb j l.length else true) <|
need (bif decide (decide (i≤j)=true)then inb a l.length else true) <|
branch (bif decide (i≤j)then pGe l a.toNat (l.getD j.toNat 0)else false) (R ⟨[(0, .d (.one (.own 0))),(1,vI a),(10,vI i),(11,vI (W64 (j-1)))],[(0,some (.lis 5 TU8 l))]⟩) (K (.exit 8) ⟨[(0, .d (.one (.own 0))),(1,vI a),(10,vI i),(11,vI j)],[(0,some (.lis 5 TU8 l))]⟩)):=by kernel_rfl
def cx0_ptDn:Cx:=(cb_pt).withLoops (look L_ptUp)
def sh_ptDn:Sh:=([(0, .own 0),(1, .d TI64),(10, .d TI64),(11, .d TI64)],[(0, .lis 5 TU8)])
abbrev st_ptDn (a i j:Int) (l:List (Int)):St:=⟨[(0, .d (.one (.own 0))),(1,vI a),(10,vI i),(11,vI j)],[(0,some (.lis 5 TU8 l))]⟩
def pre_ptDn (a i j:Int) (l:List (Int)):Bool:=scP a i j l
def res_ptDn (a i j:Int) (l:List (Int)) (K:Cont):Option Fin:=K (.exit 8) ⟨[(0, .d (.one (.own 0))),(1,vI a),(10,vI i),(11,vI (dnN (pGe l a.toNat) l i.toNat j.toNat:Nat))],[(0,some (.lis 5 TU8 l))]⟩
def mu_ptDn (_a i j:Int) (_l:List (Int)):Nat:=(j+1-i).toNat
theorem r_ptDn (a i j:Int) (l:List (Int)) (K:Cont) (hI:pre_ptDn a i j l=true):(∀R:St→Option Fin,evC cx0_ptDn (loopOf Tryz.f181 4) (st_ptDn a i j l) (onward (headAt cx0_ptDn 15) R K)=res_ptDn a i j l K) ∨
  (∃(a' i' j':Int) (l':List (Int)),pre_ptDn a' i' j' l'=true∧mu_ptDn a' i' j' l'<mu_ptDn a i j l∧res_ptDn a' i' j' l' K=res_ptDn a i j l K∧∀R:St→Option Fin,evC cx0_ptDn (loopOf Tryz.f181 4) (st_ptDn a i j l) (onward (headAt cx0_ptDn 15) R K)=R (st_ptDn a' i' j' l')):=by
 have hx:=fun R=>x_ptDn l a i j R K;obtain⟨h0,h1,h2,h3,h4,h5⟩:=scP_iff.1 (show scP a i j l=true from hI);have e:=dnN_eq (pGe l a.toNat) l (i:=i.toNat) (by omega) j.toNat
 by_cases hi:i≤j
 ·have w1:W64 (j-1)=j-1:=wrap_small (by omega) (by omega);have t1:(j-1).toNat=j.toNat-1:=by omega
  have ba:inb a l.length=true:=inb_ok (by omega) (by omega);have bi:inb j l.length=true:=inb_ok (by omega) (by omega);simp only[hi,decide_true,ba,bi,Bool.cond_self,cond_true,w1]at hx
  cases hc:pGe l a.toNat (l.getD j.toNat 0)
  ·left;intro R;rw[if_neg (by rw[hc];simp)]at e;refine(hx R).trans ?_;rw[hc];simp only[res_ptDn,e,Int.toNat_of_nonneg (show 0≤j by omega)];rfl
  ·right;rw[if_pos ⟨by omega,hc⟩]at e;refine⟨a,i,j-1,l,scP_iff.2 ?_, ?_, ?_,fun R=>(hx R).trans ?_⟩
   ·omega
   ·simp only[mu_ptDn];omega
   ·simp only[res_ptDn,t1,e]
   ·rw[hc];rfl
 ·left;intro R;rw[if_neg (by omega)]at e;refine(hx R).trans ?_;simp only[hi,decide_false,cond_false,res_ptDn,e,Int.toNat_of_nonneg (show 0≤j by omega)];rfl
def g_ptDn:St→Cont→Option Fin:=gP sh_ptDn (fun v=>match v with | ((a,i,j,()),(l,()))=>pre_ptDn a i j l) (fun v K=>match v with | ((a,i,j,()),(l,()))=>res_ptDn a i j l K)
def L_ptDn:LpL:=(15,g_ptDn)::L_ptUp
def cx_ptDn:Cx:=(cb_pt).withLoops (look L_ptDn)
theorem l_ptDn {L:LpL} (n:Nat) (h1:L.drop n=L_ptUp) (h2:idsFree (L.take n) (loopOf Tryz.f181 4)=true):LoopsTo g_ptDn (cb_pt) (loopOf Tryz.f181 4) 15 L :=
 with_drop h1 h2 (gP_ok (fun v=>match v with | ((a,i,j,()),(l,()))=>mu_ptDn a i j l) fun v K hI=>by
  obtain⟨⟨a,i,j,⟨⟩⟩,⟨l,⟨⟩⟩⟩:=v;exact(r_ptDn a i j l K hI).imp id fun⟨a',i',j',l',h⟩=>⟨((a',i',j',()),(l',())),h⟩)
theorem x_ptL (l:List Int) (a i j:Int) (R:St→Option Fin) (K:Cont):evC cx_ptDn (loopOf Tryz.f181 2) ⟨[(0, .d (.one (.own 0))),(1,vI a),(10,vI i),(11,vI j)],[(0,some (.lis 5 TU8 l))]⟩ (onward (headAt cx_ptDn 1000013) R K)=(
need (pre_ptUp a i j l) <|
need (pre_ptDn a ((upN (pLt l a.toNat) l j.toNat i.toNat:Nat):Int) j l) <|
branch (decide (((dnN (pGe l a.toNat) l (upN (pLt l a.toNat) l j.toNat i.toNat) j.toNat:Nat):Int)<((upN (pLt l a.toNat) l j.toNat i.toNat:Nat):Int))) (K (.exit 4) ⟨[(0, .d (.one (.own 0))),(1,vI a),(11,vI ((dnN (pGe l a.toNat) l (upN (pLt l a.toNat) l j.toNat i.toNat) j.toNat:Nat):Int))],[(0,some (.lis 5 TU8 l))]⟩) (
 need (inb ((dnN (pGe l a.toNat) l (upN (pLt l a.toNat) l j.toNat i.toNat) j.toNat:Nat):Int) l.length) <| need (inb ((upN (pLt l a.toNat) l j.toNat i.toNat:Nat):Int) l.length) <| need (inb ((upN (pLt l a.toNat) l j.toNat i.toNat:Nat):Int) l.length) <|
 need (inb ((dnN (pGe l a.toNat) l (upN (pLt l a.toNat) l j.toNat i.toNat) j.toNat:Nat):Int) (l.set (upN (pLt l a.toNat) l j.toNat i.toNat:Nat) (l.getD (dnN (pGe l a.toNat) l (upN (pLt l a.toNat) l j.toNat i.toNat) j.toNat:Nat) 0)).length) <| R ⟨[(0, .d (.one (.own 0))),(1,vI a),(10,vI (W64 (((upN (pLt l a.toNat) l j.toNat i.toNat:Nat):Int)+1))),(11,vI (W64 (((dnN (pGe l a.toNat) l (upN (pLt l a.toNat) l j.toNat i.toNat) j.toNat:Nat):Int)-1)))],[(0,some (.lis 5 TU8 (swL l (upN (pLt l a.toNat) l j.toNat i.toNat:Nat) (dnN (pGe l a.toNat) l (upN (pLt l a.toNat) l j.toNat i.toNat) j.toNat:Nat))))]⟩)):=by kernel_rfl
def cx0_ptL:Cx:=(cb_pt).withLoops (look L_ptDn)
def sh_ptL:Sh:=([(0, .own 0),(1, .d TI64),(10, .d TI64),(11, .d TI64)],[(0, .lis 5 TU8)])
abbrev st_ptL (a i j:Int) (l:List (Int)):St:=⟨[(0, .d (.one (.own 0))),(1,vI a),(10,vI i),(11,vI j)],[(0,some (.lis 5 TU8 l))]⟩
def pre_ptL (a i j:Int) (l:List (Int)):Bool:=scP a i j l
def res_ptL (a i j:Int) (l:List (Int)) (K:Cont):Option Fin:=K (.exit 4) ⟨[(0, .d (.one (.own 0))),(1,vI a),(11,vI ((ptE l a.toNat i.toNat j.toNat).1:Nat))],[(0,some (.lis 5 TU8 (ptE l a.toNat i.toNat j.toNat).2))]⟩
def mu_ptL (_a i j:Int) (_l:List (Int)):Nat:=(j+1-i).toNat
theorem r_ptL (a i j:Int) (l:List (Int)) (K:Cont) (hI:pre_ptL a i j l=true):(∀R:St→Option Fin,evC cx0_ptL (loopOf Tryz.f181 2) (st_ptL a i j l) (onward (headAt cx0_ptL 1000013) R K)=res_ptL a i j l K) ∨
  (∃(a' i' j':Int) (l':List (Int)),pre_ptL a' i' j' l'=true∧mu_ptL a' i' j' l'<mu_ptL a i j l∧res_ptL a' i' j' l' K=res_ptL a i j l K∧∀R:St→Option Fin,evC cx0_ptL (loopOf Tryz.f181 2) (st_ptL a i j l) (onward (headAt cx0_ptL 1000013) R K)=R (st_ptL a' i' j' l')):=by
 have hx:=fun R=>x_ptL l a i j R K;have hI':scP a i j l=true:=hI;obtain⟨h0,h1,h2,h3,h4,h5⟩:=scP_iff.1 hI';have e:=ptE_eq l a.toNat i.toNat j.toNat;unfold pt2 at e;have u1:=upN_ge (pLt l a.toNat) l j.toNat i.toNat;have d1:=dnN_le (pGe l a.toNat) l (upN (pLt l a.toNat) l j.toNat i.toNat) j.toNat;have hp:∀u:Nat,i.toNat≤u→pre_ptDn a (u:Int) j l=true:=fun u hu=>scP_iff.2 (by omega);simp only[show pre_ptUp a i j l=true from hI',hp _ u1]at hx;simp only[res_ptL]
 generalize hu:upN (pLt l a.toNat) l j.toNat i.toNat=u at *
 generalize hd:dnN (pGe l a.toNat) l u j.toNat=d at *
 by_cases hc:d<u
 ·left;intro R;refine(hx R).trans ?_;rw[zT (by omega:(d:Int)<u),e,if_pos hc];rfl
 ·right;rw[if_neg hc]at e;have w1:W64 ((u:Int)+1)=(u:Int)+1:=wrap_small (by omega) (by omega);have w2:W64 ((d:Int)-1)=(d:Int)-1:=wrap_small (by omega) (by omega);have b1:inb (u:Int) l.length=true:=inb_ok (by omega) (by omega);have b2:inb (d:Int) l.length=true:=inb_ok (by omega) (by omega);simp only[show ¬(d:Int)<u by omega,decide_false,w1,w2,b1,b2,length_set]at hx;refine⟨a,(u:Int)+1,(d:Int)-1,swL l u d,scP_iff.2 ?_, ?_, ?_,fun R=>(hx R).trans ?_⟩
  ·rw[swL_len];omega
  ·simp only[mu_ptL];omega
  ·rw[e,show ((u:Int)+1).toNat=u+1 by omega,show ((d:Int)-1).toNat=d-1 by omega]
  ·rfl
def g_ptL:St→Cont→Option Fin:=gP sh_ptL (fun v=>match v with | ((a,i,j,()),(l,()))=>pre_ptL a i j l) (fun v K=>match v with | ((a,i,j,()),(l,()))=>res_ptL a i j l K)
def L_ptL:LpL:=(1000013,g_ptL)::L_ptDn
def cx_ptL:Cx:=(cb_pt).withLoops (look L_ptL)
theorem l_ptL {L:LpL} (n:Nat) (h1:L.drop n=L_ptDn) (h2:idsFree (L.take n) (loopOf Tryz.f181 2)=true):LoopsTo g_ptL (cb_pt) (loopOf Tryz.f181 2) 1000013 L :=
 with_drop h1 h2 (gP_ok (fun v=>match v with | ((a,i,j,()),(l,()))=>mu_ptL a i j l) fun v K hI=>by
  obtain⟨⟨a,i,j,⟨⟩⟩,⟨l,⟨⟩⟩⟩:=v;exact(r_ptL a i j l K hI).imp id fun⟨a',i',j',l',h⟩=>⟨((a',i',j',()),(l',())),h⟩)
theorem x_ptA (l:List Int) (a i j:Int) (R:St→Option Fin) (K:Cont):evC cx_ptL (loopOf Tryz.f181 0) ⟨[(0, .d (.one (.own 0))),(1,vI a),(10,vI i),(11,vI j)],[(0,some (.lis 5 TU8 l))]⟩ (onward (headAt cx_ptL 3) R K)=(
need (bif decide (decide (i≤j)=true)then inb i l.length else true) <|
need (bif decide (decide (i≤j)=true)then inb a l.length else true) <|
branch (bif decide (i≤j)then pLt l a.toNat (l.getD i.toNat 0)else false) (R ⟨[(0, .d (.one (.own 0))),(1,vI a),(10,vI (W64 (i+1))),(11,vI j)],[(0,some (.lis 5 TU8 l))]⟩) (K (.exit 0) ⟨[(0, .d (.one (.own 0))),(1,vI a),(10,vI i),(11,vI j)],[(0,some (.lis 5 TU8 l))]⟩)):=by kernel_rfl
def cx0_ptA:Cx:=(cb_pt).withLoops (look L_ptL)
def sh_ptA:Sh:=([(0, .own 0),(1, .d TI64),(10, .d TI64),(11, .d TI64)],[(0, .lis 5 TU8)])
abbrev st_ptA (a i j:Int) (l:List (Int)):St:=⟨[(0, .d (.one (.own 0))),(1,vI a),(10,vI i),(11,vI j)],[(0,some (.lis 5 TU8 l))]⟩
def pre_ptA (a i j:Int) (l:List (Int)):Bool:=scP a i j l
def res_ptA (a i j:Int) (l:List (Int)) (K:Cont):Option Fin:=K (.exit 0) ⟨[(0, .d (.one (.own 0))),(1,vI a),(10,vI (upN (pLt l a.toNat) l j.toNat i.toNat:Nat)),(11,vI j)],[(0,some (.lis 5 TU8 l))]⟩
def mu_ptA (_a i j:Int) (_l:List (Int)):Nat:=(j+1-i).toNat
theorem r_ptA (a i j:Int) (l:List (Int)) (K:Cont) (hI:pre_ptA a i j l=true):(∀R:St→Option Fin,evC cx0_ptA (loopOf Tryz.f181 0) (st_ptA a i j l) (onward (headAt cx0_ptA 3) R K)=res_ptA a i j l K) ∨
  (∃(a' i' j':Int) (l':List (Int)),pre_ptA a' i' j' l'=true∧mu_ptA a' i' j' l'<mu_ptA a i j l∧res_ptA a' i' j' l' K=res_ptA a i j l K∧∀R:St→Option Fin,evC cx0_ptA (loopOf Tryz.f181 0) (st_ptA a i j l) (onward (headAt cx0_ptA 3) R K)=R (st_ptA a' i' j' l')):=by
 have hx:=fun R=>x_ptA l a i j R K;obtain⟨h0,h1,h2,h3,h4,h5⟩:=scP_iff.1 (show scP a i j l=true from hI);have e:=upN_eq (pLt l a.toNat) l j.toNat i.toNat
 by_cases hi:i≤j
 ·have w1:W64 (i+1)=i+1:=wrap_small (by omega) (by omega);have t1:(i+1).toNat=i.toNat+1:=by omega
  have ba:inb a l.length=true:=inb_ok (by omega) (by omega);have bi:inb i l.length=true:=inb_ok (by omega) (by omega);simp only[hi,decide_true,ba,bi,Bool.cond_self,cond_true,w1]at hx
  cases hc:pLt l a.toNat (l.getD i.toNat 0)
  ·left;intro R;rw[if_neg (by rw[hc];simp)]at e;refine(hx R).trans ?_;rw[hc];simp only[res_ptA,e,Int.toNat_of_nonneg (show 0≤i by omega)];rfl
  ·right;rw[if_pos ⟨by omega,hc⟩]at e;refine⟨a,i+1,j,l,scP_iff.2 ?_, ?_, ?_,fun R=>(hx R).trans ?_⟩
   ·omega
   ·simp only[mu_ptA];omega
   ·simp only[res_ptA,t1,e]
   ·rw[hc];rfl
 ·left;intro R;rw[if_neg (by omega)]at e;refine(hx R).trans ?_;simp only[hi,decide_false,cond_false,res_ptA,e,Int.toNat_of_nonneg (show 0≤i by omega)];rfl
def g_ptA:St→Cont→Option Fin:=gP sh_ptA (fun v=>match v with | ((a,i,j,()),(l,()))=>pre_ptA a i j l) (fun v K=>match v with | ((a,i,j,()),(l,()))=>res_ptA a i j l K)
def L_ptA:LpL:=(3,g_ptA)::L_ptL
def cx_ptA:Cx:=(cb_pt).withLoops (look L_ptA)
theorem l_ptA {L:LpL} (n:Nat) (h1:L.drop n=L_ptL) (h2:idsFree (L.take n) (loopOf Tryz.f181 0)=true):LoopsTo g_ptA (cb_pt) (loopOf Tryz.f181 0) 3 L :=
 with_drop h1 h2 (gP_ok (fun v=>match v with | ((a,i,j,()),(l,()))=>mu_ptA a i j l) fun v K hI=>by
  obtain⟨⟨a,i,j,⟨⟩⟩,⟨l,⟨⟩⟩⟩:=v;exact(r_ptA a i j l K hI).imp id fun⟨a',i',j',l',h⟩=>⟨((a',i',j',()),(l',())),h⟩)
theorem x_ptB (l:List Int) (a i j:Int) (R:St→Option Fin) (K:Cont):evC cx_ptA (loopOf Tryz.f181 1) ⟨[(0, .d (.one (.own 0))),(1,vI a),(10,vI i),(11,vI j)],[(0,some (.lis 5 TU8 l))]⟩ (onward (headAt cx_ptA 5) R K)=(
need (bif decide (decide (i≤j)=true)then inb j l.length else true) <|
need (bif decide (decide (i≤j)=true)then inb a l.length else true) <|
branch (bif decide (i≤j)then pGe l a.toNat (l.getD j.toNat 0)else false) (R ⟨[(0, .d (.one (.own 0))),(1,vI a),(10,vI i),(11,vI (W64 (j-1)))],[(0,some (.lis 5 TU8 l))]⟩) (K (.exit 2) ⟨[(0, .d (.one (.own 0))),(1,vI a),(10,vI i),(11,vI j)],[(0,some (.lis 5 TU8 l))]⟩)):=by kernel_rfl
def cx0_ptB:Cx:=(cb_pt).withLoops (look L_ptA)
def sh_ptB:Sh:=([(0, .own 0),(1, .d TI64),(10, .d TI64),(11, .d TI64)],[(0, .lis 5 TU8)])
abbrev st_ptB (a i j:Int) (l:List (Int)):St:=⟨[(0, .d (.one (.own 0))),(1,vI a),(10,vI i),(11,vI j)],[(0,some (.lis 5 TU8 l))]⟩
def pre_ptB (a i j:Int) (l:List (Int)):Bool:=scP a i j l
def res_ptB (a i j:Int) (l:List (Int)) (K:Cont):Option Fin:=K (.exit 2) ⟨[(0, .d (.one (.own 0))),(1,vI a),(10,vI i),(11,vI (dnN (pGe l a.toNat) l i.toNat j.toNat:Nat))],[(0,some (.lis 5 TU8 l))]⟩
def mu_ptB (_a i j:Int) (_l:List (Int)):Nat:=(j+1-i).toNat
theorem r_ptB (a i j:Int) (l:List (Int)) (K:Cont) (hI:pre_ptB a i j l=true):(∀R:St→Option Fin,evC cx0_ptB (loopOf Tryz.f181 1) (st_ptB a i j l) (onward (headAt cx0_ptB 5) R K)=res_ptB a i j l K) ∨
  (∃(a' i' j':Int) (l':List (Int)),pre_ptB a' i' j' l'=true∧mu_ptB a' i' j' l'<mu_ptB a i j l∧res_ptB a' i' j' l' K=res_ptB a i j l K∧∀R:St→Option Fin,evC cx0_ptB (loopOf Tryz.f181 1) (st_ptB a i j l) (onward (headAt cx0_ptB 5) R K)=R (st_ptB a' i' j' l')):=by
 have hx:=fun R=>x_ptB l a i j R K;obtain⟨h0,h1,h2,h3,h4,h5⟩:=scP_iff.1 (show scP a i j l=true from hI);have e:=dnN_eq (pGe l a.toNat) l (i:=i.toNat) (by omega) j.toNat
 by_cases hi:i≤j
 ·have w1:W64 (j-1)=j-1:=wrap_small (by omega) (by omega);have t1:(j-1).toNat=j.toNat-1:=by omega
  have ba:inb a l.length=true:=inb_ok (by omega) (by omega);have bi:inb j l.length=true:=inb_ok (by omega) (by omega);simp only[hi,decide_true,ba,bi,Bool.cond_self,cond_true,w1]at hx
  cases hc:pGe l a.toNat (l.getD j.toNat 0)
  ·left;intro R;rw[if_neg (by rw[hc];simp)]at e;refine(hx R).trans ?_;rw[hc];simp only[res_ptB,e,Int.toNat_of_nonneg (show 0≤j by omega)];rfl
  ·right;rw[if_pos ⟨by omega,hc⟩]at e;refine⟨a,i,j-1,l,scP_iff.2 ?_, ?_, ?_,fun R=>(hx R).trans ?_⟩
   ·omega
   ·simp only[mu_ptB];omega
   ·simp only[res_ptB,t1,e]
   ·rw[hc];rfl
 ·left;intro R;rw[if_neg (by omega)]at e;refine(hx R).trans ?_;simp only[hi,decide_false,cond_false,res_ptB,e,Int.toNat_of_nonneg (show 0≤j by omega)];rfl
def g_ptB:St→Cont→Option Fin:=gP sh_ptB (fun v=>match v with | ((a,i,j,()),(l,()))=>pre_ptB a i j l) (fun v K=>match v with | ((a,i,j,()),(l,()))=>res_ptB a i j l K)
def L_ptB:LpL:=(5,g_ptB)::L_ptA
def cx_ptB:Cx:=(cb_pt).withLoops (look L_ptB)
theorem l_ptB {L:LpL} (n:Nat) (h1:L.drop n=L_ptA) (h2:idsFree (L.take n) (loopOf Tryz.f181 1)=true):LoopsTo g_ptB (cb_pt) (loopOf Tryz.f181 1) 5 L :=
 with_drop h1 h2 (gP_ok (fun v=>match v with | ((a,i,j,()),(l,()))=>mu_ptB a i j l) fun v K hI=>by
  obtain⟨⟨a,i,j,⟨⟩⟩,⟨l,⟨⟩⟩⟩:=v;exact(r_ptB a i j l K hI).imp id fun⟨a',i',j',l',h⟩=>⟨((a',i',j',()),(l',())),h⟩)
def ptI (m:List Int) (a b:Int):Nat:=upN (pLt m a.toNat) m (W64 (b-1)).toNat (W64 (a+1)).toNat
def ptJ (m:List Int) (a b:Int):Nat:=dnN (pGe m a.toNat) m (ptI m a b) (W64 (b-1)).toNat
def ptOut (k:Nat) (q:Bool) (m:List Int):Option Fin:=some (.tup [ofD TI64 (k:Int),ofD .bool q],[(0,some (.lis 5 TU8 m))])
def ptSw (a:Int) (k:Nat) (q:Bool) (m:List Int):Option Fin:=need (inb a m.length) <| need (inb (k:Int) m.length) <| need (inb (k:Int) m.length) <| need (inb a (m.set k (m.getD a.toNat 0)).length) <| ptOut k q (swL m k a.toNat)
def ptRest (a b:Int) (m:List Int):Option Fin :=
 need (pre_ptA a (W64 (a+1)) (W64 (b-1)) m) <| need (pre_ptB a (ptI m a b:Nat) (W64 (b-1)) m) <|
 branch (decide (((ptJ m a b:Nat):Int)<(ptI m a b:Nat))) (ptSw a (ptJ m a b) true m) <|
 need (inb (ptJ m a b:Nat) m.length) <| need (inb (ptI m a b:Nat) m.length) <| need (inb (ptI m a b:Nat) m.length) <| need (inb (ptJ m a b:Nat) (m.set (ptI m a b) (m.getD (ptJ m a b) 0)).length) <|
 need (pre_ptL a (W64 ((ptI m a b:Nat)+1)) (W64 ((ptJ m a b:Nat)-1)) (swL m (ptI m a b) (ptJ m a b))) <|
 ptSw a (ptE (swL m (ptI m a b) (ptJ m a b)) a.toNat (W64 ((ptI m a b:Nat)+1)).toNat (W64 ((ptJ m a b:Nat)-1)).toNat).1 false (ptE (swL m (ptI m a b) (ptJ m a b)) a.toNat (W64 ((ptI m a b:Nat)+1)).toNat (W64 ((ptJ m a b:Nat)-1)).toNat).2
theorem y_part (l:List Int) (a b p:Int):evFn cx_ptB Tryz.f181 false [.one (.own 0),ofD TI64 a,ofD TI64 b,ofD TI64 p] [.lis 5 TU8 l]=(
need (inb p l.length) <| need (inb a l.length) <| need (inb a l.length) <| need (inb p (l.set a.toNat (l.getD p.toNat 0)).length) <| ptRest a b (swL l a.toNat p.toNat)):=by kernel_rfl
def parR (l:List Int) (a b p:Int):Nat×List Int:=ptE (swL l a.toNat p.toNat) a.toNat (a.toNat+1) (b.toNat-1)
def parN (l:List Int) (a b p:Int):Nat×Bool×List Int:=((parR l a b p).1,decide (ptJ (swL l a.toNat p.toNat) a b<ptI (swL l a.toNat p.toNat) a b),swL (parR l a b p).2 (parR l a b p).1 a.toNat)
theorem parR_ok {l:List Int} {a b p:Int} (h:parP l a b p=true):(parR l a b p).1<b.toNat∧(parR l a b p).2.length=l.length:=by
 obtain⟨h0,h1,h2,h3,h4⟩:=parP_iff.1 h;have q:=Go.Sort.partLoop_spec (lt:=ltI) a.toNat b.toNat _ (a.toNat+1) (b.toNat-1) (swL l a.toNat p.toNat).toArray (Nat.le_refl _) (by omega) (by omega) (by omega) (by show b.toNat≤(swL l a.toNat p.toNat).length;rw[swL_len];omega) (fun t g1 g2=>by omega) (fun t g1 g2=>by omega);refine⟨q.2.1, ?_⟩;have z:=q.2.2.1.1;show(Go.Sort.partLoop ltI a.toNat (a.toNat+1) (b.toNat-1) (swL l a.toNat p.toNat).toArray).2.toList.length=_;rw[Array.length_toList,z];show(swL l a.toNat p.toNat).length=_;rw[swL_len]
theorem parN_fst (l:List Int) (a b p:Int):(parN l a b p).1=(Go.Sort.partition ltI l.toArray a.toNat b.toNat p.toNat).1:=by
 rw[Go.Sort.partition_fst,sw_arr];rfl
theorem parN_lst (l:List Int) (a b p:Int):(parN l a b p).2.2=(Go.Sort.partition ltI l.toArray a.toNat b.toNat p.toNat).2.2.toList:=by
 rw[Go.Sort.partition_arr,sw_arr];show swL (parR l a b p).2 (parR l a b p).1 a.toNat=_;unfold parR ptE;rw[← sw_arr,Array.toArray_toList]
theorem s_slices_partitionOrdered_byte (l:List (Int)) (_hl:Fit (.list TU8) l) (a:Int) (_ha:Fit TI64 a) (b:Int) (_hb:Fit TI64 b) (p:Int) (_hp:Fit TI64 p) (hpre:(parP l a b p)=true):Sat Tryz.prog 181 [.one (.own 0),ofD TI64 a,ofD TI64 b,ofD TI64 p] [.lis 5 TU8 l] (.tup [ofD TI64 ((parN l a b p).1:Int),ofD .bool (parN l a b p).2.1]) [(0,some (.lis 5 TU8 ((parN l a b p).2.2)))] :=
 fn_sound (cx:=cx_ptB) Tryz.func181 rfl ttOk Γ36ok mixed (fun c hc=>LoopsOk.all (l:=[(3,loopOf Tryz.f181 0),(5,loopOf Tryz.f181 1),(1000013,loopOf Tryz.f181 2),(13,loopOf Tryz.f181 3),(15,loopOf Tryz.f181 4)]) (by cases hc;kernel_rfl) ⟨atLoop rfl (l_ptA 2 rfl (by kernel_rfl)),atLoop rfl (l_ptB 1 rfl (by kernel_rfl)),atLoop rfl (l_ptL 3 rfl (by kernel_rfl)),atLoop rfl (l_ptUp 5 rfl (by kernel_rfl)),atLoop rfl (l_ptDn 4 rfl (by kernel_rfl)),trivial⟩) (ro:=false) (by
  obtain⟨h0,h1,h2,h3,h4⟩:=parP_iff.1 hpre;obtain⟨q1,q2⟩:=parR_ok hpre;have w1:W64 (a+1)=a+1:=wrap_small (by omega) (by omega);have w2:W64 (b-1)=b-1:=wrap_small (by omega) (by omega);have b1:inb a l.length=true:=inb_ok (by omega) (by omega);have b2:inb p l.length=true:=inb_ok (by omega) (by omega);rw[y_part,length_set,b1,b2];show ptRest a b (swL l a.toNat p.toNat)=_;have hm:(swL l a.toNat p.toNat).length=l.length:=swL_len _ _ _;unfold parN parR at *
  generalize swL l a.toNat p.toNat=m at *
  have eI:ptI m a b=upN (pLt m a.toNat) m (b.toNat-1) (a.toNat+1):=by unfold ptI;rw[w1,w2,show (a+1).toNat=a.toNat+1 by omega,show (b-1).toNat=b.toNat-1 by omega]
  have eJ:ptJ m a b=pt2 m a.toNat (a.toNat+1) (b.toNat-1):=by unfold ptJ;rw[eI,w2,show (b-1).toNat=b.toNat-1 by omega]
  have eE:=ptE_eq m a.toNat (a.toNat+1) (b.toNat-1);rw[← eI,← eJ]at eE;have u1:a.toNat+1≤ptI m a b:=by rw[eI];exact upN_ge _ _ _ _
  have d1:ptJ m a b≤b.toNat-1:=by rw[eJ];exact dnN_le _ _ _ _
  have hA:pre_ptA a (a+1) (b-1) m=true:=scP_iff.2 (by omega);have hB:pre_ptB a (ptI m a b:Nat) (b-1) m=true:=scP_iff.2 (by omega);unfold ptRest;rw[w1,w2,hA,hB]
  generalize ptI m a b=I at *
  generalize ptJ m a b=J at *
  have sw:∀(k:Nat) (q:Bool) (n:List Int),k<b.toNat→n.length=l.length→ptSw a k q n=ptOut k q (swL n k a.toNat):=fun k q n g1 g2=>by
   unfold ptSw;rw[length_set,inb_ok h0 (by omega),inb_ok (by omega) (by omega)];rfl
  by_cases hc:J<I
  ·rw[if_pos hc]at eE;rw[zT (by omega:(J:Int)<I),zT hc,eE];show ptSw a J true m=_;rw[sw J true m (by omega) hm];rfl
  ·rw[if_neg hc]at eE;have w3:W64 ((I:Int)+1)=(I:Int)+1:=wrap_small (by omega) (by omega);have w4:W64 ((J:Int)-1)=(J:Int)-1:=wrap_small (by omega) (by omega);have hL:pre_ptL a ((I:Int)+1) ((J:Int)-1) (swL m I J)=true:=scP_iff.2 (by rw[swL_len];omega);rw[zF (by omega:¬(J:Int)<I),zF hc,length_set,inb_ok (by omega:(0:Int)≤J) (by omega:(J:Int)<m.length),inb_ok (by omega:(0:Int)≤I) (by omega:(I:Int)<m.length),w3,w4,hL,show ((I:Int)+1).toNat=I+1 by omega,show ((J:Int)-1).toNat=J-1 by omega,← eE];show ptSw a _ false _=_;rw[sw _ false _ q1 q2];rfl)
def c_slices_partitionOrdered_byte:Con:=conL 5 TU8 [TI64,TI64,TI64] fun(l:List (Int)) (a:Int) (b:Int) (p:Int)=>(some (parP l a b p), .tup [ofD TI64 ((parN l a b p).1:Int),ofD .bool (parN l a b p).2.1],(parN l a b p).2.2)
theorem k_slices_partitionOrdered_byte:ConOk Tryz.prog 181 c_slices_partitionOrdered_byte:=conL_ok rfl Tryz.call181 fun l hl a ha b hb p hp hqq=>s_slices_partitionOrdered_byte l hl a ha b hb p hp (pre_of hqq)
def Γ37:GL:=(181,c_slices_partitionOrdered_byte)::Γ36
theorem Γ37ok:GO Γ37 := .cons k_slices_partitionOrdered_byte Γ36ok
set_option maxHeartbeats 1000000
def belB (l:List Int) (a b:Int):Bool:=@decide (Go.Sort.Below ltI a.toNat b.toNat l.toArray) (Classical.propDecidable _)
def pdP (n:Nat) (l:List Int) (a b lim:Int):Bool:=decide (0≤a)&&(decide (a≤b)&&(decide (b≤(length l:Int))&&(Nat.ble (length l) 1000000&&(decide (b-a<50)&&(decide (b-a<(n:Int))&&(decide (0≤lim)&&(decide (lim≤1000)&&belB l a b)))))))
theorem pdP_iff {n:Nat} {l:List Int} {a b lim:Int}:pdP n l a b lim=true↔0≤a∧a≤b∧b≤(l.length:Int)∧l.length≤1000000∧b-a<50∧b-a<(n:Int)∧0≤lim∧lim≤1000∧Go.Sort.Below ltI a.toNat b.toNat l.toArray:=by
 unfold pdP belB;simp only[andd,dec_iff,ble_iff,@decide_eq_true_iff _ (Classical.propDecidable _)]
def c_pdq (n:Nat):Con:=conL 5 TU8 [TI64,TI64,TI64] fun(l:List Int) (a b lim:Int)=>(some (pdP n l a b lim), .tup [],srt a.toNat b.toNat l)
def Γp (n:Nat):List (Nat×Con):=(156,c_pdq n)::Γ37
def cb_pdq (n:Nat):Cx:=cxOf (Γp n) Tryz.f156.ntmps [(2,[0,1,2,3,8,9])] [(0,[]),(1,[0,1,2,3,8,9]),(1000000,[])] [] []
abbrev insP (l:List Int) (a b:Int):Bool:=decide (0≤a)&&(decide (a≤1000000)&&(decide (b≤(length l:Int))&&Nat.ble (length l) 1000000))
abbrev heaP (l:List Int) (a b:Int):Bool:=decide (0≤a)&&(decide (a≤b)&&(decide (b≤(length l:Int))&&Nat.ble (length l) 1000000))
abbrev revP (l:List Int) (a b:Int):Bool:=decide (0≤a)&&(decide (a<b)&&(decide (b≤(length l:Int))&&Nat.ble (length l) 1000000))
abbrev revV (l:List Int) (a b:Int):List Int:=onL (fun d=>Go.Sort.reverseRange d a.toNat b.toNat) l
abbrev stP (a b lim:Int) (wb wp:Bool) (l:List Int):St:=⟨[(0, .d (.one (.own 0))),(1,vI a),(2,vI b),(3,vI lim),(8,vB wb),(9,vB wp)],[(0,some (.lis 5 TU8 l))]⟩
abbrev endP (l:List Int):St:=⟨[],[(0,some (.lis 5 TU8 l))]⟩
def pd3 (n:Nat) (l:List Int) (a b lim pv:Int) (wb wp:Bool) (len:Int) (R:St→Option Fin):Option Fin :=
 need (bif decide (decide (0<a)=true)then inb (W64 (a-1)) l.length else true) <|
 need (bif decide (decide (0<a)=true)then inb pv l.length else true) <|
 branch (bif decide (0<a)then !ltI (l.getD (W64 (a-1)).toNat 0) (l.getD pv.toNat 0)else false)
  (need (parP l a b pv) <| R (stP (parE l a b pv).1 b lim wb wp (parE l a b pv).2))
  (need (parP l a b pv) <|
   branch (decide (W64 ((parN l a b pv).1-a)<W64 (b-(parN l a b pv).1)))
    (need (pdP n (parN l a b pv).2.2 a (parN l a b pv).1 lim) <| R (stP (W64 ((parN l a b pv).1+1)) b lim (decide (W64 (len.tdiv 8)≤W64 ((parN l a b pv).1-a))) (parN l a b pv).2.1 (srt a.toNat ((parN l a b pv).1:Int).toNat (parN l a b pv).2.2)))
    (need (pdP n (parN l a b pv).2.2 (W64 ((parN l a b pv).1+1)) b lim) <| R (stP a (parN l a b pv).1 lim (decide (W64 (len.tdiv 8)≤W64 (b-(parN l a b pv).1))) (parN l a b pv).2.1 (srt (W64 ((parN l a b pv).1+1)).toNat b.toNat (parN l a b pv).2.2))))
def pd2 (n:Nat) (l:List Int) (a b lim pv hint:Int) (wb wp:Bool) (len:Int) (R:St→Option Fin) (K:Cont):Option Fin :=
 branch (bif (bif wb then wp else false)then decide (hint=1)else false)
  (need (brkP l a b) <| branch (isSrt l a b) (K .ret (endP l)) (pd3 n l a b lim pv wb wp len R)) (pd3 n l a b lim pv wb wp len R)
def pd1 (n:Nat) (l:List Int) (a b lim:Int) (wb wp:Bool) (len:Int) (R:St→Option Fin) (K:Cont):Option Fin :=
 need (brkP l a b) <| branch (decide (hintV (chM l a b).2=2))
  (need (revP l a b) <| pd2 n (revV l a b) a b lim (W64 (W64 (b-1)-W64 ((chM l a b).1-a))) 1 wb wp len R K)
  (pd2 n l a b lim (chM l a b).1 (hintV (chM l a b).2) wb wp len R K)
theorem x_pdq (n:Nat) (l:List Int) (a b lim:Int) (wb wp:Bool) (R:St→Option Fin) (K:Cont):evC ((cb_pdq n).withLoops (look [])) (loopOf Tryz.f156 0) (stP a b lim wb wp l) (onward (headAt ((cb_pdq n).withLoops (look [])) 2) R K)=(
 branch (decide (W64 (b-a)≤12)) (need (insP l a b) <| K .ret (endP (srt a.toNat b.toNat l))) <|
 branch (decide (lim=0)) (need (heaP l a b) <| K .ret (endP (srt a.toNat b.toNat l))) <|
 branch (!wb) (need (brkP l a b) <| pd1 n (brkV l a b) a b (W64 (lim-1)) wb wp (W64 (b-a)) R K) (pd1 n l a b lim wb wp (W64 (b-a)) R K)):=by kernel_rfl
theorem srt_spec {x y:Nat} {l:List Int} (h1:x≤y) (h2:y≤l.length):Go.Sort.PermIn x y l.toArray (srt x y l).toArray∧Go.Sort.SortedIn ltI x y (srt x y l).toArray:=by
 rw[onL_arr];exact Go.Sort.insertionSort_holds swo l.toArray x y h1 h2
theorem srt_perm {x y:Nat} {l m:List Int} (h1:x≤y) (h2:y≤l.length) (h:permL x y l m):srt x y m=srt x y l:=by
 have hm:y≤m.length:=by rw[permL_len h];exact h2
 obtain⟨q1,q2⟩:=srt_spec h1 hm;exact(show (srt x y m).toArray.toList=srt x y l from srt_of h1 h2 (Go.Sort.permIn_trans _ _ _ _ _ h q1) q2)
theorem srt_len' {x y:Nat} {l:List Int} (h1:x≤y) (h2:y≤l.length):(srt x y l).length=l.length:=(srt_spec h1 h2).1.1
structure PdH (n:Nat) (x y:Nat) (lim:Int) (l0 l:List Int):Prop where
 h1:x+12<y
 h2:y<x+50
 h3:y-x<n+1
 h4:y≤l0.length
 h5:l0.length≤1000000
 h6:0≤lim
 h7:lim≤1000
 bel:Go.Sort.Below ltI x y l.toArray
 per:permL x y l0 l
theorem PdH.len {n x y:Nat} {lim:Int} {l0 l:List Int} (h:PdH n x y lim l0 l):l.length=l0.length:=permL_len h.per
theorem PdH.step {n x y:Nat} {lim lim':Int} {l0 l m:List Int} (h:PdH n x y lim l0 l) (g:permL x y l m) (h6:0≤lim') (h7:lim'≤1000):PdH n x y lim' l0 m :=
 ⟨h.h1,h.h2,h.h3,h.h4,h.h5,h6,h7,h.bel.perm (by show y≤l.length;rw[h.len];exact h.h4) g,permL_trans h.per g⟩
def PdG (n x y:Nat) (l0:List Int) (K:Cont) (f:(St→Option Fin)→Option Fin):Prop :=
 (∀R,f R=K .ret (endP (srt x y l0))) ∨
 ∃(a' b' lim':Int) (wb' wp':Bool) (l':List Int),pdP (n+1) l' a' b' lim'=true∧(b'-a').toNat<y-x∧srt a'.toNat b'.toNat l'=srt x y l0∧∀R,f R=R (stP a' b' lim' wb' wp' l')
theorem pd3_ok {n x y p:Nat} {lim len:Int} {l0 l:List Int} (h:PdH n x y lim l0 l) (hp1:x≤p) (hp2:p<y) (wb wp:Bool) (K:Cont):PdG n x y l0 K fun R=>pd3 n l x y lim p wb wp len R:=by
 have hl:=h.len;have hb:y≤l.toArray.size:=by show y≤l.length;rw[hl];exact h.h4
 have hlen:y≤l.length:=hb;have k1:=h.h1;have k2:=h.h2;have k3:=h.h3;have k5:=h.h5;have k6:=h.h6;have k7:=h.h7;have w1:W64 ((x:Int)-1)=(x:Int)-1:=wrap_small (by omega) (by omega);have hP:parP l x y p=true:=parP_iff.2 (by omega);have i1:(bif decide (decide ((0:Int)<x)=true)then inb ((x:Int)-1) l.length else true)=true:=by
  by_cases g:(0:Int)<x
  ·rw[zT g,inb_ok (by omega) (by omega)];rfl
  ·rw[zF g];rfl
 have i2:(bif decide (decide ((0:Int)<x)=true)then inb (p:Int) l.length else true)=true:=by
  rw[inb_ok (by omega) (by omega)];cases decide (decide ((0:Int)<x)=true)<;>rfl
 have hz:srt x y l=srt x y l0:=srt_perm (by omega) h.h4 h.per
 cases hc:(bif decide ((0:Int)<x)then !ltI (l.getD ((x:Int)-1).toNat 0) (l.getD (p:Int).toNat 0)else false)
 ·right;obtain⟨mid,ap,d4,hx⟩:∃mid ap d4,Go.Sort.partition ltI l.toArray x y p=(mid,ap,d4):=⟨_,_,_,rfl⟩;obtain⟨g1,g2,g3,gA,gB,gL,gR⟩:=Go.Sort.round_part swo (Go.Sort.partition_holds ltI) hp1 hp2 hb h.bel hx;have e1:(parN l x y p).1=mid:=by rw[parN_fst];simp only[Int.toNat_natCast];rw[hx]
  have e2:(parN l x y p).2.2=d4.toList:=by rw[parN_lst];simp only[Int.toNat_natCast];rw[hx]
  have g3':d4.toList.length=l.length:=g3;have w2:W64 ((mid:Int)+1)=(mid:Int)+1:=wrap_small (by omega) (by omega)
  by_cases hlr:W64 ((mid:Int)-x)<W64 ((y:Int)-mid)
  ·obtain ⟨s1,s2⟩:=srt_spec (l:=d4.toList) g1 (by omega);obtain⟨t1,t2⟩:=gL _ s1 s2;have sl:=srt_len' (l:=d4.toList) g1 (by omega);have hq:pdP n d4.toList x mid lim=true:=pdP_iff.2 ⟨by omega,by omega,by omega,by omega,by omega,by omega,k6,k7,gA⟩;obtain⟨u1,u2⟩:=srt_spec (x:=mid+1) (y:=y) (l:=srt x mid d4.toList) (by omega) (by omega);obtain⟨v1,v2⟩:=t2 _ u1 u2;refine⟨(mid:Int)+1,y,lim,decide (W64 (len.tdiv 8)≤W64 ((mid:Int)-x)),(parN l x y p).2.1,srt x mid d4.toList,pdP_iff.2 ⟨by omega,by omega,by omega,by omega,by omega,by omega,k6,k7, ?_⟩,by omega, ?_,fun R => ?_⟩
   ·rw[show ((mid:Int)+1).toNat=mid+1 by omega];exact t1
   ·rw[show ((mid:Int)+1).toNat=mid+1 by omega,Int.toNat_natCast,← hz];exact srt_of (d':=(srt (mid+1) y (srt x mid d4.toList)).toArray) (by omega) hlen v1 v2
   ·unfold pd3;rw[w1,i1,i2,hc,hP,e1,e2,w2,zT hlr];simp only[Int.toNat_natCast];rw[hq];rfl
  ·obtain ⟨s1,s2⟩:=srt_spec (x:=mid+1) (y:=y) (l:=d4.toList) (by omega) (by omega);obtain⟨t1,t2⟩:=gR _ s1 s2;have sl:=srt_len' (x:=mid+1) (y:=y) (l:=d4.toList) (by omega) (by omega);have hq:pdP n d4.toList ((mid:Int)+1) y lim=true:=pdP_iff.2 ⟨by omega,by omega,by omega,by omega,by omega,by omega,k6,k7,by rw[show ((mid:Int)+1).toNat=mid+1 by omega];exact gB⟩;obtain⟨u1,u2⟩:=srt_spec (x:=x) (y:=mid) (l:=srt (mid+1) y d4.toList) (by omega) (by omega);obtain⟨v1,v2⟩:=t2 _ u1 u2;refine⟨x,mid,lim,decide (W64 (len.tdiv 8)≤W64 ((y:Int)-mid)),(parN l x y p).2.1,srt (mid+1) y d4.toList,pdP_iff.2 ⟨by omega,by omega,by omega,by omega,by omega,by omega,k6,k7,t1⟩,by omega, ?_,fun R => ?_⟩
   ·rw[Int.toNat_natCast,Int.toNat_natCast,← hz];exact srt_of (d':=(srt x mid (srt (mid+1) y d4.toList)).toArray) (by omega) hlen v1 v2
   ·unfold pd3;rw[w1,i1,i2,hc,hP,e1,e2,w2,zF hlr,hq,show ((mid:Int)+1).toNat=mid+1 by omega];simp only[Int.toNat_natCast];rfl
 ·right;have hx0:(0:Int)<x:=by
   by_cases g:(0:Int)<x
   ·exact g
   ·rw[zF g]at hc;cases hc
  have hnl:ltI l.toArray[x-1]! l.toArray[p]! = false:=by
   rw[zT hx0,show ((x:Int)-1).toNat=x-1 by omega,Int.toNat_natCast]at hc;rw[at_arr,at_arr]
   simpa using hc
  obtain⟨mid,d4,hx⟩:∃mid d4,Go.Sort.partitionEqual ltI l.toArray x y p=(mid,d4):=⟨_,_,rfl⟩;obtain⟨g1,g2,g3,gB,gF⟩:=Go.Sort.round_eq swo (Go.Sort.partitionEqual_holds ltI) (by omega) hp1 hp2 hb h.bel hnl hx;have e:parE l x y p=(mid,d4.toList):=by unfold parE;simp only[Int.toNat_natCast];rw[hx]
  have g3':d4.toList.length=l.length:=g3;obtain⟨u1,u2⟩:=srt_spec (x:=mid) (y:=y) (l:=d4.toList) (by omega) (by omega);obtain⟨v1,v2⟩:=gF _ u1 u2;refine⟨mid,y,lim,wb,wp,d4.toList,pdP_iff.2 ⟨by omega,by omega,by omega,by omega,by omega,by omega,k6,k7,gB⟩,by omega, ?_,fun R => ?_⟩
  ·rw[Int.toNat_natCast,Int.toNat_natCast,← hz];exact srt_of (d':=(srt mid y d4.toList).toArray) (by omega) hlen v1 v2
  ·unfold pd3;rw[w1,i1,i2,hc,hP,e];rfl
theorem PdH.brk {n x y:Nat} {lim:Int} {l0 l:List Int} (h:PdH n x y lim l0 l):brkP l x y=true:=by
 have hl:=h.len;have k1:=h.h1;have k2:=h.h2;have k4:=h.h4;have k5:=h.h5;unfold brkP;simp only[andd,dec_iff,ble_iff];omega
theorem pd2_ok {n x y:Nat} {lim len pv hint:Int} {l0 l:List Int} (h:PdH n x y lim l0 l) (hp1:(x:Int)≤pv) (hp2:pv<(y:Int)) (wb wp:Bool) (K:Cont):PdG n x y l0 K fun R=>pd2 n l x y lim pv hint wb wp len R K:=by
 obtain⟨p,rfl⟩:=Int.eq_ofNat_of_zero_le (show 0≤pv by omega);have key:=pd3_ok (len:=len) h (p:=p) (by omega) (by omega) wb wp K;unfold pd2
 cases (bif (bif wb then wp else false)then decide (hint=1)else false)
 ·exact key
 ·cases hs:isSrt l x y
  ·rcases key with key | ⟨a',b',lim',wb',wp',l',q1,q2,q3,q4⟩
   ·exact .inl fun R=>by show need (brkP l x y) _=_;rw[h.brk];exact key R
   ·exact .inr ⟨a',b',lim',wb',wp',l',q1,q2,q3,fun R=>by show need (brkP l x y) _=_;rw[h.brk];exact q4 R⟩
  ·left;intro R;have k1:=h.h1;have hl:=h.len;have k4:=h.h4;have hs':(scanN l y (x+1):Int)=y:=by
    unfold isSrt at hs
    simpa using hs
   have sp:=Go.Sort.scanSorted_spec swo x y l.toArray _ (x+1) rfl (by omega) (fun i j g1 g2 g3=>by omega);have hso:Go.Sort.SortedIn ltI x y l.toArray:=by
    have:Go.Sort.scanSorted ltI l.toArray y (x+1)=y:=by exact_mod_cast hs'
    rw[this]at sp;exact sp.2.2
   have e:l=srt x y l:=srt_of (d':=l.toArray) (by omega) (by omega) (Go.Sort.permIn_refl _ _ _) hso;have e2:srt x y l=srt x y l0:=srt_perm (by omega) h.h4 h.per;show need (brkP l x y) _=_;rw[h.brk,← e2,← e];rfl
theorem chM_in {n x y:Nat} {lim:Int} {l0 l:List Int} (h:PdH n x y lim l0 l):(x:Int)≤(chM l x y).1∧(chM l x y).1<(y:Int):=by
 have k1:=h.h1;have k4:=h.h4;have k5:=h.h5;have q:∀k:Int,0≤k→k≤3→(x:Int)≤chI x y k∧chI x y k<(y:Int):=fun k g1 g2=>by
  obtain⟨_,g3,g4⟩:=chI_eq (a:=(x:Int)) (b:=(y:Int)) (by omega) (by omega) (by omega) g1 g2;exact⟨g3,g4 (by omega)⟩
 exact med_in l _ _ _ 0 (fun z=>(x:Int)≤z∧z<(y:Int)) (q 1 (by omega) (by omega)) (q 2 (by omega) (by omega)) (q 3 (by omega) (by omega))
theorem pd1_ok {n x y:Nat} {lim len:Int} {l0 l:List Int} (h:PdH n x y lim l0 l) (wb wp:Bool) (K:Cont):PdG n x y l0 K fun R=>pd1 n l x y lim wb wp len R K:=by
 have hl:=h.len;have k1:=h.h1;have k2:=h.h2;have k4:=h.h4;have k5:=h.h5;obtain⟨c1,c2⟩:=chM_in h;have hr:revP l x y=true:=by
  show(decide (0≤(x:Int))&&(decide ((x:Int)<y)&&(decide ((y:Int)≤(length l:Int))&&Nat.ble (length l) 1000000)))=true;simp only[andd,dec_iff,ble_iff];omega
 have hrev:permL x y l (revV l x y):=by
  show Go.Sort.PermIn x y l.toArray (onL (fun d=>Go.Sort.reverseRange d (x:Int).toNat (y:Int).toNat) l).toArray;rw[onL_arr,Int.toNat_natCast,Int.toNat_natCast];exact Go.Sort.reverseRange_holds _ _ _ (by omega) (by show y≤l.length;omega)
 unfold pd1;simp only[h.brk,hr]
 generalize (chM l x y).1=p at *
 generalize hintV (chM l x y).2=t
 have w1:W64 ((y:Int)-1)=(y:Int)-1:=wrap_small (by omega) (by omega);have w2:W64 (p-x)=p-x:=wrap_small (by omega) (by omega);have w3:W64 ((y:Int)-1-(p-x))=(y:Int)-1-(p-x):=wrap_small (by omega) (by omega);rw[w1,w2,w3]
 by_cases hc:t=2
 ·rw[zT hc];exact pd2_ok (h.step hrev h.h6 h.h7) (by omega) (by omega) wb wp K
 ·rw[zF hc];exact pd2_ok h (by omega) (by omega) wb wp K
theorem r_pdq (n:Nat) (a b lim:Int) (wb wp:Bool) (l:List Int) (K:Cont) (hI:pdP (n+1) l a b lim=true) :
  (∀R,evC ((cb_pdq n).withLoops (look [])) (loopOf Tryz.f156 0) (stP a b lim wb wp l) (onward (headAt ((cb_pdq n).withLoops (look [])) 2) R K)=K .ret (endP (srt a.toNat b.toNat l))) ∨
  ∃(a' b' lim':Int) (wb' wp':Bool) (l':List Int),pdP (n+1) l' a' b' lim'=true∧(b'-a').toNat<(b-a).toNat∧K .ret (endP (srt a'.toNat b'.toNat l'))=K .ret (endP (srt a.toNat b.toNat l)) ∧
   ∀R,evC ((cb_pdq n).withLoops (look [])) (loopOf Tryz.f156 0) (stP a b lim wb wp l) (onward (headAt ((cb_pdq n).withLoops (look [])) 2) R K)=R (stP a' b' lim' wb' wp' l'):=by
 obtain⟨h0,h1,h2,h3,h4,h5,h6,h7,h8⟩:=pdP_iff.1 hI;obtain⟨x,rfl⟩:=Int.eq_ofNat_of_zero_le h0;obtain⟨y,rfl⟩:=Int.eq_ofNat_of_zero_le (Int.le_trans h0 h1);have hx:=fun R=>x_pdq n l x y lim wb wp R K;simp only[Int.toNat_natCast]at h8 hx ⊢;have w:W64 ((y:Int)-x)=(y:Int)-x:=wrap_small (by omega) (by omega);have hi:insP l x y=true:=by
  show(decide (0≤(x:Int))&&(decide ((x:Int)≤1000000)&&(decide ((y:Int)≤(length l:Int))&&Nat.ble (length l) 1000000)))=true;simp only[andd,dec_iff,ble_iff];omega
 have hh:heaP l x y=true:=by
  show(decide (0≤(x:Int))&&(decide ((x:Int)≤y)&&(decide ((y:Int)≤(length l:Int))&&Nat.ble (length l) 1000000)))=true;simp only[andd,dec_iff,ble_iff];omega
 rw[w,hi,hh]at hx
 by_cases c1:(y:Int)-x≤12
 ·left;intro R;refine(hx R).trans ?_;rw[zT c1];rfl
 ·simp only[zF c1,branch_false]at hx
  by_cases c2:lim=0
  ·left;intro R;refine(hx R).trans ?_;rw[zT c2];rfl
  ·simp only[zF c2,branch_false]at hx;have H:PdH n x y lim l l:=⟨by omega,by omega,by omega,by omega,h3,h6,h7,h8,permL_refl _ _ _⟩;have G:∃f,PdG n x y l K f∧∀R,evC ((cb_pdq n).withLoops (look [])) (loopOf Tryz.f156 0) (stP x y lim wb wp l) (onward (headAt ((cb_pdq n).withLoops (look [])) 2) R K)=f R:=by
    cases wb
    ·have hb:=brk_perm H.brk;simp only[Int.toNat_natCast]at hb;have w2:W64 (lim-1)=lim-1:=wrap_small (by omega) (by omega);refine⟨_,pd1_ok (lim:=lim-1) (len:=(y:Int)-x) (H.step hb (by omega) (by omega)) false wp K,fun R=>(hx R).trans ?_⟩;rw[H.brk,w2];rfl
    ·exact ⟨_,pd1_ok (len:=(y:Int)-x) H true wp K,fun R=>(hx R).trans rfl⟩
   obtain⟨f,G,hf⟩:=G;rcases G with G | ⟨a',b',lim',wb',wp',l',q1,q2,q3,q4⟩
   ·exact .inl fun R=>(hf R).trans (G R)
   ·exact .inr ⟨a',b',lim',wb',wp',l',q1,by omega,by rw[q3],fun R=>(hf R).trans (q4 R)⟩
def sh_pdq:Sh:=([(0, .own 0),(1, .d TI64),(2, .d TI64),(3, .d TI64),(8, .d .bool),(9, .d .bool)],[(0, .lis 5 TU8)])
def g_pdq (n:Nat):St→Cont→Option Fin:=gP sh_pdq (fun v=>match v with | ((a,b,lim,_wb,_wp,()),(l,()))=>pdP (n+1) l a b lim) (fun v K=>match v with | ((a,b,_lim,_wb,_wp,()),(l,()))=>K .ret (endP (srt (Int.toNat a) (Int.toNat b) l)))
def L_pdq (n:Nat):List (Nat×(St→Cont→Option Fin)):=(2,g_pdq n)::[]
def cx_pdq (n:Nat):Cx:=(cb_pdq n).withLoops (look (L_pdq n))
theorem l_pdq (n:Nat):∀st K r,g_pdq n st K=some r→∃N,iter (evC (cx_pdq n) (loopOf Tryz.f156 0)) (headAt (cx_pdq n) 2) N st K=some r :=
 with_drop (n:=1) (L:=L_pdq n) (m:=[]) (cb:=cb_pdq n) rfl (by kernel_rfl) (gP_ok (fun v=>match v with | ((a,b,_lim,_wb,_wp,()),(_l,()))=>((show Int from b)-(show Int from a)).toNat) fun v K hI=>by
  obtain⟨⟨(a:Int),(b:Int),(lim:Int),(wb:Bool),(wp:Bool),⟨⟩⟩,⟨(l:List Int),⟨⟩⟩⟩:=v;rcases r_pdq n a b lim wb wp l K hI with h1 | ⟨a',b',lim',wb',wp',l',h1,h2,h3,h4⟩
  ·exact .inl h1
  ·exact .inr ⟨((a',b',lim',wb',wp',()),(l',())),h1,h2,h3,h4⟩)
theorem y_pdq (n:Nat) (l:List Int) (a b lim:Int):evFn (cx_pdq n) Tryz.f156 false [.one (.own 0),ofD TI64 a,ofD TI64 b,ofD TI64 lim] [.lis 5 TU8 l]=need (pdP (n+1) l a b lim) (some (.tup [],[(0,some (.lis 5 TU8 (srt a.toNat b.toNat l)))])):=by kernel_rfl
theorem k_pdq:∀n,ConOk Tryz.prog 156 (c_pdq n)
 |0=>conL_ok rfl Tryz.call156 fun l hl a ha b hb lim hlim hqq=>by
  obtain⟨_,h1,_,_,_,h5,_⟩:=pdP_iff.1 (pre_of hqq);omega
 |n+1=>conL_ok rfl Tryz.call156 fun l hl a ha b hb lim hlim hqq =>
  fn_sound (cx:=cx_pdq n) Tryz.func156 rfl ttOk (.cons (k_pdq n) Γ37ok) mixed (fun c hc=>LoopsOk.all (l:=[(2,loopOf Tryz.f156 0)]) (by cases hc;kernel_rfl) ⟨atLoop rfl (l_pdq n),trivial⟩) (ro:=false) (by
   have hp:pdP (n+1) l a b lim=true:=pre_of hqq;exact(y_pdq n l a b lim).trans (by rw[hp];rfl))
def c_slices_pdqsortOrdered_byte:Con:=c_pdq 50
theorem k_slices_pdqsortOrdered_byte:ConOk Tryz.prog 156 c_slices_pdqsortOrdered_byte:=k_pdq 50
def Γ38:GL:=(156,c_slices_pdqsortOrdered_byte)::Γ37
theorem Γ38ok:GO Γ38 := .cons k_slices_pdqsortOrdered_byte Γ37ok
theorem y_slices_Sort_byte_byte (l:List Int) :evFn (cxOf Γ38 Tryz.f133.ntmps [] [] [] []) Tryz.f133 false [.one (.own 0)] [.lis 5 TU8 l]=(
need (decide (0≤IntKind.u64.wrap (l.length:Int))&&decide (IntKind.u64.wrap (l.length:Int)<64)) <|
need (pdP 50 l 0 ((l.length:Int)) (lenV (IntKind.u64.wrap (l.length:Int)))) <| some ((.tup []),[(0,(.some (.lis 5 TU8 (srt ((0:Int).toNat) ((l.length:Int)).toNat l))))])):=by kernel_rfl
abbrev sortL (l:List Int):List Int:=srt 0 l.length l
theorem s_slices_Sort_byte_byte (l:List (Int)) (_hl:Fit (.list TU8) l)  (hpre:(Nat.blt (length l) 50)=true):Sat Tryz.prog 133 [.one (.own 0)] [.lis 5 TU8 l] (.tup []) [(0,some (.lis 5 TU8 (sortL l)))] :=
 fn_sound (cx:=cxOf Γ38 Tryz.f133.ntmps [] [] [] []) Tryz.func133 rfl ttOk Γ38ok mixed (fun _ _=>LoopsOk.no fun _=>rfl) (ro:=false) (by
  have h:l.length<50:=Nat.le_of_ble_eq_true hpre;have w:IntKind.u64.wrap (l.length:Int)=(l.length:Int):=by simp only[IntKind.wrap,IntKind.bits,IntKind.signed];simp;omega
  have hlt:=(len_tab l.length (by omega)).1;have hb:lenV (l.length:Int)≤64:=by
   have key:∀m:_root_.Fin 64,lenV ((m:Nat):Int)≤64:=by decide +kernel
   exact key ⟨l.length,by omega⟩
  have hp:pdP 50 l 0 (l.length:Int) (lenV (l.length:Int))=true:=pdP_iff.2 ⟨by omega,by omega,by omega,by omega,by omega,by omega,by omega,by omega,Or.inl rfl⟩;rw[y_slices_Sort_byte_byte,w,zT (by omega:(0:Int)≤(l.length:Int)),zT (by omega:(l.length:Int)<64),hp];rfl)
def c_slices_Sort_byte_byte:Con:=conL 5 TU8 [] fun(l:List (Int))=>(some (Nat.blt (length l) 50), .tup [],sortL l)
theorem k_slices_Sort_byte_byte:ConOk Tryz.prog 133 c_slices_Sort_byte_byte:=conL_ok rfl Tryz.call133 fun l hl  hqq=>s_slices_Sort_byte_byte l hl  (pre_of hqq)
def Γ39:GL:=(133,c_slices_Sort_byte_byte)::Γ38
theorem Γ39ok:GO Γ39 := .cons k_slices_Sort_byte_byte Γ38ok
theorem ext_all {xs:Array Int} {n:Nat} (h:xs.size=n):xs.extract 0 n=xs:=by subst h;exact Array.extract_size
theorem sortL_perm (l:List Int):(sortL l).Perm l:=by
 obtain⟨h1,_⟩:=srt_spec (x:=0) (y:=l.length) (l:=l) (Nat.zero_le _) (Nat.le_refl _);have h:=h1.2.2;rw[ext_all (n:=l.length) h1.1,ext_all (n:=l.length) rfl]at h;exact h
theorem sortL_sorted (l:List Int):(sortL l).Pairwise (· ≤ ·):=by
 obtain⟨h1,h2⟩:=srt_spec (x:=0) (y:=l.length) (l:=l) (Nat.zero_le _) (Nat.le_refl _);have hs:(sortL l).length=l.length:=srt_len' (Nat.zero_le _) (Nat.le_refl _);rw[List.pairwise_iff_getElem];intro i j hi hj hij;have:=h2 i j (Nat.zero_le _) hij (by omega);rw[at_arr,at_arr,getD_at hi,getD_at hj]at this;have:=of_decide_eq_false this;omega
theorem sortL_len (l:List Int):(sortL l).length=l.length:=srt_len' (Nat.zero_le _) (Nat.le_refl _)
set_option maxHeartbeats 1000000
theorem sat_move {P:Program} {f:FuncId} {ds:List D} {o0:Obj} {t:TypeId} {e:Ty} {l:List (Den e)} (S:Sat P f ds [o0] (.d (.one (.own 0))) [(0,some (.lis t e l))]) :
  Sat P f ds [o0] (.d (.one (.own 1000))) [(1000,some (.lis t e l)),(0,none)]:=by
 intro w F β args H hds;refine(S w F β args H hds).mono ?_;rintro ex w' ⟨v,F',β',r1,r2,r3,r4,r5,r6⟩;have h0:look [(0,some (Obj.lis t e l))] 0=some (some (.lis t e l)):=rfl;obtain⟨H1,_⟩:=r2.kill 0;rw[setB_self]at H1;have hs1:setH (look [(0,some (Obj.lis t e l))]) 0 none 1000=none:=rfl;have hone:∀b j o',j≠1000→setH (look [(0,some (Obj.lis t e l))]) 0 none j=some (some o')→¬Blk (β' j) b:=by
  intro b j o' _ hj
  cases j with
  |zero=>cases hj
  |succ j=>cases hj
 have T:=H1.turn (w':=w') (F':=F') 1000 (some (.lis t e l)) (β' 0) rfl rfl rfl (Nat.le_refl _) (fun b=>Blk (β' 0) b)
  (fun b hb=>⟨r2.notF 0 _ b h0 hb,hone b,r2.fromO 0 _ b h0 hb⟩)
  (fun _ _ _=>rfl) (fun _ hf=>hf) (fun _ hf => .inl hf) (fun q0 _ h0=>by rw[hs1]at h0;cases h0)
  (fun _ ob hob=>by
   cases hob
   refine⟨RepO.leaf.2 ?_,fun b hb => .inl hb⟩;have:=RepO.leaf.1 (r2.obj 0 _ h0)
   simpa [setB]using this)
 have hcomm:setH (setH (look [(0,some (Obj.lis t e l))]) 0 none) 1000 (some (.lis t e l))=look [(1000,some (Obj.lis t e l)),(0,none)]:=by
  funext j
  simp only[setH,look]
  by_cases h1:j=1000
  ·subst h1;rfl
  ·by_cases h2:j=0
   ·subst h2;rfl
   ·rw[if_neg h1,if_neg h2];have e1:Nat.beq 0 j=false:=by cases h:Nat.beq 0 j with | false=>rfl | true=>exact absurd (zB h).symm h2
    have e2:Nat.beq 1000 j=false:=by cases h:Nat.beq 1000 j with | false=>rfl | true=>exact absurd (zB h).symm h1
    rw[e1,e2];rfl
 rw[hcomm]at T;have hv:v=β' 0:=r6.2.2 _ h0;refine⟨v,F',_,r1,T.1,fun i hi => ?_,fun i o hi ho => ?_,fun _ _ _=>by simp, ?_⟩
 ·have:i=0:=by simpa using hi
  subst this;exact ⟨none,rfl⟩
 ·have:i=0:=by simpa using hi
  subst this;cases ho
 ·exact ⟨r6.1,⟨_,rfl⟩,fun o ho=>by rw[hv];simp[setB]⟩
def cb_cpt:Cx:=cxOf Γ39 Tryz.f135.ntmps [(9,[0,3,4,5]),(4,[0,3])] [(0,[0]),(1,[0,3]),(2,[0,3]),(3,[0,3,4,5]),(1000000,[2])] [] []
theorem x_cptIn (l:List Int) (k j:Int) (w:Nat) (R:St→Option Fin) (K:Cont):evC (cb_cpt.withLoops (look [])) (loopOf Tryz.f135 1) ⟨[(0, .d (.one (.own 0))),(3,vI k),(4, .d (.one (.win 0 1 w))),(5,vI j)],[(0,some (.lis 5 TU8 l))]⟩ (onward (headAt (cb_cpt.withLoops (look [])) 9) R K)=(
branch (decide (j<((l.length-w:Nat):Int))) (
 need (inb j (l.length-w)) <|
 need (inb (W64 (j-1)) (l.length-w)) <|
 branch (!decide (l.getD (w+j.toNat) 0=l.getD (w+(W64 (j-1)).toNat) 0)) (
 need (inb j (l.length-w)) <|
 need (inb k l.length) <| R ⟨[(0, .d (.one (.own 0))),(3,vI (W64 (k+1))),(4, .d (.one (.win 0 1 w))),(5,vI (W64 (j+1)))],[(0,some (.lis 5 TU8 (l.set k.toNat (l.getD (w+j.toNat) 0))))]⟩)
 (R ⟨[(0, .d (.one (.own 0))),(3,vI k),(4, .d (.one (.win 0 1 w))),(5,vI (W64 (j+1)))],[(0,some (.lis 5 TU8 l))]⟩))
 (K (.exit 2) ⟨[(0, .d (.one (.own 0))),(3,vI k)],[(0,some (.lis 5 TU8 l))]⟩)):=by kernel_rfl
def cpL:Nat→List Int→Nat→Nat→List Int×Nat
 |0,l,k,_=>(l,k)
 |m+1,l,k,p=>bif decide (l.getD p 0=l.getD (p-1) 0)then cpL m l k (p+1)else cpL m (l.set k (l.getD p 0)) (k+1) (p+1)
def cx0_cptIn:Cx:=(cb_cpt).withLoops (look [])
def sh_cptIn:Sh:=([(0, .own 0),(3, .d TI64),(4, .win 0 1),(5, .d TI64)],[(0, .lis 5 TU8)])
abbrev st_cptIn (k:Int) (w:Nat) (j:Int) (l:List (Int)):St:=⟨[(0, .d (.one (.own 0))),(3,vI k),(4, .d (.one (.win 0 1 w))),(5,vI j)],[(0,some (.lis 5 TU8 l))]⟩
def pre_cptIn (k:Int) (w:Nat) (j:Int) (l:List (Int)):Bool:=decide (0≤k)&&(decide (1≤j)&&(decide (k<(w:Int)+j)&&(decide (j≤1000001)&&(Nat.ble w (length l)&&Nat.ble (length l) 1000000))))
def res_cptIn (k:Int) (w:Nat) (j:Int) (l:List (Int)) (K:Cont):Option Fin:=K (.exit 2) ⟨[(0, .d (.one (.own 0))),(3,vI ((cpL (l.length-(w+j.toNat)) l k.toNat (w+j.toNat)).2:Nat))],[(0,some (.lis 5 TU8 (cpL (l.length-(w+j.toNat)) l k.toNat (w+j.toNat)).1))]⟩
def mu_cptIn (_k:Int) (w:Nat) (j:Int) (l:List (Int)):Nat:=l.length-(w+j.toNat)
theorem r_cptIn (k:Int) (w:Nat) (j:Int) (l:List (Int)) (K:Cont) (hI:pre_cptIn k w j l=true):(∀R:St→Option Fin,evC cx0_cptIn (loopOf Tryz.f135 1) (st_cptIn k w j l) (onward (headAt cx0_cptIn 9) R K)=res_cptIn k w j l K) ∨
  (∃(k':Int) (w':Nat) (j':Int) (l':List (Int)),pre_cptIn k' w' j' l'=true∧mu_cptIn k' w' j' l'<mu_cptIn k w j l∧res_cptIn k' w' j' l' K=res_cptIn k w j l K∧∀R:St→Option Fin,evC cx0_cptIn (loopOf Tryz.f135 1) (st_cptIn k w j l) (onward (headAt cx0_cptIn 9) R K)=R (st_cptIn k' w' j' l')):=by
 have hx:=fun R=>x_cptIn l k j w R K;simp only[pre_cptIn,andd,dec_iff,ble_iff]at hI;obtain⟨h0,h1,h2,h3,h4,h5⟩:=hI;have w1:W64 (j-1)=j-1:=wrap_small (by omega) (by omega);have w2:W64 (j+1)=j+1:=wrap_small (by omega) (by omega);have t1:w+(j-1).toNat=w+j.toNat-1:=by omega
 have t2:w+(j+1).toNat=w+j.toNat+1:=by omega
 rw[w1,w2,t1]at hx
 by_cases hi:j<((l.length-w:Nat):Int)
 ·have b1:inb j (l.length-w)=true:=inb_ok (by omega) hi;have b2:inb (j-1) (l.length-w)=true:=inb_ok (by omega) (by omega);have b3:inb k l.length=true:=inb_ok (by omega) (by omega);have w3:W64 (k+1)=k+1:=wrap_small (by omega) (by omega);obtain⟨m,hm⟩:∃m,l.length-(w+j.toNat)=m+1:=⟨l.length-(w+j.toNat)-1,by omega⟩;have hm':l.length-(w+j.toNat+1)=m:=by omega
  simp only[hi,decide_true,b1,b2,b3,w3]at hx;right
  cases hc:decide (l.getD (w+j.toNat) 0=l.getD (w+j.toNat-1) 0)
  ·refine ⟨k+1,w,j+1,l.set k.toNat (l.getD (w+j.toNat) 0), ?_, ?_, ?_,fun R=>(hx R).trans ?_⟩
   ·simp only[pre_cptIn,andd,dec_iff,ble_iff,length_set];omega
   ·simp only[mu_cptIn,length_set];omega
   ·simp only[res_cptIn,length_set,t2,hm,hm',show (k+1).toNat=k.toNat+1 by omega,cpL,hc];rfl
   ·rw[hc];rfl
  ·refine ⟨k,w,j+1,l, ?_, ?_, ?_,fun R=>(hx R).trans ?_⟩
   ·simp only[pre_cptIn,andd,dec_iff,ble_iff];omega
   ·simp only[mu_cptIn];omega
   ·simp only[res_cptIn,t2,hm,hm',cpL,hc];rfl
   ·rw[hc];rfl
 ·left;intro R;refine(hx R).trans ?_;simp only[hi,decide_false,res_cptIn,show l.length-(w+j.toNat)=0 by omega,cpL,Int.toNat_of_nonneg h0];rfl
def g_cptIn:St→Cont→Option Fin:=gP sh_cptIn (fun v=>match v with | ((k,w,j,()),(l,()))=>pre_cptIn k w j l) (fun v K=>match v with | ((k,w,j,()),(l,()))=>res_cptIn k w j l K)
def L_cptIn:LpL:=(9,g_cptIn)::[]
def cx_cptIn:Cx:=(cb_cpt).withLoops (look L_cptIn)
theorem l_cptIn {L:LpL} (n:Nat) (h1:L.drop n=[]) (h2:idsFree (L.take n) (loopOf Tryz.f135 1)=true):LoopsTo g_cptIn (cb_cpt) (loopOf Tryz.f135 1) 9 L :=
 with_drop h1 h2 (gP_ok (fun v=>match v with | ((k,w,j,()),(l,()))=>mu_cptIn k w j l) fun v K hI=>by
  obtain⟨⟨k,w,j,⟨⟩⟩,⟨l,⟨⟩⟩⟩:=v;exact(r_cptIn k w j l K hI).imp id fun⟨k',w',j',l',h⟩=>⟨((k',w',j',()),(l',())),h⟩)
abbrev cpE (l:List Int) (k:Nat):List Int×Nat:=cpL (l.length-(k+1)) l k (k+1)
abbrev cpO (l:List Int) (k:Nat):List Int:=List.take (cpE l k).2 (clrL (e:=TU8) (cpE l k).1 (cpE l k).2)
theorem cpL_len:∀(m:Nat) (l:List Int) (k p:Nat),(cpL m l k p).1.length=l.length∧k≤(cpL m l k p).2∧(cpL m l k p).2≤k+m
 |0,l,k,p=>⟨rfl,Nat.le_refl _,Nat.le_refl _⟩
 |m+1,l,k,p=>by
  unfold cpL
  cases decide (l.getD p 0=l.getD (p-1) 0)
  ·obtain ⟨h1,h2,h3⟩:=cpL_len m (l.set k (l.getD p 0)) (k+1) (p+1);rw[length_set]at h1;simp only[cond_false];omega
  ·obtain ⟨h1,h2,h3⟩:=cpL_len m l k (p+1);simp only[cond_true];omega
theorem clr_len {l:List Int} {k:Nat} (h:k≤l.length):length (clrL (e:=TU8) l k)=l.length:=by
 show length (List.take k l++replicate (l.length-k) (0:Int))=_;rw[length_append,length_take,length_replicate];omega
theorem x_cptOut (l:List Int) (k:Int) (R:St→Option Fin) (K:Cont):evC cx_cptIn (loopOf Tryz.f135 0) ⟨[(0, .d (.one (.own 0))),(3,vI k)],[(0,some (.lis 5 TU8 l))]⟩ (onward (headAt cx_cptIn 4) R K)=(
branch (decide (k<(l.length:Int))) (
 need (inb k l.length) <|
 need (inb (W64 (k-1)) l.length) <|
 branch (decide (l.getD k.toNat 0=l.getD (W64 (k-1)).toNat 0)) (
 need (inr k (l.length:Int) l.length&&Nat.blt 0 l.length) <|
 need (pre_cptIn k k.toNat 1 l) <|
 need (inr ((cpE l k.toNat).2:Nat) ((cpE l k.toNat).1.length:Int) (cpE l k.toNat).1.length&&Nat.blt 0 (cpE l k.toNat).1.length) <|
 need (Nat.blt (cpE l k.toNat).2 (cpE l k.toNat).1.length) <|
 need (inr 0 ((cpE l k.toNat).2:Nat) (clrL (e:=TU8) (cpE l k.toNat).1 (cpE l k.toNat).2).length) <|
 K .ret ⟨[(2, ko0)],[(500000,some (.lis 5 TU8 (cpO l k.toNat)))]⟩)
 (R ⟨[(0, .d (.one (.own 0))),(3,vI (W64 (k+1)))],[(0,some (.lis 5 TU8 l))]⟩))
 (K (.exit 0) ⟨[(0, .d (.one (.own 0)))],[(0,some (.lis 5 TU8 l))]⟩)):=by kernel_rfl
def dupF (l:List Int):Nat→Nat→Option Nat
 |0,_=>none
 |m+1,k=>bif decide (l.getD k 0=l.getD (k-1) 0)then some k else dupF l m (k+1)
def cpRes (l:List Int) (K:Cont):Option Nat→Option Fin
 |some q=>K .ret ⟨[(2, ko0)],[(500000,some (.lis 5 TU8 (cpO l q)))]⟩
 |none=>K (.exit 0) ⟨[(0, .d (.one (.own 0)))],[(0,some (.lis 5 TU8 l))]⟩
def cx0_cptOut:Cx:=(cb_cpt).withLoops (look L_cptIn)
def sh_cptOut:Sh:=([(0, .own 0),(3, .d TI64)],[(0, .lis 5 TU8)])
abbrev st_cptOut (k:Int) (l:List (Int)):St:=⟨[(0, .d (.one (.own 0))),(3,vI k)],[(0,some (.lis 5 TU8 l))]⟩
def pre_cptOut (k:Int) (l:List (Int)):Bool:=decide (1≤k)&&(decide (k≤1000001)&&Nat.ble (length l) 1000000)
def res_cptOut (k:Int) (l:List (Int)) (K:Cont):Option Fin:=cpRes l K (dupF l (l.length-k.toNat) k.toNat)
def mu_cptOut (k:Int) (l:List (Int)):Nat:=l.length-k.toNat
theorem r_cptOut (k:Int) (l:List (Int)) (K:Cont) (hI:pre_cptOut k l=true):(∀R:St→Option Fin,evC cx0_cptOut (loopOf Tryz.f135 0) (st_cptOut k l) (onward (headAt cx0_cptOut 4) R K)=res_cptOut k l K) ∨
  (∃(k':Int) (l':List (Int)),pre_cptOut k' l'=true∧mu_cptOut k' l'<mu_cptOut k l∧res_cptOut k' l' K=res_cptOut k l K∧∀R:St→Option Fin,evC cx0_cptOut (loopOf Tryz.f135 0) (st_cptOut k l) (onward (headAt cx0_cptOut 4) R K)=R (st_cptOut k' l')):=by
 have hx:=fun R=>x_cptOut l k R K;simp only[pre_cptOut,andd,dec_iff,ble_iff]at hI;obtain⟨h0,h1,h2⟩:=hI;obtain⟨q,rfl⟩:=Int.eq_ofNat_of_zero_le (show 0≤k by omega);have w1:W64 ((q:Int)-1)=(q:Int)-1:=wrap_small (by omega) (by omega);have t1:((q:Int)-1).toNat=q-1:=by omega
 simp only[w1,t1,Int.toNat_natCast]at hx
 by_cases hi:q<l.length
 ·have b1:inb (q:Int) l.length=true:=inb_ok (by omega) (by omega);have b2:inb ((q:Int)-1) l.length=true:=inb_ok (by omega) (by omega);obtain⟨m,hm⟩:∃m,l.length-q=m+1:=⟨l.length-q-1,by omega⟩;simp only[show (q:Int)<(l.length:Int)by omega,decide_true,b1,b2]at hx
  cases hc:decide (l.getD q 0=l.getD (q-1) 0)
  ·right;have w2:W64 ((q:Int)+1)=(q:Int)+1:=wrap_small (by omega) (by omega);refine⟨(q:Int)+1,l, ?_, ?_, ?_,fun R=>(hx R).trans ?_⟩
   ·simp only[pre_cptOut,andd,dec_iff,ble_iff];omega
   ·simp only[mu_cptOut];omega
   ·simp only[res_cptOut,Int.toNat_natCast,show ((q:Int)+1).toNat=q+1 by omega,hm,show l.length-(q+1)=m by omega,dupF,hc];rfl
   ·rw[hc,w2];rfl
  ·left;intro R;obtain⟨c1,c2,c3⟩:(cpE l q).1.length=l.length∧q≤(cpE l q).2∧(cpE l q).2≤q+(l.length-(q+1)):=cpL_len _ _ _ _;have p1:(inr (q:Int) (l.length:Int) l.length&&Nat.blt 0 l.length)=true:=andd.2 ⟨inr_iff.2 (by omega),Nat.ble_eq_true_of_le (by omega)⟩;have p2:pre_cptIn (q:Int) q 1 l=true:=by simp only[pre_cptIn,andd,dec_iff,ble_iff];omega
   have p3:(inr ((cpE l q).2:Nat) ((cpE l q).1.length:Int) (cpE l q).1.length&&Nat.blt 0 (cpE l q).1.length)=true:=andd.2 ⟨inr_iff.2 (by omega),Nat.ble_eq_true_of_le (by omega)⟩;have p4:Nat.blt (cpE l q).2 (cpE l q).1.length=true:=Nat.ble_eq_true_of_le (by omega);have p5:inr 0 ((cpE l q).2:Nat) (clrL (e:=TU8) (cpE l q).1 (cpE l q).2).length=true:=by
    refine inr_iff.2 ?_;rw[clr_len (by omega)];omega
   refine(hx R).trans ?_;rw[hc,p1,p2,p3,p4,p5];simp only[res_cptOut,Int.toNat_natCast,hm,dupF,hc];rfl
 ·left;intro R;refine(hx R).trans ?_;simp only[show ¬(q:Int)<(l.length:Int)by omega,decide_false,res_cptOut,Int.toNat_natCast,show l.length-q=0 by omega,dupF];rfl
def g_cptOut:St→Cont→Option Fin:=gP sh_cptOut (fun v=>match v with | ((k,()),(l,()))=>pre_cptOut k l) (fun v K=>match v with | ((k,()),(l,()))=>res_cptOut k l K)
def L_cptOut:LpL:=(4,g_cptOut)::L_cptIn
def cx_cptOut:Cx:=(cb_cpt).withLoops (look L_cptOut)
theorem l_cptOut {L:LpL} (n:Nat) (h1:L.drop n=L_cptIn) (h2:idsFree (L.take n) (loopOf Tryz.f135 0)=true):LoopsTo g_cptOut (cb_cpt) (loopOf Tryz.f135 0) 4 L :=
 with_drop h1 h2 (gP_ok (fun v=>match v with | ((k,()),(l,()))=>mu_cptOut k l) fun v K hI=>by
  obtain⟨⟨k,⟨⟩⟩,⟨l,⟨⟩⟩⟩:=v;exact(r_cptOut k l K hI).imp id fun⟨k',l',h⟩=>⟨((k',()),(l',())),h⟩)
def cpFin (l:List Int):Option Nat→Option Fin
 |some q=>some (.d (.one (.own 1000)),[(1000,some (.lis 5 TU8 (cpO l q))),(0,none)])
 |none=>some (.d (.one (.own 0)),[(0,some (.lis 5 TU8 l))])
theorem y_Compact (l:List Int):evFn cx_cptOut Tryz.f135 false [.one (.own 0)] [.lis 5 TU8 l]=(
branch (decide ((l.length:Int)<2)) (some (.d (.one (.own 0)),[(0,some (.lis 5 TU8 l))])) (
 need (pre_cptOut 1 l) <| cpFin l (dupF l (l.length-1) 1))):=by kernel_rfl
def cptV (l:List Int):List Int:=bif decide ((l.length:Int)<2)then l else match dupF l (l.length-1) 1 with
 |some q=>cpO l q
 |none=>l
def conLN (t:TypeId) (s:Ty) (ts:List Ty) (G:List (Den s)→Fn ts (Option Bool×List (Den s))):Con:=⟨false,fun ds os=>match ds,os with
 | .one (.own 0)::ds,[o]=>match exLis t s (some o)with
  |some l=>match applyD ts (G l) ds with
   |some (c,m)=>some (c, .d (.one (.own 1000)),[(1000,some (.lis t s m)),(0,none)])
   |none=>none
  |none=>none
 |_,_=>none⟩
theorem conLN_ok {P:Program} {f:FuncId} {t:TypeId} {s:Ty} {ts:List Ty} {G:List (Den s)→Fn ts (Option Bool×List (Den s))} (hs:tyFlat s=true) (hin:∀args w,(callFunc f args).run P w = .ok (.enter f args) w)
  (he:∀l,Fit (.list s) l→EachF ts (G l) fun ds r=>(r.1=none∨r.1=some true)→Sat P f (.one (.own 0)::ds) [.lis t s l] (.d (.one (.own 1000))) [(1000,some (.lis t s r.2)),(0,none)]):ConOk P f (conLN t s ts G):=by
 refine⟨hin,fun ds os c x objs hc hok => ?_⟩;simp only[conLN]at hc
 split at hc
 ·rename_i ds o
  split at hc
  ·rename_i l e2;have e2:=Option.some.inj (exLis_some e2);subst e2
   split at hc
   ·rename_i c' m hap
    cases hc
    refine lis_fit hs fun hf => ?_;intro w F β args H hds
    cases hds with
    |cons g1 g2 =>
     obtain⟨ds',q1,q2⟩:=each_of (he l hf) hap g2;exact q1 hok w F β _ H (.cons g1 q2)
   ·cases hc
  ·cases hc
 ·cases hc
theorem s_Compact (l:List Int) (h:l.length≤1000000):Sat Tryz.prog 135 [.one (.own 0)] [.lis 5 TU8 l] (.d (.one (.own 1000))) [(1000,some (.lis 5 TU8 (cptV l))),(0,none)]:=by
 have snd:∀ {x:T} {objs:Heap},evFn cx_cptOut Tryz.f135 false [.one (.own 0)] [.lis 5 TU8 l]=some (x,objs)→Sat Tryz.prog 135 [.one (.own 0)] [.lis 5 TU8 l] x objs:=fun he =>
  fn_sound (cx:=cx_cptOut) Tryz.func135 rfl ttOk Γ39ok mixed (fun c hc=>LoopsOk.all (l:=[(4,loopOf Tryz.f135 0),(9,loopOf Tryz.f135 1)]) (by cases hc;kernel_rfl) ⟨atLoop rfl (l_cptOut 1 rfl (by kernel_rfl)),atLoop rfl (l_cptIn 2 rfl (by kernel_rfl)),trivial⟩) (ro:=false) he
 have y:=y_Compact l;have hp:pre_cptOut 1 l=true:=by simp only[pre_cptOut,andd,dec_iff,ble_iff];omega
 rw[hp]at y;unfold cptV
 by_cases hl:(l.length:Int)<2
 ·rw[zT hl]at y ⊢;exact sat_move (snd y)
 ·rw[zF hl]at y ⊢
  cases hd:dupF l (l.length-1) 1 with
  |none=>rw[hd]at y;exact sat_move (snd y)
  |some q=>rw[hd]at y;exact snd y
def c_slices_Compact_byte_byte:Con:=conLN 5 TU8 [] fun(l:List Int)=>(some (Nat.ble (length l) 1000000),cptV l)
theorem k_slices_Compact_byte_byte:ConOk Tryz.prog 135 c_slices_Compact_byte_byte:=conLN_ok rfl Tryz.call135 fun l _ hqq=>s_Compact l (Nat.le_of_ble_eq_true (pre_of hqq))
def Γ40:GL:=(135,c_slices_Compact_byte_byte)::Γ39
theorem Γ40ok:GO Γ40 := .cons k_slices_Compact_byte_byte Γ39ok
def dd:Int→List Int→List Int
 |_,[]=>[]
 |a,x::l=>bif decide (x=a)then dd a l else x::dd x l
theorem drop_at {l:List Int} {p:Nat} (h:p<l.length):l.drop p=l.getD p 0::l.drop (p+1):=by
 rw[drop_eq_getElem_cons h,getD_at h]
theorem cpL_dd:∀(m:Nat) (l:List Int) (k p:Nat),k<p→p+m=l.length→(cpL m l k p).1.take (cpL m l k p).2=l.take k++dd (l.getD (p-1) 0) (l.drop p)
 |0,l,k,p,h1,h2=>by
  rw[drop_eq_nil_of_le (by omega)];show l.take k=_;simp[dd]
 |m+1,l,k,p,h1,h2=>by
  rw[drop_at (show p<l.length by omega)];unfold cpL dd
  cases hc:decide (l.getD p 0=l.getD (p-1) 0)
  ·simp only[cond_false];rw[cpL_dd m (l.set k (l.getD p 0)) (k+1) (p+1) (by omega) (by rw[length_set];omega)];have e1:(l.set k (l.getD p 0)).getD (p+1-1) 0=l.getD p 0:=by
    rw[zG,List.getElem?_set_ne (by omega),← zG];rfl
   have e2:(l.set k (l.getD p 0)).drop (p+1)=l.drop (p+1):=List.drop_set_of_lt (by omega);have e3:(l.set k (l.getD p 0)).take (k+1)=l.take k++[l.getD p 0]:=by
    rw[List.take_succ_eq_append_getElem (by rw[length_set];omega),List.take_set_of_le (Nat.le_refl _)];simp
   rw[e1,e2,e3];simp
  ·simp only[cond_true];rw[cpL_dd m l k (p+1) (by omega) (by omega)];have:=of_decide_eq_true hc;rw[show p+1-1=p by omega,this]
def ddV (l:List Int) (k:Nat):List Int:=l.take k++dd (l.getD (k-1) 0) (l.drop k)
theorem ddV_step {l:List Int} {k:Nat} (hk:1≤k) (h:k<l.length) (hc:decide (l.getD k 0=l.getD (k-1) 0)=false):ddV l k=ddV l (k+1):=by
 have e:dd (l.getD (k-1) 0) (l.getD k 0::l.drop (k+1))=l.getD k 0::dd (l.getD k 0) (l.drop (k+1)):=by rw[dd,hc];rfl
 unfold ddV;rw[drop_at h,e,show k+1-1=k by omega,List.take_succ_eq_append_getElem h,← getD_at h 0,append_assoc];rfl
theorem cpO_eq {l:List Int} {q:Nat} (h1:1≤q) (h:q<l.length) (hc:decide (l.getD q 0=l.getD (q-1) 0)=true):cpO l q=ddV l q:=by
 obtain⟨c1,c2,c3⟩:(cpE l q).1.length=l.length∧q≤(cpE l q).2∧(cpE l q).2≤q+(l.length-(q+1)):=cpL_len _ _ _ _;have e:cpO l q=(cpE l q).1.take (cpE l q).2:=by
  show List.take (cpE l q).2 (List.take (cpE l q).2 (cpE l q).1++replicate ((cpE l q).1.length-(cpE l q).2) (0:Int))=_;rw[List.take_append_of_le_length (by rw[length_take];omega),List.take_take,Nat.min_self]
 rw[e];show(cpL (l.length-(q+1)) l q (q+1)).1.take _=_;rw[cpL_dd _ l q (q+1) (by omega) (by omega)];unfold ddV;have hq:=of_decide_eq_true hc;rw[drop_at h,show q+1-1=q by omega]
 conv=>rhs;unfold dd
 rw[hc,← hq];rfl
theorem dupF_eq (l:List Int):∀(m k:Nat),1≤k→k+m=l.length→(match dupF l m k with | some q=>cpO l q | none=>l)=ddV l k
 |0,k,h1,h2=>by
  show l=_;unfold ddV;rw[drop_eq_nil_of_le (by omega),List.take_of_length_le (by omega)];simp[dd]
 |m+1,k,h1,h2=>by
  unfold dupF
  cases hc:decide (l.getD k 0=l.getD (k-1) 0)
  ·simp only[cond_false];rw[dupF_eq l m (k+1) (by omega) (by omega),← ddV_step h1 (by omega) hc]
  ·simp only[cond_true];exact cpO_eq h1 (by omega) hc
theorem cptV_eq (l:List Int):cptV l=ddV l 1:=by
 unfold cptV
 by_cases h:(l.length:Int)<2
 ·rw[zT h]
  match l,h with
  | [],_=>rfl
  | [x],_=>rfl
  |x::y::l,h=>simp at h;omega
 ·rw[zF h];exact dupF_eq l (l.length-1) 1 (Nat.le_refl _) (by omega)
theorem cptV_cons (x:Int) (l:List Int):cptV (x::l)=x::dd x l:=by rw[cptV_eq];rfl
theorem dd_sub {y:Int}:∀ {a:Int} {l:List Int},y∈dd a l→y∈l
 |_,[],h=>h
 |a,x::l,h=>by
  unfold dd at h
  cases hc:decide (x=a)<;>rw[hc]at h
  ·rcases List.mem_cons.1 h with h | h
   ·exact h ▸ mem_cons_self
   ·exact mem_cons_of_mem _ (dd_sub h)
  ·exact mem_cons_of_mem _ (dd_sub h)
theorem dd_mem {y:Int}:∀ {a:Int} {l:List Int},y∈l→y=a∨y∈dd a l
 |a,x::l,h=>by
  unfold dd
  cases hc:decide (x=a)
  ·rcases List.mem_cons.1 h with h | h
   ·exact .inr (h ▸ mem_cons_self)
   ·rcases dd_mem (a:=x) h with h | h
    ·exact .inr (h ▸ mem_cons_self)
    ·exact .inr (mem_cons_of_mem _ h)
  ·have hx:=of_decide_eq_true hc;rcases List.mem_cons.1 h with h | h
   ·exact .inl (h.trans hx)
   ·exact dd_mem h
theorem dd_asc:∀ {a:Int} {l:List Int},(a::l).Pairwise (· ≤ ·)→(a::dd a l).Pairwise (· < ·)
 |a,[],_=>by simp[dd]
 |a,x::l,h=>by
  rw[List.pairwise_cons,List.pairwise_cons]at h;obtain⟨h1,h2,h3⟩:=h;unfold dd
  cases hc:decide (x=a)
  ·have hx:=of_decide_eq_false hc;have hax:=h1 x mem_cons_self;have ih:=dd_asc (a:=x) (l:=l) (List.pairwise_cons.2 ⟨h2,h3⟩);refine List.pairwise_cons.2 ⟨fun y hy => ?_,ih⟩;rcases List.mem_cons.1 hy with rfl | hy
   ·omega
   ·have:=(List.pairwise_cons.1 ih).1 y hy;omega
  ·have hx:=of_decide_eq_true hc;exact dd_asc (a:=a) (l:=l) (List.pairwise_cons.2 ⟨fun y hy=>h1 y (mem_cons_of_mem _ hy),h3⟩)
theorem cptV_mem {y:Int} {l:List Int}:y∈cptV l↔y∈l:=by
 cases l with
 |nil=>rw[cptV_eq];rfl
 |cons x l =>
  rw[cptV_cons];refine⟨fun h => ?_,fun h => ?_⟩
  ·rcases List.mem_cons.1 h with h | h
   ·exact h ▸ mem_cons_self
   ·exact mem_cons_of_mem _ (dd_sub h)
  ·rcases List.mem_cons.1 h with h | h
   ·exact h ▸ mem_cons_self
   ·rcases dd_mem (a:=x) h with h | h
    ·exact h ▸ mem_cons_self
    ·exact mem_cons_of_mem _ h
theorem cptV_asc {l:List Int} (h:l.Pairwise (· ≤ ·)):(cptV l).Pairwise (· < ·):=by
 cases l with
 |nil=>rw[cptV_eq];exact .nil
 |cons x l=>rw[cptV_cons];exact dd_asc h
def isUni (_:FuncId):Bool:=false
theorem y_setOf1U {f:FuncId} (h:isUni f=true) (t:TypeId) (c:Int):evFn (cxOf Γ40 Tryz.f136.ntmps [] [] [] []) Tryz.f136 false [ofD TU8 c, .one (.ptr 0 0)] [.box t [.fn f []]]=some (vB (!true),[(0,some (.box t [.fn f []]))]):=by cases h
def chrS (c:Int):Str:=(Utf8.encode (IntKind.i32.wrap c)).data.toList
theorem y_setOf1B (t:TypeId) (c:Int):evFn (cxOf Γ40 Tryz.f136.ntmps [] [] [] []) Tryz.f136 false [ofD TU8 c, .one (.ptr 0 0)] [.box t [.fn 42 []]]=some (vB (!bigS (chrS c)),[(0,some (.box t [.fn 42 []]))]):=by kernel_rfl
theorem y_setOf1S (t:TypeId) (c:Int):evFn (cxOf Γ40 Tryz.f136.ntmps [] [] [] []) Tryz.f136 false [ofD TU8 c, .one (.ptr 0 0)] [.box t [.fn 55 []]]=some (vB (!smallS (chrS c)),[(0,some (.box t [.fn 55 []]))]):=by kernel_rfl
def holdF (f:FuncId):Option (Str→Bool):=bif Nat.beq f 42 then some bigS else bif Nat.beq f 55 then some smallS else bif isUni f then some (fun _=>true)else none
theorem s_setOf1 {f:FuncId} {p:Str→Bool} (h:holdF f=some p) (t:TypeId) (c:Int):Sat Tryz.prog 136 [ofD TU8 c, .one (.ptr 0 0)] [.box t [.fn f []]] (vB (!p (chrS c))) [(0,some (.box t [.fn f []]))]:=by
 have snd:∀ {x:T} {objs:Heap},evFn (cxOf Γ40 Tryz.f136.ntmps [] [] [] []) Tryz.f136 false [ofD TU8 c, .one (.ptr 0 0)] [.box t [.fn f []]]=some (x,objs)→Sat Tryz.prog 136 [ofD TU8 c, .one (.ptr 0 0)] [.box t [.fn f []]] x objs:=fun he =>
  fn_sound (cx:=cxOf Γ40 Tryz.f136.ntmps [] [] [] []) Tryz.func136 rfl ttOk Γ40ok mixed (fun _ _=>LoopsOk.no fun _=>rfl) (ro:=false) he
 refine snd ?_;unfold holdF at h
 cases h1:Nat.beq f 42<;>rw[h1]at h
 ·cases h2:Nat.beq f 55<;>rw[h2]at h
  ·cases h3:isUni f<;>rw[h3]at h
   ·cases h
   ·cases h
    exact y_setOf1U h3 t c
  ·cases h
   have:=zB h2;subst this;exact y_setOf1S t c
 ·cases h
  have:=zB h1;subst this;exact y_setOf1B t c
def pF (f:FuncId):Str→Bool:=(holdF f).getD fun _=>false
def c_impl_setOf_1:Con:=⟨false,fun ds os=>match ds,os with
 | [.one (.r (.v (.int .u8 c))), .one (.ptr 0 0)],[.box t [.fn f []]]=>some (some (holdF f).isSome,vB (!pF f (chrS c)),[(0,some (.box t [.fn f []]))])
 |_,_=>none⟩
theorem k_impl_setOf_1:ConOk Tryz.prog 136 c_impl_setOf_1:=by
 refine⟨Tryz.call136,fun ds os c x objs hc hok => ?_⟩;unfold c_impl_setOf_1 at hc;dsimp only at hc
 split at hc
 ·rename_i c0 t f
  cases hc
  have hp:=pre_of hok
  cases h:holdF f with
  |none=>rw[h]at hp;cases hp
  |some p =>
   have:=s_setOf1 h t c0;unfold pF;rw[h];exact this
 ·cases hc
def Γ41:GL:=(136,c_impl_setOf_1)::Γ40
theorem Γ41ok:GO Γ41 := .cons k_impl_setOf_1 Γ40ok
def cb_ixF:Cx:=cxOf Γ41 Tryz.f158.ntmps [(2,[0,1,7,8])] [(0,[]),(1,[0,1,7,8]),(1000000,[4])] [] []
theorem x_ixF (l:List Int) (t:TypeId) (f:FuncId) (n i:Int) (R:St→Option Fin) (K:Cont):evC (cb_ixF.withLoops (look [])) (loopOf Tryz.f158 0) ⟨[(0, .d (.one (.own 0))),(1, .d (.one (.fn 136 [1]))),(7,vI n),(8,vI i)],[(0,some (.lis 5 TU8 l)),(1,some (.box t [.fn f []]))]⟩ (onward (headAt (cb_ixF.withLoops (look [])) 2) R K)=(
branch (decide (i<n)) (
 need (inb i l.length) <|
 need ((holdF f).isSome) <|
 branch (!pF f (chrS (l.getD i.toNat 0))) ( K (.ret) (.mk [(4,vI i)] [(1,(.some (.box t [(.fn f [])]))),(0,some (.lis 5 TU8 l))])) ( R (.mk [(0,(.d (.one (.own 0)))),(1,(.d (.one (.fn 136 [1])))),(7,vI n),(8,vI (W64 (i+1)))] [(0,some (.lis 5 TU8 l)),(1,(.some (.box t [(.fn f [])])))]))) ( K (.exit 0) (.mk [] [(0,some (.lis 5 TU8 l)),(1,(.some (.box t [(.fn f [])])))]))):=by kernel_rfl
def ixV (f:FuncId):List Int→Nat→Option Nat
 | [],_=>none
 |x::l,k=>bif !pF f (chrS x)then some k else ixV f l (k+1)
theorem ixV_at {f:FuncId} {l:List Int} {i:Nat} (h:i<l.length):ixV f (l.drop i) i=bif !pF f (chrS (l.getD i 0))then some i else ixV f (l.drop (i+1)) (i+1):=by
 rw[drop_eq_getElem_cons h,getD_at h];rfl
def cx0_ixF:Cx:=(cb_ixF).withLoops (look [])
def sh_ixF:Sh:=([(0, .own 0),(1, .fn 136 [1]),(7, .d TI64),(8, .d TI64)],[(0, .lis 5 TU8),(1, .mix 61 [.fnv])])
abbrev st_ixF (n i:Int) (l:List (Int)) (f:Nat):St:=⟨[(0, .d (.one (.own 0))),(1, .d (.one (.fn 136 [1]))),(7,vI n),(8,vI i)],[(0,some (.lis 5 TU8 l)),(1,some (.box 61 ([.fn f []])))]⟩
def pre_ixF (n i:Int) (l:List (Int)) (f:Nat):Bool:=decide (0≤i)&&(decide (n=(length l:Int))&&(Nat.ble (length l) 1000000&&(holdF f).isSome))
def res_ixF (_n i:Int) (l:List (Int)) (f:Nat) (K:Cont):Option Fin:=branch (ixV f (l.drop i.toNat) i.toNat).isSome (K .ret ⟨[(4,vI (((ixV f (l.drop i.toNat) i.toNat).getD 0:Nat):Int))],[(1,some (.box 61 [.fn f []])),(0,some (.lis 5 TU8 l))]⟩) (K (.exit 0) ⟨[],[(0,some (.lis 5 TU8 l)),(1,some (.box 61 [.fn f []]))]⟩)
def mu_ixF (_n i:Int) (l:List (Int)) (_f:Nat):Nat:=l.length-i.toNat
theorem r_ixF (n i:Int) (l:List (Int)) (f:Nat) (K:Cont) (hI:pre_ixF n i l f=true):(∀R:St→Option Fin,evC cx0_ixF (loopOf Tryz.f158 0) (st_ixF n i l f) (onward (headAt cx0_ixF 2) R K)=res_ixF n i l f K) ∨
  (∃(n' i':Int) (l':List (Int)) (f':Nat),pre_ixF n' i' l' f'=true∧mu_ixF n' i' l' f'<mu_ixF n i l f∧res_ixF n' i' l' f' K=res_ixF n i l f K∧∀R:St→Option Fin,evC cx0_ixF (loopOf Tryz.f158 0) (st_ixF n i l f) (onward (headAt cx0_ixF 2) R K)=R (st_ixF n' i' l' f')):=by
 have hx:=fun R=>x_ixF l 61 f n i R K;simp only[pre_ixF,andd,dec_iff,ble_iff]at hI;obtain⟨h0,rfl,h2,h3⟩:=hI
 by_cases hi:i<(l.length:Int)
 ·have e:=ixV_at (f:=f) (l:=l) (i:=i.toNat) (by omega);have w:W64 (i+1)=i+1:=wrap_small (by omega) (by omega);simp only[hi,decide_true,inb_ok h0 hi,h3,w]at hx
  cases hc : !pF f (chrS (l.getD i.toNat 0))
  ·right;rw[hc]at e;refine⟨(l.length:Int),i+1,l,f, ?_, ?_, ?_,fun R=>(hx R).trans ?_⟩
   ·simp only[pre_ixF,andd,dec_iff,ble_iff,true_and];exact ⟨by omega,h2,h3⟩
   ·simp only[mu_ixF];omega
   ·simp only[res_ixF,e,show (i+1).toNat=i.toNat+1 by omega];rfl
   ·rw[hc];rfl
  ·left;intro R;rw[hc]at e;refine(hx R).trans ?_;rw[hc];simp only[res_ixF,e];show K .ret _=K .ret _;simp only[cond_true,Option.getD_some,Int.toNat_of_nonneg h0]
 ·left;intro R;refine(hx R).trans ?_;simp only[hi,decide_false,res_ixF,drop_eq_nil_of_le (show l.length≤i.toNat by omega)];rfl
def g_ixF:St→Cont→Option Fin:=gP sh_ixF (fun v=>match v with | ((n,i,()),(l,(f,()),()))=>pre_ixF n i l f) (fun v K=>match v with | ((n,i,()),(l,(f,()),()))=>res_ixF n i l f K)
def L_ixF:LpL:=(2,g_ixF)::[]
def cx_ixF:Cx:=(cb_ixF).withLoops (look L_ixF)
theorem l_ixF {L:LpL} (n:Nat) (h1:L.drop n=[]) (h2:idsFree (L.take n) (loopOf Tryz.f158 0)=true):LoopsTo g_ixF (cb_ixF) (loopOf Tryz.f158 0) 2 L :=
 with_drop h1 h2 (gP_ok (fun v=>match v with | ((n,i,()),(l,(f,()),()))=>mu_ixF n i l f) fun v K hI=>by
  obtain⟨⟨n,i,⟨⟩⟩,⟨l,⟨f,⟨⟩⟩,⟨⟩⟩⟩:=v;exact(r_ixF n i l f K hI).imp id fun⟨n',i',l',f',h⟩=>⟨((n',i',()),(l',(f',()),())),h⟩)
abbrev hLF (l:List Int) (f:FuncId):Heap:=[(0,some (.lis 5 TU8 l)),(1,some (.box 61 [.fn f []]))]
def ixI (f:FuncId) (l:List Int):Int:=bif (ixV f l 0).isSome then(((ixV f l 0).getD 0:Nat):Int)else -1
theorem y_ixF (l:List Int) (f:FuncId):evFn cx_ixF Tryz.f158 false [.one (.own 0), .one (.fn 136 [1])] [.lis 5 TU8 l, .box 61 [.fn f []]] =
 need (pre_ixF (l.length:Int) 0 l f) (branch (ixV f l 0).isSome (some (vI (((ixV f l 0).getD 0:Nat):Int),hLF l f)) (some (vI (-1),hLF l f))):=by kernel_rfl
theorem s_ixF (l:List Int) (f:FuncId) (h:(Nat.ble l.length 1000000&&(holdF f).isSome)=true):Sat Tryz.prog 158 [.one (.own 0), .one (.fn 136 [1])] [.lis 5 TU8 l, .box 61 [.fn f []]] (vI (ixI f l)) (hLF l f) :=
 fn_sound (cx:=cx_ixF) Tryz.func158 rfl ttOk Γ41ok mixed (fun c hc=>LoopsOk.all (l:=[(2,loopOf Tryz.f158 0)]) (by cases hc;kernel_rfl) ⟨atLoop rfl (l_ixF 1 rfl (by kernel_rfl)),trivial⟩) (ro:=false) (by
  have hp:pre_ixF (l.length:Int) 0 l f=true:=andd.2 ⟨rfl,andd.2 ⟨zT rfl,h⟩⟩;rw[y_ixF,hp];unfold ixI
  cases (ixV f l 0).isSome<;>rfl)
def c_slices_IndexFunc_byte_byte:Con:=⟨false,fun ds os=>match ds,os with
 | [.one (.own 0), .one (.fn g [1])],[o, .box t [.fn f []]]=>match exLis 5 TU8 (some o),Nat.beq g 136&&Nat.beq t 61 with
  |some l,true=>some (some (Nat.ble (length l) 1000000&&(holdF f).isSome),vI (ixI f l),hLF l f)
  |_,_=>none
 |_,_=>none⟩
theorem k_slices_IndexFunc_byte_byte:ConOk Tryz.prog 158 c_slices_IndexFunc_byte_byte:=by
 refine⟨Tryz.call158,fun ds os c x objs hc hok => ?_⟩;unfold c_slices_IndexFunc_byte_byte at hc;dsimp only at hc
 split at hc
 ·split at hc
  ·rename_i l e1 e2
   cases hc
   have e1:=Option.some.inj (exLis_some e1);subst e1;obtain⟨h1,h2⟩:=andd.1 e2;have h1:=zB h1;have h2:=zB h2;subst h1;subst h2;exact s_ixF l _ (pre_of hok)
  ·cases hc
 ·cases hc
def Γ42:GL:=(158,c_slices_IndexFunc_byte_byte)::Γ41
theorem Γ42ok:GO Γ42 := .cons k_slices_IndexFunc_byte_byte Γ41ok
set_option maxHeartbeats 1000000
def cb_del:Cx:=cxOf Γ42 Tryz.f134.ntmps [(5,[0,1,5,6])] [(0,[0,5]),(1,[0,1,5,6]),(1000000,[4])] [] []
theorem x_del (l:List Int) (f:FuncId) (i j:Int) (R:St→Option Fin) (K:Cont):evC (cb_del.withLoops (look [])) (loopOf Tryz.f134 0) ⟨[(0, .d (.one (.own 0))),(1, .d (.one (.fn 136 [1]))),(5,vI i),(6,vI j)],[(0,some (.lis 5 TU8 l)),(1,some (.box 61 [.fn f []]))]⟩ (onward (headAt (cb_del.withLoops (look [])) 5) R K)=(
branch (decide (j<(l.length:Int))) (
 need (inb j l.length) <|
 need ((holdF f).isSome) <|
 branch (!!pF f (chrS (l.getD j.toNat 0))) (
 need (inb i l.length) <| R (.mk [(0,(.d (.one (.own 0)))),(1,(.d (.one (.fn 136 [1])))),(5,vI (W64 (i+1))),(6,vI (W64 (j+1)))] [(0,(.some (.lis 5 TU8 (l.set i.toNat (l.getD j.toNat 0))))),(1,(.some (.box 61 [(.fn f [])])))])) ( R (.mk [(0,(.d (.one (.own 0)))),(1,(.d (.one (.fn 136 [1])))),(5,vI i),(6,vI (W64 (j+1)))] [(0,some (.lis 5 TU8 l)),(1,(.some (.box 61 [(.fn f [])])))]))) ( K (.exit 0) (.mk [(0,(.d (.one (.own 0)))),(5,vI i)] [(0,some (.lis 5 TU8 l)),(1,(.some (.box 61 [(.fn f [])])))]))):=by kernel_rfl
def dlL (f:FuncId):Nat→List Int→Nat→Nat→List Int×Nat
 |0,l,i,_=>(l,i)
 |m+1,l,i,j=>bif pF f (chrS (l.getD j 0))then dlL f m (l.set i (l.getD j 0)) (i+1) (j+1)else dlL f m l i (j+1)
def cx0_del:Cx:=(cb_del).withLoops (look [])
def sh_del:Sh:=([(0, .own 0),(1, .fn 136 [1]),(5, .d TI64),(6, .d TI64)],[(0, .lis 5 TU8),(1, .mix 61 [.fnv])])
abbrev st_del (i j:Int) (l:List (Int)) (f:Nat):St:=⟨[(0, .d (.one (.own 0))),(1, .d (.one (.fn 136 [1]))),(5,vI i),(6,vI j)],[(0,some (.lis 5 TU8 l)),(1,some (.box 61 ([.fn f []])))]⟩
def pre_del (i j:Int) (l:List (Int)) (f:Nat):Bool:=decide (0≤i)&&(decide (i<j)&&(decide (j≤1000001)&&(Nat.ble (length l) 1000000&&(holdF f).isSome)))
def res_del (i j:Int) (l:List (Int)) (f:Nat) (K:Cont):Option Fin:=K (.exit 0) ⟨[(0, .d (.one (.own 0))),(5,vI ((dlL f (l.length-j.toNat) l i.toNat j.toNat).2:Nat))],[(0,some (.lis 5 TU8 (dlL f (l.length-j.toNat) l i.toNat j.toNat).1)),(1,some (.box 61 [.fn f []]))]⟩
def mu_del (_i j:Int) (l:List (Int)) (_f:Nat):Nat:=l.length-j.toNat
theorem r_del (i j:Int) (l:List (Int)) (f:Nat) (K:Cont) (hI:pre_del i j l f=true):(∀R:St→Option Fin,evC cx0_del (loopOf Tryz.f134 0) (st_del i j l f) (onward (headAt cx0_del 5) R K)=res_del i j l f K) ∨
  (∃(i' j':Int) (l':List (Int)) (f':Nat),pre_del i' j' l' f'=true∧mu_del i' j' l' f'<mu_del i j l f∧res_del i' j' l' f' K=res_del i j l f K∧∀R:St→Option Fin,evC cx0_del (loopOf Tryz.f134 0) (st_del i j l f) (onward (headAt cx0_del 5) R K)=R (st_del i' j' l' f')):=by
 have hx:=fun R=>x_del l f i j R K;simp only[pre_del,andd,dec_iff,ble_iff]at hI;obtain⟨h0,h1,h2,h3,h4⟩:=hI
 by_cases hj:j<(l.length:Int)
 ·have w1:W64 (j+1)=j+1:=wrap_small (by omega) (by omega);have w2:W64 (i+1)=i+1:=wrap_small (by omega) (by omega);obtain⟨m,hm⟩:∃m,l.length-j.toNat=m+1:=⟨l.length-j.toNat-1,by omega⟩;have hm':l.length-(j.toNat+1)=m:=by omega
  have t1:(j+1).toNat=j.toNat+1:=by omega
  have t2:(i+1).toNat=i.toNat+1:=by omega
  simp only[hj,decide_true,inb_ok (by omega:0≤j) hj,inb_ok h0 (by omega:i<(l.length:Int)),h4,w1,w2]at hx;right
  cases hc:pF f (chrS (l.getD j.toNat 0))
  ·refine ⟨i,j+1,l,f, ?_, ?_, ?_,fun R=>(hx R).trans ?_⟩
   ·simp only[pre_del,andd,dec_iff,ble_iff];exact ⟨h0,by omega,by omega,h3,h4⟩
   ·simp only[mu_del];omega
   ·simp only[res_del,t1,hm,hm',dlL,hc];rfl
   ·rw[hc];rfl
  ·refine ⟨i+1,j+1,l.set i.toNat (l.getD j.toNat 0),f, ?_, ?_, ?_,fun R=>(hx R).trans ?_⟩
   ·simp only[pre_del,andd,dec_iff,ble_iff,length_set];exact ⟨by omega,by omega,by omega,h3,h4⟩
   ·simp only[mu_del,length_set];omega
   ·simp only[res_del,length_set,t1,t2,hm,hm',dlL,hc];rfl
   ·rw[hc];rfl
 ·left;intro R;refine(hx R).trans ?_;simp only[hj,decide_false,res_del,show l.length-j.toNat=0 by omega,dlL,Int.toNat_of_nonneg h0];rfl
def g_del:St→Cont→Option Fin:=gP sh_del (fun v=>match v with | ((i,j,()),(l,(f,()),()))=>pre_del i j l f) (fun v K=>match v with | ((i,j,()),(l,(f,()),()))=>res_del i j l f K)
def L_del:LpL:=(5,g_del)::[]
def cx_del:Cx:=(cb_del).withLoops (look L_del)
theorem l_del {L:LpL} (n:Nat) (h1:L.drop n=[]) (h2:idsFree (L.take n) (loopOf Tryz.f134 0)=true):LoopsTo g_del (cb_del) (loopOf Tryz.f134 0) 5 L :=
 with_drop h1 h2 (gP_ok (fun v=>match v with | ((i,j,()),(l,(f,()),()))=>mu_del i j l f) fun v K hI=>by
  obtain⟨⟨i,j,⟨⟩⟩,⟨l,⟨f,⟨⟩⟩,⟨⟩⟩⟩:=v;exact(r_del i j l f K hI).imp id fun⟨i',j',l',f',h⟩=>⟨((i',j',()),(l',(f',()),())),h⟩)
abbrev dlE (f:FuncId) (l:List Int) (i:Int):List Int×Nat:=dlL f (l.length-(W64 (i+1)).toNat) l i.toNat (W64 (i+1)).toNat
def delOut (f:FuncId) (r:List Int×Nat):Option Fin :=
 need (inr (r.2:Nat) (r.1.length:Int) r.1.length&&Nat.blt 0 r.1.length) <| need (Nat.blt r.2 r.1.length) <| need (inr 0 (r.2:Nat) (clrL (e:=TU8) r.1 r.2).length) <|
 some (.d (.one (.own 1000)),[(1000,some (.lis 5 TU8 (List.take r.2 (clrL (e:=TU8) r.1 r.2)))),(1,some (.box 61 [.fn f []])),(0,none)])
theorem y_del (l:List Int) (f:FuncId):evFn cx_del Tryz.f134 false [.one (.own 0), .one (.fn 136 [1])] [.lis 5 TU8 l, .box 61 [.fn f []]] =
 need (Nat.ble l.length 1000000&&(holdF f).isSome) (branch (decide (ixI f l = -1)) (some (.d (.one (.own 0)),hLF l f)) (need (pre_del (ixI f l) (W64 (ixI f l+1)) l f) (delOut f (dlE f l (ixI f l))))):=by kernel_rfl
theorem sat_move2 {P:Program} {f:FuncId} {ds:List D} {o0 o1 p1:Obj} {t:TypeId} {e:Ty} {l:List (Den e)} (S:Sat P f ds [o0,o1] (.d (.one (.own 0))) [(0,some (.lis t e l)),(1,some p1)]) :
  Sat P f ds [o0,o1] (.d (.one (.own 1000))) [(1000,some (.lis t e l)),(1,some p1),(0,none)]:=by
 intro w F β args H hds;refine(S w F β args H hds).mono ?_;rintro ex w' ⟨v,F',β',r1,r2,r3,r4,r5,r6⟩;have h0:look [(0,some (Obj.lis t e l)),(1,some p1)] 0=some (some (.lis t e l)):=rfl;obtain⟨H1,_⟩:=r2.kill 0;rw[setB_self]at H1;have hs1:setH (look [(0,some (Obj.lis t e l)),(1,some p1)]) 0 none 1000=none:=rfl;have T:=H1.turn (w':=w') (F':=F') 1000 (some (.lis t e l)) (β' 0) rfl rfl rfl (Nat.le_refl _) (fun b=>Blk (β' 0) b)
  (fun b hb=>⟨r2.notF 0 _ b h0 hb,fun j o' _ hj hb'=>by
   simp only[setH]at hj
   split at hj
   ·cases hj
   ·rename_i hne;exact hne (r2.apart j 0 o' _ b hj h0 hb' hb),r2.fromO 0 _ b h0 hb⟩)
  (fun _ _ _=>rfl) (fun _ hf=>hf) (fun _ hf => .inl hf) (fun q0 _ h0=>by rw[hs1]at h0;cases h0)
  (fun _ ob hob=>by
   cases hob
   refine⟨RepO.leaf.2 ?_,fun b hb => .inl hb⟩;have:=RepO.leaf.1 (r2.obj 0 _ h0)
   simpa [setB]using this)
 have hcomm:setH (setH (look [(0,some (Obj.lis t e l)),(1,some p1)]) 0 none) 1000 (some (.lis t e l))=look [(1000,some (Obj.lis t e l)),(1,some p1),(0,none)]:=by
  funext j
  simp only[setH,look]
  by_cases h1:j=1000
  ·subst h1;rfl
  ·by_cases h2:j=0
   ·subst h2;rfl
   ·rw[if_neg h1,if_neg h2];have e1:Nat.beq 0 j=false:=by cases h:Nat.beq 0 j with | false=>rfl | true=>exact absurd (zB h).symm h2
    have e2:Nat.beq 1000 j=false:=by cases h:Nat.beq 1000 j with | false=>rfl | true=>exact absurd (zB h).symm h1
    rw[e1,e2];rfl
 rw[hcomm]at T;have hv:v=β' 0:=r6.2.2 _ h0;have h2:∀i,i<2→i=0∨i=1:=fun i hi=>by omega
 refine⟨v,F',_,r1,T.1,fun i hi => ?_,fun i o hi ho => ?_,fun _ _ _=>by simp, ?_⟩
 ·rcases h2 i hi with rfl | rfl
  ·exact ⟨none,rfl⟩
  ·exact ⟨some p1,rfl⟩
 ·rcases h2 i hi with rfl | rfl
  ·cases ho
  ·show setB β' 1000 (β' 0) 1=β 1;exact r4 1 p1 hi rfl
 ·exact ⟨r6.1,⟨_,rfl⟩,fun o ho=>by rw[hv];simp[setB]⟩
theorem ixV_lt {f:FuncId}:∀ {l:List Int} {k q:Nat},ixV f l k=some q→k≤q∧q<k+l.length
 | [],k,q,h=>by cases h
 |x::l,k,q,h=>by
  unfold ixV at h
  cases hc : !pF f (chrS x)<;>rw[hc]at h
  ·have:=ixV_lt (l:=l) (k:=k+1) (q:=q) h;simp only[length_cons];omega
  ·cases h
   simp only[length_cons];omega
theorem dlL_len (f:FuncId):∀(m:Nat) (l:List Int) (i j:Nat),(dlL f m l i j).1.length=l.length∧i≤(dlL f m l i j).2∧(dlL f m l i j).2≤i+m
 |0,l,i,j=>⟨rfl,Nat.le_refl _,Nat.le_refl _⟩
 |m+1,l,i,j=>by
  unfold dlL
  cases pF f (chrS (l.getD j 0))
  ·obtain ⟨h1,h2,h3⟩:=dlL_len f m l i (j+1);simp only[cond_false];omega
  ·obtain ⟨h1,h2,h3⟩:=dlL_len f m (l.set i (l.getD j 0)) (i+1) (j+1);rw[length_set]at h1;simp only[cond_true];omega
def delV (f:FuncId) (l:List Int):List Int:=bif decide (ixI f l = -1)then l else List.take (dlE f l (ixI f l)).2 (clrL (e:=TU8) (dlE f l (ixI f l)).1 (dlE f l (ixI f l)).2)
theorem s_del (l:List Int) (f:FuncId) (h:(Nat.ble l.length 1000000&&(holdF f).isSome)=true):Sat Tryz.prog 134 [.one (.own 0), .one (.fn 136 [1])] [.lis 5 TU8 l, .box 61 [.fn f []]] (.d (.one (.own 1000))) [(1000,some (.lis 5 TU8 (delV f l))),(1,some (.box 61 [.fn f []])),(0,none)]:=by
 have snd:∀ {x:T} {objs:Heap},evFn cx_del Tryz.f134 false [.one (.own 0), .one (.fn 136 [1])] [.lis 5 TU8 l, .box 61 [.fn f []]]=some (x,objs)→Sat Tryz.prog 134 [.one (.own 0), .one (.fn 136 [1])] [.lis 5 TU8 l, .box 61 [.fn f []]] x objs:=fun he =>
  fn_sound (cx:=cx_del) Tryz.func134 rfl ttOk Γ42ok mixed (fun c hc=>LoopsOk.all (l:=[(5,loopOf Tryz.f134 0)]) (by cases hc;kernel_rfl) ⟨atLoop rfl (l_del 1 rfl (by kernel_rfl)),trivial⟩) (ro:=false) he
 have y:=y_del l f;rw[h]at y;obtain⟨h1,h2⟩:=andd.1 h;have h1:=ble_iff.1 h1;unfold delV
 cases hc:decide (ixI f l = -1)
 ·rw[hc]at y;have hb:0≤ixI f l∧ixI f l<(l.length:Int):=by
   have hne:=of_decide_eq_false hc;unfold ixI at hne ⊢
   cases hv:ixV f l 0 with
   |none=>rw[hv]at hne;exact absurd rfl hne
   |some q =>
    have:=ixV_lt hv;show 0≤(q:Int)∧(q:Int)<_;omega
  have w:W64 (ixI f l+1)=ixI f l+1:=wrap_small (by omega) (by omega);have hp:pre_del (ixI f l) (W64 (ixI f l+1)) l f=true:=by
   rw[w];simp only[pre_del,andd,dec_iff,ble_iff];exact ⟨hb.1,by omega,by omega,h1,h2⟩
  obtain⟨c1,c2,c3⟩:(dlE f l (ixI f l)).1.length=l.length∧(ixI f l).toNat≤(dlE f l (ixI f l)).2∧(dlE f l (ixI f l)).2≤(ixI f l).toNat+(l.length-(W64 (ixI f l+1)).toNat):=dlL_len f _ _ _ _;rw[w]at c3;rw[hp]at y;refine snd (y.trans ?_);show delOut f (dlE f l (ixI f l))=_
  generalize dlE f l (ixI f l)=r at c1 c2 c3
  unfold delOut;have p3:(inr (r.2:Nat) (r.1.length:Int) r.1.length&&Nat.blt 0 r.1.length)=true:=andd.2 ⟨inr_iff.2 (by omega),Nat.ble_eq_true_of_le (by omega)⟩;have p4:Nat.blt r.2 r.1.length=true:=Nat.ble_eq_true_of_le (by omega);have p5:inr 0 (r.2:Nat) (clrL (e:=TU8) r.1 r.2).length=true:=inr_iff.2 (by rw[clr_len (by omega)];omega);rw[p3,p4,p5];rfl
 ·rw[hc]at y;exact sat_move2 (snd y)
def c_slices_DeleteFunc_byte_byte:Con:=⟨false,fun ds os=>match ds,os with
 | [.one (.own 0), .one (.fn g [1])],[o, .box t [.fn f []]]=>match exLis 5 TU8 (some o),Nat.beq g 136&&Nat.beq t 61 with
  |some l,true=>some (some (Nat.ble (length l) 1000000&&(holdF f).isSome), .d (.one (.own 1000)),[(1000,some (.lis 5 TU8 (delV f l))),(1,some (.box 61 [.fn f []])),(0,none)])
  |_,_=>none
 |_,_=>none⟩
theorem k_slices_DeleteFunc_byte_byte:ConOk Tryz.prog 134 c_slices_DeleteFunc_byte_byte:=by
 refine⟨Tryz.call134,fun ds os c x objs hc hok => ?_⟩;unfold c_slices_DeleteFunc_byte_byte at hc;dsimp only at hc
 split at hc
 ·split at hc
  ·rename_i l e1 e2
   cases hc
   have e1:=Option.some.inj (exLis_some e1);subst e1;obtain⟨h1,h2⟩:=andd.1 e2;have h1:=zB h1;have h2:=zB h2;subst h1;subst h2;exact s_del l _ (pre_of hok)
  ·cases hc
 ·cases hc
def Γ43:GL:=(134,c_slices_DeleteFunc_byte_byte)::Γ42
theorem Γ43ok:GO Γ43 := .cons k_slices_DeleteFunc_byte_byte Γ42ok
end
end Go.Proofs.YtmeiebnfmhddnaaGreatDoor.Ev
