/-
  The table of the types that these functions use.
-/
import Derived.Test.YtkhhclpkljikkaaDoorProg
import Derived.Test.YtkhhclpkljikkaaDoorEv3
namespace Go.Proofs.YtkhhclpkljikkaaDoor.Ev
open Go
open List (length length_append length_cons length_singleton length_replicate length_set length_take length_drop mem_cons_of_mem mem_cons_self getD replicate mem_append_left mem_append_right all_eq_true drop_eq_getElem_cons drop_eq_nil_of_le append_assoc mem_singleton getElem?_append_left getElem?_append_right getElem?_eq_none getElem?_take mem_append)
noncomputable section
abbrev ty3:Ty:=(.int .i64)
abbrev ty4:Ty := .bool
abbrev ty5:Ty:=(.int .u8)
abbrev ty9:Ty := .str
abbrev ty21:Ty:=(.int .i32)
abbrev ty22:Ty:=(.list (.int .u8))
abbrev ty23:Ty:=(.list (.struct (.pair .str .str)))
abbrev ty25:Ty:=(.struct (.pair .str (.list (.struct (.pair .str .str)))))
abbrev ty26:Ty:=(.list .tree)
abbrev ty28:Ty := .tree
abbrev ty33:Ty:=(.list (.struct (.pair .str (.pair (.int .i64) (.int .i64)))))
abbrev ty37:Ty:=(.struct (.pair .str (.pair (.int .i64) (.int .i64))))
abbrev ty46:Ty:=(.list .bool)
abbrev ty47:Ty:=(.list (.list (.int .i64)))
abbrev ty49:Ty:=(.struct (.pair (.int .i64) (.pair (.list .bool) (.list (.list (.int .i64))))))
abbrev ty63:Ty:=(.ref (.struct (.pair (.list (.int .u8)) (.int .i64))))
abbrev ty82:Ty:=(.list .str)
abbrev ty98:Ty:=(.list (.int .i64))
abbrev ty113:Ty:=(.ref (.struct (.pair (.struct (.pair (.int .i64) (.pair (.list .bool) (.list (.list (.int .i64)))))) (.map (.struct (.pair .str (.pair (.int .i64) (.int .i64)))) (.int .i64)))))
abbrev ty125:Ty:=(.struct (.pair (.list (.int .u8)) (.int .i64)))
abbrev ty127:Ty:=(.struct (.pair .str .str))
abbrev ty143:Ty:=(.int .u64)
abbrev ty146:Ty:=(.map (.struct (.pair .str (.pair (.int .i64) (.int .i64)))) (.int .i64))
abbrev ty148:Ty:=(.struct (.pair (.struct (.pair (.int .i64) (.pair (.list .bool) (.list (.list (.int .i64)))))) (.map (.struct (.pair .str (.pair (.int .i64) (.int .i64)))) (.int .i64))))
abbrev ty161:Ty:=(.int .u32)
abbrev ty164:Ty:=(.int .u64)
def ttList:List (Nat×TI):=[(3,⟨Tryd.t3,Tryd.t3.desc,[],some ty3⟩),
 (4,⟨Tryd.t4,Tryd.t4.desc,[],some ty4⟩),
 (5,⟨Tryd.t5,Tryd.t5.desc,[],some ty5⟩),
 (9,⟨Tryd.t9,Tryd.t9.desc,[],some ty9⟩),
 (21,⟨Tryd.t21,Tryd.t21.desc,[],some ty21⟩),
 (22,⟨Tryd.t22,Tryd.t22.desc,[.v (.int .u8 0)],some ty22⟩),
 (23,⟨Tryd.t23,Tryd.t23.desc,[.v (.string (mk [])), .v (.string (mk []))],some ty23⟩),
 (25,⟨Tryd.t25,Tryd.t24.desc,[],some ty25⟩),
 (26,⟨Tryd.t26,Tryd.t26.desc,[],some ty26⟩),
 (28,⟨Tryd.t28,Tryd.t27.desc,[],some ty28⟩),
 (33,⟨Tryd.t33,Tryd.t33.desc,[.v (.string (mk [])), .v (.int .i64 0), .v (.int .i64 0)],some ty33⟩),
 (37,⟨Tryd.t37,Tryd.t36.desc,[],some ty37⟩),
 (46,⟨Tryd.t46,Tryd.t46.desc,[.v (.bool false)],some ty46⟩),
 (47,⟨Tryd.t47,Tryd.t47.desc,[],some ty47⟩),
 (49,⟨Tryd.t49,Tryd.t48.desc,[],some ty49⟩),
 (63,⟨Tryd.t63,Tryd.t63.desc,[],some ty63⟩),
 (82,⟨Tryd.t82,Tryd.t82.desc,[.v (.string (mk []))],some ty82⟩),
 (98,⟨Tryd.t98,Tryd.t98.desc,[.v (.int .i64 0)],some ty98⟩),
 (100,⟨Tryd.t100,Tryd.t100.desc,[],none⟩),
 (101,⟨Tryd.t101,Tryd.t101.desc,[],none⟩),
 (105,⟨Tryd.t105,Tryd.t105.desc,[],none⟩),
 (106,⟨Tryd.t106,Tryd.t106.desc,[.v (.int .i64 0), .v (.int .i64 0)],none⟩),
 (112,⟨Tryd.t112,Tryd.t112.desc,[],none⟩),
 (113,⟨Tryd.t113,Tryd.t113.desc,[],some ty113⟩),
 (125,⟨Tryd.t125,Tryd.t124.desc,[],some ty125⟩),
 (127,⟨Tryd.t127,Tryd.t126.desc,[],some ty127⟩),
 (143,⟨Tryd.t143,Tryd.t143.desc,[],some ty143⟩),
 (146,⟨Tryd.t146,Tryd.t146.desc,[],some ty146⟩),
 (148,⟨Tryd.t148,Tryd.t147.desc,[],some ty148⟩),
 (161,⟨Tryd.t161,Tryd.t161.desc,[],some ty161⟩),
 (164,⟨Tryd.t164,Tryd.t164.desc,[],some ty164⟩),
 (169,⟨Tryd.t169,Tryd.t168.desc,[],none⟩),
 (173,⟨Tryd.t173,Tryd.t173.desc,[],none⟩)]
def tt:Types:=look ttList
theorem ttOk:TTok Tryd.prog tt:=TTok.of (l:=ttList) ⟨
 ⟨(by kernel_rfl),(by kernel_rfl),fun _ h=>(by cases h)⟩,
 ⟨(by kernel_rfl),(by kernel_rfl),fun _ h=>(by cases h)⟩,
 ⟨(by kernel_rfl),(by kernel_rfl),fun _ h=>(by cases h)⟩,
 ⟨(by kernel_rfl),(by kernel_rfl),fun _ h=>(by cases h)⟩,
 ⟨(by kernel_rfl),(by kernel_rfl),fun _ h=>(by cases h)⟩,
 ⟨(by kernel_rfl),(by kernel_rfl),fun _ h=>(by cases h)⟩,
 ⟨(by kernel_rfl),(by kernel_rfl),fun _ h=>(by cases h)⟩,
 ⟨(by kernel_rfl),(by kernel_rfl),fun _ _=>⟨Tryd.stoodInHeld25,Tryd.eqGuardType25⟩⟩,
 ⟨(by kernel_rfl),(by kernel_rfl),fun _ h=>(by cases h)⟩,
 ⟨(by kernel_rfl),(by kernel_rfl),fun _ _=>⟨Tryd.stoodInHeld28,Tryd.eqGuardType28⟩⟩,
 ⟨(by kernel_rfl),(by kernel_rfl),fun _ h=>(by cases h)⟩,
 ⟨(by kernel_rfl),(by kernel_rfl),fun _ _=>⟨Tryd.stoodInHeld37,Tryd.eqGuardType37⟩⟩,
 ⟨(by kernel_rfl),(by kernel_rfl),fun _ h=>(by cases h)⟩,
 ⟨(by kernel_rfl),(by kernel_rfl),fun _ h=>(by cases h)⟩,
 ⟨(by kernel_rfl),(by kernel_rfl),fun _ _=>⟨Tryd.stoodInHeld49,Tryd.eqGuardType49⟩⟩,
 ⟨(by kernel_rfl),(by kernel_rfl),fun _ h=>(by cases h)⟩,
 ⟨(by kernel_rfl),(by kernel_rfl),fun _ h=>(by cases h)⟩,
 ⟨(by kernel_rfl),(by kernel_rfl),fun _ h=>(by cases h)⟩,
 ⟨(by kernel_rfl),(by kernel_rfl),fun _ h=>(by cases h)⟩,
 ⟨(by kernel_rfl),(by kernel_rfl),fun _ h=>(by cases h)⟩,
 ⟨(by kernel_rfl),(by kernel_rfl),fun _ h=>(by cases h)⟩,
 ⟨(by kernel_rfl),(by kernel_rfl),fun _ h=>(by cases h)⟩,
 ⟨(by kernel_rfl),(by kernel_rfl),fun _ h=>(by cases h)⟩,
 ⟨(by kernel_rfl),(by kernel_rfl),fun _ h=>(by cases h)⟩,
 ⟨(by kernel_rfl),(by kernel_rfl),fun _ _=>⟨Tryd.stoodInHeld125,Tryd.eqGuardType125⟩⟩,
 ⟨(by kernel_rfl),(by kernel_rfl),fun _ _=>⟨Tryd.stoodInHeld127,Tryd.eqGuardType127⟩⟩,
 ⟨(by kernel_rfl),(by kernel_rfl),fun _ h=>(by cases h)⟩,
 ⟨(by kernel_rfl),(by kernel_rfl),fun _ h=>(by cases h)⟩,
 ⟨(by kernel_rfl),(by kernel_rfl),fun _ _=>⟨Tryd.stoodInHeld148,Tryd.eqGuardType148⟩⟩,
 ⟨(by kernel_rfl),(by kernel_rfl),fun _ h=>(by cases h)⟩,
 ⟨(by kernel_rfl),(by kernel_rfl),fun _ h=>(by cases h)⟩,
 ⟨(by kernel_rfl),(by kernel_rfl),fun _ h=>(by cases h)⟩,
 ⟨(by kernel_rfl),(by kernel_rfl),fun _ h=>(by cases h)⟩,
 trivial⟩
def cxOf (Γ:List (Nat×Con)) (size:Nat) (heads ends:List (Nat×List Nat)) (nils:List (Nat×List (Nat×TypeId×Ty))) (loops:List (Nat×(St→Cont→Option Fin))):Cx:=⟨tt,look Γ,size,heads,ends,[],nils,look loops⟩
def Cx.parted (cx:Cx) (l:List Nat):Cx:={ cx with parts:=l }
theorem mixed:Tryd.prog.follows .mixedOrders=true:=by kernel_rfl
def bodyOf (fn:Func):Code:=match fn.body with | some c=>c | none => .skip
def loopOf (fn:Func) (k:Nat):Code:=match (loopsOf (bodyOf fn))[k]? with | some (_,b)=>b | none => .skip
abbrev LpL:=List (Nat×(St→Cont→Option Fin))
abbrev LoopsTo (g:St→Cont→Option Fin) (cb:Cx) (body:Code) (id:Nat) (L:LpL):Prop:=∀st K r,g st K=some r→∃N,iter (evC (cb.withLoops (look L)) body) (headAt (cb.withLoops (look L)) id) N st K=some r
abbrev GL:=List (Nat×Con)
abbrev GO (l:GL):Prop:=EnvOk Tryd.prog (look l)
abbrev kp0:T := .d (.one (.ptr 500000 0))
abbrev kp1:T := .d (.one (.ptr 500001 0))
abbrev ko0:T := .d (.one (.own 500000))
abbrev ko1:T := .d (.one (.own 500001))
abbrev ko2:T := .d (.one (.own 500002))
def Γ0:List (Nat×Con):=[]
theorem Γ0ok:EnvOk Tryd.prog (look Γ0) := .nil
abbrev no:Option Fin:=some (.d (ofD .bool false),[])
abbrev TI64:Ty := .int .i64
abbrev Str:Type:=List UInt8
def isB:R→Bool
 | .v (.bool _)=>true
 |_=>false
def theB:R→Bool
 | .v (.bool b)=>b
 |_=>false
def boolsB (get:Nat→R):Bool:=(List.range 256).all fun i=>isB (get i)
def ropB (p:Nat→Bool):R := .rop 256 fun i => .v (.bool (p i))
abbrev arg1 (r:R):D := .one (.r r)
theorem bools_at {get:Nat→R} (h:boolsB get=true) {i:Nat} (hi:i<256):get i = .v (.bool (theB (get i))):=by
 have h1:=all_eq_true.1 h i (List.mem_range.2 hi)
 generalize get i=r at h1 ⊢
 unfold isB at h1
 split at h1
 ·rfl
 ·cases h1
theorem rop_bools {w:World} {F:Nat→Prop} {h:HF} {β:Nat→Value} {m:Nat} {get:Nat→R} {u:Value} (hb:(Nat.beq m 256&&boolsB get)=true) (hr:RepD w F h β (arg1 (.rop m get)) u):RepD w F h β (arg1 (ropB fun i=>theB (get i))) u:=by
 simp only[Bool.and_eq_true]at hb;have:=zB hb.1;subst this;obtain⟨b,off,h1,h2,h3⟩:=hr;refine⟨b,off,h1,h2,fun j hj => ?_⟩;obtain⟨y,g1,g2⟩:=h3 j hj;exact⟨y,g1,by rw[bools_at hb.2 hj]at g2;exact g2⟩
theorem y_asciiHas (p:Nat→Bool) (n:Int):evFn (cxOf Γ0 Tryd.f131.ntmps [] [] [] []) Tryd.f131 true [arg1 (ropB p),ofD (.int .u8) n] []=need (inb n 256) (some (.d (ofD .bool (p (n.toNat*1+0))),[])):=by kernel_rfl
theorem s_asciiHas (p:Nat→Bool) (n:Int) (h0:0≤n) (h1:n<256):Sat Tryd.prog 131 [arg1 (ropB p),ofD (.int .u8) n] [] (.d (ofD .bool (p n.toNat))) [] :=
 fn_sound (cx:=cxOf Γ0 Tryd.f131.ntmps [] [] [] []) Tryd.func131 rfl ttOk Γ0ok mixed (fun c hc=>LoopsOk.nil (by cases hc;kernel_rfl)) (ro:=true) (by
  rw[y_asciiHas,inb_ok h0 (by omega),Nat.mul_one,Nat.add_zero];rfl)
def c_strings_asciiSet_contains:Con:=⟨true,fun ds os=>match ds,os with
 | [.one (.r (.rop m get)), .one (.r (.v (.int .u8 n)))],[]=>some (some (Nat.beq m 256&&boolsB get), .d (ofD .bool (theB (get n.toNat))),[])
 |_,_=>none⟩
theorem k_strings_asciiSet_contains:ConOk Tryd.prog 131 c_strings_asciiSet_contains:=by
 refine⟨Tryd.call131,fun ds os c x objs hc hok => ?_⟩;unfold c_strings_asciiSet_contains at hc;dsimp only at hc
 split at hc
 ·rename_i m get n
  cases hc
  rcases hok with h | h
  ·cases h
  ·have hb:=Option.some.inj h;intro w F β args H hds
   cases hds with | cons g1 g2=>cases g2 with | cons g2 g3 =>
   have hf:=RepD_fit (t := .int .u8) (x:=n) g2;have hf:IntKind.u8.wrap n=n:=hf;rw[IntKind.wrap_u8]at hf;exact s_asciiHas (fun i=>theB (get i)) n (by omega) (by omega) w F β _ H (.cons (rop_bools hb g1) (.cons g2 g3))
 ·cases hc
def Γ1:GL:=(131,c_strings_asciiSet_contains)::Γ0
theorem Γ1ok:GO Γ1 := .cons k_strings_asciiSet_contains Γ0ok
abbrev W64 (n:Int):Int:=IntKind.i64.wrap n
def hasB (get:Nat→R) (c:UInt8):Bool:=theB (get c.toNat)
def trimR (p:UInt8→Bool) (s:List UInt8):List UInt8:=(s.reverse.dropWhile p).reverse
def trimL (p:UInt8→Bool) (s:List UInt8):List UInt8:=s.dropWhile p
def g_trim (f:(UInt8→Bool)→List UInt8→List UInt8) (st:St) (K:Cont):Option Fin:=match st with
 | ⟨[(0,x0),(1, .d (.one (.r (.rop m get))))],[]⟩=>match exS x0 with
  |some s=>need (Nat.ble s.length 9223372036854775807) (need (Nat.beq m 256&&boolsB get) (K (.exit 0) ⟨[(0,vS (f (hasB get) s))],[]⟩))
  |none=>none
 |_=>none
theorem trim_loop {f:(UInt8→Bool)→List UInt8→List UInt8} {F:St→Cont→Option Fin} {head:St→St}
  (h:∀(N:Nat) (s:List UInt8) (get:Nat→R) (K:Cont) (r:Fin),s.length<N→s.length≤9223372036854775807→boolsB get=true→K (.exit 0) ⟨[(0,vS (f (hasB get) s))],[]⟩=some r→iter F head N ⟨[(0,vS s),(1, .d (arg1 (.rop 256 get)))],[]⟩ K=some r) :
  ∀st K r,g_trim f st K=some r→∃N,iter F head N st K=some r:=by
 intro st K r hg;unfold g_trim at hg
 split at hg
 ·split at hg
  ·rename_i s hs;rw[need_some,need_some,Nat.ble_eq,Bool.and_eq_true]at hg;obtain⟨h0,⟨h1,h2⟩,h3⟩:=hg;have:=zB h1;subst this;rw[exS_some hs];exact⟨_,h _ s _ K r (Nat.lt_succ_self _) h0 h2 h3⟩
  ·cases hg
 ·cases hg
theorem byteAt_0 (c:UInt8) (s:List UInt8):(byteAt (c::s) 0).toNat=c.toNat:=rfl
def cx_trimLeftASCII:Cx:=cxOf Γ1 Tryd.f119.ntmps [(1,[0,1])] [(0,[0]),(1,[0,1])] [] [(1,g_trim trimL)]
theorem x_trimLeftASCII (s:Str) (get:Nat→R) (R:St→Option Fin) (K:Cont):evC cx_trimLeftASCII (loopOf Tryd.f119 0) ⟨[(0,vS s),(1, .d (arg1 (.rop 256 get)))],[]⟩ (onward (headAt cx_trimLeftASCII 1) R K) =
  branch (decide ((0:Int)<(s.length:Int))) (need (inb 0 s.length) <| need (Nat.beq 256 256&&boolsB get) <| branch (!theB (get (byteAt s 0).toNat)) (K (.exit 0) ⟨[(0,vS s)],[]⟩)
   (need (inr 1 (s.length:Int) s.length) <| R ⟨[(0,vS (List.take ((s.length:Int).toNat-(1:Int).toNat) (List.drop (1:Int).toNat s))),(1, .d (arg1 (.rop 256 get)))],[]⟩))
  (K (.exit 0) ⟨[(0,vS s)],[]⟩):=by kernel_rfl
theorem l_trimLeftASCII:∀st K r,g_trim trimL st K=some r→∃N,iter (evC cx_trimLeftASCII (loopOf Tryd.f119 0)) (headAt cx_trimLeftASCII 1) N st K=some r:=by
 refine trim_loop fun N => ?_
 induction N with
 |zero=>intro s get K r hN;omega
 |succ N ih =>
  intro s get K r hN hl hb hr;rw[iter_succ,x_trimLeftASCII]
  cases s with
  |nil=>exact hr
  |cons c s =>
   have hi:inr 1 ((c::s).length:Int) (c::s).length=true:=zT ⟨by omega,by simp;omega,by omega⟩;rw[zT (by simp:(0:Int)<((c::s).length:Int)),branch_true,inb_ok (by omega) (by simp),hb,hi,byteAt_0];simp only[need,branch_true,Nat.beq_refl,Bool.true_and,Int.toNat_natCast];have hd:trimL (hasB get) (c::s)=bif hasB get c then trimL (hasB get) s else c::s:=by unfold trimL;rw[List.dropWhile_cons];cases hasB get c<;>rfl
   rw[hd]at hr;unfold hasB at hr
   cases hc:theB (get c.toNat)
   ·rw[hc]at hr;exact hr
   ·rw[hc]at hr;rw[Bool.not_true,branch_false];have e:List.take ((c::s).length-(1:Int).toNat) (List.drop (1:Int).toNat (c::s))=s:=by simp
    rw[e];exact ih s get K r (by simp at hN;omega) (by simp at hl;omega) hb hr
theorem y_trimLeftASCII (s:Str) (p:Nat→Bool):evFn cx_trimLeftASCII Tryd.f119 true [ofD .str s,arg1 (ropB p)] []=need (Nat.ble s.length 9223372036854775807) (some (.d (ofD .str (trimL (hasB fun i => .v (.bool (p i))) s)),[])):=by kernel_rfl
theorem s_trimLeftASCII (s:Str) (p:Nat→Bool) (hs:s.length≤9223372036854775807):Sat Tryd.prog 119 [ofD .str s,arg1 (ropB p)] [] (.d (ofD .str (trimL (fun c=>p c.toNat) s))) [] :=
 fn_sound (cx:=cx_trimLeftASCII) Tryd.func119 rfl ttOk Γ1ok mixed (fun c hc=>LoopsOk.one (b:=loopOf Tryd.f119 0) (id:=1) (g:=g_trim trimL) (by cases hc;kernel_rfl) rfl l_trimLeftASCII) (ro:=true) (by
  rw[y_trimLeftASCII,Nat.ble_eq_true_of_le hs];rfl)
def c_strings_trimLeftASCII:Con:=⟨true,fun ds os=>match ds,os with
 | [.one (.r (.v (.string s))), .one (.r (.rop m get))],[]=>some (some (Nat.beq m 256&&boolsB get), .d (ofD .str (trimL (hasB get) s.data.toList)),[])
 |_,_=>none⟩
theorem k_strings_trimLeftASCII:ConOk Tryd.prog 119 c_strings_trimLeftASCII:=by
 refine⟨Tryd.call119,fun ds os c x objs hc hok => ?_⟩;unfold c_strings_trimLeftASCII at hc;dsimp only at hc
 split at hc
 ·rename_i s m get
  cases hc
  rcases hok with h | h
  ·cases h
  ·have hb:=Option.some.inj h;intro w F β args H hds
   cases hds with | cons g1 g2=>cases g2 with | cons g2 g3 =>
   have hf:s.data.toList.length≤9223372036854775807:=RepD_fit (t := .str) (x:=s.data.toList) g1;exact s_trimLeftASCII s.data.toList (fun i=>theB (get i)) hf w F β _ H (.cons g1 (.cons (rop_bools hb g2) g3))
 ·cases hc
def Γ2:GL:=(119,c_strings_trimLeftASCII)::Γ1
theorem Γ2ok:GO Γ2 := .cons k_strings_trimLeftASCII Γ1ok
def cx_trimRightASCII:Cx:=cxOf Γ2 Tryd.f120.ntmps [(1,[0,1])] [(0,[0]),(1,[0,1])] [] [(1,g_trim trimR)]
theorem x_trimRightASCII (s:Str) (get:Nat→R) (R:St→Option Fin) (K:Cont):evC cx_trimRightASCII (loopOf Tryd.f120 0) ⟨[(0,vS s),(1, .d (arg1 (.rop 256 get)))],[]⟩ (onward (headAt cx_trimRightASCII 1) R K) =
  branch (decide ((0:Int)<(s.length:Int))) (need (inb (W64 ((s.length:Int)-1)) s.length) <| need (Nat.beq 256 256&&boolsB get) <| branch (!theB (get (byteAt s (W64 ((s.length:Int)-1))).toNat)) (K (.exit 0) ⟨[(0,vS s)],[]⟩)
   (need (inr 0 (W64 ((s.length:Int)-1)) s.length) <| R ⟨[(0,vS (List.take ((W64 ((s.length:Int)-1)).toNat-(0:Int).toNat) (List.drop (0:Int).toNat s))),(1, .d (arg1 (.rop 256 get)))],[]⟩))
  (K (.exit 0) ⟨[(0,vS s)],[]⟩):=by kernel_rfl
theorem trimR_snoc (p:UInt8→Bool) (s:List UInt8) (c:UInt8):trimR p (s++[c])=bif p c then trimR p s else s++[c]:=by
 unfold trimR;rw[List.reverse_append];show(List.dropWhile p (c::s.reverse)).reverse=_;rw[List.dropWhile_cons]
 cases p c
 ·simp
 ·rfl
theorem l_trimRightASCII:∀st K r,g_trim trimR st K=some r→∃N,iter (evC cx_trimRightASCII (loopOf Tryd.f120 0)) (headAt cx_trimRightASCII 1) N st K=some r:=by
 refine trim_loop fun N => ?_
 induction N with
 |zero=>intro s get K r hN;omega
 |succ N ih =>
  intro s get K r hN hl hb hr;rw[iter_succ,x_trimRightASCII];have hcc:s=[]∨∃l c,s=l++[c]:=by
   rcases List.eq_nil_or_concat s with hn | ⟨l,e,hl⟩
   ·exact .inl hn
   ·exact .inr ⟨l,e,by rw[hl,List.concat_eq_append]⟩
  rcases hcc with rfl | ⟨s,c,rfl⟩
  ·exact hr
  ·have hlen:(s++[c]).length=s.length+1:=by simp
   rw[hlen]at hN hl ⊢;have e1:W64 (((s.length+1:Nat):Int)-1)=(s.length:Int):=by simp only[W64];rw[wrap_small (by omega) (by omega)];omega
   have e2:byteAt (s++[c]) (s.length:Int)=(c.toNat:Int):=by unfold byteAt;simp[getD]
   have hi:inr 0 (s.length:Int) (s.length+1)=true:=zT ⟨by omega,by omega,by omega⟩;rw[zT (by omega:(0:Int)<((s.length+1:Nat):Int)),branch_true,e1,e2,inb_ok (by omega) (by omega),hb,hi];simp only[need,branch_true,Nat.beq_refl,Bool.true_and,Int.toNat_natCast];rw[trimR_snoc]at hr;unfold hasB at hr
   cases hc:theB (get c.toNat)
   ·rw[hc]at hr;exact hr
   ·rw[hc]at hr;rw[Bool.not_true,branch_false];have e:List.take (s.length-(0:Int).toNat) (List.drop (0:Int).toNat (s++[c]))=s:=by simp
    rw[e];exact ih s get K r (by omega) (by omega) hb hr
theorem y_trimRightASCII (s:Str) (p:Nat→Bool):evFn cx_trimRightASCII Tryd.f120 true [ofD .str s,arg1 (ropB p)] []=need (Nat.ble s.length 9223372036854775807) (some (.d (ofD .str (trimR (hasB fun i => .v (.bool (p i))) s)),[])):=by kernel_rfl
theorem s_trimRightASCII (s:Str) (p:Nat→Bool) (hs:s.length≤9223372036854775807):Sat Tryd.prog 120 [ofD .str s,arg1 (ropB p)] [] (.d (ofD .str (trimR (fun c=>p c.toNat) s))) [] :=
 fn_sound (cx:=cx_trimRightASCII) Tryd.func120 rfl ttOk Γ2ok mixed (fun c hc=>LoopsOk.one (b:=loopOf Tryd.f120 0) (id:=1) (g:=g_trim trimR) (by cases hc;kernel_rfl) rfl l_trimRightASCII) (ro:=true) (by
  rw[y_trimRightASCII,Nat.ble_eq_true_of_le hs];rfl)
def c_strings_trimRightASCII:Con:=⟨true,fun ds os=>match ds,os with
 | [.one (.r (.v (.string s))), .one (.r (.rop m get))],[]=>some (some (Nat.beq m 256&&boolsB get), .d (ofD .str (trimR (hasB get) s.data.toList)),[])
 |_,_=>none⟩
theorem k_strings_trimRightASCII:ConOk Tryd.prog 120 c_strings_trimRightASCII:=by
 refine⟨Tryd.call120,fun ds os c x objs hc hok => ?_⟩;unfold c_strings_trimRightASCII at hc;dsimp only at hc
 split at hc
 ·rename_i s m get
  cases hc
  rcases hok with h | h
  ·cases h
  ·have hb:=Option.some.inj h;intro w F β args H hds
   cases hds with | cons g1 g2=>cases g2 with | cons g2 g3 =>
   have hf:s.data.toList.length≤9223372036854775807:=RepD_fit (t := .str) (x:=s.data.toList) g1;exact s_trimRightASCII s.data.toList (fun i=>theB (get i)) hf w F β _ H (.cons g1 (.cons (rop_bools hb g2) g3))
 ·cases hc
def Γ3:GL:=(120,c_strings_trimRightASCII)::Γ2
theorem Γ3ok:GO Γ3 := .cons k_strings_trimRightASCII Γ2ok
def cutA:Str:=[97,98,99,100]
def cutB:Str:=[65,66,67,68,69,97,98,99,100]
def isCut (s:Str):Bool:=decide (s=cutA)||decide (s=cutB)
def setOf (l:Str) (i:Nat):Bool:=l.any fun c=>Nat.beq c.toNat i
def cells256 (l:Str):List C:=(List.range 256).map fun i => .r (.v (.bool (setOf l i)))
def inCut (l:Str) (c:UInt8):Bool:=setOf l c.toNat
def trim (cut s:Str):Str:=trimL (inCut cut) (trimR (inCut cut) s)
theorem isCut_iff {s:Str} (h:isCut s=true):s=cutA∨s=cutB:=by
 unfold isCut at h;rw[Bool.or_eq_true,decide_eq_true_eq,decide_eq_true_eq]at h;exact h
def cx_mkSet0:Cx:=cxOf Γ3 Tryd.f118.ntmps [(2,[0,2,4])] [(0,[2]),(1,[0,2,4])] [] []
def cx_mkSet:Cx:=cx_mkSet0.withLoops (look [(2,unroll cx_mkSet0 (loopOf Tryd.f118 0) 2 12)])
theorem y_mkSetA:evFn cx_mkSet Tryd.f118 true [ofD .str cutA] []=some (.tup [.agg (cells256 cutA), .one (.r (.v (.bool true)))],[]):=by kernel_rfl
theorem y_mkSetB:evFn cx_mkSet Tryd.f118 true [ofD .str cutB] []=some (.tup [.agg (cells256 cutB), .one (.r (.v (.bool true)))],[]):=by kernel_rfl
theorem s_mkSet (s:Str) (h:isCut s=true):Sat Tryd.prog 118 [ofD .str s] [] (.tup [.agg (cells256 s), .one (.r (.v (.bool true)))]) [] :=
 fn_sound (cx:=cx_mkSet) Tryd.func118 rfl ttOk Γ3ok mixed (fun c hc=>LoopsOk.one (b:=loopOf Tryd.f118 0) (id:=2) (g:=unroll cx_mkSet0 (loopOf Tryd.f118 0) 2 12) (by cases hc;kernel_rfl) rfl (unroll_ok (by kernel_rfl))) (ro:=true) (by
  rcases isCut_iff h with rfl | rfl
  ·exact y_mkSetA
  ·exact y_mkSetB)
def c_strings_makeASCIISet:Con:=⟨true,fun ds os=>match ds,os with
 | [.one (.r (.v (.string s)))],[]=>match isCut s.data.toList with
  |true=>some (none, .tup [.agg (cells256 s.data.toList), .one (.r (.v (.bool true)))],[])
  |false=>none
 |_,_=>none⟩
theorem k_strings_makeASCIISet:ConOk Tryd.prog 118 c_strings_makeASCIISet:=by
 refine⟨Tryd.call118,fun ds os c x objs hc hok => ?_⟩;unfold c_strings_makeASCIISet at hc;dsimp only at hc
 split at hc
 ·rename_i s
  split at hc
  ·rename_i hb
   cases hc
   exact s_mkSet s.data.toList hb
  ·cases hc
 ·cases hc
def Γ4:GL:=(118,c_strings_makeASCIISet)::Γ3
theorem Γ4ok:GO Γ4 := .cons k_strings_makeASCIISet Γ3ok
theorem y_trimA (s:Str):evFn (cxOf Γ4 Tryd.f104.ntmps [] [] [] []) Tryd.f104 true [ofD .str s,ofD .str cutA] []=branch (bif decide (s=[])then true else false) (some (.d (ofD .str s),[])) (need true (need true (some (.d (ofD .str (trimL (hasB fun i=>((List.range 256).map fun i=>R.v (.bool (setOf cutA i))).getD i z0) (trimR (hasB fun i=>((List.range 256).map fun i=>R.v (.bool (setOf cutA i))).getD i z0) s))),[])))):=by kernel_rfl
theorem y_trimB (s:Str):evFn (cxOf Γ4 Tryd.f104.ntmps [] [] [] []) Tryd.f104 true [ofD .str s,ofD .str cutB] []=branch (bif decide (s=[])then true else false) (some (.d (ofD .str s),[])) (need true (need true (some (.d (ofD .str (trimL (hasB fun i=>((List.range 256).map fun i=>R.v (.bool (setOf cutB i))).getD i z0) (trimR (hasB fun i=>((List.range 256).map fun i=>R.v (.bool (setOf cutB i))).getD i z0) s))),[])))):=by kernel_rfl
theorem hasB_cells (cut:Str):(hasB fun i=>((List.range 256).map fun i=>R.v (.bool (setOf cut i))).getD i z0)=inCut cut:=by
 funext c
 unfold hasB inCut;show theB (((List.range 256).map fun i=>R.v (.bool (setOf cut i))).getD c.toNat z0)=_;rw[zG,List.getElem?_map,List.getElem?_range c.toNat_lt];rfl
theorem s_trim (s cut:Str) (h:isCut cut=true):Sat Tryd.prog 104 [ofD .str s,ofD .str cut] [] (.d (ofD .str (trim cut s))) [] :=
 fn_sound (cx:=cxOf Γ4 Tryd.f104.ntmps [] [] [] []) Tryd.func104 rfl ttOk Γ4ok mixed (fun c hc=>LoopsOk.nil (by cases hc;kernel_rfl)) (ro:=true) (by
  have key:∀(cut:Str),branch (bif decide (s=[])then true else false) (some ((.d (ofD .str s),[]):Fin)) (need true (need true (some (.d (ofD .str (trimL (hasB fun i=>((List.range 256).map fun i=>R.v (.bool (setOf cut i))).getD i z0) (trimR (hasB fun i=>((List.range 256).map fun i=>R.v (.bool (setOf cut i))).getD i z0) s))),[]))))=some (.d (ofD .str (trim cut s)),[]):=by
   intro cut;rw[hasB_cells]
   by_cases hs:s=[]
   ·subst hs;rfl
   ·rw[zF hs];rfl
  rcases isCut_iff h with rfl | rfl
  ·rw[y_trimA];exact key cutA
  ·rw[y_trimB];exact key cutB)
def c_strings_Trim:Con:=conT [.str, .str] fun s cut=>(some (isCut cut), .d (ofD .str (trim cut s)))
theorem k_strings_Trim:ConOk Tryd.prog 104 c_strings_Trim:=conT_ok Tryd.call104 fun s _ cut _ h=>s_trim s cut (by
 rcases h with h | h
 ·cases h
 ·exact Option.some.inj h)
def Γ5:GL:=(104,c_strings_Trim)::Γ4
theorem Γ5ok:GO Γ5 := .cons k_strings_Trim Γ4ok
theorem dropWhile_nil {p:UInt8→Bool}:∀ {s:Str},s.dropWhile p=[]↔s.all p=true
 | []=>by simp
 |c::s=>by
  rw[List.dropWhile_cons,List.all_cons]
  cases h:p c
  ·simp
  ·simp[dropWhile_nil (s:=s)]
theorem trim_nil {cut s:Str}:trim cut s=[]↔s.all (inCut cut)=true:=by
 unfold trim trimL trimR;rw[dropWhile_nil,List.all_reverse]
 constructor
 ·intro h;have h1:∀(l:Str),(l.dropWhile (inCut cut)).all (inCut cut)=true→l.all (inCut cut)=true:=by
   intro l
   induction l with
   |nil=>intro _;rfl
   |cons c l ih =>
    intro hl;rw[List.dropWhile_cons]at hl
    cases hc:inCut cut c
    ·rw[hc]at hl;exact hl
    ·rw[hc]at hl;rw[List.all_cons,hc,ih hl];rfl
  have:=h1 _ h
  rwa [List.all_reverse]at this
 ·intro h;have:s.reverse.dropWhile (inCut cut)=[]:=dropWhile_nil.2 (by rw[List.all_reverse];exact h);rw[this];rfl
theorem inCut_A (c:UInt8):inCut cutA c=(Nat.ble 97 c.toNat&&Nat.ble c.toNat 100):=by
 have:∀n:_root_.Fin 256,setOf cutA n.val=(Nat.ble 97 n.val&&Nat.ble n.val 100):=by decide +kernel
 exact this ⟨c.toNat,c.toNat_lt⟩
theorem inCut_B (c:UInt8):inCut cutB c=((Nat.ble 65 c.toNat&&Nat.ble c.toNat 69)||(Nat.ble 97 c.toNat&&Nat.ble c.toNat 100)):=by
 have:∀n:_root_.Fin 256,setOf cutB n.val=((Nat.ble 65 n.val&&Nat.ble n.val 69)||(Nat.ble 97 n.val&&Nat.ble n.val 100)):=by decide +kernel
 exact this ⟨c.toNat,c.toNat_lt⟩
def small (c:UInt8):Bool:=Nat.ble 97 c.toNat&&Nat.ble c.toNat 100
def smallS:Str→Bool
 | [c]=>small c
 |_=>false
theorem smallS_one {s:Str} (h:smallS s=true):∃c,s=[c]∧small c=true:=by
 unfold smallS at h
 split at h
 ·exact ⟨_,rfl,h⟩
 ·cases h
def smallI (c:Int):Bool:=bif decide (97≤c)then decide (c≤100)else false
theorem smallI_nat (c:UInt8):smallI (c.toNat:Int)=small c:=by
 unfold smallI small
 by_cases h1:97≤c.toNat
 ·rw[zT (by omega:(97:Int)≤(c.toNat:Int)),Nat.ble_eq_true_of_le h1]
  by_cases h2:c.toNat≤100
  ·rw[Nat.ble_eq_true_of_le h2];simp;omega
  ·have:Nat.ble c.toNat 100=false:=by
    cases hb:Nat.ble c.toNat 100
    ·rfl
    ·exact absurd (Nat.le_of_ble_eq_true hb) h2
   rw[this];simp;omega
 ·have:Nat.ble 97 c.toNat=false:=by
   cases hb:Nat.ble 97 c.toNat
   ·rfl
   ·exact absurd (Nat.le_of_ble_eq_true hb) h1
  rw[zF (by omega:¬(97:Int)≤(c.toNat:Int)),this];rfl
theorem byteAt_get {s:Str} {i:Int} (_h0:0≤i) (h1:i.toNat<s.length):byteAt s i=(s[i.toNat].toNat:Int):=by
 unfold byteAt;rw[zG,zE h1];rfl
theorem s_spec_l1Small (c:Int) (_hc:Fit (.int .u8) c):Sat Tryd.prog 107 [ofD (.int .u8) c] [] (.d (ofD .bool (smallI c))) [] :=
 fn_sound (cx:=cxOf Γ5 Tryd.f107.ntmps [] [] [] []) Tryd.func107 rfl ttOk Γ5ok mixed (fun _ _=>LoopsOk.no fun _=>rfl) (ro:=true) (by
  kernel_rfl)
def c_spec_l1Small:Con:=conT [(.int .u8)] fun(c:Int)=>(none, .d (ofD .bool (smallI c)))
theorem k_spec_l1Small:ConOk Tryd.prog 107 c_spec_l1Small:=conT_ok Tryd.call107 fun c hc _=>s_spec_l1Small c hc
def Γ6:GL:=(107,c_spec_l1Small)::Γ5
theorem Γ6ok:GO Γ6 := .cons k_spec_l1Small Γ5ok
theorem y_spec_SignSmall (s:Str):evFn (cxOf Γ6 Tryd.f82.ntmps [] [] [] []) Tryd.f82 true [ofD .str s] []=need (bif decide (decide ((s.length:Int)=1)=true)then inb 0 s.length else true) (some (vB (bif decide ((s.length:Int)=1)then smallI (byteAt s 0)else false),[])):=by kernel_rfl
theorem s_spec_SignSmall (s:Str) (_hs:Fit .str s):Sat Tryd.prog 82 [ofD .str s] [] (.d (ofD .bool (smallS s))) [] :=
 fn_sound (cx:=cxOf Γ6 Tryd.f82.ntmps [] [] [] []) Tryd.func82 rfl ttOk Γ6ok mixed (fun _ _=>LoopsOk.no fun _=>rfl) (ro:=true) (by
  rw[y_spec_SignSmall]
  cases s with
  |nil=>rfl
  |cons c s=>cases s with
   |nil=>exact congrArg (fun b=>some ((vB b,[]):Fin)) (smallI_nat c)
   |cons d s =>
    rw[zF (by simp;omega:¬((c::d::s).length:Int)=1)];rfl)
def c_spec_SignSmall:Con:=conT [.str] fun(s:Str)=>(none, .d (ofD .bool (smallS s)))
theorem k_spec_SignSmall:ConOk Tryd.prog 82 c_spec_SignSmall:=conT_ok Tryd.call82 fun s hs _=>s_spec_SignSmall s hs
def Γ7:GL:=(82,c_spec_SignSmall)::Γ6
theorem Γ7ok:GO Γ7 := .cons k_spec_SignSmall Γ6ok
def isIn (s:Str) (a b:Int):Bool:=bif (bif decide ((s.length:Int)=1)then decide (a≤byteAt s 0)else false)then decide (byteAt s 0≤b)else false
theorem y_impl_isIn (s:Str) (a:Int) (b:Int):evFn (cxOf Γ7 Tryd.f103.ntmps [] [] [] []) Tryd.f103 true [ofD .str s,ofD (.int .u8) a,ofD (.int .u8) b] []=need (bif decide (decide ((s.length:Int)=1)=true)then inb 0 s.length else true) (need (bif decide ((bif decide ((s.length:Int)=1)then decide (a≤byteAt s 0)else false)=true)then inb 0 s.length else true) (some (vB (isIn s a b),[]))):=by kernel_rfl
theorem s_impl_isIn (s:Str) (_hs:Fit .str s) (a:Int) (_ha:Fit (.int .u8) a) (b:Int) (_hb:Fit (.int .u8) b):Sat Tryd.prog 103 [ofD .str s,ofD (.int .u8) a,ofD (.int .u8) b] [] (.d (ofD .bool (isIn s a b))) [] :=
 fn_sound (cx:=cxOf Γ7 Tryd.f103.ntmps [] [] [] []) Tryd.func103 rfl ttOk Γ7ok mixed (fun _ _=>LoopsOk.no fun _=>rfl) (ro:=true) (by
  rw[y_impl_isIn]
  by_cases h:s.length=1
  ·rw[zT (by omega:(s.length:Int)=1),h]
   cases decide (a≤byteAt s 0)<;>rfl
  ·rw[zF (by omega:¬(s.length:Int)=1)];rfl)
def c_impl_isIn:Con:=conT [.str,(.int .u8),(.int .u8)] fun(s:Str) (a:Int) (b:Int)=>(none, .d (ofD .bool (isIn s a b)))
theorem k_impl_isIn:ConOk Tryd.prog 103 c_impl_isIn:=conT_ok Tryd.call103 fun s hs a ha b hb _=>s_impl_isIn s hs a ha b hb
def Γ8:GL:=(103,c_impl_isIn)::Γ7
theorem Γ8ok:GO Γ8 := .cons k_impl_isIn Γ7ok
theorem s_impl_SignSmall (s:Str) (_hs:Fit .str s):Sat Tryd.prog 78 [ofD .str s] [] (.d (ofD .bool (smallS s))) [] :=
 fn_sound (cx:=cxOf Γ8 Tryd.f78.ntmps [] [] [] []) Tryd.func78 rfl ttOk Γ8ok mixed (fun _ _=>LoopsOk.no fun _=>rfl) (ro:=true) (by
  have:evFn (cxOf Γ8 Tryd.f78.ntmps [] [] [] []) Tryd.f78 true [ofD .str s] []=some (vB (isIn s 97 100),[]):=by kernel_rfl
  rw[this];have:isIn s 97 100=smallS s:=by
   unfold isIn
   cases s with
   |nil=>rfl
   |cons c s=>cases s with
    |nil=>exact smallI_nat c
    |cons d s=>rw[zF (by simp;omega:¬((c::d::s).length:Int)=1)];rfl
  rw[this];rfl)
def c_impl_SignSmall:Con:=conT [.str] fun(s:Str)=>(none, .d (ofD .bool (smallS s)))
theorem k_impl_SignSmall:ConOk Tryd.prog 78 c_impl_SignSmall:=conT_ok Tryd.call78 fun s hs _=>s_impl_SignSmall s hs
def Γ9:GL:=(78,c_impl_SignSmall)::Γ8
theorem Γ9ok:GO Γ9 := .cons k_impl_SignSmall Γ8ok
def areSm (s:Str) (n:Int):Bool:=bif decide ((s.length:Int)≤n)then s.all small else false
theorem y_impl_areSmalls (s:Str) (n:Int):evFn (cxOf Γ9 Tryd.f98.ntmps [] [] [] []) Tryd.f98 true [ofD .str s,ofD TI64 n] [] =
 need (bif decide (decide ((s.length:Int)≤n)=true)then isCut cutA else true) (some (vB (bif decide ((s.length:Int)≤n)then decide (trim cutA s=[])else false),[])):=by kernel_rfl
theorem trimA_nil (s:Str):decide (trim cutA s=[])=s.all small:=by
 have e:(inCut cutA)=small:=by funext c;exact inCut_A c
 have h:=trim_nil (cut:=cutA) (s:=s);rw[e]at h
 by_cases g:trim cutA s=[]
 ·rw[zT g,h.1 g]
 ·rw[zF g]
  cases hs:s.all small
  ·rfl
  ·exact absurd (h.2 hs) g
theorem s_impl_areSmalls (s:Str) (_hs:Fit .str s) (n:Int) (_hn:Fit TI64 n):Sat Tryd.prog 98 [ofD .str s,ofD TI64 n] [] (.d (ofD .bool (areSm s n))) [] :=
 fn_sound (cx:=cxOf Γ9 Tryd.f98.ntmps [] [] [] []) Tryd.func98 rfl ttOk Γ9ok mixed (fun _ _=>LoopsOk.no fun _=>rfl) (ro:=true) (by
  rw[y_impl_areSmalls,trimA_nil];unfold areSm
  cases decide ((s.length:Int)≤n)<;>rfl)
def c_impl_areSmalls:Con:=conT [.str,TI64] fun(s:Str) (n:Int)=>(none, .d (ofD .bool (areSm s n)))
theorem k_impl_areSmalls:ConOk Tryd.prog 98 c_impl_areSmalls:=conT_ok Tryd.call98 fun s hs n hn _=>s_impl_areSmalls s hs n hn
def Γ10:GL:=(98,c_impl_areSmalls)::Γ9
theorem Γ10ok:GO Γ10 := .cons k_impl_areSmalls Γ9ok
abbrev TB:Ty := .list (.int .u8)
abbrev Rd:Type:=List Int×Int
def mixM (l:List Int) (p:Int):Int :=
 W64 (W64 (W64 (W64 (W64 (l.getD (p.tmod (l.length:Int)).toNat 0)*131)+W64 (W64 (l.getD ((W64 (W64 (p*7)+3)).tmod (l.length:Int)).toNat 0)*1117))+W64 (p*29))+W64 (W64 (p.tdiv (l.length:Int))*53))
def mixV (l:List Int) (p:Int):Int:=W64 (((BitVec.ofInt 64 (mixM l p)) ^^^ (BitVec.ofInt 64 (W64 ((mixM l p).tdiv 64)))).toNat:Int)
def pickV (x:Rd) (n:Int):Int :=
 bif (bif decide (n<1)then true else decide ((x.1.length:Int)=0))then 0 else
 bif decide (x.2<(x.1.length:Int))then(W64 (x.1.getD x.2.toNat 0)).tmod n else(mixV x.1 x.2).tmod n
def rdGo (x:Rd) (k:Int):Rd:=(x.1,x.2+k)
def rdOk (x:Rd):Bool:=decide (0≤x.2)&&decide (x.2≤10000001000000)
theorem rem_range {m n:Int} (h0:0≤m) (h1:1≤n):0≤m.tmod n∧m.tmod n<n:=⟨Int.tmod_nonneg _ h0,Int.tmod_lt_of_pos _ (by omega)⟩
theorem mixV_nonneg {l:List Int} {p:Int} (hl:∀b∈l,0≤b∧b≤255) (h0:0≤p) (h1:p≤10000001000000) (hn:l≠[]):0≤mixV l p:=by
 have hlen:1≤(l.length:Int):=by cases l with | nil=>exact absurd rfl hn | cons a l=>simp;omega
 have hb:∀i:Nat,0≤l.getD i 0∧l.getD i 0≤255:=fun i=>by
  rw[zG]
  cases h:l[i]? with
  |none=>simp
  |some b=>simpa using hl b (List.mem_of_getElem? h)
 have b1:=hb (p.tmod (l.length:Int)).toNat;have b2:=hb ((W64 (W64 (p*7)+3)).tmod (l.length:Int)).toNat;have hd:0≤p.tdiv (l.length:Int)∧p.tdiv (l.length:Int)≤p:=by
  constructor
  ·exact Int.tdiv_nonneg h0 (by omega)
  ·rw[Int.tdiv_eq_ediv_of_nonneg h0];exact Int.ediv_le_self _ h0
 have hm:0≤mixM l p∧mixM l p≤10000000000000000:=by
  unfold mixM
  generalize l.getD (p.tmod (l.length:Int)).toNat 0=c1 at b1 ⊢
  generalize l.getD ((W64 (W64 (p*7)+3)).tmod (l.length:Int)).toNat 0=c2 at b2 ⊢
  generalize p.tdiv (l.length:Int)=d at hd ⊢
  simp only[W64];rw[wrap_small (n:=c1) (by omega) (by omega),wrap_small (n:=c2) (by omega) (by omega),wrap_small (n:=d) (by omega) (by omega),
   wrap_small (n:=c1*131) (by omega) (by omega),wrap_small (n:=c2*1117) (by omega) (by omega),wrap_small (n:=p*29) (by omega) (by omega),wrap_small (n:=d*53) (by omega) (by omega),
   wrap_small (n:=c1*131+c2*1117) (by omega) (by omega),wrap_small (n:=c1*131+c2*1117+p*29) (by omega) (by omega),wrap_small (n:=c1*131+c2*1117+p*29+d*53) (by omega) (by omega)]
  omega
 unfold mixV
 generalize mixM l p=m at hm ⊢
 have hq:0≤m.tdiv 64∧m.tdiv 64≤m:=⟨Int.tdiv_nonneg hm.1 (by omega),by rw[Int.tdiv_eq_ediv_of_nonneg hm.1];exact Int.ediv_le_self _ hm.1⟩;simp only[W64];rw[wrap_small (n:=m.tdiv 64) (by omega) (by omega)]
 generalize m.tdiv 64=q at hq ⊢
 have hx:(BitVec.ofInt 64 m ^^^ BitVec.ofInt 64 q).toNat<2 ^ 63:=by
  rw[BitVec.toNat_xor]
  apply Nat.xor_lt_two_pow
  ·rw[BitVec.toNat_ofInt];omega
  ·rw[BitVec.toNat_ofInt];omega
 rw[wrap_small (by omega) (by omega)];omega
theorem byteFit {l:List Int} (h:Fit TB l):∀b∈l,0≤b∧b≤255:=fun b hb=>by
 have:IntKind.u8.wrap b=b:=h.2 b hb;rw[IntKind.wrap_u8]at this;omega
def BY (x:Rd):Prop:=∀b∈x.1,0≤b∧b≤255
def byB (x:Rd):Bool:=x.1.all fun b=>decide (0≤b∧b≤255)
theorem byB_iff {x:Rd}:byB x=true↔BY x:=by unfold byB BY;rw[all_eq_true];exact ⟨fun h b hb=>of_decide_eq_true (h b hb),fun h b hb=>zT (h b hb)⟩
theorem pickV_range {x:Rd} {n:Int} (hx:BY x) (hk:rdOk x=true) (hn:1≤n):0≤pickV x n∧pickV x n<n:=by
 simp only[rdOk,Bool.and_eq_true,decide_eq_true_eq]at hk;unfold pickV;rw[zF (by omega:¬n<1),cond_false]
 by_cases h:(x.1.length:Int)=0
 ·rw[zT h,cond_true];omega
 ·rw[zF h,cond_false]
  by_cases h2:x.2<(x.1.length:Int)
  ·rw[zT h2,cond_true];have hlt:x.2.toNat<x.1.length:=by omega
   have:=hx x.1[x.2.toNat] (List.getElem_mem hlt);rw[zG,zE hlt];simp only[Option.getD_some,W64];rw[wrap_small (by omega) (by omega)];exact rem_range this.1 hn
  ·rw[zF h2,cond_false];exact rem_range (mixV_nonneg hx hk.1 hk.2 (fun e=>by rw[e]at h;exact h rfl)) hn
abbrev TR:Ty:=ty125
theorem y_pick (x:Rd) (n:Int):evFn (cxOf Γ10 Tryd.f72.ntmps [] [] [] []) Tryd.f72 false [.one (.ptr 0 0),ofD (.int .i64) n] [boxD 125 TR x] =
  branch (bif decide (n<1)then true else decide ((x.1.length:Int)=0)) (some (.d (ofD TI64 (0:Int)),[(0,some (boxD 125 TR ((x.1,W64 (x.2+1)):Rd)))]))
  (branch (decide (W64 (W64 (x.2+1)-1)<(x.1.length:Int)))
   (need (inb (W64 (W64 (x.2+1)-1)) x.1.length) <| need (!decide (n=0)) <| some (.d (ofD TI64 ((W64 (x.1.getD (W64 (W64 (x.2+1)-1)).toNat 0)).tmod n)),[(0,some (boxD 125 TR ((x.1,W64 (x.2+1)):Rd)))]))
   (need (!decide ((x.1.length:Int)=0)) <| need (inb ((W64 (W64 (x.2+1)-1)).tmod (x.1.length:Int)) x.1.length) <| need (!decide ((x.1.length:Int)=0)) <|
    need (inb ((W64 (W64 (W64 (W64 (x.2+1)-1)*7)+3)).tmod (x.1.length:Int)) x.1.length) <| need (!decide ((x.1.length:Int)=0)) <| need (!decide ((64:Int)=0)) <| need (!decide (n=0)) <|
    some (.d (ofD TI64 ((mixV x.1 (W64 (W64 (x.2+1)-1))).tmod n)),[(0,some (boxD 125 TR ((x.1,W64 (x.2+1)):Rd)))]))):=by kernel_rfl
theorem s_pick (x:Rd) (n:Int) (hk:rdOk x=true):Sat Tryd.prog 72 [.one (.ptr 0 0),ofD (.int .i64) n] [boxD 125 TR x] (.d (ofD TI64 (pickV x n))) [(0,some (boxD 125 TR (rdGo x 1)))] :=
 fn_sound (cx:=cxOf Γ10 Tryd.f72.ntmps [] [] [] []) Tryd.func72 rfl ttOk Γ10ok mixed (fun c hc=>LoopsOk.nil (by cases hc;kernel_rfl)) (ro:=false) (by
  simp only[rdOk,Bool.and_eq_true,decide_eq_true_eq]at hk;have e1:W64 (W64 (x.2+1)-1)=x.2:=by
   simp only[W64];rw[wrap_small (n:=x.2+1) (by omega) (by omega),wrap_small (by omega) (by omega)];omega
  have e2:W64 (W64 (x.2*7)+3)=x.2*7+3:=by
   simp only[W64];rw[wrap_small (n:=x.2*7) (by omega) (by omega),wrap_small (by omega) (by omega)]
  have e3:W64 (x.2+1)=x.2+1:=wrap_small (by omega) (by omega);rw[y_pick,e1,e2,e3];unfold pickV
  cases hc:(bif decide (n<1)then true else decide ((x.1.length:Int)=0))
  ·have hn:¬n<1∧¬(x.1.length:Int)=0:=by
    constructor
    ·intro h;rw[zT h]at hc;cases hc
    ·intro h;rw[zT h]at hc;cases hd:decide (n<1)<;>rw[hd]at hc<;>cases hc
   rw[branch_false,cond_false];have hlen:1≤(x.1.length:Int):=by omega
   by_cases h2:x.2<(x.1.length:Int)
   ·rw[zT h2,branch_true,cond_true,inb_ok hk.1 h2,zF (by omega:¬n=0)];rfl
   ·have r1:=rem_range (m:=x.2) hk.1 hlen;have r2:=rem_range (m:=x.2*7+3) (by omega) hlen;rw[zF h2,branch_false,cond_false,zF hn.2,inb_ok r1.1 r1.2,inb_ok r2.1 r2.2,zF (by omega:¬n=0)];rfl
  ·rfl)
def c_spec_l17Rd_pick:Con:=conB 125 TR [TI64] fun x n=>(some (rdOk x), .d (ofD TI64 (pickV x n)),(rdGo x 1))
theorem k_spec_l17Rd_pick:ConOk Tryd.prog 72 c_spec_l17Rd_pick:=conB_ok Tryd.call72 fun x _ n _ h=>s_pick x n (by
 rcases h with h | h
 ·cases h
 ·exact Option.some.inj h)
def Γ11:GL:=(72,c_spec_l17Rd_pick)::Γ10
theorem Γ11ok:GO Γ11 := .cons k_spec_l17Rd_pick Γ10ok
abbrev TIS:Ty := .list (.int .i64)
def rdAt (x:Rd) (k:Int):Bool:=decide (0≤x.2)&&decide (x.2≤k)
def Adv (x x':Rd) (c:Int):Prop:=x'.1=x.1∧x.2≤x'.2∧x'.2≤x.2+c
theorem rdAt_iff {x:Rd} {k:Int}:rdAt x k=true↔0≤x.2∧x.2≤k:=by unfold rdAt;rw[Bool.and_eq_true,decide_eq_true_eq,decide_eq_true_eq]
theorem rdOk_iff {x:Rd}:rdOk x=true↔0≤x.2∧x.2≤10000001000000:=rdAt_iff
theorem Adv.ok {x x':Rd} {c k:Int} (h:Adv x x' c) (hk:rdAt x k=true) (hc:k+c≤10000001000000):rdOk x'=true:=by
 have:=rdAt_iff.1 hk;obtain⟨_,h1,h2⟩:=h;exact rdOk_iff.2 ⟨by omega,by omega⟩
theorem Adv.at {x x':Rd} {c k k':Int} (h:Adv x x' c) (hk:rdAt x k=true) (hc:k+c≤k'):rdAt x' k'=true:=by
 have:=rdAt_iff.1 hk;obtain⟨_,h1,h2⟩:=h;exact rdAt_iff.2 ⟨by omega,by omega⟩
theorem Adv.refl (x:Rd):Adv x x 0:=⟨rfl,by omega,by omega⟩
theorem Adv.one (x:Rd):Adv x (rdGo x 1) 1:=⟨rfl,by simp only[rdGo];omega,by simp only[rdGo];omega⟩
theorem Adv.trans {x y z:Rd} {c d:Int} (h:Adv x y c) (g:Adv y z d):Adv x z (c+d):=⟨g.1.trans h.1,Int.le_trans h.2.1 g.2.1,by have:=h.2.2;have:=g.2.2;omega⟩
theorem Adv.le {x y:Rd} {c d:Int} (h:Adv x y c) (hc:c≤d):Adv x y d:=⟨h.1,h.2.1,by have:=h.2.2;omega⟩
theorem Adv.fit {x y:Rd} {c k:Int} (h:Adv x y c) (hx:Fit (.pair TB TI64) x) (hk:rdAt x k=true) (hc:k+c≤10000001000000):Fit (.pair TB TI64) y:=by
 have:=rdAt_iff.1 hk;obtain⟨h0,h1,h2⟩:=h;exact⟨by rw[h0];exact hx.1,wrap_small (by omega) (by omega)⟩
def numV (x:Rd) (l:List Int):Int:=l.getD (pickV x l.length).toNat 0
theorem y_num (x:Rd) (l:List Int):evFn (cxOf Γ11 Tryd.f71.ntmps [] [] [] []) Tryd.f71 false [.one (.ptr 0 0), .one (.own 1)] [boxD 125 TR x, .lis 3 TI64 l] =
 need (rdOk x) (need (inb (pickV x l.length) l.length) (some (vI (numV x l),[(0,some (boxD 125 TR (rdGo x 1))),(1,some (.lis 3 TI64 l))]))):=by kernel_rfl
theorem s_num (x:Rd) (l:List Int) (hx:Fit TR x) (hk:rdOk x=true) (hl:0<l.length):Sat Tryd.prog 71 [.one (.ptr 0 0), .one (.own 1)] [boxD 125 TR x, .lis 3 TI64 l] (vI (numV x l)) [(0,some (boxD 125 TR (rdGo x 1))),(1,some (.lis 3 TI64 l))] :=
 fn_sound (cx:=cxOf Γ11 Tryd.f71.ntmps [] [] [] []) Tryd.func71 rfl ttOk Γ11ok mixed (fun c hc=>LoopsOk.nil (by cases hc;kernel_rfl)) (ro:=false) (by
  have r:=pickV_range (n:=l.length) (byteFit hx.1) hk (by omega);rw[y_num,hk,inb_ok r.1 r.2];rfl)
def c_spec_l17Rd_num:Con:=⟨false,fun ds os=>match ds,os with
 | [.one (.ptr 0 0), .one (.own 1)],[b,o]=>match exBox 125 TR (some b),exLis 3 TI64 (some o)with
  |some x,some l=>some (some (rdOk x&&Nat.blt 0 (length l)),vI (numV x l),[(0,some (boxD 125 TR (rdGo x 1))),(1,some (.lis 3 TI64 l))])
  |_,_=>none
 |_,_=>none⟩
theorem box_fit {P:Program} {f:FuncId} {t:TypeId} {s:Ty} {x:Den s} {ds:List D} {os:List Obj} {r:T} {objs:Heap} (h:Fit s x→Sat P f ds (boxD t s x::os) r objs):Sat P f ds (boxD t s x::os) r objs:=by
 intro w F β args H hds;have h0:hOf (boxD t s x::os) 0=some (some (boxD t s x)):=by rw[hOf_eq];rfl
 exact h (cells_fit (H.obj 0 _ h0)) w F β args H hds
theorem k_spec_l17Rd_num:ConOk Tryd.prog 71 c_spec_l17Rd_num:=by
 refine⟨Tryd.call71,fun ds os c x objs hc hok => ?_⟩;unfold c_spec_l17Rd_num at hc;dsimp only at hc
 split at hc
 ·split at hc
  ·rename_i x l e1 e2
   cases hc
   have e1:=Option.some.inj (exBox_some e1);have e2:=Option.some.inj (exLis_some e2);subst e1;subst e2;have hb:=pre_of hok;rw[Bool.and_eq_true,Nat.blt_eq]at hb;exact box_fit fun hx=>s_num x l hx hb.1 hb.2
  ·cases hc
 ·cases hc
def Γ12:GL:=(71,c_spec_l17Rd_num)::Γ11
theorem Γ12ok:GO Γ12 := .cons k_spec_l17Rd_num Γ11ok
def ofV (x:Rd) (l:List Str):Str:=l.getD (pickV x l.length).toNat []
theorem y_of (x:Rd) (l:List Str):evFn (cxOf Γ12 Tryd.f73.ntmps [] [] [] []) Tryd.f73 false [.one (.ptr 0 0), .one (.own 1)] [boxD 125 TR x, .lis 9 .str l] =
 need (rdOk x) (need (inb (pickV x l.length) l.length) (some (vS (ofV x l),[(0,some (boxD 125 TR (rdGo x 1))),(1,some (.lis 9 .str l))]))):=by kernel_rfl
theorem s_of (x:Rd) (l:List Str) (hx:Fit TR x) (hk:rdOk x=true) (hl:0<l.length):Sat Tryd.prog 73 [.one (.ptr 0 0), .one (.own 1)] [boxD 125 TR x, .lis 9 .str l] (vS (ofV x l)) [(0,some (boxD 125 TR (rdGo x 1))),(1,some (.lis 9 .str l))] :=
 fn_sound (cx:=cxOf Γ12 Tryd.f73.ntmps [] [] [] []) Tryd.func73 rfl ttOk Γ12ok mixed (fun c hc=>LoopsOk.nil (by cases hc;kernel_rfl)) (ro:=false) (by
  have r:=pickV_range (n:=l.length) (byteFit hx.1) hk (by omega);rw[y_of,hk,inb_ok r.1 r.2];rfl)
def c_spec_l17Rd_of:Con:=⟨false,fun ds os=>match ds,os with
 | [.one (.ptr 0 0), .one (.own 1)],[b,o]=>match exBox 125 TR (some b),exLis 9 .str (some o)with
  |some x,some l=>some (some (rdOk x&&Nat.blt 0 (length l)),vS (ofV x l),[(0,some (boxD 125 TR (rdGo x 1))),(1,some (.lis 9 .str l))])
  |_,_=>none
 |_,_=>none⟩
theorem k_spec_l17Rd_of:ConOk Tryd.prog 73 c_spec_l17Rd_of:=by
 refine⟨Tryd.call73,fun ds os c x objs hc hok => ?_⟩;unfold c_spec_l17Rd_of at hc;dsimp only at hc
 split at hc
 ·split at hc
  ·rename_i x l e1 e2
   cases hc
   have e1:=Option.some.inj (exBox_some e1);have e2:=Option.some.inj (exLis_some e2);subst e1;subst e2;have hb:=pre_of hok;rw[Bool.and_eq_true,Nat.blt_eq]at hb;exact box_fit fun hx=>s_of x l hx hb.1 hb.2
  ·cases hc
 ·cases hc
def Γ13:GL:=(73,c_spec_l17Rd_of)::Γ12
theorem Γ13ok:GO Γ13 := .cons k_spec_l17Rd_of Γ12ok
abbrev vP (i:Nat):T := .d (.one (.ptr i 0))
abbrev bR (x:Rd):Option Obj:=some (boxD 125 TR x)
theorem ofV_len {x:Rd} {l:List Str} {k:Nat} (h:∀s∈l,s.length≤k):(ofV x l).length≤k:=by
 unfold ofV;rw[zG]
 cases hq:l[(pickV x l.length).toNat]? with
 |none=>simp
 |some s=>exact h s (List.mem_of_getElem? hq)
def fitR (x:Rd):Bool:=byB x&&Nat.ble x.1.length 9223372036854775807
theorem fitR_fit {x:Rd} {k:Int} (h:fitR x=true) (hk:rdAt x k=true) (h1:k≤10000001000000):Fit TR x:=by
 unfold fitR at h;rw[Bool.and_eq_true,byB_iff,Nat.ble_eq]at h;have:=rdAt_iff.1 hk;refine⟨⟨h.2,fun (b:Int) hb => ?_⟩,wrap_small (by omega) (by omega)⟩;have:=h.1 b hb;show IntKind.u8.wrap b=b;rw[IntKind.wrap_u8];omega
theorem fit_fitR {x:Rd} (h:Fit TR x):fitR x=true:=by
 unfold fitR;rw[Bool.and_eq_true,byB_iff,Nat.ble_eq];exact⟨fun b hb=>byteFit h.1 b hb,h.1.1⟩
theorem fitR_adv {x x':Rd} {c:Int} (h:Adv x x' c):fitR x'=fitR x:=by unfold fitR byB;rw[h.1]
def openV (l:List Int):Rd:=(l.take 2000,0)
theorem y_spec_l17Open (l:List Int):evFn (cxOf Γ13 Tryd.f30.ntmps [] [] [] []) Tryd.f30 false [ofD TB l] []=branch (decide (2000<(l.length:Int))) (need (inr 0 2000 l.length) (some (vP 1000,[(1000,bR (l.take 2000,0))]))) (some (vP 1000,[(1000,bR (l,0))])):=by kernel_rfl
theorem s_spec_l17Open (l:List Int) (_hl:Fit TB l):Sat Tryd.prog 30 [ofD TB l] [] (vP 1000) ([(1000,bR (openV l))]) :=
 fn_sound (cx:=cxOf Γ13 Tryd.f30.ntmps [] [] [] []) Tryd.func30 rfl ttOk Γ13ok mixed (fun _ _=>LoopsOk.no fun _=>rfl) (ro:=false) (by
  rw[y_spec_l17Open];unfold openV
  by_cases h:2000<(l.length:Int)
  ·rw[zT h,show inr 0 2000 l.length=true from zT ⟨by omega,by omega,by omega⟩];rfl
  ·rw[zF h,List.take_of_length_le (by omega)];rfl)
def c_spec_l17Open:Con:=conN [TB] fun(l:List Int)=>(none,vP 1000,[(1000,bR (openV l))])
theorem k_spec_l17Open:ConOk Tryd.prog 30 c_spec_l17Open:=conN_ok Tryd.call30 fun l hl _=>s_spec_l17Open l hl
def Γ14:GL:=(30,c_spec_l17Open)::Γ13
theorem Γ14ok:GO Γ14 := .cons k_spec_l17Open Γ13ok
theorem openV_by {l:List Int} (h:Fit TB l):byB (openV l)=true:=byB_iff.2 fun b hb=>byteFit h b (List.mem_of_mem_take hb)
theorem openV_at (l:List Int):rdAt (openV l) 0=true:=rfl
def l4abc:List Str:=[[97],[98],[97],[99],[98],[100]]
def cx0_l4Text:Cx:=cxOf Γ14 Tryd.f90.ntmps [(3,[0,1,5,6])] [(0,[5]),(1,[0,1,5,6]),(1000000,[4])] [] []
def sh_l4Text:Sh:=([(0, .ptr 0 0),(1, .d TI64),(5, .d .str),(6, .d TI64)],[(0, .box 125 TR)])
abbrev st_l4Text (n:Int) (s:Str) (i:Int) (x:Den TR):St:=⟨[(0, .d (.one (.ptr 0 0))),(1,vI n),(5,vS s),(6,vI i)],[(0,some (boxD 125 TR x))]⟩
def V_l4Text (n:Int) (s:Str) (i:Int) (x:Den TR):sh_l4Text.V:=((n,s,i,()),(x,()))
def out_l4Text (o:Str×Rd):St:=⟨[(5,vS o.1)],[(0,bR o.2)]⟩
def inv_l4Text (n:Int) (s:Str) (i:Int) (x:Den TR):Bool:=rdAt x (10000000999000+i)&&(decide (0≤i∧n≤1000∧i≤1000)&&decide (s.length≤i.toNat))
def post_l4Text (n:Int) (s:Str) (i:Int) (x:Den TR) (o:Str×Rd):Prop:=o.1.length≤s.length+(n-i).toNat∧Adv x o.2 ((n-i).toNat:Int)
def mu_l4Text (n:Int) (_s:Str) (i:Int) (_x:Den TR):Nat:=(n-i).toNat
theorem r_l4Text (n:Int) (s:Str) (i:Int) (x:Den TR) (hI:inv_l4Text n s i x=true):(∃o:Str×Rd,post_l4Text n s i x o∧∀(R:St→Option Fin) (K:Cont),evC cx0_l4Text (loopOf Tryd.f90 0) (st_l4Text n s i x) (onward (headAt cx0_l4Text 3) R K)=K (.exit 0) (out_l4Text o)) ∨
  (∃(n':Int) (s':Str) (i':Int) (x':Den TR),inv_l4Text n' s' i' x'=true∧mu_l4Text n' s' i' x'<mu_l4Text n s i x∧(∀o,post_l4Text n' s' i' x' o→post_l4Text n s i x o)∧∀(R:St→Option Fin) (K:Cont),evC cx0_l4Text (loopOf Tryd.f90 0) (st_l4Text n s i x) (onward (headAt cx0_l4Text 3) R K)=R (st_l4Text n' s' i' x')):=by
 have hx:∀(R:St→Option Fin) (K:Cont),evC cx0_l4Text (loopOf Tryd.f90 0) ⟨[(0,vP 0),(1,vI n),(5,vS s),(6,vI i)],[(0,bR x)]⟩ (onward (headAt cx0_l4Text 3) R K) =
  branch (decide (i<n)) (need (rdOk x&&Nat.blt 0 l4abc.length) (need (decide (s.length+(ofV x l4abc).length≤9223372036854775807)) (R ⟨[(0,vP 0),(1,vI n),(5,vS (s++ofV x l4abc)),(6,vI (W64 (i+1)))],[(0,bR (rdGo x 1))]⟩)))
   (K (.exit 0) ⟨[(5,vS s)],[(0,bR x)]⟩):=fun R K=>by kernel_rfl
 simp only[inv_l4Text,Bool.and_eq_true,decide_eq_true_eq]at hI;obtain⟨h1,⟨h2,h3,h4⟩,h5⟩:=hI;have hr:=rdAt_iff.1 h1
 by_cases hi:i<n
 ·right;have e:W64 (i+1)=i+1:=wrap_small (by omega) (by omega);have ho:(ofV x l4abc).length≤1:=ofV_len (by decide);refine⟨n,s++ofV x l4abc,i+1,rdGo x 1, ?_, ?_, ?_, ?_⟩
  ·simp only[inv_l4Text,Bool.and_eq_true,decide_eq_true_eq,length_append];exact⟨(Adv.one x).at h1 (by omega),by omega,by omega⟩
  ·simp only[mu_l4Text];omega
  ·rintro o ⟨g1,g2⟩;rw[length_append]at g1;exact⟨by omega,((Adv.one x).trans g2).le (by omega)⟩
  ·intro R K;refine(hx R K).trans ?_;rw[zT hi,branch_true,rdOk_iff.2 ⟨hr.1,by omega⟩,zT (by omega:s.length+(ofV x l4abc).length≤9223372036854775807),e];rfl
 ·left;refine⟨(s,x),⟨by show s.length≤s.length+_;omega,(Adv.refl x).le (by omega)⟩,fun R K => ?_⟩;refine(hx R K).trans ?_;rw[zF hi];rfl
def I_l4Text:sh_l4Text.V→Bool:=fun v=>match v with | ((n,s,i,()),(x,()))=>inv_l4Text n s i x
def P_l4Text:sh_l4Text.V→Str×Rd→Prop:=fun v o=>match v with | ((n,s,i,()),(x,()))=>post_l4Text n s i x o
def M_l4Text:sh_l4Text.V→Nat:=fun v=>match v with | ((n,s,i,()),(x,()))=>mu_l4Text n s i x
theorem a_l4Text:∀v:sh_l4Text.V,I_l4Text v=true→∃o,P_l4Text v o∧∀K r,K (.exit 0) (out_l4Text o)=some r→∃N,iter (evC cx0_l4Text (loopOf Tryd.f90 0)) (headAt cx0_l4Text 3) N (sh_l4Text.mk v) K=some r :=
 loop_any (fun v=>I_l4Text v=true) P_l4Text (.exit 0) M_l4Text fun v hI=>by
  obtain⟨⟨(n:Int),(s:Str),(i:Int),⟨⟩⟩,⟨(x:Den TR),⟨⟩⟩⟩:=v;rcases r_l4Text n s i x hI with⟨o,h1,h2⟩ | ⟨n',s',i',x',h1,h2,h3,h4⟩
  ·exact .inl ⟨o,h1,h2⟩
  ·exact .inr ⟨V_l4Text n' s' i' x',h1,h2,h3,h4⟩
def g_l4Text:St→Cont→Option Fin:=gEnd sh_l4Text I_l4Text out_l4Text (evC cx0_l4Text (loopOf Tryd.f90 0)) (headAt cx0_l4Text 3) P_l4Text (.exit 0)
def E_l4Text (n:Int) (s:Str) (i:Int) (x:Den TR):Str×Rd:=endOf sh_l4Text.mk out_l4Text (evC cx0_l4Text (loopOf Tryd.f90 0)) (headAt cx0_l4Text 3) P_l4Text (.exit 0) (V_l4Text n s i x)
theorem q_l4Text (n:Int) (s:Str) (i:Int) (x:Den TR) (hI:inv_l4Text n s i x=true):post_l4Text n s i x (E_l4Text n s i x):=(endOf_spec (a_l4Text (V_l4Text n s i x) hI)).1
def cx_l4Text:Cx:=cx0_l4Text.withLoops (look [(3,g_l4Text)])
theorem l_l4Text:∀st K r,g_l4Text st K=some r→∃N,iter (evC cx_l4Text (loopOf Tryd.f90 0)) (headAt cx_l4Text 3) N st K=some r:=with_ok (by kernel_rfl) (gEnd_ok a_l4Text)
theorem y_spec_l4Text (x:Rd) (n:Int):evFn cx_l4Text Tryd.f90 true [.one (.ptr 0 0),ofD TI64 n] [boxD 125 TR x]=need (inv_l4Text n [] 0 x) (some (.d (ofD .str (E_l4Text n [] 0 x).1),[(0,bR (E_l4Text n [] 0 x).2)])):=by kernel_rfl
theorem e_spec_l4Text (x:Rd) (n:Int) (_hx:Fit TR x) (_hn:Fit TI64 n) (hpre:(rdAt x 10000000999000&&decide (n≤1000))=true):∃q:(Str)×Rd,evFn (cx_l4Text) Tryd.f90 true [.one (.ptr 0 0),ofD TI64 n] [boxD 125 TR x]=some (.d (ofD .str q.1),[(0,some (boxD 125 TR q.2))])∧(length q.1≤n.toNat∧Adv x q.2 (n.toNat:Int)):=by
 obtain⟨r,h1,h2⟩:Ok (evFn (cx_l4Text) Tryd.f90 true [.one (.ptr 0 0),ofD TI64 n] [boxD 125 TR x]) (fun r=>∃(v:Str) (x':Rd),r=(.d (ofD .str v),[(0,some (boxD 125 TR x'))])∧(length v≤n.toNat∧Adv x x' (n.toNat:Int))):=by
  rw[Bool.and_eq_true,decide_eq_true_eq]at hpre;have hi:inv_l4Text n [] 0 x=true:=by
   simp only[inv_l4Text,Bool.and_eq_true,decide_eq_true_eq];exact⟨by simpa using hpre.1,⟨by omega,hpre.2,by omega⟩,by simp⟩
  have hp:=q_l4Text n [] 0 x hi;rw[y_spec_l4Text,hi];refine Ok.ret ⟨_,_,rfl, ?_⟩;unfold post_l4Text at hp
  simpa using hp
 obtain⟨v,x',h2,h3⟩:=h2;exact⟨(v,x'),by rw[h1,h2],h3⟩
def F_spec_l4Text (x:Rd) (n:Int):(Str)×Rd:=oneOf (fun q:(Str)×Rd=>evFn (cx_l4Text) Tryd.f90 true [.one (.ptr 0 0),ofD TI64 n] [boxD 125 TR x]=some (.d (ofD .str q.1),[(0,some (boxD 125 TR q.2))])∧(length q.1≤n.toNat∧Adv x q.2 (n.toNat:Int)))
theorem p_spec_l4Text (x:Rd) (n:Int) (hx:Fit TR x) (hn:Fit TI64 n) (hpre:(rdAt x 10000000999000&&decide (n≤1000))=true):length (F_spec_l4Text x n).1≤n.toNat∧Adv x (F_spec_l4Text x n).2 (n.toNat:Int):=(oneOf_spec (e_spec_l4Text x n hx hn hpre)).2
theorem s_spec_l4Text (x:Rd) (n:Int) (hx:Fit TR x) (hn:Fit TI64 n) (hpre:(rdAt x 10000000999000&&decide (n≤1000))=true):Sat Tryd.prog 90 [.one (.ptr 0 0),ofD TI64 n] [boxD 125 TR x] (.d (ofD .str (F_spec_l4Text x n).1)) [(0,some (boxD 125 TR (F_spec_l4Text x n).2))] :=
 fn_sound (cx:=cx_l4Text) Tryd.func90 rfl ttOk Γ14ok mixed (fun c hc=>LoopsOk.one (b:=loopOf Tryd.f90 0) (id:=3) (g:=g_l4Text) (by cases hc;kernel_rfl) rfl l_l4Text) (ro:=true) (oneOf_spec (e_spec_l4Text x n hx hn hpre)).1
def c_spec_l4Text:Con:=conB 125 TR [TI64] fun(x:Rd) (n:Int)=>(some (rdAt x 10000000999000&&decide (n≤1000)), .d (ofD .str (F_spec_l4Text x n).1),(F_spec_l4Text x n).2)
theorem k_spec_l4Text:ConOk Tryd.prog 90 c_spec_l4Text:=conB_ok Tryd.call90 fun x hx n hn hqq=>s_spec_l4Text x n hx hn (pre_of hqq)
def Γ15:GL:=(90,c_spec_l4Text)::Γ14
theorem Γ15ok:GO Γ15 := .cons k_spec_l4Text Γ14ok
abbrev go2 (x:Rd):Rd:=rdGo (rdGo x 1) 1
theorem Adv.two (x:Rd):Adv x (go2 x) 2:=(Adv.one x).trans (Adv.one _)
theorem ok1 {x:Rd} {k:Int} (h:rdAt x k=true) (hk:k≤10000001000000):rdOk x=true:=(Adv.refl x).ok h (by omega)
/-! ### loops, by what they come to -/
theorem loopP {V:Type} {mk:V→St} {f:St→Cont→Option Fin} {head:St→St} {P:V→Cont→Option Fin} {ok:V→Prop} (μ:V→Nat)
  (h:∀v K,ok v→(∀R:St→Option Fin,f (mk v) (onward head R K)=P v K)∨∃v',ok v'∧μ v'<μ v∧P v' K=P v K∧∀R:St→Option Fin,f (mk v) (onward head R K)=R (mk v')):∀v,ok v→∀K,∃N,iter f head N (mk v) K=P v K:=by
 have key:∀(d:Nat) v,μ v<d→ok v→∀K,∃N,iter f head N (mk v) K=P v K:=by
  intro d
  induction d with
  |zero=>intro v hv;omega
  |succ d ih =>
   intro v hv ho K;rcases h v K ho with h1 | ⟨v',h1,h2,h3,h4⟩
   ·exact ⟨1,by rw[iter_succ];exact h1 _⟩
   ·obtain ⟨n,hn⟩:=ih v' (by omega) h1 K;exact⟨n+1,by rw[iter_succ,h4,hn,h3]⟩
 exact fun v=>key _ v (Nat.lt_succ_self _)
def gP (s:Sh) (pre:s.V→Bool) (P:s.V→Cont→Option Fin):St→Cont→Option Fin:=orc s fun v K=>need (pre v) (P v K)
theorem gP_ok {s:Sh} {pre:s.V→Bool} {P:s.V→Cont→Option Fin} {f:St→Cont→Option Fin} {head:St→St} (μ:s.V→Nat)
  (h:∀v K,pre v=true→(∀R:St→Option Fin,f (s.mk v) (onward head R K)=P v K)∨∃v',pre v'=true∧μ v'<μ v∧P v' K=P v K∧∀R:St→Option Fin,f (s.mk v) (onward head R K)=R (s.mk v')):∀st K r,gP s pre P st K=some r→∃N,iter f head N st K=some r :=
 orc_ok fun v K r hr=>by
  obtain⟨h1,h2⟩:=need_some.1 hr;obtain⟨N,hN⟩:=loopP (ok:=fun v=>pre v=true) μ h v h1 K;exact⟨N,by rw[hN];exact h2⟩
theorem evC_agree (cx:Cx) (l l':Nat→Option (St→Cont→Option Fin)):∀c,(∀p∈loopsOf c,l p.1=l' p.1)→∀st K,evC (cx.withLoops l) c st K=evC (cx.withLoops l') c st K:=by
 intro c
 induction c with
 |seq x y ihx ihy =>
  intro h st K;simp only[evC];rw[ihx fun p hp=>h p (mem_append_left _ hp)]
  congr 1
  funext e st'
  cases e<;>first | rfl | exact ihy (fun p hp=>h p (mem_append_right _ hp)) _ _
 |cond o y z ihy ihz =>
  intro h st K;simp only[evC];have h1:=ihy fun p hp=>h p (mem_append_left _ hp);have h2:=ihz fun p hp=>h p (mem_append_right _ hp)
  cases (evOpd st.env o).bind nilD with
  |some n=>dsimp only;rw[h1,h2]
  |none =>
   cases (evOpd st.env o).bind boolD with
   |none=>rfl
   |some t=>dsimp only;rw[h1,h2]
 |block id c ih =>
  intro h st K;simp only[evC];rw[ih h]
 |loop c _ =>
  intro h st K;simp only[evC];have:=h ((firstRegion c).getD 0,c) (mem_cons_self ..);show(match (l ((firstRegion c).getD 0))with | some g=>g (headAt (cx.withLoops l) ((firstRegion c).getD 0) st) K | none=>none)=(match (l' ((firstRegion c).getD 0))with | some g=>g (headAt (cx.withLoops l') ((firstRegion c).getD 0) st) K | none=>none)
  rw[this];rfl
 |region id ops draw =>
  intro _ st K;simp only[evC,region]
  split<;>rw[steps_indep,steps_indep]<;>rfl
 |_=>intro _ st K;rfl
def idsFree (L:List (Nat×(St→Cont→Option Fin))) (b:Code):Bool:=L.all fun p=>(loopsOf b).all fun q => !Nat.beq p.1 q.1
theorem look_free {L m:List (Nat×(St→Cont→Option Fin))} {i:Nat} (h:L.all (fun p => !Nat.beq p.1 i)=true):look (L++m) i=look m i:=by
 induction L with
 |nil=>rfl
 |cons p L ih =>
  obtain⟨k,g⟩:=p;simp only[List.all_cons,Bool.and_eq_true,Bool.not_eq_true']at h;simp only[List.cons_append,look,h.1,cond_false];exact ih h.2
theorem with_drop {cb:Cx} {b:Code} {id:Nat} {g:St→Cont→Option Fin} {m L:List (Nat×(St→Cont→Option Fin))} {n:Nat} (h1:L.drop n=m) (h2:idsFree (L.take n) b=true)
  (hg:∀st K r,g st K=some r→∃N,iter (evC (cb.withLoops (look m)) b) (headAt (cb.withLoops (look m)) id) N st K=some r) :
  ∀st K r,g st K=some r→∃N,iter (evC (cb.withLoops (look L)) b) (headAt (cb.withLoops (look L)) id) N st K=some r:=by
 intro st K r hr;have:evC (cb.withLoops (look L)) b=evC (cb.withLoops (look m)) b:=by
  funext st K
  refine evC_agree cb _ _ b (fun p hp => ?_) st K;rw[← List.take_append_drop n L,h1];refine look_free (all_eq_true.2 fun q hq => ?_);exact all_eq_true.1 (all_eq_true.1 h2 q hq) p hp
 rw[this];exact hg st K r hr
def LoopsAll (cx:Cx):List (Nat×Code)→Prop
 | []=>True
 | (id,b)::l=>(∀g,cx.loops id=some g→∀st K r,g st K=some r→∃N,iter (evC cx b) (headAt cx id) N st K=some r)∧LoopsAll cx l
theorem LoopsOk.all {cx:Cx} {c:Code} {l:List (Nat×Code)} (hl:loopsOf c=l) (h:LoopsAll cx l):LoopsOk cx c:=by
 refine LoopsOk.of hl ?_;clear hl
 induction l with
 |nil=>intro id b hm;cases hm
 |cons p l ih =>
  intro id b hm;rcases List.mem_cons.1 hm with e | hm
  ·cases e;exact h.1
  ·exact ih h.2 id b hm
theorem atLoop {cx:Cx} {b:Code} {id:Nat} {g:St→Cont→Option Fin} (hg:cx.loops id=some g) (h:∀st K r,g st K=some r→∃N,iter (evC cx b) (headAt cx id) N st K=some r):∀g',cx.loops id=some g'→∀st K r,g' st K=some r→∃N,iter (evC cx b) (headAt cx id) N st K=some r:=fun g' hg'=>by
 rw[hg]at hg';cases hg';exact h
theorem b2 {a b:Bool}:(bif a then b else false)=(a&&b):=by cases a<;>rfl
theorem b3 {a b:Bool}:(bif a then true else b)=(a||b):=by cases a<;>rfl
abbrev TRu:Ty:=ty127
abbrev TRL:Ty:=ty23
abbrev TG:Ty:=ty25
abbrev Rule:Type:=Str×Str
abbrev Gram:Type:=Str×List Rule
def bigI (c:Int):Bool:=bif decide (65≤c)then decide (c≤69)else false
def bigc (c:UInt8):Bool:=Nat.ble 65 c.toNat&&Nat.ble c.toNat 69
def bigS:Str→Bool
 | [c]=>bigc c
 |_=>false
theorem ble_dec (a b:Nat):Nat.ble a b=decide (a≤b):=by
 by_cases h:a≤b
 ·rw[Nat.ble_eq_true_of_le h,zT h]
 ·rw[zF h]
  cases hb:Nat.ble a b
  ·rfl
  ·exact absurd (Nat.le_of_ble_eq_true hb) h
theorem bigI_nat (c:UInt8):bigI (c.toNat:Int)=bigc c:=by
 unfold bigI bigc;rw[ble_dec,ble_dec,b2]
 congr 1<;>(rw[decide_eq_decide];omega)
theorem s_spec_l1Big (c:Int) (_hc:Fit (.int .u8) c):Sat Tryd.prog 106 [ofD (.int .u8) c] [] (.d (ofD .bool (bigI c))) [] :=
 fn_sound (cx:=cxOf Γ15 Tryd.f106.ntmps [] [] [] []) Tryd.func106 rfl ttOk Γ15ok mixed (fun _ _=>LoopsOk.no fun _=>rfl) (ro:=true) (by
  kernel_rfl)
def c_spec_l1Big:Con:=conT [(.int .u8)] fun(c:Int)=>(none, .d (ofD .bool (bigI c)))
theorem k_spec_l1Big:ConOk Tryd.prog 106 c_spec_l1Big:=conT_ok Tryd.call106 fun c hc _=>s_spec_l1Big c hc
def Γ16:GL:=(106,c_spec_l1Big)::Γ15
theorem Γ16ok:GO Γ16 := .cons k_spec_l1Big Γ15ok
theorem y_spec_SignBig (s:Str):evFn (cxOf Γ16 Tryd.f79.ntmps [] [] [] []) Tryd.f79 true [ofD .str s] []=(
need (bif decide (decide ((s.length:Int)=1)=true)then inb 0 s.length else true) <|
 some ((vB (bif decide ((s.length:Int)=1)then bigI (byteAt s 0)else false)),[])):=by kernel_rfl
theorem s_spec_SignBig (s:Str) (_hs:Fit .str s):Sat Tryd.prog 79 [ofD .str s] [] (.d (ofD .bool (bigS s))) [] :=
 fn_sound (cx:=cxOf Γ16 Tryd.f79.ntmps [] [] [] []) Tryd.func79 rfl ttOk Γ16ok mixed (fun _ _=>LoopsOk.no fun _=>rfl) (ro:=true) (by
  rw[y_spec_SignBig]
  cases s with
  |nil=>rfl
  |cons c s=>cases s with
   |nil=>exact congrArg (fun b=>some ((vB b,[]):Fin)) (bigI_nat c)
   |cons d s =>
    rw[zF (by simp;omega:¬((c::d::s).length:Int)=1)];rfl)
def c_spec_SignBig:Con:=conT [.str] fun(s:Str)=>(none, .d (ofD .bool (bigS s)))
theorem k_spec_SignBig:ConOk Tryd.prog 79 c_spec_SignBig:=conT_ok Tryd.call79 fun s hs _=>s_spec_SignBig s hs
def Γ17:GL:=(79,c_spec_SignBig)::Γ16
theorem Γ17ok:GO Γ17 := .cons k_spec_SignBig Γ16ok
theorem s_impl_SignBig (s:Str) (_hs:Fit .str s):Sat Tryd.prog 75 [ofD .str s] [] (.d (ofD .bool (bigS s))) [] :=
 fn_sound (cx:=cxOf Γ17 Tryd.f75.ntmps [] [] [] []) Tryd.func75 rfl ttOk Γ17ok mixed (fun _ _=>LoopsOk.no fun _=>rfl) (ro:=true) (by
  have:evFn (cxOf Γ17 Tryd.f75.ntmps [] [] [] []) Tryd.f75 true [ofD .str s] []=some (vB (isIn s 65 69),[]):=by kernel_rfl
  rw[this];have:isIn s 65 69=bigS s:=by
   unfold isIn
   cases s with
   |nil=>rfl
   |cons c s=>cases s with
    |nil=>exact bigI_nat c
    |cons d s=>rw[zF (by simp;omega:¬((c::d::s).length:Int)=1)];rfl
  rw[this];rfl)
def c_impl_SignBig:Con:=conT [.str] fun(s:Str)=>(none, .d (ofD .bool (bigS s)))
theorem k_impl_SignBig:ConOk Tryd.prog 75 c_impl_SignBig:=conT_ok Tryd.call75 fun s hs _=>s_impl_SignBig s hs
def Γ18:GL:=(75,c_impl_SignBig)::Γ17
theorem Γ18ok:GO Γ18 := .cons k_impl_SignBig Γ17ok
def sign (c:UInt8):Bool:=bigc c||small c
def areS (s:Str) (n:Int):Bool:=s.all sign&&decide ((s.length:Int)≤n)
theorem smalls_at {s:Str} {i:Int} {p:UInt8→Bool} (h0:0≤i) (h1:i<(s.length:Int)):(s.drop i.toNat).all p=(p (s.getD i.toNat 0)&&(s.drop (i+1).toNat).all p):=by
 have hn:i.toNat<s.length:=by omega
 rw[drop_eq_getElem_cons hn,List.all_cons,show (i+1).toNat=i.toNat+1 by omega,zG,zE hn];rfl
theorem at_byte (s:Str) (i:Int):byteAt s i=((s.getD i.toNat 0).toNat:Int):=rfl
theorem drop_end {s:Str} {i:Int} {p:UInt8→Bool} (h1:(s.length:Int)≤i):(s.drop i.toNat).all p=true:=by rw[drop_eq_nil_of_le (by omega)];rfl
theorem sig_bool (a b:Bool):(bif !a then !b else false) = !(a||b):=by cases a<;>cases b<;>rfl
theorem need_t {α:Type} {x:Option α}:need true x=x:=rfl
theorem W1 {i:Int} {n:Nat} (h0:0≤i) (h1:i<(n:Int)) (hn:n≤big):W64 (i+1)=i+1:=wrap_small (by omega) (by simp only[big]at hn;omega)
theorem andd {a b:Bool}:(a&&b)=true↔a=true∧b=true:=by cases a<;>cases b<;>simp
theorem ble_iff {a b:Nat}:Nat.ble a b=true↔a≤b:=⟨Nat.le_of_ble_eq_true,Nat.ble_eq_true_of_le⟩
theorem dec_iff {p:Prop} [Decidable p]:decide p=true↔p:=decide_eq_true_iff
def cb_l1Right:Cx:=cxOf Γ18 Tryd.f80.ntmps [(2,[0,1,5])] [(0,[0,1]),(1,[0,1,5]),(1000000,[4])] [] []
abbrev st_l1Right (s:Str) (m i:Int):St:=⟨[(0,vS s),(1,vI m),(5,vI i)],[]⟩
theorem x_spec_l1Right (s:Str) (m:Int) (i:Int) (R:St→Option Fin) (K:Cont):evC (cb_l1Right.withLoops (look [])) (loopOf Tryd.f80 0) (st_l1Right s m i) (onward (headAt (cb_l1Right.withLoops (look [])) 2) R K)=(
branch (decide (i<(s.length:Int))) (
 need (inb i s.length) <|
 need (bif decide ((!bigI (byteAt s i))=true)then inb i s.length else true) <|
  branch (bif !bigI (byteAt s i)then !smallI (byteAt s i)else false) (
  K (.ret) (.mk [(4,(vB false))] [])) (
  R (st_l1Right s m (W64 (i+1))))) (
 K (.exit 0) (.mk [(0,(vS s)),(1,(vI m))] []))):=by kernel_rfl
def cx0_l1Right:Cx:=(cb_l1Right).withLoops (look [])
def sh_l1Right:Sh:=([(0, .d .str),(1, .d TI64),(5, .d TI64)],[])
def pre_l1Right (s:Str) (_m i:Int):Bool:=decide (0≤i)&&Nat.ble (length s) big
def res_l1Right (s:Str) (m i:Int) (K:Cont):Option Fin:=branch ((s.drop i.toNat).all sign) (K (.exit 0) ⟨[(0,vS s),(1,vI m)],[]⟩) (K .ret ⟨[(4,vB false)],[]⟩)
def mu_l1Right (s:Str) (_m i:Int):Nat:=length s-i.toNat
theorem r_l1Right (s:Str) (m i:Int) (K:Cont) (hI:pre_l1Right s m i=true):(∀R:St→Option Fin,evC cx0_l1Right (loopOf Tryd.f80 0) (st_l1Right s m i) (onward (headAt cx0_l1Right 2) R K)=res_l1Right s m i K) ∨
  (∃(s':Str) (m' i':Int),pre_l1Right s' m' i'=true∧mu_l1Right s' m' i'<mu_l1Right s m i∧res_l1Right s' m' i' K=res_l1Right s m i K∧∀R:St→Option Fin,evC cx0_l1Right (loopOf Tryd.f80 0) (st_l1Right s m i) (onward (headAt cx0_l1Right 2) R K)=R (st_l1Right s' m' i')):=by
 have hx:=fun R=>x_spec_l1Right s m i R K;simp only[pre_l1Right,andd,dec_iff,ble_iff]at hI;obtain⟨h0,h1⟩:=hI
 by_cases hi:i<(s.length:Int)
 ·simp only[hi,decide_true,inb_ok h0 hi,Bool.cond_self,branch_true,sig_bool,at_byte,bigI_nat,smallI_nat,W1 h0 hi h1]at hx
  cases hc:sign (s.getD i.toNat 0)
  ·left;intro R;refine(hx R).trans ?_;have hc':(bigc (s.getD i.toNat 0)||small (s.getD i.toNat 0))=false:=hc;simp only[res_l1Right,smalls_at (p:=sign) h0 hi,hc,hc',Bool.false_and,Bool.not_false];rfl
  ·right;have hc':(bigc (s.getD i.toNat 0)||small (s.getD i.toNat 0))=true:=hc;refine⟨s,m,i+1, ?_, ?_, ?_,fun R=>(hx R).trans ?_⟩
   ·simp only[pre_l1Right,andd,dec_iff,ble_iff];omega
   ·simp only[mu_l1Right];omega
   ·simp only[res_l1Right,smalls_at (p:=sign) h0 hi,hc,Bool.true_and]
   ·rw[hc'];rfl
 ·left;intro R;refine(hx R).trans ?_;simp only[hi,decide_false,branch_false,res_l1Right,drop_end (p:=sign) (by omega:(s.length:Int)≤i),branch_true]
def g_l1Right:St→Cont→Option Fin:=gP sh_l1Right (fun v=>match v with | ((s,m,i,()),())=>pre_l1Right s m i) (fun v K=>match v with | ((s,m,i,()),())=>res_l1Right s m i K)
def L_l1Right:LpL:=(2,g_l1Right)::[]
def cx_l1Right:Cx:=(cb_l1Right).withLoops (look L_l1Right)
theorem l_l1Right {L:LpL} (n:Nat) (h1:L.drop n=[]) (h2:idsFree (L.take n) (loopOf Tryd.f80 0)=true):LoopsTo g_l1Right (cb_l1Right) (loopOf Tryd.f80 0) 2 L :=
 with_drop h1 h2 (gP_ok (fun v=>match v with | ((s,m,i,()),())=>mu_l1Right s m i) fun v K hI=>by
  obtain⟨⟨s,m,i,⟨⟩⟩,⟨⟩⟩:=v;exact(r_l1Right s m i K hI).imp id fun⟨s',m',i',h⟩=>⟨((s',m',i',()),()),h⟩)
theorem y_spec_l1Right (s:Str) (m:Int):evFn cx_l1Right Tryd.f80 true [ofD .str s,ofD TI64 m] []=(
need (pre_l1Right s m 0) <|
 branch ((List.drop ((0:Int).toNat) s).all sign) (
 some ((vB (decide ((s.length:Int)≤m))),[])) (
 some ((vB false),[]))):=by kernel_rfl
theorem s_spec_l1Right (s:Str) (hs:Fit .str s) (m:Int) (_hm:Fit TI64 m):Sat Tryd.prog 80 [ofD .str s,ofD TI64 m] [] (.d (ofD .bool (areS s m))) [] :=
 fn_sound (cx:=cx_l1Right) Tryd.func80 rfl ttOk Γ18ok mixed (fun c hc=>LoopsOk.all (l:=[(2,loopOf Tryd.f80 0)]) (by cases hc;kernel_rfl) ⟨atLoop rfl (l_l1Right 1 rfl (by kernel_rfl)),trivial⟩) (ro:=true) (by
  have h:pre_l1Right s m 0=true:=andd.2 ⟨rfl,ble_iff.2 hs⟩;rw[y_spec_l1Right,h];unfold areS;show need true (branch (s.all sign) _ _)=_
  cases s.all sign<;>rfl)
def c_spec_l1Right:Con:=conT [.str,TI64] fun(s:Str) (m:Int)=>(none, .d (ofD .bool (areS s m)))
theorem k_spec_l1Right:ConOk Tryd.prog 80 c_spec_l1Right:=conT_ok Tryd.call80 fun s hs m hm _=>s_spec_l1Right s hs m hm
def Γ19:GL:=(80,c_spec_l1Right)::Γ18
theorem Γ19ok:GO Γ19 := .cons k_spec_l1Right Γ18ok
theorem y_impl_areSigns (s:Str) (n:Int):evFn (cxOf Γ19 Tryd.f76.ntmps [] [] [] []) Tryd.f76 true [ofD .str s,ofD TI64 n] []=(
need (bif decide (decide ((s.length:Int)≤n)=true)then isCut cutB else true) <| some ((vB (bif decide ((s.length:Int)≤n)then decide ((trim cutB s)=[])else false)),[])):=by kernel_rfl
theorem trimB_nil (s:Str):decide (trim cutB s=[])=s.all sign:=by
 have e:(inCut cutB)=sign:=by funext c;exact inCut_B c
 have h:=trim_nil (cut:=cutB) (s:=s);rw[e]at h
 by_cases g:trim cutB s=[]
 ·rw[zT g,h.1 g]
 ·rw[zF g]
  cases hs:s.all sign
  ·rfl
  ·exact absurd (h.2 hs) g
theorem s_impl_areSigns (s:Str) (_hs:Fit .str s) (n:Int) (_hn:Fit TI64 n):Sat Tryd.prog 76 [ofD .str s,ofD TI64 n] [] (.d (ofD .bool (areS s n))) [] :=
 fn_sound (cx:=cxOf Γ19 Tryd.f76.ntmps [] [] [] []) Tryd.func76 rfl ttOk Γ19ok mixed (fun _ _=>LoopsOk.no fun _=>rfl) (ro:=true) (by
  rw[y_impl_areSigns,trimB_nil];unfold areS
  cases decide ((s.length:Int)≤n)<;>cases s.all sign<;>rfl)
def c_impl_areSigns:Con:=conT [.str,TI64] fun(s:Str) (n:Int)=>(none, .d (ofD .bool (areS s n)))
theorem k_impl_areSigns:ConOk Tryd.prog 76 c_impl_areSigns:=conT_ok Tryd.call76 fun s hs n hn _=>s_impl_areSigns s hs n hn
def Γ20:GL:=(76,c_impl_areSigns)::Γ19
theorem Γ20ok:GO Γ20 := .cons k_impl_areSigns Γ19ok
def pos {α:Type} (p:α→Bool):List α→Nat→Option Nat
 | [],_=>none
 |a::l,i=>bif p a then some i else pos p l (i+1)
def eqRu (a b:Rule):Bool:=decide (a.1=b.1)&&(decide (a.2=b.2)&&true)
def placeV (l:List Rule) (x:Rule):Int:=match pos (fun y=>eqRu y x) l 0 with | some k=>(k:Int) | none => -1
theorem pos_at {α:Type} {p:α→Bool} {l:List α} {i:Int} (d:α) (h0:0≤i) (h1:i<(l.length:Int)):pos p (l.drop i.toNat) i.toNat=bif p (l.getD i.toNat d)then some i.toNat else pos p (l.drop (i+1).toNat) (i+1).toNat:=by
 have hn:i.toNat<l.length:=by omega
 rw[drop_eq_getElem_cons hn,show (i+1).toNat=i.toNat+1 by omega,zG,zE hn];rfl
theorem pos_end {α:Type} {p:α→Bool} {l:List α} {i:Int} (h1:(l.length:Int)≤i):pos p (l.drop i.toNat) i.toNat=none:=by rw[drop_eq_nil_of_le (by omega)];rfl
theorem pos_any {α:Type} {p:α→Bool}:∀ {l:List α} {i:Nat},(pos p l i).isSome=l.any p
 | [],_=>rfl
 |a::l,i=>by
  rw[pos,List.any_cons]
  cases p a
  ·exact pos_any
  ·rfl
theorem eqRu_comm (a b:Rule):eqRu a b=eqRu b a:=by
 unfold eqRu;rw[show decide (a.1=b.1)=decide (b.1=a.1)by rw[decide_eq_decide];exact eq_comm,show decide (a.2=b.2)=decide (b.2=a.2)by rw[decide_eq_decide];exact eq_comm]
theorem placeV_neg {l:List Rule} {x:Rule}:decide (0≤placeV l x)=l.any (fun y=>eqRu y x):=by
 rw[← pos_any (i:=0)];unfold placeV
 cases pos (fun y=>eqRu y x) l 0 with
 |none=>rfl
 |some k=>simp
abbrev d0:Rule:=([],[])
theorem inr_take {i:Int} {n:Nat} (h0:0≤i) (h1:i<(n:Int)):inr 0 i n=true:=zT ⟨by omega,by omega,by omega⟩
def cb_l1Place:Cx:=cxOf Γ20 Tryd.f81.ntmps [(2,[0,3,5])] [(0,[]),(1,[0,3,5]),(1000000,[4])] [] []
abbrev st_l1Place (l:List Rule) (i:Int) (x:Rule):St:=⟨[(0, .d (ofD TRL l)),(3, kp0),(5,vI i)],[(500000,some (boxD 127 TRu x))]⟩
theorem x_spec_l1Place (l:List Rule) (x:Rule) (i:Int) (R:St→Option Fin) (K:Cont):evC (cb_l1Place.withLoops (look [])) (loopOf Tryd.f81 0) (st_l1Place l i x) (onward (headAt (cb_l1Place.withLoops (look [])) 2) R K)=(
branch (decide (i<↑l.length)) (
 need (inb i l.length) <|
 branch (decide ((l.getD i.toNat (dflt (Ty.str.pair Ty.str).struct)).fst=x.fst)&&(decide ((l.getD i.toNat (dflt (Ty.str.pair Ty.str).struct)).snd=x.snd)&&true)) ( K (.ret) (.mk [(4,vI i)] [])) ( R (.mk [(0,(.d (.one (.r (.li ((Ty.str.pair Ty.str).struct) l))))),(3,kp0),(5,vI (W64 (i+1)))] [(500000,(.some (.box 127 [(.r (.v (Value.string (mk x.fst)))),(.r (.v (Value.string (mk x.snd))))])))]))) ( K (.exit 0) (.mk [] []))):=by kernel_rfl
def cx0_l1Place:Cx:=(cb_l1Place).withLoops (look [])
def sh_l1Place:Sh:=([(0, .d TRL),(3, .ptr 500000 0),(5, .d TI64)],[(500000, .box 127 TRu)])
def pre_l1Place (l:List Rule) (i:Int) (_x:Rule):Bool:=decide (0≤i)&&Nat.ble (length l) big
def res_l1Place (l:List Rule) (i:Int) (x:Rule) (K:Cont):Option Fin:=branch (pos (fun y=>eqRu y x) (l.drop i.toNat) i.toNat).isSome (K .ret ⟨[(4,vI (((pos (fun y=>eqRu y x) (l.drop i.toNat) i.toNat).getD 0:Nat):Int))],[]⟩) (K (.exit 0) ⟨[],[]⟩)
def mu_l1Place (l:List Rule) (i:Int) (_x:Rule):Nat:=length l-i.toNat
theorem r_l1Place (l:List Rule) (i:Int) (x:Rule) (K:Cont) (hI:pre_l1Place l i x=true):(∀R:St→Option Fin,evC cx0_l1Place (loopOf Tryd.f81 0) (st_l1Place l i x) (onward (headAt cx0_l1Place 2) R K)=res_l1Place l i x K) ∨
  (∃(l':List Rule) (i':Int) (x':Rule),pre_l1Place l' i' x'=true∧mu_l1Place l' i' x'<mu_l1Place l i x∧res_l1Place l' i' x' K=res_l1Place l i x K∧∀R:St→Option Fin,evC cx0_l1Place (loopOf Tryd.f81 0) (st_l1Place l i x) (onward (headAt cx0_l1Place 2) R K)=R (st_l1Place l' i' x')):=by
 have hx:=fun R=>x_spec_l1Place l x i R K;simp only[pre_l1Place,andd,dec_iff,ble_iff]at hI;obtain⟨h0,h1⟩:=hI
 by_cases hi:i<(l.length:Int)
 ·simp only[hi,decide_true,inb_ok h0 hi,branch_true,W1 h0 hi h1]at hx;have hp:=pos_at (p:=fun y=>eqRu y x) d0 h0 hi
  cases hc:eqRu (l.getD i.toNat d0) x
  ·right;rw[hc]at hp;refine⟨l,i+1,x, ?_, ?_, ?_,fun R=>(hx R).trans ?_⟩
   ·simp only[pre_l1Place,andd,dec_iff,ble_iff];omega
   ·simp only[mu_l1Place];omega
   ·simp only[res_l1Place];rw[hp];rfl
   ·rw[show (decide ((l.getD i.toNat (dflt (Ty.str.pair Ty.str).struct)).fst=x.fst)&&(decide ((l.getD i.toNat (dflt (Ty.str.pair Ty.str).struct)).snd=x.snd)&&true))=false from hc];rfl
  ·left;intro R;rw[hc]at hp;refine(hx R).trans ?_;simp only[res_l1Place];rw[show (decide ((l.getD i.toNat (dflt (Ty.str.pair Ty.str).struct)).fst=x.fst)&&(decide ((l.getD i.toNat (dflt (Ty.str.pair Ty.str).struct)).snd=x.snd)&&true))=true from hc,hp];show K .ret _=K .ret _;simp only[cond_true,Option.getD_some,Int.toNat_of_nonneg h0]
 ·left;intro R;refine(hx R).trans ?_;simp only[hi,decide_false,branch_false,res_l1Place];rw[pos_end (by omega)];rfl
def g_l1Place:St→Cont→Option Fin:=gP sh_l1Place (fun v=>match v with | ((l,i,()),(x,()))=>pre_l1Place l i x) (fun v K=>match v with | ((l,i,()),(x,()))=>res_l1Place l i x K)
def L_l1Place:LpL:=(2,g_l1Place)::[]
def cx_l1Place:Cx:=(cb_l1Place).withLoops (look L_l1Place)
theorem l_l1Place {L:LpL} (n:Nat) (h1:L.drop n=[]) (h2:idsFree (L.take n) (loopOf Tryd.f81 0)=true):LoopsTo g_l1Place (cb_l1Place) (loopOf Tryd.f81 0) 2 L :=
 with_drop h1 h2 (gP_ok (fun v=>match v with | ((l,i,()),(x,()))=>mu_l1Place l i x) fun v K hI=>by
  obtain⟨⟨l,i,⟨⟩⟩,⟨x,⟨⟩⟩⟩:=v;exact(r_l1Place l i x K hI).imp id fun⟨l',i',x',h⟩=>⟨((l',i',()),(x',())),h⟩)
theorem y_spec_l1Place (l:List Rule) (x:Rule):evFn cx_l1Place Tryd.f81 true [ofD TRL l,ofD TRu x] []=(
need (pre_l1Place l 0 x) <|
branch ((pos (fun y=>eqRu y x) (List.drop ((0:Int).toNat) l) ((0:Int).toNat)).isSome) ( some ((vI ↑((pos (fun y=>eqRu y x) (List.drop ((0:Int).toNat) l) ((0:Int).toNat)).getD 0)),[])) ( some ((vI (Int.neg 1)),[]))):=by kernel_rfl
theorem s_spec_l1Place (l:List Rule) (hl:Fit TRL l) (x:Rule) (_hx:Fit TRu x):Sat Tryd.prog 81 [ofD TRL l,ofD TRu x] [] (.d (ofD TI64 (placeV l x))) [] :=
 fn_sound (cx:=cx_l1Place) Tryd.func81 rfl ttOk Γ20ok mixed (fun c hc=>LoopsOk.all (l:=[(2,loopOf Tryd.f81 0)]) (by cases hc;kernel_rfl) ⟨atLoop rfl (l_l1Place 1 rfl (by kernel_rfl)),trivial⟩) (ro:=true) (by
  have h:pre_l1Place l 0 x=true:=andd.2 ⟨rfl,ble_iff.2 hl.1⟩;rw[y_spec_l1Place,h];unfold placeV;show need true (branch (pos (fun y=>eqRu y x) l 0).isSome _ _)=_
  cases hq:pos (fun y=>eqRu y x) l 0 with
  |none=>rfl
  |some k =>
   show some (vI (((pos (fun y=>eqRu y x) l 0).getD 0:Nat):Int),[])=_;rw[hq];rfl)
def c_spec_l1Place:Con:=conT [TRL,TRu] fun(l:List Rule) (x:Rule)=>(none, .d (ofD TI64 (placeV l x)))
theorem k_spec_l1Place:ConOk Tryd.prog 81 c_spec_l1Place:=conT_ok Tryd.call81 fun l hl x hx _=>s_spec_l1Place l hl x hx
def Γ21:GL:=(81,c_spec_l1Place)::Γ20
theorem Γ21ok:GO Γ21 := .cons k_spec_l1Place Γ20ok
def cb_ixRule:Cx:=cxOf Γ21 Tryd.f105.ntmps [(2,[0,3,7,8])] [(0,[]),(1,[0,3,7,8]),(1000000,[4])] [] []
abbrev st_ixRule (l:List Rule) (n i:Int) (x:Rule):St:=⟨[(0, .d (ofD TRL l)),(3, kp0),(7,vI n),(8,vI i)],[(500000,some (boxD 127 TRu x))]⟩
theorem x_slices_Index_impl_Rule_impl_Rule (l:List Rule) (x:Rule) (n i:Int) (R:St→Option Fin) (K:Cont):evC (cb_ixRule.withLoops (look [])) (loopOf Tryd.f105 0) (st_ixRule l n i x) (onward (headAt (cb_ixRule.withLoops (look [])) 2) R K)=(
branch (decide (i<n)) (
 need (inb i l.length) <|
 branch (decide (x.fst=(l.getD i.toNat (dflt (Ty.str.pair Ty.str).struct)).fst)&&(decide (x.snd=(l.getD i.toNat (dflt (Ty.str.pair Ty.str).struct)).snd)&&true)) ( K (.ret) (.mk [(4,vI i)] [])) ( R (.mk [(0,(.d (.one (.r (.li ((Ty.str.pair Ty.str).struct) l))))),(3,kp0),(7,vI n),(8,vI (W64 (i+1)))] [(500000,(.some (.box 127 [(.r (.v (Value.string (mk x.fst)))),(.r (.v (Value.string (mk x.snd))))])))]))) ( K (.exit 0) (.mk [] []))):=by kernel_rfl
def cx0_ixRule:Cx:=(cb_ixRule).withLoops (look [])
def sh_ixRule:Sh:=([(0, .d TRL),(3, .ptr 500000 0),(7, .d TI64),(8, .d TI64)],[(500000, .box 127 TRu)])
def pre_ixRule (l:List Rule) (n i:Int) (_x:Rule):Bool:=decide (0≤i)&&(Nat.ble (length l) big&&decide (n=(length l:Int)))
def res_ixRule (l:List Rule) (_n i:Int) (x:Rule) (K:Cont):Option Fin:=branch (pos (fun y=>eqRu x y) (l.drop i.toNat) i.toNat).isSome (K .ret ⟨[(4,vI (((pos (fun y=>eqRu x y) (l.drop i.toNat) i.toNat).getD 0:Nat):Int))],[]⟩) (K (.exit 0) ⟨[],[]⟩)
def mu_ixRule (l:List Rule) (_n i:Int) (_x:Rule):Nat:=length l-i.toNat
theorem r_ixRule (l:List Rule) (n i:Int) (x:Rule) (K:Cont) (hI:pre_ixRule l n i x=true):(∀R:St→Option Fin,evC cx0_ixRule (loopOf Tryd.f105 0) (st_ixRule l n i x) (onward (headAt cx0_ixRule 2) R K)=res_ixRule l n i x K) ∨
  (∃(l':List Rule) (n' i':Int) (x':Rule),pre_ixRule l' n' i' x'=true∧mu_ixRule l' n' i' x'<mu_ixRule l n i x∧res_ixRule l' n' i' x' K=res_ixRule l n i x K∧∀R:St→Option Fin,evC cx0_ixRule (loopOf Tryd.f105 0) (st_ixRule l n i x) (onward (headAt cx0_ixRule 2) R K)=R (st_ixRule l' n' i' x')):=by
 have hx:=fun R=>x_slices_Index_impl_Rule_impl_Rule l x n i R K;simp only[pre_ixRule,andd,dec_iff,ble_iff]at hI;obtain⟨h0,h1,rfl⟩:=hI
 by_cases hi:i<(l.length:Int)
 ·simp only[hi,decide_true,inb_ok h0 hi,branch_true,W1 h0 hi h1]at hx;have hp:=pos_at (p:=fun y=>eqRu x y) d0 h0 hi
  cases hc:eqRu x (l.getD i.toNat d0)
  ·right;rw[hc]at hp;refine⟨l,(l.length:Int),i+1,x, ?_, ?_, ?_,fun R=>(hx R).trans ?_⟩
   ·exact andd.2 ⟨dec_iff.2 (by omega),andd.2 ⟨ble_iff.2 h1,zT rfl⟩⟩
   ·simp only[mu_ixRule];omega
   ·simp only[res_ixRule];rw[hp];rfl
   ·rw[show (decide (x.fst=(l.getD i.toNat (dflt (Ty.str.pair Ty.str).struct)).fst)&&(decide (x.snd=(l.getD i.toNat (dflt (Ty.str.pair Ty.str).struct)).snd)&&true))=false from hc];rfl
  ·left;intro R;rw[hc]at hp;refine(hx R).trans ?_;simp only[res_ixRule];rw[show (decide (x.fst=(l.getD i.toNat (dflt (Ty.str.pair Ty.str).struct)).fst)&&(decide (x.snd=(l.getD i.toNat (dflt (Ty.str.pair Ty.str).struct)).snd)&&true))=true from hc,hp];show K .ret _=K .ret _;simp only[cond_true,Option.getD_some,Int.toNat_of_nonneg h0]
 ·left;intro R;refine(hx R).trans ?_;simp only[hi,decide_false,branch_false,res_ixRule];rw[pos_end (by omega)];rfl
def g_ixRule:St→Cont→Option Fin:=gP sh_ixRule (fun v=>match v with | ((l,n,i,()),(x,()))=>pre_ixRule l n i x) (fun v K=>match v with | ((l,n,i,()),(x,()))=>res_ixRule l n i x K)
def L_ixRule:LpL:=(2,g_ixRule)::[]
def cx_ixRule:Cx:=(cb_ixRule).withLoops (look L_ixRule)
theorem l_ixRule {L:LpL} (n:Nat) (h1:L.drop n=[]) (h2:idsFree (L.take n) (loopOf Tryd.f105 0)=true):LoopsTo g_ixRule (cb_ixRule) (loopOf Tryd.f105 0) 2 L :=
 with_drop h1 h2 (gP_ok (fun v=>match v with | ((l,n,i,()),(x,()))=>mu_ixRule l n i x) fun v K hI=>by
  obtain⟨⟨l,n,i,⟨⟩⟩,⟨x,⟨⟩⟩⟩:=v;exact(r_ixRule l n i x K hI).imp id fun⟨l',n',i',x',h⟩=>⟨((l',n',i',()),(x',())),h⟩)
theorem y_slices_Index_impl_Rule_impl_Rule (l:List Rule) (x:Rule):evFn cx_ixRule Tryd.f105 true [ofD TRL l,ofD TRu x] []=(
need (pre_ixRule l (↑l.length) 0 x) <|
branch ((pos (fun y=>eqRu x y) (List.drop ((0:Int).toNat) l) ((0:Int).toNat)).isSome) ( some ((vI ↑((pos (fun y=>eqRu x y) (List.drop ((0:Int).toNat) l) ((0:Int).toNat)).getD 0)),[])) ( some ((vI (Int.neg 1)),[]))):=by kernel_rfl
def indexV (l:List Rule) (x:Rule):Int:=match pos (fun y=>eqRu x y) l 0 with | some k=>(k:Int) | none => -1
theorem s_slices_Index_impl_Rule_impl_Rule (l:List Rule) (hl:Fit TRL l) (x:Rule) (_hx:Fit TRu x):Sat Tryd.prog 105 [ofD TRL l,ofD TRu x] [] (.d (ofD TI64 (indexV l x))) [] :=
 fn_sound (cx:=cx_ixRule) Tryd.func105 rfl ttOk Γ21ok mixed (fun c hc=>LoopsOk.all (l:=[(2,loopOf Tryd.f105 0)]) (by cases hc;kernel_rfl) ⟨atLoop rfl (l_ixRule 1 rfl (by kernel_rfl)),trivial⟩) (ro:=true) (by
  have h:pre_ixRule l (l.length:Int) 0 x=true:=andd.2 ⟨rfl,andd.2 ⟨ble_iff.2 hl.1,zT rfl⟩⟩;rw[y_slices_Index_impl_Rule_impl_Rule,h];unfold indexV;show need true (branch (pos (fun y=>eqRu x y) l 0).isSome _ _)=_
  cases hq:pos (fun y=>eqRu x y) l 0 with
  |none=>rfl
  |some k =>
   show some (vI (((pos (fun y=>eqRu x y) l 0).getD 0:Nat):Int),[])=_;rw[hq];rfl)
def c_slices_Index_impl_Rule_impl_Rule:Con:=conT [TRL,TRu] fun(l:List Rule) (x:Rule)=>(none, .d (ofD TI64 (indexV l x)))
theorem k_slices_Index_impl_Rule_impl_Rule:ConOk Tryd.prog 105 c_slices_Index_impl_Rule_impl_Rule:=conT_ok Tryd.call105 fun l hl x hx _=>s_slices_Index_impl_Rule_impl_Rule l hl x hx
def Γ22:GL:=(105,c_slices_Index_impl_Rule_impl_Rule)::Γ21
theorem Γ22ok:GO Γ22 := .cons k_slices_Index_impl_Rule_impl_Rule Γ21ok
theorem indexV_neg {l:List Rule} {x:Rule}:decide (0≤indexV l x)=l.any (fun y=>eqRu y x):=by
 rw[← placeV_neg];have:indexV l x=placeV l x:=by
  unfold indexV placeV;rw[show (fun y=>eqRu x y)=fun y=>eqRu y x from funext fun y=>eqRu_comm x y]
 rw[this]
def hasRule (l:List Rule) (x:Rule):Bool:=l.any (fun y=>eqRu y x)
theorem y_slices_Contains_impl_Rule_impl_Rule (l:List Rule) (x:Rule):evFn (cxOf Γ22 Tryd.f77.ntmps [] [] [] []) Tryd.f77 true [ofD TRL l,ofD TRu x] []=(
some ((vB (decide (0≤indexV l x))),[])):=by kernel_rfl
theorem s_slices_Contains_impl_Rule_impl_Rule (l:List Rule) (_hl:Fit TRL l) (x:Rule) (_hx:Fit TRu x):Sat Tryd.prog 77 [ofD TRL l,ofD TRu x] [] (.d (ofD .bool (hasRule l x))) [] :=
 fn_sound (cx:=cxOf Γ22 Tryd.f77.ntmps [] [] [] []) Tryd.func77 rfl ttOk Γ22ok mixed (fun _ _=>LoopsOk.no fun _=>rfl) (ro:=true) (by
  rw[y_slices_Contains_impl_Rule_impl_Rule];have:=@indexV_neg l x;unfold hasRule;rw[← this];rfl)
def c_slices_Contains_impl_Rule_impl_Rule:Con:=conT [TRL,TRu] fun(l:List Rule) (x:Rule)=>(none, .d (ofD .bool (hasRule l x)))
theorem k_slices_Contains_impl_Rule_impl_Rule:ConOk Tryd.prog 77 c_slices_Contains_impl_Rule_impl_Rule:=conT_ok Tryd.call77 fun l hl x hx _=>s_slices_Contains_impl_Rule_impl_Rule l hl x hx
def Γ23:GL:=(77,c_slices_Contains_impl_Rule_impl_Rule)::Γ22
theorem Γ23ok:GO Γ23 := .cons k_slices_Contains_impl_Rule_impl_Rule Γ22ok
def okAt (l:List Rule) (i:Nat):Bool:=bigS (l.getD i d0).1&&(areS (l.getD i d0).2 4 && !hasRule (l.take i) (l.getD i d0))
def okFrom (l:List Rule) (i:Nat):Bool:=(List.range' i (l.length-i)).all (okAt l)
def okG (g:Gram):Bool:=bigS g.1&&(decide ((g.2.length:Int)≤8)&&okFrom g.2 0)
theorem okFrom_end {l:List Rule} {i:Nat} (h:l.length≤i):okFrom l i=true:=by
 unfold okFrom;rw[show l.length-i=0 by omega];rfl
theorem okFrom_go {l:List Rule} {i:Nat} (h:i<l.length):okFrom l i=(okAt l i&&okFrom l (i+1)):=by
 unfold okFrom;rw[show l.length-i=(l.length-(i+1))+1 by omega,List.range'_succ];rfl
theorem not_le8 (n:Nat):decide ((8:Int)<(n:Int)) = !decide ((n:Int)≤8):=by
 by_cases h:(n:Int)≤8
 ·rw[zT h,zF (by omega)];rfl
 ·rw[zF h,zT (by omega)];rfl
def cb_sGramOk:Cx:=cxOf Γ23 Tryd.f35.ntmps [(4,[1,3])] [(0,[]),(1,[1,3]),(1000000,[2])] [] []
abbrev st_sGramOk (i:Int) (g:Gram):St:=⟨[(1, kp0),(3,vI i)],[(500000,some (boxD 25 TG g))]⟩
theorem x_spec_GramOk (g:Gram) (i:Int) (R:St→Option Fin) (K:Cont):evC (cb_sGramOk.withLoops (look [])) (loopOf Tryd.f35 0) (st_sGramOk i g) (onward (headAt (cb_sGramOk.withLoops (look [])) 4) R K)=(
branch (decide (i<↑(length g.snd))) (
 need (inb i (length g.snd)) <|
 need (bif decide ((!bigS (getD g.snd i.toNat d0).fst)=false)then inb i (length g.snd)else true) <|
 need (bif decide ((bif !bigS (getD g.snd i.toNat d0).fst then true else !areS (getD g.snd i.toNat d0).snd 4)=false)then inr 0 i (length g.snd)else true) <|
 need (bif decide ((bif !bigS (getD g.snd i.toNat d0).fst then true else !areS (getD g.snd i.toNat d0).snd 4)=false)then inb i (length g.snd)else true) <|
 branch (bif bif !bigS (getD g.snd i.toNat d0).fst then true else !areS (getD g.snd i.toNat d0).snd 4 then true else decide (0≤placeV (List.take i.toNat g.snd) (getD g.snd i.toNat d0))) ( K (.ret) (.mk [(2,vB false)] [])) ( R (st_sGramOk (W64 (i+1)) g))) ( K (.exit 0) (.mk [] []))):=by kernel_rfl
theorem okAt_tree (a b c:Bool):(bif bif !a then true else !b then true else c) = !(a&&(b && !c)):=by cases a<;>cases b<;>cases c<;>rfl
def cx0_sGramOk:Cx:=(cb_sGramOk).withLoops (look [])
def sh_sGramOk:Sh:=([(1, .ptr 500000 0),(3, .d TI64)],[(500000, .box 25 TG)])
def pre_sGramOk (i:Int) (g:Gram):Bool:=decide (0≤i)&&Nat.ble (length g.2) big
def res_sGramOk (i:Int) (g:Gram) (K:Cont):Option Fin:=branch (okFrom g.2 i.toNat) (K (.exit 0) ⟨[],[]⟩) (K .ret ⟨[(2,vB false)],[]⟩)
def mu_sGramOk (i:Int) (g:Gram):Nat:=length g.2-i.toNat
theorem r_sGramOk (i:Int) (g:Gram) (K:Cont) (hI:pre_sGramOk i g=true):(∀R:St→Option Fin,evC cx0_sGramOk (loopOf Tryd.f35 0) (st_sGramOk i g) (onward (headAt cx0_sGramOk 4) R K)=res_sGramOk i g K) ∨
  (∃(i':Int) (g':Gram),pre_sGramOk i' g'=true∧mu_sGramOk i' g'<mu_sGramOk i g∧res_sGramOk i' g' K=res_sGramOk i g K∧∀R:St→Option Fin,evC cx0_sGramOk (loopOf Tryd.f35 0) (st_sGramOk i g) (onward (headAt cx0_sGramOk 4) R K)=R (st_sGramOk i' g')):=by
 have hx:=fun R=>x_spec_GramOk g i R K;simp only[pre_sGramOk,andd,dec_iff,ble_iff]at hI;obtain⟨h0,h1⟩:=hI
 by_cases hi:i<(length g.2:Int)
 ·simp only[hi,decide_true,inb_ok h0 hi,inr_take h0 hi,Bool.cond_self,branch_true,okAt_tree,placeV_neg,W1 h0 hi h1]at hx;have hn:i.toNat<length g.2:=by omega
  have hg:=okFrom_go hn;rw[show i.toNat+1=(i+1).toNat by omega]at hg
  cases hc:okAt g.2 i.toNat
  ·left;intro R;rw[hc]at hg;refine(hx R).trans ?_;have hc':=hc;unfold okAt hasRule at hc';rw[hc'];simp only[res_sGramOk,hg];rfl
  ·right;rw[hc]at hg;refine⟨i+1,g, ?_, ?_, ?_,fun R=>(hx R).trans ?_⟩
   ·exact andd.2 ⟨dec_iff.2 (by omega),ble_iff.2 h1⟩
   ·simp only[mu_sGramOk];omega
   ·simp only[res_sGramOk,hg];rfl
   ·have hc':=hc;unfold okAt hasRule at hc';rw[hc'];rfl
 ·left;intro R;refine(hx R).trans ?_;simp only[hi,decide_false,branch_false,res_sGramOk];rw[okFrom_end (by omega)];rfl
def g_sGramOk:St→Cont→Option Fin:=gP sh_sGramOk (fun v=>match v with | ((i,()),(g,()))=>pre_sGramOk i g) (fun v K=>match v with | ((i,()),(g,()))=>res_sGramOk i g K)
def L_sGramOk:LpL:=(4,g_sGramOk)::[]
def cx_sGramOk:Cx:=(cb_sGramOk).withLoops (look L_sGramOk)
theorem l_sGramOk {L:LpL} (n:Nat) (h1:L.drop n=[]) (h2:idsFree (L.take n) (loopOf Tryd.f35 0)=true):LoopsTo g_sGramOk (cb_sGramOk) (loopOf Tryd.f35 0) 4 L :=
 with_drop h1 h2 (gP_ok (fun v=>match v with | ((i,()),(g,()))=>mu_sGramOk i g) fun v K hI=>by
  obtain⟨⟨i,⟨⟩⟩,⟨g,⟨⟩⟩⟩:=v;exact(r_sGramOk i g K hI).imp id fun⟨i',g',h⟩=>⟨((i',()),(g',())),h⟩)
theorem y_spec_GramOk (g:Gram):evFn cx_sGramOk Tryd.f35 true [ofD TG g] []=(
branch (bif !bigS g.fst then true else decide (8<(length g.snd:Int))) ( some ((vB false),[])) (
 need (pre_sGramOk 0 g) <|
 branch (okFrom g.snd ((0:Int).toNat)) ( some ((vB true),[])) ( some ((vB false),[])))):=by kernel_rfl
theorem s_spec_GramOk (g:Gram) (hg:Fit TG g):Sat Tryd.prog 35 [ofD TG g] [] (.d (ofD .bool (okG g))) [] :=
 fn_sound (cx:=cx_sGramOk) Tryd.func35 rfl ttOk Γ23ok mixed (fun c hc=>LoopsOk.all (l:=[(4,loopOf Tryd.f35 0)]) (by cases hc;kernel_rfl) ⟨atLoop rfl (l_sGramOk 1 rfl (by kernel_rfl)),trivial⟩) (ro:=true) (by
  have h:pre_sGramOk 0 g=true:=andd.2 ⟨rfl,ble_iff.2 hg.2.1⟩;rw[y_spec_GramOk,h,not_le8];unfold okG
  cases bigS g.1
  ·rfl
  ·cases decide ((length g.2:Int)≤8)
   ·rfl
   ·show need true (branch (okFrom g.2 0) _ _)=_
    cases okFrom g.2 0<;>rfl)
def c_spec_GramOk:Con:=conT [TG] fun(g:Gram)=>(none, .d (ofD .bool (okG g)))
theorem k_spec_GramOk:ConOk Tryd.prog 35 c_spec_GramOk:=conT_ok Tryd.call35 fun g hg _=>s_spec_GramOk g hg
def Γ24:GL:=(35,c_spec_GramOk)::Γ23
theorem Γ24ok:GO Γ24 := .cons k_spec_GramOk Γ23ok
def cb_iGramOk:Cx:=cxOf Γ24 Tryd.f31.ntmps [(4,[1,16,17,18])] [(0,[]),(1,[1,16,17,18]),(1000000,[2])] [] []
abbrev st_iGramOk (l:List Rule) (n i:Int) (g:Gram):St:=⟨[(1, kp0),(16, .d (ofD TRL l)),(17,vI n),(18,vI i)],[(500000,some (boxD 25 TG g))]⟩
theorem x_impl_GramOk (g:Gram) (l:List Rule) (n i:Int) (R:St→Option Fin) (K:Cont):evC (cb_iGramOk.withLoops (look [])) (loopOf Tryd.f31 0) (st_iGramOk l n i g) (onward (headAt (cb_iGramOk.withLoops (look [])) 4) R K)=(
branch (decide (i<n)) (
 need (inb i l.length) <|
 need (bif decide ((bif !bigS (l.getD i.toNat d0).fst then true else !areS (l.getD i.toNat d0).snd 4)=false)then inr 0 i (length g.snd)else true) <|
 branch (bif bif !bigS (l.getD i.toNat d0).fst then true else !areS (l.getD i.toNat d0).snd 4 then true else hasRule (List.take i.toNat g.snd) (l.getD i.toNat d0)) ( K (.ret) (.mk [(2,vB false)] [])) ( R (st_iGramOk l n (W64 (i+1)) g))) ( K (.exit 0) (.mk [] []))):=by kernel_rfl
def cx0_iGramOk:Cx:=(cb_iGramOk).withLoops (look [])
def sh_iGramOk:Sh:=([(1, .ptr 500000 0),(16, .d TRL),(17, .d TI64),(18, .d TI64)],[(500000, .box 25 TG)])
def pre_iGramOk (l:List Rule) (n i:Int) (g:Gram):Bool:=decide (0≤i)&&(Nat.ble (length g.2) big&&(decide (n=(length g.2:Int))&&decide (l=g.2)))
def res_iGramOk (_l:List Rule) (_n i:Int) (g:Gram) (K:Cont):Option Fin:=branch (okFrom g.2 i.toNat) (K (.exit 0) ⟨[],[]⟩) (K .ret ⟨[(2,vB false)],[]⟩)
def mu_iGramOk (_l:List Rule) (_n i:Int) (g:Gram):Nat:=length g.2-i.toNat
theorem r_iGramOk (l:List Rule) (n i:Int) (g:Gram) (K:Cont) (hI:pre_iGramOk l n i g=true):(∀R:St→Option Fin,evC cx0_iGramOk (loopOf Tryd.f31 0) (st_iGramOk l n i g) (onward (headAt cx0_iGramOk 4) R K)=res_iGramOk l n i g K) ∨
  (∃(l':List Rule) (n' i':Int) (g':Gram),pre_iGramOk l' n' i' g'=true∧mu_iGramOk l' n' i' g'<mu_iGramOk l n i g∧res_iGramOk l' n' i' g' K=res_iGramOk l n i g K∧∀R:St→Option Fin,evC cx0_iGramOk (loopOf Tryd.f31 0) (st_iGramOk l n i g) (onward (headAt cx0_iGramOk 4) R K)=R (st_iGramOk l' n' i' g')):=by
 have hx:=fun R=>x_impl_GramOk g l n i R K;simp only[pre_iGramOk,andd,dec_iff,ble_iff]at hI;obtain⟨h0,h1,rfl,rfl⟩:=hI
 by_cases hi:i<(length g.2:Int)
 ·simp only[hi,decide_true,inb_ok h0 hi,inr_take h0 hi,Bool.cond_self,branch_true,okAt_tree,W1 h0 hi h1]at hx;have hn:i.toNat<length g.2:=by omega
  have hg:=okFrom_go hn;rw[show i.toNat+1=(i+1).toNat by omega]at hg
  cases hc:okAt g.2 i.toNat
  ·left;intro R;rw[hc]at hg;refine(hx R).trans ?_;have hc':=hc;unfold okAt at hc';rw[hc'];simp only[res_iGramOk,hg];rfl
  ·right;rw[hc]at hg;refine⟨g.2,(length g.2:Int),i+1,g, ?_, ?_, ?_,fun R=>(hx R).trans ?_⟩
   ·exact andd.2 ⟨dec_iff.2 (by omega),andd.2 ⟨ble_iff.2 h1,andd.2 ⟨zT rfl,zT rfl⟩⟩⟩
   ·simp only[mu_iGramOk];omega
   ·simp only[res_iGramOk,hg];rfl
   ·have hc':=hc;unfold okAt at hc';rw[hc'];rfl
 ·left;intro R;refine(hx R).trans ?_;simp only[hi,decide_false,branch_false,res_iGramOk];rw[okFrom_end (by omega)];rfl
def g_iGramOk:St→Cont→Option Fin:=gP sh_iGramOk (fun v=>match v with | ((l,n,i,()),(g,()))=>pre_iGramOk l n i g) (fun v K=>match v with | ((l,n,i,()),(g,()))=>res_iGramOk l n i g K)
def L_iGramOk:LpL:=(4,g_iGramOk)::[]
def cx_iGramOk:Cx:=(cb_iGramOk).withLoops (look L_iGramOk)
theorem l_iGramOk {L:LpL} (n:Nat) (h1:L.drop n=[]) (h2:idsFree (L.take n) (loopOf Tryd.f31 0)=true):LoopsTo g_iGramOk (cb_iGramOk) (loopOf Tryd.f31 0) 4 L :=
 with_drop h1 h2 (gP_ok (fun v=>match v with | ((l,n,i,()),(g,()))=>mu_iGramOk l n i g) fun v K hI=>by
  obtain⟨⟨l,n,i,⟨⟩⟩,⟨g,⟨⟩⟩⟩:=v;exact(r_iGramOk l n i g K hI).imp id fun⟨l',n',i',g',h⟩=>⟨((l',n',i',()),(g',())),h⟩)
theorem y_impl_GramOk (g:Gram):evFn cx_iGramOk Tryd.f31 true [ofD TG g] []=(
branch (bif !bigS g.fst then true else decide (8<(length g.snd:Int))) ( some ((vB false),[])) (
 need (pre_iGramOk g.snd ((length g.snd:Int)) 0 g) <|
 branch (okFrom g.snd ((0:Int).toNat)) ( some ((vB true),[])) ( some ((vB false),[])))):=by kernel_rfl
theorem s_impl_GramOk (g:Gram) (hg:Fit TG g):Sat Tryd.prog 31 [ofD TG g] [] (.d (ofD .bool (okG g))) [] :=
 fn_sound (cx:=cx_iGramOk) Tryd.func31 rfl ttOk Γ24ok mixed (fun c hc=>LoopsOk.all (l:=[(4,loopOf Tryd.f31 0)]) (by cases hc;kernel_rfl) ⟨atLoop rfl (l_iGramOk 1 rfl (by kernel_rfl)),trivial⟩) (ro:=true) (by
  have h:pre_iGramOk g.2 (length g.2:Int) 0 g=true:=andd.2 ⟨rfl,andd.2 ⟨ble_iff.2 hg.2.1,andd.2 ⟨zT rfl,zT rfl⟩⟩⟩;rw[y_impl_GramOk,h,not_le8];unfold okG
  cases bigS g.1
  ·rfl
  ·cases decide ((length g.2:Int)≤8)
   ·rfl
   ·show need true (branch (okFrom g.2 0) _ _)=_
    cases okFrom g.2 0<;>rfl)
def c_impl_GramOk:Con:=conT [TG] fun(g:Gram)=>(none, .d (ofD .bool (okG g)))
theorem k_impl_GramOk:ConOk Tryd.prog 31 c_impl_GramOk:=conT_ok Tryd.call31 fun g hg _=>s_impl_GramOk g hg
def Γ25:GL:=(31,c_impl_GramOk)::Γ24
theorem Γ25ok:GO Γ25 := .cons k_impl_GramOk Γ24ok
theorem fits_ok {n b:Nat} (hn:n≤100000) (hb:b≤100000):fits n b=true:=by
 unfold fits;refine zT ?_;have:=Nat.mul_le_mul hn hb;omega
theorem ruleBytes:Tryd.t127.bytes=32:=by kernel_rfl
theorem intBytes:Tryd.t3.bytes=8:=by kernel_rfl
def szR (r:Rule):Bool:=Nat.ble r.1.length 8&&Nat.ble r.2.length 8
def szL (r:Rule):Bool:=szR r&&bigS r.1
def lefB (g:Gram):Bool:=bigS g.1&&List.all g.2 fun r=>bigS r.1
theorem all_szL {l:List Rule}:l.all szL=true↔l.all szR=true∧(l.all fun r=>bigS r.1)=true:=by
 simp only[all_eq_true,szL,Bool.and_eq_true];exact⟨fun h=>⟨fun r hr=>(h r hr).1,fun r hr=>(h r hr).2⟩,fun h r hr=>⟨h.1 r hr,h.2 r hr⟩⟩
def szG (k:Nat) (g:Gram):Bool:=Nat.ble (length g.1) 8&&(Nat.ble (length g.2) k&&List.all g.2 szR)
theorem y_spec_l1Base (k:Int):evFn (cxOf Γ25 Tryd.f100.ntmps [] [(0,[2]),(1000000,[2])] [] []) Tryd.f100 true [ofD TI64 k] []=(
branch (decide (k=0)) ( some ((.d (.agg [(.r (.v (Value.string (mk [65])))),(.r (.li ty127 ([(([65]:Str),([97,65,98]:Str)),(([65]:Str),([]:Str))])))])),[])) (
 branch (decide (k=1)) ( some ((.d (.agg [(.r (.v (Value.string (mk [65])))),(.r (.li ty127 ([(([65]:Str),([65,98,66]:Str)),(([65]:Str),([66]:Str)),(([66]:Str),([97]:Str)),(([66]:Str),([99,65,100]:Str))])))])),[])) (
 branch (decide (k=2)) ( some ((.d (.agg [(.r (.v (Value.string (mk [65])))),(.r (.li ty127 ([(([65]:Str),([65,98,65]:Str)),(([65]:Str),([97]:Str))])))])),[])) (
  branch (decide (k=3)) ( some ((.d (.agg [(.r (.v (Value.string (mk [65])))),(.r (.li ty127 ([(([65]:Str),([66,67]:Str)),(([66]:Str),([97,66]:Str)),(([66]:Str),([]:Str)),(([67]:Str),([98]:Str)),(([67]:Str),([68]:Str)),(([68]:Str),([68,99]:Str))])))])),[])) (
  branch (decide (k=4)) ( some ((.d (.agg [(.r (.v (Value.string (mk [65])))),(.r (.li ty127 ([(([65]:Str),([97,66]:Str)),(([65]:Str),([98,65]:Str)),(([66]:Str),([65]:Str)),(([66]:Str),([99]:Str)),(([66]:Str),([66]:Str))])))])),[])) (
   branch (decide (k=5)) ( some ((.d (.agg [(.r (.v (Value.string (mk [65])))),(.r (.li ty127 ([(([65]:Str),([97,65]:Str)),(([65]:Str),([97,65,98,65]:Str)),(([65]:Str),([99]:Str))])))])),[])) (
   branch (decide (k=6)) ( some ((.d (.agg [(.r (.v (Value.string (mk [65])))),(.r (.li ty127 ([(([65]:Str),([66,66]:Str)),(([66]:Str),([97,66]:Str)),(([66]:Str),([98]:Str))])))])),[])) ( some ((.d (.agg [(.r (.v (Value.string (mk [65])))),(.r (.li ty127 ([])))])),[]))))))))):=by kernel_rfl
theorem base_fin {g:Gram} (h:(szG 6 g&&lefB g)=true):Ok (some ((.d (ofD TG g),[]):Fin)) (fun r=>∃v:Gram,r=(.d (ofD TG v),[])∧(szG 6 v&&lefB v)=true):=Ok.ret ⟨g,rfl,h⟩
theorem e_spec_l1Base (k:Int) (_hk:Fit TI64 k):∃q:Gram,evFn (cxOf Γ25 Tryd.f100.ntmps [] [(0,[2]),(1000000,[2])] [] []) Tryd.f100 true [ofD TI64 k] []=some (.d (ofD TG q),[])∧((szG 6 q&&lefB q)=true):=by
 obtain⟨r,h1,h2⟩:Ok (evFn (cxOf Γ25 Tryd.f100.ntmps [] [(0,[2]),(1000000,[2])] [] []) Tryd.f100 true [ofD TI64 k] []) (fun r=>∃(v:Gram),r=(.d (ofD TG v),[])∧((szG 6 v&&lefB v)=true)):=by
  rw[y_spec_l1Base];exact Ok.br (fun _=>base_fin (g:=([65],[([65],[97,65,98]),([65],[])])) rfl) fun _=>Ok.br (fun _=>base_fin (g:=([65],[([65],[65,98,66]),([65],[66]),([66],[97]),([66],[99,65,100])])) rfl) fun _ =>
   Ok.br (fun _=>base_fin (g:=([65],[([65],[65,98,65]),([65],[97])])) rfl) fun _=>Ok.br (fun _=>base_fin (g:=([65],[([65],[66,67]),([66],[97,66]),([66],[]),([67],[98]),([67],[68]),([68],[68,99])])) rfl) fun _ =>
   Ok.br (fun _=>base_fin (g:=([65],[([65],[97,66]),([65],[98,65]),([66],[65]),([66],[99]),([66],[66])])) rfl) fun _=>Ok.br (fun _=>base_fin (g:=([65],[([65],[97,65]),([65],[97,65,98,65]),([65],[99])])) rfl) fun _ =>
   Ok.br (fun _=>base_fin (g:=([65],[([65],[66,66]),([66],[97,66]),([66],[98])])) rfl) fun _=>base_fin (g:=([65],[])) rfl
 obtain⟨v,h2,h3⟩:=h2;exact⟨v,by rw[h1,h2],h3⟩
def F_spec_l1Base (k:Int):Gram:=oneOf (fun q:Gram=>evFn (cxOf Γ25 Tryd.f100.ntmps [] [(0,[2]),(1000000,[2])] [] []) Tryd.f100 true [ofD TI64 k] []=some (.d (ofD TG q),[])∧((szG 6 q&&lefB q)=true))
theorem p_spec_l1Base (k:Int) (hk:Fit TI64 k):(szG 6 (F_spec_l1Base k)&&lefB (F_spec_l1Base k))=true:=(oneOf_spec (e_spec_l1Base k hk)).2
theorem s_spec_l1Base (k:Int) (hk:Fit TI64 k):Sat Tryd.prog 100 [ofD TI64 k] [] (.d (ofD TG (F_spec_l1Base k))) [] :=
 fn_sound (cx:=cxOf Γ25 Tryd.f100.ntmps [] [(0,[2]),(1000000,[2])] [] []) Tryd.func100 rfl ttOk Γ25ok mixed (fun _ _=>LoopsOk.no fun _=>rfl) (ro:=true) (oneOf_spec (e_spec_l1Base k hk)).1
def c_spec_l1Base:Con:=conT [TI64] fun(k:Int)=>(none, .d (ofD TG (F_spec_l1Base k)))
theorem k_spec_l1Base:ConOk Tryd.prog 100 c_spec_l1Base:=conT_ok Tryd.call100 fun k hk _=>s_spec_l1Base k hk
def Γ26:GL:=(100,c_spec_l1Base)::Γ25
theorem Γ26ok:GO Γ26 := .cons k_spec_l1Base Γ25ok
def l1abc:List Str:=[[97],[98],[65],[66],[97],[99],[98],[67],[100]]
def cx0_l1Signed:Cx:=cxOf Γ26 Tryd.f101.ntmps [(3,[0,1,5,6])] [(0,[5]),(1,[0,1,5,6]),(1000000,[4])] [] []
def sh_l1Signed:Sh:=([(0, .ptr 0 0),(1, .d TI64),(5, .d .str),(6, .d TI64)],[(0, .box 125 TR)])
abbrev st_l1Signed (n:Int) (s:Str) (i:Int) (x:Den TR):St:=⟨[(0, .d (.one (.ptr 0 0))),(1,vI n),(5,vS s),(6,vI i)],[(0,some (boxD 125 TR x))]⟩
def V_l1Signed (n:Int) (s:Str) (i:Int) (x:Den TR):sh_l1Signed.V:=((n,s,i,()),(x,()))
def out_l1Signed (o:Str×Rd):St:=⟨[(5,vS o.1)],[(0,bR o.2)]⟩
def inv_l1Signed (n:Int) (s:Str) (i:Int) (x:Den TR):Bool:=rdAt x (10000000999000+i)&&(decide (0≤i∧n≤1000∧i≤1000)&&decide (s.length≤i.toNat))
def post_l1Signed (n:Int) (s:Str) (i:Int) (x:Den TR) (o:Str×Rd):Prop:=o.1.length≤s.length+(n-i).toNat∧Adv x o.2 ((n-i).toNat:Int)
def mu_l1Signed (n:Int) (_s:Str) (i:Int) (_x:Den TR):Nat:=(n-i).toNat
theorem r_l1Signed (n:Int) (s:Str) (i:Int) (x:Den TR) (hI:inv_l1Signed n s i x=true):(∃o:Str×Rd,post_l1Signed n s i x o∧∀(R:St→Option Fin) (K:Cont),evC cx0_l1Signed (loopOf Tryd.f101 0) (st_l1Signed n s i x) (onward (headAt cx0_l1Signed 3) R K)=K (.exit 0) (out_l1Signed o)) ∨
  (∃(n':Int) (s':Str) (i':Int) (x':Den TR),inv_l1Signed n' s' i' x'=true∧mu_l1Signed n' s' i' x'<mu_l1Signed n s i x∧(∀o,post_l1Signed n' s' i' x' o→post_l1Signed n s i x o)∧∀(R:St→Option Fin) (K:Cont),evC cx0_l1Signed (loopOf Tryd.f101 0) (st_l1Signed n s i x) (onward (headAt cx0_l1Signed 3) R K)=R (st_l1Signed n' s' i' x')):=by
 have hx:∀(R:St→Option Fin) (K:Cont),evC cx0_l1Signed (loopOf Tryd.f101 0) ⟨[(0,vP 0),(1,vI n),(5,vS s),(6,vI i)],[(0,bR x)]⟩ (onward (headAt cx0_l1Signed 3) R K) =
  branch (decide (i<n)) (need (rdOk x&&Nat.blt 0 l1abc.length) (need (decide (s.length+(ofV x l1abc).length≤9223372036854775807)) (R ⟨[(0,vP 0),(1,vI n),(5,vS (s++ofV x l1abc)),(6,vI (W64 (i+1)))],[(0,bR (rdGo x 1))]⟩)))
   (K (.exit 0) ⟨[(5,vS s)],[(0,bR x)]⟩):=fun R K=>by kernel_rfl
 simp only[inv_l1Signed,Bool.and_eq_true,decide_eq_true_eq]at hI;obtain⟨h1,⟨h2,h3,h4⟩,h5⟩:=hI;have hr:=rdAt_iff.1 h1
 by_cases hi:i<n
 ·right;have e:W64 (i+1)=i+1:=wrap_small (by omega) (by omega);have ho:(ofV x l1abc).length≤1:=ofV_len (by decide);refine⟨n,s++ofV x l1abc,i+1,rdGo x 1, ?_, ?_, ?_, ?_⟩
  ·simp only[inv_l1Signed,Bool.and_eq_true,decide_eq_true_eq,length_append];exact⟨(Adv.one x).at h1 (by omega),by omega,by omega⟩
  ·simp only[mu_l1Signed];omega
  ·rintro o ⟨g1,g2⟩;rw[length_append]at g1;exact⟨by omega,((Adv.one x).trans g2).le (by omega)⟩
  ·intro R K;refine(hx R K).trans ?_;rw[zT hi,branch_true,rdOk_iff.2 ⟨hr.1,by omega⟩,zT (by omega:s.length+(ofV x l1abc).length≤9223372036854775807),e];rfl
 ·left;refine⟨(s,x),⟨by show s.length≤s.length+_;omega,(Adv.refl x).le (by omega)⟩,fun R K => ?_⟩;refine(hx R K).trans ?_;rw[zF hi];rfl
def I_l1Signed:sh_l1Signed.V→Bool:=fun v=>match v with | ((n,s,i,()),(x,()))=>inv_l1Signed n s i x
def P_l1Signed:sh_l1Signed.V→Str×Rd→Prop:=fun v o=>match v with | ((n,s,i,()),(x,()))=>post_l1Signed n s i x o
def M_l1Signed:sh_l1Signed.V→Nat:=fun v=>match v with | ((n,s,i,()),(x,()))=>mu_l1Signed n s i x
theorem a_l1Signed:∀v:sh_l1Signed.V,I_l1Signed v=true→∃o,P_l1Signed v o∧∀K r,K (.exit 0) (out_l1Signed o)=some r→∃N,iter (evC cx0_l1Signed (loopOf Tryd.f101 0)) (headAt cx0_l1Signed 3) N (sh_l1Signed.mk v) K=some r :=
 loop_any (fun v=>I_l1Signed v=true) P_l1Signed (.exit 0) M_l1Signed fun v hI=>by
  obtain⟨⟨(n:Int),(s:Str),(i:Int),⟨⟩⟩,⟨(x:Den TR),⟨⟩⟩⟩:=v;rcases r_l1Signed n s i x hI with⟨o,h1,h2⟩ | ⟨n',s',i',x',h1,h2,h3,h4⟩
  ·exact .inl ⟨o,h1,h2⟩
  ·exact .inr ⟨V_l1Signed n' s' i' x',h1,h2,h3,h4⟩
def g_l1Signed:St→Cont→Option Fin:=gEnd sh_l1Signed I_l1Signed out_l1Signed (evC cx0_l1Signed (loopOf Tryd.f101 0)) (headAt cx0_l1Signed 3) P_l1Signed (.exit 0)
def E_l1Signed (n:Int) (s:Str) (i:Int) (x:Den TR):Str×Rd:=endOf sh_l1Signed.mk out_l1Signed (evC cx0_l1Signed (loopOf Tryd.f101 0)) (headAt cx0_l1Signed 3) P_l1Signed (.exit 0) (V_l1Signed n s i x)
theorem q_l1Signed (n:Int) (s:Str) (i:Int) (x:Den TR) (hI:inv_l1Signed n s i x=true):post_l1Signed n s i x (E_l1Signed n s i x):=(endOf_spec (a_l1Signed (V_l1Signed n s i x) hI)).1
def cx_l1Signed:Cx:=cx0_l1Signed.withLoops (look [(3,g_l1Signed)])
theorem l_l1Signed:∀st K r,g_l1Signed st K=some r→∃N,iter (evC cx_l1Signed (loopOf Tryd.f101 0)) (headAt cx_l1Signed 3) N st K=some r:=with_ok (by kernel_rfl) (gEnd_ok a_l1Signed)
theorem y_spec_l1Signed (x:Rd) (n:Int):evFn cx_l1Signed Tryd.f101 true [.one (.ptr 0 0),ofD TI64 n] [boxD 125 TR x]=need (inv_l1Signed n [] 0 x) (some (.d (ofD .str (E_l1Signed n [] 0 x).1),[(0,bR (E_l1Signed n [] 0 x).2)])):=by kernel_rfl
theorem e_spec_l1Signed (x:Rd) (n:Int) (_hx:Fit TR x) (_hn:Fit TI64 n) (hpre:(rdAt x 10000000999000&&decide (n≤1000))=true):∃q:(Str)×Rd,evFn (cx_l1Signed) Tryd.f101 true [.one (.ptr 0 0),ofD TI64 n] [boxD 125 TR x]=some (.d (ofD .str q.1),[(0,some (boxD 125 TR q.2))])∧(length q.1≤n.toNat∧Adv x q.2 (n.toNat:Int)):=by
 obtain⟨r,h1,h2⟩:Ok (evFn (cx_l1Signed) Tryd.f101 true [.one (.ptr 0 0),ofD TI64 n] [boxD 125 TR x]) (fun r=>∃(v:Str) (x':Rd),r=(.d (ofD .str v),[(0,some (boxD 125 TR x'))])∧(length v≤n.toNat∧Adv x x' (n.toNat:Int))):=by
  rw[Bool.and_eq_true,decide_eq_true_eq]at hpre;have hi:inv_l1Signed n [] 0 x=true:=by
   simp only[inv_l1Signed,Bool.and_eq_true,decide_eq_true_eq];exact⟨by simpa using hpre.1,⟨by omega,hpre.2,by omega⟩,by simp⟩
  have hp:=q_l1Signed n [] 0 x hi;rw[y_spec_l1Signed,hi];refine Ok.ret ⟨_,_,rfl, ?_⟩;unfold post_l1Signed at hp
  simpa using hp
 obtain⟨v,x',h2,h3⟩:=h2;exact⟨(v,x'),by rw[h1,h2],h3⟩
def F_spec_l1Signed (x:Rd) (n:Int):(Str)×Rd:=oneOf (fun q:(Str)×Rd=>evFn (cx_l1Signed) Tryd.f101 true [.one (.ptr 0 0),ofD TI64 n] [boxD 125 TR x]=some (.d (ofD .str q.1),[(0,some (boxD 125 TR q.2))])∧(length q.1≤n.toNat∧Adv x q.2 (n.toNat:Int)))
theorem p_spec_l1Signed (x:Rd) (n:Int) (hx:Fit TR x) (hn:Fit TI64 n) (hpre:(rdAt x 10000000999000&&decide (n≤1000))=true):length (F_spec_l1Signed x n).1≤n.toNat∧Adv x (F_spec_l1Signed x n).2 (n.toNat:Int):=(oneOf_spec (e_spec_l1Signed x n hx hn hpre)).2
theorem s_spec_l1Signed (x:Rd) (n:Int) (hx:Fit TR x) (hn:Fit TI64 n) (hpre:(rdAt x 10000000999000&&decide (n≤1000))=true):Sat Tryd.prog 101 [.one (.ptr 0 0),ofD TI64 n] [boxD 125 TR x] (.d (ofD .str (F_spec_l1Signed x n).1)) [(0,some (boxD 125 TR (F_spec_l1Signed x n).2))] :=
 fn_sound (cx:=cx_l1Signed) Tryd.func101 rfl ttOk Γ26ok mixed (fun c hc=>LoopsOk.one (b:=loopOf Tryd.f101 0) (id:=3) (g:=g_l1Signed) (by cases hc;kernel_rfl) rfl l_l1Signed) (ro:=true) (oneOf_spec (e_spec_l1Signed x n hx hn hpre)).1
def c_spec_l1Signed:Con:=conB 125 TR [TI64] fun(x:Rd) (n:Int)=>(some (rdAt x 10000000999000&&decide (n≤1000)), .d (ofD .str (F_spec_l1Signed x n).1),(F_spec_l1Signed x n).2)
theorem k_spec_l1Signed:ConOk Tryd.prog 101 c_spec_l1Signed:=conB_ok Tryd.call101 fun x hx n hn hqq=>s_spec_l1Signed x n hx hn (pre_of hqq)
def Γ27:GL:=(101,c_spec_l1Signed)::Γ26
theorem Γ27ok:GO Γ27 := .cons k_spec_l1Signed Γ26ok
def cb_l1Gram:Cx:=cxOf Γ27 Tryd.f69.ntmps [(5,[0,2,3,4])] [(0,[2,3]),(1,[0,2,3,4]),(1000000,[2])] [] []
theorem x_spec_l1Gram (x:Rd) (z s:Str) (l:List Rule) (i:Int) (R:St→Option Fin) (K:Cont):evC cb_l1Gram (loopOf Tryd.f69 0) ⟨[(0,vP 0),(2, kp0),(3, kp1),(4,vI i)],[(0,bR x),(500000,some (.box 25 [.r (.v (.string (mk z))), .r (.v (.slice none 0 0))])),(500001,some (.box 25 [.r (.v (.string (mk s))), .own 500002])),(500002,some (.lis 127 TRu l))]⟩ (onward (headAt cb_l1Gram 5) R K)=(
branch (decide (0<i)) (
 need (rdOk x&&Nat.blt 0 [[65],[65],[66],[67]].length) <|
 need (rdOk (rdGo x 1)&&Nat.blt 0 [1,2,2,0,3].length) <|
 need (rdAt (rdGo (rdGo x 1) 1) 10000000999000&&decide (numV (rdGo x 1) [1,2,2,0,3]≤1000)) <|
 branch (decide (placeV l (ofV x [[65],[65],[66],[67]],(F_spec_l1Signed (rdGo (rdGo x 1) 1) (numV (rdGo x 1) [1,2,2,0,3])).fst)<0)) (
 need (fits (l.length+[(ofV x [[65],[65],[66],[67]],(F_spec_l1Signed (rdGo (rdGo x 1) 1) (numV (rdGo x 1) [1,2,2,0,3])).fst)].length) Tryd.t127.bytes) <| R (.mk [(0,(.d (.one (.ptr 0 0)))),(2,kp0),(3,kp1),(4,vI (W64 (i-1)))] [(0,(bR (F_spec_l1Signed (rdGo (rdGo x 1) 1) (numV (rdGo x 1) [1,2,2,0,3])).snd)),(500000,(.some (.box 25 [(.r (.v (Value.string (mk z)))),(.r (.v (Value.slice none 0 0)))]))),(500001,(.some (.box 25 [(.r (.v (Value.string (mk s)))),(.own 500002)]))),(500002,(.some (.lis 127 ty127 (l.append [(ofV x [[65],[65],[66],[67]],(F_spec_l1Signed (rdGo (rdGo x 1) 1) (numV (rdGo x 1) [1,2,2,0,3])).fst)]))))])) ( R (.mk [(0,(.d (.one (.ptr 0 0)))),(2,kp0),(3,kp1),(4,vI (W64 (i-1)))] [(0,(bR (F_spec_l1Signed (rdGo (rdGo x 1) 1) (numV (rdGo x 1) [1,2,2,0,3])).snd)),(500000,(.some (.box 25 [(.r (.v (Value.string (mk z)))),(.r (.v (Value.slice none 0 0)))]))),(500001,(.some (.box 25 [(.r (.v (Value.string (mk s)))),(.own 500002)]))),(500002,some (.lis 127 TRu l))]))) ( K (.exit 0) (.mk [(2,kp0),(3,kp1)] [(500000,(.some (.box 25 [(.r (.v (Value.string (mk z)))),(.r (.v (Value.slice none 0 0)))]))),(500001,(.some (.box 25 [(.r (.v (Value.string (mk s)))),(.own 500002)]))),(0,(bR x)),(500002,some (.lis 127 TRu l))]))):=by kernel_rfl
theorem numV_mem {x:Rd} {l:List Int} (h:l≠[]) (hx:BY x) (hk:rdOk x=true):numV x l∈l:=by
 have hp:0<l.length:=List.length_pos_iff.2 h;have hr:=pickV_range (n:=l.length) hx hk (by omega);unfold numV;rw[zG,zE (by omega)];exact List.getElem_mem _
theorem numV_le {x:Rd} {l:List Int} {a b:Int} (h:l≠[]) (hx:BY x) (hk:rdOk x=true) (hl:∀y∈l,a≤y∧y≤b):a≤numV x l∧numV x l≤b:=hl _ (numV_mem h hx hk)
theorem ofV_all {x:Rd} {l:List Str} {p:Str→Bool} (h:l≠[]) (hx:BY x) (hk:rdOk x=true) (hl:∀y∈l,p y=true):p (ofV x l)=true:=by
 have hp:0<l.length:=List.length_pos_iff.2 h;have hr:=pickV_range (n:=l.length) hx hk (by omega);unfold ofV;rw[zG,zE (by omega)];exact hl _ (List.getElem_mem _)
theorem BY_adv {x x':Rd} {c:Int} (h:Adv x x' c) (hb:BY x):BY x':=by unfold BY at *;rw[h.1];exact hb
abbrev smO (z:Str):Option Obj:=some (.box 25 [.r (.v (.string (mk z))), .r (.v (.slice none 0 0))])
abbrev grO (s:Str):Option Obj:=some (.box 25 [.r (.v (.string (mk s))), .own 500002])
def cx0_l1Gram:Cx:=cb_l1Gram
def sh_l1Gram:Sh:=([(0, .ptr 0 0),(2, .ptr 500000 0),(3, .ptr 500001 0),(4, .d TI64)],[(0, .box 125 TR),(500000, .mix 25 [.d .str, .nil]),(500001, .mix 25 [.d .str, .own 500002]),(500002, .lis 127 TRu)])
abbrev st_l1Gram (i:Int) (x:Den TR) (z:Str) (s:Str) (l:List (Rule)):St:=⟨[(0, .d (.one (.ptr 0 0))),(2, kp0),(3, kp1),(4,vI i)],[(0,some (boxD 125 TR x)),(500000,some (.box 25 ((cellsR .str z).map C.r++[.r (.v (.slice none 0 0))]))),(500001,some (.box 25 ((cellsR .str s).map C.r++[.own 500002]))),(500002,some (.lis 127 TRu l))]⟩
def V_l1Gram (i:Int) (x:Den TR) (z:Str) (s:Str) (l:List (Rule)):sh_l1Gram.V:=((i,()),(x,(z,()),(s,()),l,()))
def out_l1Gram (o:(Str×List Rule)×Str×Rd):St:=⟨[(2, kp0),(3, kp1)],[(500000,smO o.2.1),(500001,grO o.1.1),(0,bR o.2.2),(500002,some (.lis 127 TRu o.1.2))]⟩
def inv_l1Gram (i:Int) (x:Den TR) (_z:Str) (_s:Str) (l:List (Rule)):Bool:=fitR x&&(rdAt x (10000000990000-i*10)&&(decide (i≤100)&&(decide ((l.length:Int)+i≤100)&&(Nat.ble l.length 100&&l.all szL))))
def post_l1Gram (i:Int) (x:Den TR) (_z:Str) (s:Str) (l:List (Rule)) (o:(Str×List Rule)×Str×Rd):Prop:=o.1.1=s∧o.1.2.all szL=true∧o.1.2.length≤l.length+i.toNat∧Adv x o.2.2 ((i*10).toNat:Int)
def mu_l1Gram (i:Int) (_x:Den TR) (_z:Str) (_s:Str) (_l:List (Rule)):Nat:=i.toNat
theorem r_l1Gram (i:Int) (x:Den TR) (z:Str) (s:Str) (l:List (Rule)) (hI:inv_l1Gram i x z s l=true):(∃o:(Str×List Rule)×Str×Rd,post_l1Gram i x z s l o∧∀(R:St→Option Fin) (K:Cont),evC cx0_l1Gram (loopOf Tryd.f69 0) (st_l1Gram i x z s l) (onward (headAt cx0_l1Gram 5) R K)=K (.exit 0) (out_l1Gram o)) ∨
  (∃(i':Int) (x':Den TR) (z':Str) (s':Str) (l':List (Rule)),inv_l1Gram i' x' z' s' l'=true∧mu_l1Gram i' x' z' s' l'<mu_l1Gram i x z s l∧(∀o,post_l1Gram i' x' z' s' l' o→post_l1Gram i x z s l o)∧∀(R:St→Option Fin) (K:Cont),evC cx0_l1Gram (loopOf Tryd.f69 0) (st_l1Gram i x z s l) (onward (headAt cx0_l1Gram 5) R K)=R (st_l1Gram i' x' z' s' l')):=by
 simp only[inv_l1Gram,andd,dec_iff,ble_iff]at hI;obtain⟨h1,h2,h3,h4,h6,h5⟩:=hI;have hr:=rdAt_iff.1 h2;have b0:BY x:=by unfold fitR at h1;exact byB_iff.1 (andd.1 h1).1
 by_cases hi:0<i
 ·right;have e:W64 (i-1)=i-1:=wrap_small (by omega) (by omega);have k0:rdOk x=true:=ok1 h2 (by omega);have a1:=Adv.one x;have k1:rdOk (rdGo x 1)=true:=a1.ok h2 (by omega);have b1:=BY_adv a1 b0;have n1:=numV_le (l:=[1,2,2,0,3]) (a:=0) (b:=3) (by decide) b1 k1 (by decide);have k2:rdAt (go2 x) 10000000999000=true:=(Adv.two x).at h2 (by omega);have f2:Fit TR (go2 x):=fitR_fit (by rw[fitR_adv (Adv.two x)];exact h1) k2 (by omega);have hpre:(rdAt (go2 x) 10000000999000&&decide (numV (rdGo x 1) [1,2,2,0,3]≤1000))=true:=andd.2 ⟨k2,dec_iff.2 (by omega)⟩;obtain⟨p1,p2⟩:=p_spec_l1Signed (go2 x) (numV (rdGo x 1) [1,2,2,0,3]) f2 (wrap_small (by omega) (by omega)) hpre;have ha:=((Adv.two x).trans p2).le (d:=10) (by omega);have hl:(ofV x [[65],[65],[66],[67]]).length≤1:=ofV_len (by decide);have hb:bigS (ofV x [[65],[65],[66],[67]])=true:=ofV_all (p:=bigS) (by decide) b0 k0 (by decide);have hx:=fun R K=>x_spec_l1Gram x z s l i R K;rw[show (rdGo (rdGo x 1) 1)=go2 x from rfl]at hx;simp only[hi,decide_true,branch_true,k0,k1,hpre,e]at hx
  generalize (F_spec_l1Signed (go2 x) (numV (rdGo x 1) [1,2,2,0,3])).1=v at hx p1
  generalize (F_spec_l1Signed (go2 x) (numV (rdGo x 1) [1,2,2,0,3])).2=x' at hx p2 ha
  generalize ofV x [[65],[65],[66],[67]]=lf at hx hl hb
  have q1:∀l':List Rule,l'.all szL=true→l'.length≤l.length+1→inv_l1Gram (i-1) x' z s l'=true:=fun l' g1 g2=>by
   simp only[inv_l1Gram,andd,dec_iff,ble_iff];exact⟨by rw[fitR_adv ha];exact h1,ha.at h2 (by omega),by omega,by omega,by omega,g1⟩
  have q2:∀l':List Rule,mu_l1Gram (i-1) x' z s l'<mu_l1Gram i x z s l:=fun l'=>by simp only[mu_l1Gram];omega
  have q3:∀l':List Rule,l'.length≤l.length+1→∀o,post_l1Gram (i-1) x' z s l' o→post_l1Gram i x z s l o:=fun l' g0=>by
   rintro o ⟨g1,g2,g3,g4⟩;exact⟨g1,g2,by omega,(ha.trans g4).le (by omega)⟩
  cases hc:decide (placeV l (lf,v)<0)
  ·exact ⟨i-1,x',z,s,l,q1 l h5 (by omega),q2 l,q3 l (by omega),fun R K=>(hx R K).trans (by rw[hc];rfl)⟩
  ·have hall:(l++[(lf,v)]).all szL=true:=by
    rw[List.all_append,h5];have hv:v.length≤3:=by omega
    show(true&&(szL (lf,v)&&true))=true;have:szL (lf,v)=true:=andd.2 ⟨andd.2 ⟨ble_iff.2 (by show lf.length≤8;omega),ble_iff.2 (by show v.length≤8;omega)⟩,hb⟩;rw[this];rfl
   refine⟨i-1,x',z,s,l++[(lf,v)],q1 _ hall (by simp),q2 _,q3 _ (by simp),fun R K=>(hx R K).trans ?_⟩;rw[hc,branch_true,ruleBytes,fits_ok (by simp;omega) (by omega)];rfl
 ·left;refine⟨((s,l),z,x),⟨rfl,h5,Nat.le_add_right _ _,(Adv.refl x).le (by omega)⟩,fun R K => ?_⟩;refine(x_spec_l1Gram x z s l i R K).trans ?_;rw[zF hi];rfl
def I_l1Gram:sh_l1Gram.V→Bool:=fun v=>match v with | ((i,()),(x,(z,()),(s,()),l,()))=>inv_l1Gram i x z s l
def P_l1Gram:sh_l1Gram.V→(Str×List Rule)×Str×Rd→Prop:=fun v o=>match v with | ((i,()),(x,(z,()),(s,()),l,()))=>post_l1Gram i x z s l o
def M_l1Gram:sh_l1Gram.V→Nat:=fun v=>match v with | ((i,()),(x,(z,()),(s,()),l,()))=>mu_l1Gram i x z s l
theorem a_l1Gram:∀v:sh_l1Gram.V,I_l1Gram v=true→∃o,P_l1Gram v o∧∀K r,K (.exit 0) (out_l1Gram o)=some r→∃N,iter (evC cx0_l1Gram (loopOf Tryd.f69 0)) (headAt cx0_l1Gram 5) N (sh_l1Gram.mk v) K=some r :=
 loop_any (fun v=>I_l1Gram v=true) P_l1Gram (.exit 0) M_l1Gram fun v hI=>by
  obtain⟨⟨(i:Int),⟨⟩⟩,⟨(x:Den TR),⟨(z:Str),⟨⟩⟩,⟨(s:Str),⟨⟩⟩,(l:List (Rule)),⟨⟩⟩⟩:=v;rcases r_l1Gram i x z s l hI with⟨o,h1,h2⟩ | ⟨i',x',z',s',l',h1,h2,h3,h4⟩
  ·exact .inl ⟨o,h1,h2⟩
  ·exact .inr ⟨V_l1Gram i' x' z' s' l',h1,h2,h3,h4⟩
def g_l1Gram:St→Cont→Option Fin:=gEnd sh_l1Gram I_l1Gram out_l1Gram (evC cx0_l1Gram (loopOf Tryd.f69 0)) (headAt cx0_l1Gram 5) P_l1Gram (.exit 0)
def E_l1Gram (i:Int) (x:Den TR) (z:Str) (s:Str) (l:List (Rule)):(Str×List Rule)×Str×Rd:=endOf sh_l1Gram.mk out_l1Gram (evC cx0_l1Gram (loopOf Tryd.f69 0)) (headAt cx0_l1Gram 5) P_l1Gram (.exit 0) (V_l1Gram i x z s l)
theorem q_l1Gram (i:Int) (x:Den TR) (z:Str) (s:Str) (l:List (Rule)) (hI:inv_l1Gram i x z s l=true):post_l1Gram i x z s l (E_l1Gram i x z s l):=(endOf_spec (a_l1Gram (V_l1Gram i x z s l) hI)).1
def cx_l1Gram:Cx:=cx0_l1Gram.withLoops (look [(5,g_l1Gram)])
theorem l_l1Gram:∀st K r,g_l1Gram st K=some r→∃N,iter (evC cx_l1Gram (loopOf Tryd.f69 0)) (headAt cx_l1Gram 5) N st K=some r:=with_ok (by kernel_rfl) (gEnd_ok a_l1Gram)
abbrev gN1:List Int:=[0,1,2,3,4,5,6,1,6,7]
abbrev gN2:List Int:=[3,4,2,5]
theorem y_spec_l1Gram (x:Rd):evFn cx_l1Gram Tryd.f69 true [.one (.ptr 0 0)] [boxD 125 TR x]=(
 need (rdOk x) <| branch (decide (0<pickV x 5))
  (need (rdOk (rdGo x 1)&&Nat.blt 0 gN1.length) <| some (.d (ofD TG (F_spec_l1Base (numV (rdGo x 1) gN1))),[(0,bR (go2 x))]))
  (need (rdOk (rdGo x 1)&&Nat.blt 0 gN2.length) <| need (inv_l1Gram (numV (rdGo x 1) gN2) (go2 x) [] [65] []) <|
   some (.d (ofD TG (E_l1Gram (numV (rdGo x 1) gN2) (go2 x) [] [65] []).1),[(0,bR (E_l1Gram (numV (rdGo x 1) gN2) (go2 x) [] [65] []).2.2)]))):=by kernel_rfl
theorem szG_le {k m:Nat} {g:Gram} (h:szG k g=true) (hm:k≤m):szG m g=true:=by
 unfold szG at *;rw[andd,andd]at *;exact⟨h.1,ble_iff.2 (Nat.le_trans (ble_iff.1 h.2.1) hm),h.2.2⟩
theorem e_spec_l1Gram (x:Rd)  (hx:Fit TR x)  (hpre:(rdAt x 10000000900000)=true):∃q:(Gram)×Rd,evFn (cx_l1Gram) Tryd.f69 true [.one (.ptr 0 0)] [boxD 125 TR x]=some (.d (ofD TG q.1),[(0,some (boxD 125 TR q.2))])∧((szG 6 q.1&&lefB q.1)=true∧Adv x q.2 100):=by
 obtain⟨r,h1,h2⟩:Ok (evFn (cx_l1Gram) Tryd.f69 true [.one (.ptr 0 0)] [boxD 125 TR x]) (fun r=>∃(v:Gram) (x':Rd),r=(.d (ofD TG v),[(0,some (boxD 125 TR x'))])∧((szG 6 v&&lefB v)=true∧Adv x x' 100)):=by
  have f0:=fit_fitR hx;have b0:BY x:=fun b hb=>byteFit hx.1 b hb;have k0:=ok1 hpre (by omega);have a1:=Adv.one x;have k1:rdOk (rdGo x 1)=true:=a1.ok hpre (by omega);rw[y_spec_l1Gram,k0,k1];refine Ok.need rfl (Ok.br (fun _=>Ok.need rfl (Ok.ret ⟨_,_,rfl,p_spec_l1Base _ ?_,(Adv.two x).le (by omega)⟩)) fun _=>Ok.need rfl ?_)
  ·have:=numV_le (l:=gN1) (a:=0) (b:=7) (by decide) (BY_adv a1 b0) k1 (by decide);exact wrap_small (by omega) (by omega)
  ·have n1:=numV_le (l:=gN2) (a:=2) (b:=5) (by decide) (BY_adv a1 b0) k1 (by decide);have hi:inv_l1Gram (numV (rdGo x 1) gN2) (go2 x) [] [65] []=true:=by
    simp only[inv_l1Gram,andd,dec_iff,ble_iff];exact⟨by rw[fitR_adv (Adv.two x)];exact f0,(Adv.two x).at hpre (by omega),by omega,by simp;omega,by simp,rfl⟩
   obtain⟨g1,g2,g3,g4⟩:=q_l1Gram (numV (rdGo x 1) gN2) (go2 x) [] [65] [] hi;refine Ok.need hi (Ok.ret ⟨_,_,rfl, ?_,((Adv.two x).trans g4).le (by omega)⟩);obtain⟨g5,g6⟩:=all_szL.1 g2;unfold szG lefB;rw[g1,g5,g6];exact andd.2 ⟨andd.2 ⟨rfl,andd.2 ⟨ble_iff.2 (by simp at g3;omega),rfl⟩⟩,rfl⟩
 obtain⟨v,x',h2,h3⟩:=h2;exact⟨(v,x'),by rw[h1,h2],h3⟩
def F_spec_l1Gram (x:Rd) :(Gram)×Rd:=oneOf (fun q:(Gram)×Rd=>evFn (cx_l1Gram) Tryd.f69 true [.one (.ptr 0 0)] [boxD 125 TR x]=some (.d (ofD TG q.1),[(0,some (boxD 125 TR q.2))])∧((szG 6 q.1&&lefB q.1)=true∧Adv x q.2 100))
theorem p_spec_l1Gram (x:Rd)  (hx:Fit TR x)  (hpre:(rdAt x 10000000900000)=true):(szG 6 (F_spec_l1Gram x ).1&&lefB (F_spec_l1Gram x ).1)=true∧Adv x (F_spec_l1Gram x ).2 100:=(oneOf_spec (e_spec_l1Gram x  hx  hpre)).2
theorem s_spec_l1Gram (x:Rd)  (hx:Fit TR x)  (hpre:(rdAt x 10000000900000)=true):Sat Tryd.prog 69 [.one (.ptr 0 0)] [boxD 125 TR x] (.d (ofD TG (F_spec_l1Gram x ).1)) [(0,some (boxD 125 TR (F_spec_l1Gram x ).2))] :=
 fn_sound (cx:=cx_l1Gram) Tryd.func69 rfl ttOk Γ27ok mixed (fun c hc=>LoopsOk.one (b:=loopOf Tryd.f69 0) (id:=5) (g:=g_l1Gram) (by cases hc;kernel_rfl) rfl l_l1Gram) (ro:=true) (oneOf_spec (e_spec_l1Gram x  hx  hpre)).1
def c_spec_l1Gram:Con:=conB 125 TR [] fun(x:Rd) =>(some (rdAt x 10000000900000), .d (ofD TG (F_spec_l1Gram x ).1),(F_spec_l1Gram x ).2)
theorem k_spec_l1Gram:ConOk Tryd.prog 69 c_spec_l1Gram:=conB_ok Tryd.call69 fun x hx  hqq=>s_spec_l1Gram x  hx  (pre_of hqq)
def Γ28:GL:=(69,c_spec_l1Gram)::Γ27
theorem Γ28ok:GO Γ28 := .cons k_spec_l1Gram Γ27ok
def cb_l1Bent:Cx:=cxOf Γ28 Tryd.f74.ntmps [(7,[0,4,5])] [(0,[4,5]),(1,[4,5]),(2,[0,4,5]),(1000000,[4])] [] []
theorem x_spec_l1Bent (x:Rd) (z s:Str) (l:List Rule) (R:St→Option Fin) (K:Cont):evC cb_l1Bent (loopOf Tryd.f74 0) ⟨[(0,vP 0),(4, kp0),(5, kp1)],[(0,bR x),(500000,smO z),(500001,grO s),(500002,some (.lis 127 TRu l))]⟩ (onward (headAt cb_l1Bent 7) R K)=(
branch (decide ((l.length:Int)≤8)) (
 need (rdAt x 10000000999000&&decide (3≤1000)) <|
 need (fits (l.length+[(([69]:Str),(F_spec_l1Signed x 3).fst)].length) Tryd.t127.bytes) <| R (.mk [(0,(.d (.one (.ptr 0 0)))),(4,kp0),(5,kp1)] [(0,(bR (F_spec_l1Signed x 3).snd)),(500000,(.some (.box 25 [(.r (.v (Value.string (mk z)))),(.r (.v (Value.slice none 0 0)))]))),(500001,(.some (.box 25 [(.r (.v (Value.string (mk s)))),(.own 500002)]))),(500002,(.some (.lis 127 ty127 (l.append [(([69]:Str),(F_spec_l1Signed x 3).fst)]))))])) ( K (.exit 1) (.mk [(4,kp0),(5,kp1)] [(500000,(.some (.box 25 [(.r (.v (Value.string (mk z)))),(.r (.v (Value.slice none 0 0)))]))),(500001,(.some (.box 25 [(.r (.v (Value.string (mk s)))),(.own 500002)]))),(0,(bR x)),(500002,some (.lis 127 TRu l))]))):=by kernel_rfl
def cx0_l1Bent:Cx:=cb_l1Bent
def sh_l1Bent:Sh:=([(0, .ptr 0 0),(4, .ptr 500000 0),(5, .ptr 500001 0)],[(0, .box 125 TR),(500000, .mix 25 [.d .str, .nil]),(500001, .mix 25 [.d .str, .own 500002]),(500002, .lis 127 TRu)])
abbrev st_l1Bent (x:Den TR) (z:Str) (s:Str) (l:List (Rule)):St:=⟨[(0, .d (.one (.ptr 0 0))),(4, kp0),(5, kp1)],[(0,some (boxD 125 TR x)),(500000,some (.box 25 ((cellsR .str z).map C.r++[.r (.v (.slice none 0 0))]))),(500001,some (.box 25 ((cellsR .str s).map C.r++[.own 500002]))),(500002,some (.lis 127 TRu l))]⟩
def V_l1Bent (x:Den TR) (z:Str) (s:Str) (l:List (Rule)):sh_l1Bent.V:=((),(x,(z,()),(s,()),l,()))
def out_l1Bent (o:(Str×List Rule)×Str×Rd):St:=⟨[(4, kp0),(5, kp1)],[(500000,smO o.2.1),(500001,grO o.1.1),(0,bR o.2.2),(500002,some (.lis 127 TRu o.1.2))]⟩
def inv_l1Bent (x:Den TR) (_z:Str) (_s:Str) (l:List (Rule)):Bool:=fitR x&&(rdAt x (10000000980000+(l.length:Int)*10)&&(Nat.ble l.length 100&&l.all szR))
def post_l1Bent (x:Den TR) (_z:Str) (s:Str) (l:List (Rule)) (o:(Str×List Rule)×Str×Rd):Prop:=o.1.1=s∧o.1.2.all szR=true∧o.1.2.length≤l.length+(9-l.length)∧Adv x o.2.2 (((9-l.length:Nat):Int)*10)
def mu_l1Bent (_x:Den TR) (_z:Str) (_s:Str) (l:List (Rule)):Nat:=9-l.length
theorem r_l1Bent (x:Den TR) (z:Str) (s:Str) (l:List (Rule)) (hI:inv_l1Bent x z s l=true):(∃o:(Str×List Rule)×Str×Rd,post_l1Bent x z s l o∧∀(R:St→Option Fin) (K:Cont),evC cx0_l1Bent (loopOf Tryd.f74 0) (st_l1Bent x z s l) (onward (headAt cx0_l1Bent 7) R K)=K (.exit 1) (out_l1Bent o)) ∨
  (∃(x':Den TR) (z':Str) (s':Str) (l':List (Rule)),inv_l1Bent x' z' s' l'=true∧mu_l1Bent x' z' s' l'<mu_l1Bent x z s l∧(∀o,post_l1Bent x' z' s' l' o→post_l1Bent x z s l o)∧∀(R:St→Option Fin) (K:Cont),evC cx0_l1Bent (loopOf Tryd.f74 0) (st_l1Bent x z s l) (onward (headAt cx0_l1Bent 7) R K)=R (st_l1Bent x' z' s' l')):=by
 simp only[inv_l1Bent,andd,ble_iff]at hI;obtain⟨h1,h2,h6,h5⟩:=hI;have hr:=rdAt_iff.1 h2;have b0:BY x:=by unfold fitR at h1;exact byB_iff.1 (andd.1 h1).1
 by_cases hi:(l.length:Int)≤8
 ·right;have k2:rdAt x 10000000999000=true:=(Adv.refl x).at h2 (by omega);have f2:Fit TR x:=fitR_fit h1 k2 (by omega);have hpre:(rdAt x 10000000999000&&decide ((3:Int)≤1000))=true:=andd.2 ⟨k2,rfl⟩;obtain⟨p1,p2⟩:=p_spec_l1Signed x 3 f2 rfl hpre;have ha:=p2.le (d:=10) (by omega);have hx:=fun R K=>x_spec_l1Bent x z s l R K;simp only[hi,decide_true,branch_true,k2]at hx
  generalize (F_spec_l1Signed x 3).1=v at hx p1
  generalize (F_spec_l1Signed x 3).2=x' at hx p2 ha
  have hall:(l++[([69],v)]).all szR=true:=by
   rw[List.all_append,h5];have:szR ([69],v)=true:=andd.2 ⟨rfl,ble_iff.2 (by show v.length≤8;have:v.length≤3:=p1;omega)⟩;show(true&&(szR ([69],v)&&true))=true;rw[this];rfl
  have hlen:(l++[([69],v)]).length=l.length+1:=by simp
  refine⟨x',z,s,l++[([69],v)], ?_, ?_, ?_,fun R K=>(hx R K).trans ?_⟩
  ·simp only[inv_l1Bent,andd,ble_iff];exact⟨by rw[fitR_adv ha];exact h1,ha.at h2 (by rw[hlen];omega),by rw[hlen];omega,hall⟩
  ·simp only[mu_l1Bent];rw[hlen];omega
  ·rintro o ⟨g1,g2,g3,g4⟩;rw[hlen]at g3 g4;exact⟨g1,g2,by omega,(ha.trans g4).le (by omega)⟩
  ·rw[ruleBytes,fits_ok (by simp;omega) (by omega)];rfl
 ·left;refine⟨((s,l),z,x),⟨rfl,h5,Nat.le_add_right _ _,(Adv.refl x).le (by omega)⟩,fun R K => ?_⟩;refine(x_spec_l1Bent x z s l R K).trans ?_;rw[zF hi];rfl
def I_l1Bent:sh_l1Bent.V→Bool:=fun v=>match v with | ((),(x,(z,()),(s,()),l,()))=>inv_l1Bent x z s l
def P_l1Bent:sh_l1Bent.V→(Str×List Rule)×Str×Rd→Prop:=fun v o=>match v with | ((),(x,(z,()),(s,()),l,()))=>post_l1Bent x z s l o
def M_l1Bent:sh_l1Bent.V→Nat:=fun v=>match v with | ((),(x,(z,()),(s,()),l,()))=>mu_l1Bent x z s l
theorem a_l1Bent:∀v:sh_l1Bent.V,I_l1Bent v=true→∃o,P_l1Bent v o∧∀K r,K (.exit 1) (out_l1Bent o)=some r→∃N,iter (evC cx0_l1Bent (loopOf Tryd.f74 0)) (headAt cx0_l1Bent 7) N (sh_l1Bent.mk v) K=some r :=
 loop_any (fun v=>I_l1Bent v=true) P_l1Bent (.exit 1) M_l1Bent fun v hI=>by
  obtain⟨⟨⟨⟩⟩,⟨(x:Den TR),⟨(z:Str),⟨⟩⟩,⟨(s:Str),⟨⟩⟩,(l:List (Rule)),⟨⟩⟩⟩:=v;rcases r_l1Bent x z s l hI with⟨o,h1,h2⟩ | ⟨x',z',s',l',h1,h2,h3,h4⟩
  ·exact .inl ⟨o,h1,h2⟩
  ·exact .inr ⟨V_l1Bent x' z' s' l',h1,h2,h3,h4⟩
def g_l1Bent:St→Cont→Option Fin:=gEnd sh_l1Bent I_l1Bent out_l1Bent (evC cx0_l1Bent (loopOf Tryd.f74 0)) (headAt cx0_l1Bent 7) P_l1Bent (.exit 1)
def E_l1Bent (x:Den TR) (z:Str) (s:Str) (l:List (Rule)):(Str×List Rule)×Str×Rd:=endOf sh_l1Bent.mk out_l1Bent (evC cx0_l1Bent (loopOf Tryd.f74 0)) (headAt cx0_l1Bent 7) P_l1Bent (.exit 1) (V_l1Bent x z s l)
theorem q_l1Bent (x:Den TR) (z:Str) (s:Str) (l:List (Rule)) (hI:inv_l1Bent x z s l=true):post_l1Bent x z s l (E_l1Bent x z s l):=(endOf_spec (a_l1Bent (V_l1Bent x z s l) hI)).1
def cx_l1Bent:Cx:=cx0_l1Bent.withLoops (look [(7,g_l1Bent)])
theorem l_l1Bent:∀st K r,g_l1Bent st K=some r→∃N,iter (evC cx_l1Bent (loopOf Tryd.f74 0)) (headAt cx_l1Bent 7) N st K=some r:=with_ok (by kernel_rfl) (gEnd_ok a_l1Bent)
theorem y_spec_l1Bent (x:Rd) (g:Gram):evFn cx_l1Bent Tryd.f74 true [.one (.ptr 0 0),ofD TG g] [boxD 125 TR x]=(
need (fits (([]:List Rule).length+length g.snd) Tryd.t127.bytes) <|
need (rdOk x) <|
branch (bif decide (0<pickV x 12)then true else decide ((g.snd.length:Int)=0)) ( some ((.d (.agg [(.r (.v (Value.string (mk g.fst)))),(.r (.li ty127 g.snd))])),[(0,(bR (rdGo x 1)))])) (
 need (rdOk (rdGo x 1)) <|
 need (rdOk (rdGo (rdGo x 1) 1)) <|
 branch (decide (pickV (rdGo (rdGo x 1) 1) 5=0)) (
 need (rdOk (rdGo (rdGo (rdGo x 1) 1) 1)&&Nat.blt 0 [[],[97],[65,66],[70],[66]].length) <| some ((.d (.agg [(.r (.v (Value.string (mk (ofV (rdGo (rdGo (rdGo x 1) 1) 1) [[],[97],[65,66],[70],[66]]))))),(.r (.li ty127 g.snd))])),[(0,(bR (rdGo (rdGo (rdGo (rdGo x 1) 1) 1) 1)))])) (
 branch (decide (pickV (rdGo (rdGo x 1) 1) 5=1)) (
  need (rdOk (rdGo (rdGo (rdGo x 1) 1) 1)&&Nat.blt 0 [[],[97],[65,66],[70]].length) <|
  need (inb (pickV (rdGo x 1) (g.snd.length:Int)) g.snd.length) <| some ((.d (.agg [(.r (.v (Value.string (mk g.fst)))),(.r (.li ty127 (g.snd.set (pickV (rdGo x 1) (g.snd.length:Int)).toNat (ofV (rdGo (rdGo (rdGo x 1) 1) 1) [[],[97],[65,66],[70]],(g.snd.getD (pickV (rdGo x 1) (g.snd.length:Int)).toNat (dflt ty127)).snd))))])),[(0,(bR (rdGo (rdGo (rdGo (rdGo x 1) 1) 1) 1)))])) (
  branch (decide (pickV (rdGo (rdGo x 1) 1) 5=2)) (
  need (rdOk (rdGo (rdGo (rdGo x 1) 1) 1)&&Nat.blt 0 [[97,97,97,97,97],[101],[32],[97,62],[70]].length) <|
  need (inb (pickV (rdGo x 1) (g.snd.length:Int)) g.snd.length) <| some ((.d (.agg [(.r (.v (Value.string (mk g.fst)))),(.r (.li ty127 (g.snd.set (pickV (rdGo x 1) (g.snd.length:Int)).toNat ((g.snd.getD (pickV (rdGo x 1) (g.snd.length:Int)).toNat (dflt ty127)).fst,ofV (rdGo (rdGo (rdGo x 1) 1) 1) [[97,97,97,97,97],[101],[32],[97,62],[70]]))))])),[(0,(bR (rdGo (rdGo (rdGo (rdGo x 1) 1) 1) 1)))])) (
  branch (decide (pickV (rdGo (rdGo x 1) 1) 5=3)) (
   need (inb (pickV (rdGo x 1) (g.snd.length:Int)) g.snd.length) <|
   need (fits (g.snd.length+[g.snd.getD (pickV (rdGo x 1) (g.snd.length:Int)).toNat (dflt ty127)].length) Tryd.t127.bytes) <| some ((.d (.agg [(.r (.v (Value.string (mk g.fst)))),(.r (.li ty127 (g.snd.append [g.snd.getD (pickV (rdGo x 1) (g.snd.length:Int)).toNat (dflt ty127)])))])),[(0,(bR (rdGo (rdGo (rdGo x 1) 1) 1)))])) (
   need (inv_l1Bent (rdGo (rdGo (rdGo x 1) 1) 1) ([]:Str) g.fst g.snd) <| some ((.d (.agg [(.r (.v (Value.string (mk (E_l1Bent (rdGo (rdGo (rdGo x 1) 1) 1) ([]:Str) g.fst g.snd).fst.fst)))),(.r (.li TRu ((E_l1Bent (rdGo (rdGo (rdGo x 1) 1) 1) ([]:Str) g.fst g.snd).fst.snd)))])),[(0,(bR (E_l1Bent (rdGo (rdGo (rdGo x 1) 1) 1) ([]:Str) g.fst g.snd).snd.snd))]))))))):=by kernel_rfl
theorem szG_set {k:Nat} {g:Gram} (h:szG k g=true) {r:Rule} (hr:szR r=true) {n:Nat}:szG k (g.1,g.2.set n r)=true:=by
 unfold szG at *;rw[andd,andd]at *;refine⟨h.1,by simpa using h.2.1,all_eq_true.2 fun y hy => ?_⟩;obtain hy | hy:=List.mem_or_eq_of_mem_set hy
 ·exact all_eq_true.1 h.2.2 y hy
 ·rw[hy];exact hr
theorem szG_getD {k:Nat} {g:Gram} (h:szG k g=true) (n:Nat):szR (g.2.getD n ([],[]))=true:=by
 unfold szG at h;rw[andd,andd]at h;rw[zG]
 cases e:g.2[n]? with
 |none=>rfl
 |some y=>exact all_eq_true.1 h.2.2 y (List.mem_of_getElem? e)
theorem szR_iff {r:Rule}:szR r=true↔r.1.length≤8∧r.2.length≤8:=by unfold szR;rw[andd,ble_iff,ble_iff]
theorem e_spec_l1Bent (x:Rd) (g:Gram) (hx:Fit TR x)  (hpre:(rdAt x 10000000940000&&szG 20 g)=true):∃q:(Gram)×Rd,evFn (cx_l1Bent) Tryd.f74 true [.one (.ptr 0 0),ofD TG g] [boxD 125 TR x]=some (.d (ofD TG q.1),[(0,some (boxD 125 TR q.2))])∧((∀k,6≤k→szG k g=true→szG (k+14) q.1=true)∧Adv x q.2 200):=by
 obtain⟨r,h1,h2⟩:Ok (evFn (cx_l1Bent) Tryd.f74 true [.one (.ptr 0 0),ofD TG g] [boxD 125 TR x]) (fun r=>∃(v:Gram) (x':Rd),r=(.d (ofD TG v),[(0,some (boxD 125 TR x'))])∧((∀k,6≤k→szG k g=true→szG (k+14) v=true)∧Adv x x' 200)):=by
  have f0:=fit_fitR hx;obtain⟨hp,hg⟩:=andd.1 hpre;have b0:BY x:=fun b hb=>byteFit hx.1 b hb;have a1:=Adv.one x;have a2:=Adv.two x;have a3:Adv x (rdGo (go2 x) 1) 3:=a2.trans (Adv.one _);have k0:=ok1 hp (by omega);have k1:rdOk (rdGo x 1)=true:=a1.ok hp (by omega);have k2:rdOk (go2 x)=true:=a2.ok hp (by omega);have k3:rdOk (rdGo (go2 x) 1)=true:=a3.ok hp (by omega);have hg':=hg;unfold szG at hg';obtain⟨g1,g2,g3⟩:g.1.length≤8∧g.2.length≤20∧g.2.all szR=true:=by rw[andd,andd,ble_iff,ble_iff]at hg';exact hg'
  have q:∀v:Gram,(∀k,6≤k→szG k g=true→szG (k+14) v=true)→∀y:Rd,Adv x y 200→Ok (some ((.d (ofD TG v),[(0,bR y)]):Fin)) (fun r=>∃(v:Gram) (x':Rd),r=(.d (ofD TG v),[(0,bR x')])∧(∀k,6≤k→szG k g=true→szG (k+14) v=true)∧Adv x x' 200):=fun v h1 y h2=>Ok.ret ⟨v,y,rfl,h1,h2⟩;have hgk:∀k,6≤k→szG k g=true→szG (k+14) g=true:=fun k _ h=>szG_le h (by omega);rw[y_spec_l1Bent];refine Ok.need (by rw[ruleBytes];exact fits_ok (by simp;omega) (by omega)) (Ok.need k0 (Ok.br (fun _=>q g hgk _ (a1.le (by omega))) fun hc=>Ok.need k1 (Ok.need k2 ?_)));have hne:1≤(g.2.length:Int):=by
   cases e:decide ((g.2.length:Int)=0)
   ·have:=of_decide_eq_false e;omega
   ·rw[e]at hc;cases h:decide (0<pickV x 12)<;>rw[h]at hc<;>cases hc
  have hin:=pickV_range (BY_adv a1 b0) k1 hne;have hib:=inb_ok hin.1 hin.2;have a4:∀y:Rd,y=rdGo (rdGo (go2 x) 1) 1→Adv x y 200:=fun y e=>by subst e;exact (a3.trans (Adv.one _)).le (by omega)
  have hr:=szR_iff.1 (szG_getD hg (pickV (rdGo x 1) g.2.length).toNat);refine Ok.br (fun _=>Ok.need (andd.2 ⟨k3,rfl⟩) (q (ofV (rdGo (go2 x) 1) [[],[97],[65,66],[70],[66]],g.2) ?_ _ (a4 _ rfl))) fun _ =>
   Ok.br (fun _=>Ok.need (andd.2 ⟨k3,rfl⟩) (Ok.need hib (q (g.1,g.2.set (pickV (rdGo x 1) g.2.length).toNat (ofV (rdGo (go2 x) 1) [[],[97],[65,66],[70]],(g.2.getD (pickV (rdGo x 1) g.2.length).toNat ([],[])).2)) ?_ _ (a4 _ rfl)))) fun _ =>
   Ok.br (fun _=>Ok.need (andd.2 ⟨k3,rfl⟩) (Ok.need hib (q (g.1,g.2.set (pickV (rdGo x 1) g.2.length).toNat ((g.2.getD (pickV (rdGo x 1) g.2.length).toNat ([],[])).1,ofV (rdGo (go2 x) 1) [[97,97,97,97,97],[101],[32],[97,62],[70]])) ?_ _ (a4 _ rfl)))) fun _ =>
   Ok.br (fun _=>Ok.need hib (Ok.need (by rw[ruleBytes];exact fits_ok (by simp;omega) (by omega)) (q (g.1,g.2.append [g.2.getD (pickV (rdGo x 1) g.2.length).toNat ([],[])]) ?_ _ (a3.le (by omega))))) fun _ => ?_
  ·intro k h6 hk;have hk:=hgk k h6 hk;unfold szG at *;rw[andd]at *;exact⟨ble_iff.2 (ofV_len (k:=8) (by decide)),hk.2⟩
  ·intro k h6 hk;refine szG_set (hgk k h6 hk) ?_;exact szR_iff.2 ⟨(ofV_len (l:=[[],[97],[65,66],[70]]) (by decide)),hr.2⟩
  ·intro k h6 hk;refine szG_set (hgk k h6 hk) ?_;exact szR_iff.2 ⟨hr.1,(ofV_len (l:=[[97,97,97,97,97],[101],[32],[97,62],[70]]) (by decide))⟩
  ·intro k h6 hk;unfold szG at *;rw[andd,andd,ble_iff,ble_iff]at *;refine⟨g1,by show(g.2++[_]).length≤k+14;rw[length_append];simp;omega, ?_⟩;show(g.2++[_]).all szR=true;rw[List.all_append,g3];show(true&&(szR _&&true))=true;rw[show szR (g.2.getD (pickV (rdGo x 1) g.2.length).toNat ([],[]))=true from szR_iff.2 hr];rfl
  ·have hi:inv_l1Bent (rdGo (go2 x) 1) [] g.1 g.2=true:=by
    simp only[inv_l1Bent,andd,ble_iff];exact⟨by rw[fitR_adv a3];exact f0,a3.at hp (by omega),by omega,g3⟩
   obtain⟨h1,h2,h3,h4⟩:=q_l1Bent _ [] g.1 g.2 hi;refine Ok.need hi (q ((E_l1Bent (rdGo (go2 x) 1) [] g.1 g.2).1.1,(E_l1Bent (rdGo (go2 x) 1) [] g.1 g.2).1.2) ?_ _ ((a3.trans h4).le (by omega)));intro k h6 hk;unfold szG at *;rw[andd,andd,ble_iff,ble_iff]at *
   exact ⟨by rw [h1]; exact g1, by have : (9 - g.2.length) ≤ 9 := by omega
                                   show (E_l1Bent (rdGo (go2 x) 1) [] g.1 g.2).1.2.length ≤ k + 14; omega, h2⟩
 obtain⟨v,x',h2,h3⟩:=h2;exact⟨(v,x'),by rw[h1,h2],h3⟩
def F_spec_l1Bent (x:Rd) (g:Gram):(Gram)×Rd:=oneOf (fun q:(Gram)×Rd=>evFn (cx_l1Bent) Tryd.f74 true [.one (.ptr 0 0),ofD TG g] [boxD 125 TR x]=some (.d (ofD TG q.1),[(0,some (boxD 125 TR q.2))])∧((∀k,6≤k→szG k g=true→szG (k+14) q.1=true)∧Adv x q.2 200))
theorem p_spec_l1Bent (x:Rd) (g:Gram) (hx:Fit TR x)  (hpre:(rdAt x 10000000940000&&szG 20 g)=true):(∀k,6≤k→szG k g=true→szG (k+14) (F_spec_l1Bent x g).1=true)∧Adv x (F_spec_l1Bent x g).2 200:=(oneOf_spec (e_spec_l1Bent x g hx  hpre)).2
theorem s_spec_l1Bent (x:Rd) (g:Gram) (hx:Fit TR x)  (hpre:(rdAt x 10000000940000&&szG 20 g)=true):Sat Tryd.prog 74 [.one (.ptr 0 0),ofD TG g] [boxD 125 TR x] (.d (ofD TG (F_spec_l1Bent x g).1)) [(0,some (boxD 125 TR (F_spec_l1Bent x g).2))] :=
 fn_sound (cx:=cx_l1Bent) Tryd.func74 rfl ttOk Γ28ok mixed (fun c hc=>LoopsOk.one (b:=loopOf Tryd.f74 0) (id:=7) (g:=g_l1Bent) (by cases hc;kernel_rfl) rfl l_l1Bent) (ro:=true) (oneOf_spec (e_spec_l1Bent x g hx  hpre)).1
def c_spec_l1Bent:Con:=conB 125 TR [TG] fun(x:Rd) (g:Gram)=>(some (rdAt x 10000000940000&&szG 20 g), .d (ofD TG (F_spec_l1Bent x g).1),(F_spec_l1Bent x g).2)
theorem k_spec_l1Bent:ConOk Tryd.prog 74 c_spec_l1Bent:=conB_ok Tryd.call74 fun x hx g _ hqq=>s_spec_l1Bent x g hx  (pre_of hqq)
theorem szG_fit {k:Nat} {g:Gram} (h:szG k g=true) (hk:k≤1000):Fit TG g:=by
 unfold szG at h;rw[andd,andd,ble_iff,ble_iff]at h;refine⟨Nat.le_trans h.1 (by omega),Nat.le_trans h.2.1 (by omega),fun r hr => ?_⟩;have q:=szR_iff.1 (all_eq_true.1 h.2.2 r hr);exact⟨Nat.le_trans q.1 (by omega),Nat.le_trans q.2 (by omega)⟩
theorem openV_fit {l:List Int} (hl:Fit TB l):Fit TR (openV l):=fitR_fit (k:=0) (andd.2 ⟨openV_by hl,ble_iff.2 (by show(l.take 2000).length≤_;rw[length_take];omega)⟩) (openV_at l) (by omega)
def gramV (l:List Int):Gram×Rd:=F_spec_l1Gram (openV l)
def drawV (l:List Int):Gram×Rd:=F_spec_l1Bent (gramV l).2 (gramV l).1
theorem gram_ok {l:List Int} (hl:Fit TB l):rdAt (openV l) 10000000900000=true∧szG 6 (gramV l).1=true∧Adv (openV l) (gramV l).2 100:=by
 have h0:rdAt (openV l) 10000000900000=true:=rfl;have f0:Fit TR (openV l):=(openV_fit hl);obtain⟨h1,h2⟩:=p_spec_l1Gram (openV l) f0 h0;exact⟨h0,(andd.1 h1).1,h2⟩
theorem draw_ok {l:List Int} (hl:Fit TB l):rdAt (openV l) 10000000900000=true∧(rdAt (gramV l).2 10000000940000&&szG 20 (gramV l).1)=true∧szG 20 (drawV l).1=true∧Adv (openV l) (drawV l).2 300:=by
 obtain⟨h0,h1,h2⟩:=gram_ok hl;have h3:rdAt (gramV l).2 10000000940000=true:=h2.at (openV_at l) (by omega);have f1:Fit TR (gramV l).2:=h2.fit (openV_fit hl) (openV_at l) (by omega);have h4:(rdAt (gramV l).2 10000000940000&&szG 20 (gramV l).1)=true:=andd.2 ⟨h3,szG_le h1 (by omega)⟩;obtain⟨p1,p2⟩:=p_spec_l1Bent (gramV l).2 (gramV l).1 f1 h4;exact⟨h0,h4,p1 6 (by omega) h1,(h2.trans p2).le (by omega)⟩
def Γ29:GL:=(74,c_spec_l1Bent)::Γ28
theorem Γ29ok:GO Γ29 := .cons k_spec_l1Bent Γ28ok
theorem okAt_iff {l:List Rule} {i:Nat} (h:okAt l i=true):bigS (l.getD i d0).1=true∧areS (l.getD i d0).2 4=true:=by
 unfold okAt at h;rw[andd,andd]at h;exact⟨h.1,h.2.1⟩
theorem okG_iff {g:Gram} (h:okG g=true):bigS g.1=true∧g.2.length≤8∧∀r∈g.2,bigS r.1=true∧areS r.2 4=true:=by
 unfold okG at h;rw[andd,andd]at h;obtain⟨h1,h2,h3⟩:=h;refine⟨h1,by have:=of_decide_eq_true h2;omega,fun r hr => ?_⟩;obtain⟨i,hi,rfl⟩:=List.getElem_of_mem hr;unfold okFrom at h3;have:=okAt_iff (all_eq_true.1 h3 i (List.mem_range'.2 ⟨i,by omega,by omega⟩));rw[getD_at hi]at this;exact this
theorem bigS_one {s:Str} (h:bigS s=true):∃c,s=[c]∧bigc c=true:=by
 unfold bigS at h
 split at h
 ·exact ⟨_,rfl,h⟩
 ·cases h
theorem slice_one {s:Str} {i:Int} (h0:0≤i) (h1:i<(s.length:Int)):List.take ((i+1).toNat-i.toNat) (List.drop i.toNat s)=[s.getD i.toNat 0]:=by
 have hn:i.toNat<s.length:=by omega
 rw[show (i+1).toNat-i.toNat=1 by omega,drop_eq_getElem_cons hn,zG,zE hn];rfl
theorem okG_big {g:Gram} (h:okG g=true):bigS g.1=true:=(okG_iff h).1
def forL (s:Str):List Rule→Nat→List Int
 | [],_=>[]
 |r::l,k=>bif decide (r.1=s)then(k:Int)::forL s l (k+1)else forL s l (k+1)
theorem forL_at {s:Str} {l:List Rule} {i:Int} (h0:0≤i) (h1:i<(l.length:Int)):forL s (l.drop i.toNat) i.toNat=bif decide ((l.getD i.toNat d0).1=s)then i::forL s (l.drop (i+1).toNat) (i+1).toNat else forL s (l.drop (i+1).toNat) (i+1).toNat:=by
 have hn:i.toNat<l.length:=by omega
 rw[drop_eq_getElem_cons hn,show (i+1).toNat=i.toNat+1 by omega,getD_at hn];show(bif decide (l[i.toNat].1=s)then(i.toNat:Int)::_ else _)=_;rw[Int.toNat_of_nonneg h0]
theorem forL_mem {s:Str} {a:Int}:∀ {l:List Rule} {k:Nat},a∈forL s l k→(k:Int)≤a∧a<(k:Int)+(l.length:Int)∧(l.getD (a.toNat-k) d0).1=s
 | [],_,h=>by cases h
 |r::l,k,h=>by
  unfold forL at h
  by_cases e:r.1=s
  ·rw[zT e]at h;rcases List.mem_cons.1 h with rfl | h
   ·refine ⟨Int.le_refl _,by simp only[length_cons];omega, ?_⟩;rw[show ((k:Int)).toNat-k=0 by omega];exact e
   ·obtain ⟨h1,h2,h3⟩:=forL_mem (l:=l) (k:=k+1) h;refine⟨by omega,by simp only[length_cons];omega, ?_⟩;rw[show a.toNat-k=a.toNat-(k+1)+1 by omega];exact h3
  ·rw[zF e]at h;obtain⟨h1,h2,h3⟩:=forL_mem (l:=l) (k:=k+1) h;refine⟨by omega,by simp only[length_cons];omega, ?_⟩;rw[show a.toNat-k=a.toNat-(k+1)+1 by omega];exact h3
theorem forL_len {s:Str}:∀ {l:List Rule} {k:Nat},(forL s l k).length≤l.length
 | [],_=>Nat.le_refl _
 |r::l,k=>by
  unfold forL;have:=forL_len (s:=s) (l:=l) (k:=k+1)
  cases decide (r.1=s)
  ·simp only[cond_false,length_cons];omega
  ·simp only[cond_true,length_cons];omega
def cb_l1For:Cx:=cxOf Γ29 Tryd.f102.ntmps [(3,[1,2,5,6])] [(0,[5]),(1,[1,2,5,6]),(1000000,[4])] [] []
abbrev st_l1For (s:Str) (i:Int) (g:Gram) (l:List (Int)):St:=⟨[(1,vS s),(2, kp0),(5, ko1),(6,vI i)],[(500000,some (boxD 25 TG g)),(500001,some (.lis 3 TI64 l))]⟩
theorem x_spec_l1For (g:Gram) (s:Str) (l:List Int) (i:Int) (R:St→Option Fin) (K:Cont):evC (cb_l1For.withLoops (look [])) (loopOf Tryd.f102 0) (st_l1For s i g l) (onward (headAt (cb_l1For.withLoops (look [])) 3) R K)=(
branch (decide (i<(length g.snd:Int))) (
 need (inb i (length g.snd)) <|
 branch (decide ((getD g.snd i.toNat d0).fst=s)) (
 need (fits (l.length+[i].length) Tryd.t3.bytes) <| R (st_l1For s (W64 (i+1)) g (l.append [i]))) ( R (st_l1For s (W64 (i+1)) g l))) ( K (.exit 0) (.mk [(5,ko0)] [(500000,some (.lis 3 TI64 l))]))):=by kernel_rfl
def cx0_l1For:Cx:=(cb_l1For).withLoops (look [])
def sh_l1For:Sh:=([(1, .d .str),(2, .ptr 500000 0),(5, .own 500001),(6, .d TI64)],[(500000, .box 25 TG),(500001, .lis 3 TI64)])
def pre_l1For (_s:Str) (i:Int) (g:Gram) (l:List (Int)):Bool:=decide (0≤i)&&(Nat.ble (length g.2) 1000&&decide ((length l:Int)≤i))
def res_l1For (s:Str) (i:Int) (g:Gram) (l:List (Int)) (K:Cont):Option Fin:=K (.exit 0) ⟨[(5, ko0)],[(500000,some (.lis 3 TI64 (l++forL s (g.2.drop i.toNat) i.toNat)))]⟩
def mu_l1For (_s:Str) (i:Int) (g:Gram) (_l:List (Int)):Nat:=length g.2-i.toNat
theorem r_l1For (s:Str) (i:Int) (g:Gram) (l:List (Int)) (K:Cont) (hI:pre_l1For s i g l=true):(∀R:St→Option Fin,evC cx0_l1For (loopOf Tryd.f102 0) (st_l1For s i g l) (onward (headAt cx0_l1For 3) R K)=res_l1For s i g l K) ∨
  (∃(s':Str) (i':Int) (g':Gram) (l':List (Int)),pre_l1For s' i' g' l'=true∧mu_l1For s' i' g' l'<mu_l1For s i g l∧res_l1For s' i' g' l' K=res_l1For s i g l K∧∀R:St→Option Fin,evC cx0_l1For (loopOf Tryd.f102 0) (st_l1For s i g l) (onward (headAt cx0_l1For 3) R K)=R (st_l1For s' i' g' l')):=by
 have hx:=fun R=>x_spec_l1For g s l i R K;simp only[pre_l1For,andd,dec_iff,ble_iff]at hI;obtain⟨h0,h1,h2⟩:=hI
 by_cases hi:i<(length g.2:Int)
 ·have hg:=forL_at (s:=s) h0 hi;have k1:fits (length l+[i].length) Tryd.t3.bytes=true:=by rw[intBytes];exact fits_ok (by simp;omega) (by omega)
  simp only[hi,decide_true,inb_ok h0 hi,branch_true,W1 h0 hi (show length g.2≤big by unfold big;omega),k1]at hx;right
  cases hc:decide ((getD g.2 i.toNat d0).1=s)
  ·rw[hc]at hg;refine⟨s,i+1,g,l, ?_, ?_, ?_,fun R=>(hx R).trans ?_⟩
   ·simp only[pre_l1For,andd,dec_iff,ble_iff];exact ⟨by omega,h1,by omega⟩
   ·simp only[mu_l1For];omega
   ·simp only[res_l1For,hg];rfl
   ·rw[hc];rfl
  ·rw[hc]at hg;refine⟨s,i+1,g,l++[i], ?_, ?_, ?_,fun R=>(hx R).trans ?_⟩
   ·simp only[pre_l1For,andd,dec_iff,ble_iff,length_append,length_singleton];exact ⟨by omega,h1,by omega⟩
   ·simp only[mu_l1For];omega
   ·simp only[res_l1For,hg,append_assoc];rfl
   ·rw[hc];rfl
 ·left;intro R;refine(hx R).trans ?_;have e:l++forL s (g.2.drop i.toNat) i.toNat=l:=by rw[drop_eq_nil_of_le (by omega)];exact List.append_nil l
  simp only[hi,decide_false,branch_false,res_l1For,e]
def g_l1For:St→Cont→Option Fin:=gP sh_l1For (fun v=>match v with | ((s,i,()),(g,l,()))=>pre_l1For s i g l) (fun v K=>match v with | ((s,i,()),(g,l,()))=>res_l1For s i g l K)
def L_l1For:LpL:=(3,g_l1For)::[]
def cx_l1For:Cx:=(cb_l1For).withLoops (look L_l1For)
theorem l_l1For {L:LpL} (n:Nat) (h1:L.drop n=[]) (h2:idsFree (L.take n) (loopOf Tryd.f102 0)=true):LoopsTo g_l1For (cb_l1For) (loopOf Tryd.f102 0) 3 L :=
 with_drop h1 h2 (gP_ok (fun v=>match v with | ((s,i,()),(g,l,()))=>mu_l1For s i g l) fun v K hI=>by
  obtain⟨⟨s,i,⟨⟩⟩,⟨g,l,⟨⟩⟩⟩:=v;exact(r_l1For s i g l K hI).imp id fun⟨s',i',g',l',h⟩=>⟨((s',i',()),(g',l',())),h⟩)
theorem y_spec_l1For (g:Gram) (s:Str):evFn cx_l1For Tryd.f102 true [ofD TG g,ofD .str s] []=(
need (pre_l1For s 0 g []) <| some ((.d (.one (.r (.li TI64 (id (forL s g.snd ((0:Int).toNat))))))),[])):=by kernel_rfl
theorem s_spec_l1For (g:Gram) (_hg:Fit TG g) (s:Str) (_hs:Fit .str s) (hpre:(Nat.ble (length g.2) 1000)=true):Sat Tryd.prog 102 [ofD TG g,ofD .str s] [] (.d (ofD TIS (forL s g.2 0))) [] :=
 fn_sound (cx:=cx_l1For) Tryd.func102 rfl ttOk Γ29ok mixed (fun c hc=>LoopsOk.all (l:=[(3,loopOf Tryd.f102 0)]) (by cases hc;kernel_rfl) ⟨atLoop rfl (l_l1For 1 rfl (by kernel_rfl)),trivial⟩) (ro:=true) (by
  have h:pre_l1For s 0 g []=true:=andd.2 ⟨rfl,andd.2 ⟨hpre,rfl⟩⟩;rw[y_spec_l1For,h];rfl)
def c_spec_l1For:Con:=conT [TG, .str] fun(g:Gram) (s:Str)=>(some (Nat.ble (length g.2) 1000), .d (ofD TIS (forL s g.2 0)))
theorem k_spec_l1For:ConOk Tryd.prog 102 c_spec_l1For:=conT_ok Tryd.call102 fun g hg s hs hqq=>s_spec_l1For g hg s hs (pre_of hqq)
def Γ30:GL:=(102,c_spec_l1For)::Γ29
theorem Γ30ok:GO Γ30 := .cons k_spec_l1For Γ29ok
def smT (t:GTree):Bool:=Nat.ble (length (GTree.sign t)) 8&&(decide (-1≤GTree.rule t)&&(decide (GTree.rule t≤1000)&&Nat.ble (length (GTree.kids t)) 8))
def tOk:Nat→GTree→Bool
 |0,t=>smT t&&Nat.beq (length (GTree.kids t)) 0
 |n+1,t=>smT t&&List.all (GTree.kids t) (tOk n)
def pw (n:Nat):Int:=((10 ^ n:Nat):Int)
theorem pw_pos (n:Nat):1≤pw n:=by
 have:0<10 ^ n:=Nat.pow_pos (by omega);unfold pw;omega
theorem pw_succ (n:Nat):pw (n+1)=10*pw n:=by unfold pw;rw[Nat.pow_succ];omega
def anyPre (n:Nat) (x:Rd) (g:Gram) (s:Str) (d:Int):Bool:=rdAt x (1000000000000-pw n)&&(szG 20 g&&(decide (0≤d)&&(decide (d<(n:Int))&&(Nat.ble (length s) 8&&Nat.ble n 12))))
def anyQ (n:Nat) (x:Rd) (g:Gram) (s:Str) (d:Int) (q:GTree×Rd):Prop:=Sat Tryd.prog 70 [.one (.ptr 0 0),ofD TG g,ofD .str s,ofD TI64 d] [boxD 125 TR x] (.d (ofD .tree q.1)) [(0,some (boxD 125 TR q.2))]∧(tOk n q.1=true∧Adv x q.2 (pw n))
instance:Nonempty (GTree×Rd):=⟨(.node [] 0 [],[],0)⟩
def F_any (n:Nat) (x:Rd) (g:Gram) (s:Str) (d:Int):GTree×Rd:=oneOf (anyQ n x g s d)
def anyH (n:Nat):Prop:=∀(x:Rd) (g:Gram) (s:Str) (d:Int),Fit TR x→Fit TG g→Fit .str s→Fit TI64 d→anyPre n x g s d=true→∃q,anyQ n x g s d q
def conAny (n:Nat):Con:=conB 125 TR [TG, .str,TI64] fun(x:Rd) (g:Gram) (s:Str) (d:Int)=>(some (anyPre n x g s d), .d (ofD .tree (F_any n x g s d).1),(F_any n x g s d).2)
theorem k_any {n:Nat} (h:anyH n):ConOk Tryd.prog 70 (conAny n):=conB_ok Tryd.call70 fun x hx g hg s hs d hd hqq=>(oneOf_spec (h x g s d hx hg hs hd (pre_of hqq))).1
theorem any0:anyH 0:=fun x g s d _ _ _ _ h=>by
 unfold anyPre at h;simp only[andd,dec_iff]at h;omega
abbrev rgt (g:Gram) (k:Int):Str:=(getD g.2 k.toNat d0).2
def minK (g:Gram):List Int→Int→Int
 | [],k=>k
 |a::l,k=>minK g l (bif decide (((rgt g a).length:Int)<((rgt g k).length:Int))then a else k)
theorem minK_in {g:Gram} {n:Nat}:∀ {l:List Int} {k:Int},inb k n=true→l.all (fun a=>inb a n)=true→inb (minK g l k) n=true
 | [],_,h,_=>h
 |a::l,k,h,h2=>by
  rw[List.all_cons,andd]at h2;refine minK_in (l:=l) ?_ h2.2
  cases decide (((rgt g a).length:Int)<((rgt g k).length:Int))
  ·exact h
  ·exact h2.1
theorem minK_at {g:Gram} {l:List Int} {i k:Int} (h0:0≤i) (h1:i<(l.length:Int)):minK g (l.drop i.toNat) k=minK g (l.drop (i+1).toNat) (bif decide (((rgt g (l.getD i.toNat 0)).length:Int)<((rgt g k).length:Int))then l.getD i.toNat 0 else k):=by
 have hn:i.toNat<l.length:=by omega
 rw[drop_eq_getElem_cons hn,show (i+1).toNat=i.toNat+1 by omega,zG,zE hn];rfl
abbrev tz:GTree := .node [] 0 []
theorem tEta (t:GTree):GTree.node t.sign t.rule t.kids=t:=by cases t;rfl
theorem treeBytes:Tryd.t28.bytes=48:=by kernel_rfl
theorem rgt_len {g:Gram} {n:Nat} {k:Int} (h:szG n g=true):(rgt g k).length≤8:=by
 unfold szG at h;rw[andd,andd]at h
 by_cases hk:k.toNat<length g.2
 ·have:=szR_iff.1 (all_eq_true.1 h.2.2 (getD g.2 k.toNat d0) (by rw[getD_at hk];exact List.getElem_mem hk));exact this.2
 ·show (getD g.2 k.toNat d0).2.length≤8;rw[zG,getElem?_eq_none (by omega)];exact Nat.zero_le _
theorem leaf_ok {n:Nat} {s:Str} (h:length s≤8):tOk n (.node s (-1) [])=true:=by
 have h1:smT (.node s (-1) [])=true:=andd.2 ⟨ble_iff.2 h,rfl⟩
 cases n
 ·exact andd.2 ⟨h1,rfl⟩
 ·exact andd.2 ⟨h1,rfl⟩
structure Lev where
 n:Nat
 h:anyH n
noncomputable section
variable [Inhabited Lev]
abbrev lv:Nat:=(default:Lev).n
def c_spec_l3AnyR:Con:=conAny lv
theorem k_spec_l3AnyR:ConOk Tryd.prog 70 c_spec_l3AnyR:=k_any (default:Lev).h
def Γ31:GL:=(70,c_spec_l3AnyR)::Γ30
theorem Γ31ok:GO Γ31 := .cons k_spec_l3AnyR Γ30ok
def cb_any:Cx:=cxOf Γ31 Tryd.f70.ntmps [(15,[0,3,5,8,10,12,13]),(9,[0,2,3,5,8,9,10,11])] [(2,[8,12]),(3,[0,3,5,8,10,12,13]),(0,[0,2,3,5,8,10]),(1,[0,2,3,5,8,9,10,11]),(1000000,[8])] [(15,[(300012,28, .tree)])] []
abbrev treeO (s:Str) (r:Int):Option Obj:=some (.box 28 [.r (.v (.string (mk s))), .r (.v (.int .i64 r)), .r (.v (.slice none 0 0))])
theorem x_spec_l3Any (x:Rd) (g:Gram) (s z:Str) (d q k i:Int) (l:List Int) (R:St→Option Fin) (K:Cont):evC (cb_any.withLoops (look [])) (loopOf Tryd.f70 0) ⟨[(0,vP 0),(2,vS s),(3,vI d),(5, kp0),(8, kp1),(9, .d (ofD TIS l)),(10,vI k),(11,vI i)],[(0,bR x),(500000,some (boxD 25 TG g)),(500001,treeO z q)]⟩ (onward (headAt (cb_any.withLoops (look [])) 9) R K)=(
branch (decide (i<(l.length:Int))) (
 need (inb i l.length) <|
 need (inb (l.getD i.toNat 0) (length g.snd)) <|
 need (inb k (length g.snd)) <|
 branch (decide ((length (getD g.snd (Int.toNat (l.getD i.toNat 0)) d0).snd:Int)<(length (getD g.snd k.toNat d0).snd:Int))) (
 need (inb i l.length) <| R (.mk [(0,(.d (.one (.ptr 0 0)))),(2,vS s),(3,vI d),(5,kp0),(8,kp1),(9,(.d (.one (.r (.li (Ty.int IntKind.i64) l))))),(10,vI (l.getD i.toNat 0)),(11,vI (W64 (i+1)))] [(0,(bR x)),(500000,some (boxD 25 TG g)),(500001,(.some (.box 28 [(.r (.v (Value.string (mk z)))),(.r (.v (Value.int IntKind.i64 q))),(.r (.v (Value.slice none 0 0)))])))])) ( R (.mk [(0,(.d (.one (.ptr 0 0)))),(2,vS s),(3,vI d),(5,kp0),(8,kp1),(9,(.d (.one (.r (.li (Ty.int IntKind.i64) l))))),(10,vI k),(11,vI (W64 (i+1)))] [(0,(bR x)),(500000,some (boxD 25 TG g)),(500001,(.some (.box 28 [(.r (.v (Value.string (mk z)))),(.r (.v (Value.int IntKind.i64 q))),(.r (.v (Value.slice none 0 0)))])))]))) ( K (.exit 0) (.mk [(0,(.d (.one (.ptr 0 0)))),(2,vS s),(3,vI d),(5,kp0),(8,kp1),(10,vI k)] [(0,(bR x)),(500000,some (boxD 25 TG g)),(500001,(.some (.box 28 [(.r (.v (Value.string (mk z)))),(.r (.v (Value.int IntKind.i64 q))),(.r (.v (Value.slice none 0 0)))])))]))):=by kernel_rfl
def cx0_shA:Cx:=(cb_any).withLoops (look [])
def sh_shA:Sh:=([(0, .ptr 0 0),(2, .d .str),(3, .d TI64),(5, .ptr 500000 0),(8, .ptr 500001 0),(9, .d TIS),(10, .d TI64),(11, .d TI64)],[(0, .box 125 TR),(500000, .box 25 TG),(500001, .mix 28 [.d .str, .d TI64, .nil])])
abbrev st_shA (s:Str) (d:Int) (l:List Int) (k i:Int) (x:Den TR) (g:Gram) (z:Str) (q:Int):St:=⟨[(0, .d (.one (.ptr 0 0))),(2,vS s),(3,vI d),(5, kp0),(8, kp1),(9, .d (ofD TIS l)),(10,vI k),(11,vI i)],[(0,some (boxD 125 TR x)),(500000,some (boxD 25 TG g)),(500001,some (.box 28 ((cellsR .str z).map C.r++(cellsR TI64 q).map C.r++[.r (.v (.slice none 0 0))])))]⟩
def pre_shA (_s:Str) (_d:Int) (l:List Int) (k i:Int) (_x:Den TR) (g:Gram) (_z:Str) (_q:Int):Bool:=decide (0≤i)&&(inb k (length g.2)&&(List.all l (fun a=>inb a (length g.2))&&Nat.ble (length l) 1000))
def res_shA (s:Str) (d:Int) (l:List Int) (k i:Int) (x:Den TR) (g:Gram) (z:Str) (q:Int) (K:Cont):Option Fin:=K (.exit 0) ⟨[(0,vP 0),(2,vS s),(3,vI d),(5, kp0),(8, kp1),(10,vI (minK g (l.drop i.toNat) k))],[(0,bR x),(500000,some (boxD 25 TG g)),(500001,treeO z q)]⟩
def mu_shA (_s:Str) (_d:Int) (l:List Int) (_k i:Int) (_x:Den TR) (_g:Gram) (_z:Str) (_q:Int):Nat:=length l-i.toNat
theorem r_shA (s:Str) (d:Int) (l:List Int) (k i:Int) (x:Den TR) (g:Gram) (z:Str) (q:Int) (K:Cont) (hI:pre_shA s d l k i x g z q=true):(∀R:St→Option Fin,evC cx0_shA (loopOf Tryd.f70 0) (st_shA s d l k i x g z q) (onward (headAt cx0_shA 9) R K)=res_shA s d l k i x g z q K) ∨
  (∃(s':Str) (d':Int) (l':List Int) (k' i':Int) (x':Den TR) (g':Gram) (z':Str) (q':Int),pre_shA s' d' l' k' i' x' g' z' q'=true∧mu_shA s' d' l' k' i' x' g' z' q'<mu_shA s d l k i x g z q∧res_shA s' d' l' k' i' x' g' z' q' K=res_shA s d l k i x g z q K∧∀R:St→Option Fin,evC cx0_shA (loopOf Tryd.f70 0) (st_shA s d l k i x g z q) (onward (headAt cx0_shA 9) R K)=R (st_shA s' d' l' k' i' x' g' z' q')):=by
 have hx:=fun R=>x_spec_l3Any x g s z d q k i l R K;simp only[pre_shA,andd,dec_iff,ble_iff]at hI;obtain⟨h0,h1,h2,h3⟩:=hI
 by_cases hi:i<(length l:Int)
 ·have hg:=minK_at (g:=g) (k:=k) h0 hi;have ha:inb (l.getD i.toNat 0) (length g.2)=true:=all_eq_true.1 h2 _ (by
   have hn:i.toNat<length l:=by omega
   show getD l i.toNat 0∈l;rw[zG,zE hn];exact List.getElem_mem hn)
  simp only[hi,decide_true,inb_ok h0 hi,ha,h1,branch_true,W1 h0 hi (show length l≤big by unfold big;omega)]at hx;right
  cases hc:decide (((rgt g (l.getD i.toNat 0)).length:Int)<((rgt g k).length:Int))
  ·rw[hc]at hg;refine⟨s,d,l,k,i+1,x,g,z,q, ?_, ?_, ?_,fun R=>(hx R).trans ?_⟩
   ·simp only[pre_shA,andd,dec_iff,ble_iff];exact ⟨by omega,h1,h2,h3⟩
   ·simp only[mu_shA];omega
   ·simp only[res_shA,hg];rfl
   ·rw[show decide ((length (getD g.2 (Int.toNat (l.getD i.toNat 0)) d0).2:Int)<(length (getD g.2 k.toNat d0).2:Int))=false from hc];rfl
  ·rw[hc]at hg;refine⟨s,d,l,l.getD i.toNat 0,i+1,x,g,z,q, ?_, ?_, ?_,fun R=>(hx R).trans ?_⟩
   ·simp only[pre_shA,andd,dec_iff,ble_iff];exact ⟨by omega,ha,h2,h3⟩
   ·simp only[mu_shA];omega
   ·simp only[res_shA,hg];rfl
   ·rw[show decide ((length (getD g.2 (Int.toNat (l.getD i.toNat 0)) d0).2:Int)<(length (getD g.2 k.toNat d0).2:Int))=true from hc];rfl
 ·left;intro R;refine(hx R).trans ?_;have e:l.drop i.toNat=[]:=drop_eq_nil_of_le (by omega);simp only[hi,decide_false,branch_false,res_shA,e];rfl
def g_shA:St→Cont→Option Fin:=gP sh_shA (fun v=>match v with | ((s,d,l,k,i,()),(x,g,(z,q,()),()))=>pre_shA s d l k i x g z q) (fun v K=>match v with | ((s,d,l,k,i,()),(x,g,(z,q,()),()))=>res_shA s d l k i x g z q K)
theorem l_shA {L:LpL} (n:Nat) (h1:L.drop n=[]) (h2:idsFree (L.take n) (loopOf Tryd.f70 0)=true):LoopsTo g_shA (cb_any) (loopOf Tryd.f70 0) 9 L :=
 with_drop h1 h2 (gP_ok (fun v=>match v with | ((s,d,l,k,i,()),(x,g,(z,q,()),()))=>mu_shA s d l k i x g z q) fun v K hI=>by
  obtain⟨⟨s,d,l,k,i,⟨⟩⟩,⟨x,g,⟨z,q,⟨⟩⟩,⟨⟩⟩⟩:=v;exact(r_shA s d l k i x g z q K hI).imp id fun⟨s',d',l',k',i',x',g',z',q',h⟩=>⟨((s',d',l',k',i',()),(x',g',(z',q',()),())),h⟩)
theorem x_spec_l3Any_1 (x:Rd) (g:Gram) (s z:Str) (d q r k i:Int) (ks:List GTree) (R:St→Option Fin) (K:Cont):evC cb_any (loopOf Tryd.f70 1) ⟨[(0,vP 0),(3,vI d),(5, kp0),(8, kp1),(10,vI k),(12, .d (.one (.ptr 500002 0))),(13,vI i)],[(0,bR x),(500000,some (boxD 25 TG g)),(500001,treeO z q),(500002,some (.box 28 [.r (.v (.string (mk s))), .r (.v (.int .i64 r)), .own 500003])),(500003,some (.lis 28 .tree ks))]⟩ (onward (headAt cb_any 15) R K)=(
need (inb k (length g.snd)) <|
branch (decide (i<(length (getD g.snd k.toNat d0).snd:Int))) (
 need (inb k (length g.snd)) <|
 need (inr i (W64 (i+1)) (length (getD g.snd k.toNat d0).snd)) <|
 need (anyPre lv x g (List.take ((W64 (i+1)).toNat-i.toNat) (List.drop i.toNat (getD g.snd k.toNat d0).snd)) (W64 (d-1))) <|
 need (fits (ks.length+[GTree.node (F_any lv x g (List.take ((W64 (i+1)).toNat-i.toNat) (List.drop i.toNat (getD g.snd k.toNat d0).snd)) (W64 (d-1))).fst.sign (F_any lv x g (List.take ((W64 (i+1)).toNat-i.toNat) (List.drop i.toNat (getD g.snd k.toNat d0).snd)) (W64 (d-1))).fst.rule (F_any lv x g (List.take ((W64 (i+1)).toNat-i.toNat) (List.drop i.toNat (getD g.snd k.toNat d0).snd)) (W64 (d-1))).fst.kids].length) Tryd.t28.bytes) <| R (.mk [(0,(.d (.one (.ptr 0 0)))),(3,vI d),(5,kp0),(8,kp1),(10,vI k),(12,(.d (.one (.ptr 500002 0)))),(13,vI (W64 (i+1)))] [(0,(bR (F_any lv x g (List.take ((W64 (i+1)).toNat-i.toNat) (List.drop i.toNat (getD g.snd k.toNat d0).snd)) (W64 (d-1))).snd)),(500000,some (boxD 25 TG g)),(500001,(.some (.box 28 [(.r (.v (Value.string (mk z)))),(.r (.v (Value.int IntKind.i64 q))),(.r (.v (Value.slice none 0 0)))]))),(500002,(.some (.box 28 [(.r (.v (Value.string (mk s)))),(.r (.v (Value.int IntKind.i64 r))),(.own 500003)]))),(500003,(.some (.lis 28 ty28 (ks.append [GTree.node (F_any lv x g (List.take ((W64 (i+1)).toNat-i.toNat) (List.drop i.toNat (getD g.snd k.toNat d0).snd)) (W64 (d-1))).fst.sign (F_any lv x g (List.take ((W64 (i+1)).toNat-i.toNat) (List.drop i.toNat (getD g.snd k.toNat d0).snd)) (W64 (d-1))).fst.rule (F_any lv x g (List.take ((W64 (i+1)).toNat-i.toNat) (List.drop i.toNat (getD g.snd k.toNat d0).snd)) (W64 (d-1))).fst.kids]))))])) ( K (.exit 2) (.mk [(8,kp0),(12,kp1)] [(500000,(.some (.box 28 [(.r (.v (Value.string (mk z)))),(.r (.v (Value.int IntKind.i64 q))),(.r (.v (Value.slice none 0 0)))]))),(500001,(.some (.box 28 [(.r (.v (Value.string (mk s)))),(.r (.v (Value.int IntKind.i64 r))),(.own 500002)]))),(0,(bR x)),(500002,(.some (.lis 28 (Ty.tree) ks)))]))):=by kernel_rfl
theorem any_low (x:Rd) (g:Gram) (s:Str) (d:Int) (hf:fitR x=true) (hs:length s≤8) (hd : -1000≤d∧d≤1000) (h:anyPre lv x g s d=true):tOk lv (F_any lv x g s d).1=true∧Adv x (F_any lv x g s d).2 (pw lv):=by
 have h1:=h;unfold anyPre at h1;simp only[andd,dec_iff,ble_iff]at h1;obtain⟨a1,a2,a3,a4,a5,a6⟩:=h1;have hp:=pw_pos lv;refine(oneOf_spec ((default:Lev).h x g s d (fitR_fit hf a1 (by omega)) (szG_fit a2 (by omega)) ?_ ?_ h)).2
 ·show length s≤9223372036854775807;omega
 ·exact wrap_small (by omega) (by omega)
def cx0_kids:Cx:=cb_any
def sh_kids:Sh:=([(0, .ptr 0 0),(3, .d TI64),(5, .ptr 500000 0),(8, .ptr 500001 0),(10, .d TI64),(12, .ptr 500002 0),(13, .d TI64)],[(0, .box 125 TR),(500000, .box 25 TG),(500001, .mix 28 [.d .str, .d TI64, .nil]),(500002, .mix 28 [.d .str, .d TI64, .own 500003]),(500003, .lis 28 .tree)])
abbrev st_kids (d:Int) (k:Int) (i:Int) (x:Den TR) (g:Gram) (z:Str) (q:Int) (s:Str) (r:Int) (ks:List (GTree)):St:=⟨[(0, .d (.one (.ptr 0 0))),(3,vI d),(5, kp0),(8, kp1),(10,vI k),(12, .d (.one (.ptr 500002 0))),(13,vI i)],[(0,some (boxD 125 TR x)),(500000,some (boxD 25 TG g)),(500001,some (.box 28 ((cellsR .str z).map C.r++(cellsR TI64 q).map C.r++[.r (.v (.slice none 0 0))]))),(500002,some (.box 28 ((cellsR .str s).map C.r++(cellsR TI64 r).map C.r++[.own 500003]))),(500003,some (.lis 28 .tree ks))]⟩
def V_kids (d:Int) (k:Int) (i:Int) (x:Den TR) (g:Gram) (z:Str) (q:Int) (s:Str) (r:Int) (ks:List (GTree)):sh_kids.V:=((d,k,i,()),(x,g,(z,q,()),(s,r,()),ks,()))
def out_kids (o:(Str×Int)×(Str×Int)×List GTree×Rd):St:=⟨[(8, kp0),(12, kp1)],[(500000,treeO o.1.1 o.1.2),(500001,some (.box 28 [.r (.v (.string (mk o.2.1.1))), .r (.v (.int .i64 o.2.1.2)), .own 500002])),(0,bR o.2.2.2),(500002,some (.lis 28 .tree o.2.2.1))]⟩
def inv_kids (d:Int) (k:Int) (i:Int) (x:Den TR) (g:Gram) (_z:Str) (_q:Int) (_s:Str) (_r:Int) (ks:List (GTree)):Bool:=fitR x&&(rdAt x (1000000000000-pw (lv+1)+1+i*pw lv)&&(szG 20 g&&(decide (1≤d)&&(decide (d≤(lv:Int))&&(Nat.ble lv 11&&(inb k (length g.2)&&(decide (0≤i)&&(decide (i≤((rgt g k).length:Int))&&(decide ((ks.length:Int)≤i)&&List.all ks (tOk lv))))))))))
def post_kids (_d:Int) (_k:Int) (i:Int) (x:Den TR) (_g:Gram) (z:Str) (q:Int) (s:Str) (r:Int) (_ks:List (GTree)) (o:(Str×Int)×(Str×Int)×List GTree×Rd):Prop:=o.1=(z,q)∧o.2.1=(s,r)∧List.all o.2.2.1 (tOk lv)=true∧o.2.2.1.length≤8∧Adv x o.2.2.2 ((8-i)*pw lv)
def mu_kids (_d:Int) (_k:Int) (i:Int) (_x:Den TR) (_g:Gram) (_z:Str) (_q:Int) (_s:Str) (_r:Int) (_ks:List (GTree)):Nat:=(8-i).toNat
theorem r_kids (d:Int) (k:Int) (i:Int) (x:Den TR) (g:Gram) (z:Str) (q:Int) (s:Str) (r:Int) (ks:List (GTree)) (hI:inv_kids d k i x g z q s r ks=true):(∃o:(Str×Int)×(Str×Int)×List GTree×Rd,post_kids d k i x g z q s r ks o∧∀(R:St→Option Fin) (K:Cont),evC cx0_kids (loopOf Tryd.f70 1) (st_kids d k i x g z q s r ks) (onward (headAt cx0_kids 15) R K)=K (.exit 2) (out_kids o)) ∨
  (∃(d':Int) (k':Int) (i':Int) (x':Den TR) (g':Gram) (z':Str) (q':Int) (s':Str) (r':Int) (ks':List (GTree)),inv_kids d' k' i' x' g' z' q' s' r' ks'=true∧mu_kids d' k' i' x' g' z' q' s' r' ks'<mu_kids d k i x g z q s r ks∧(∀o,post_kids d' k' i' x' g' z' q' s' r' ks' o→post_kids d k i x g z q s r ks o)∧∀(R:St→Option Fin) (K:Cont),evC cx0_kids (loopOf Tryd.f70 1) (st_kids d k i x g z q s r ks) (onward (headAt cx0_kids 15) R K)=R (st_kids d' k' i' x' g' z' q' s' r' ks')):=by
 simp only[inv_kids,andd,dec_iff,ble_iff]at hI;obtain⟨h1,h2,h3,h4,h5,h6,h7,h8,h9,h10,h11⟩:=hI;have hr8:=rgt_len (k:=k) h3;have hp:=pw_pos lv;have hp2:=pw_succ lv;have hx:=fun R K=>x_spec_l3Any_1 x g s z d q r k i ks R K;rw[h7]at hx
 by_cases hi:i<((rgt g k).length:Int)
 ·right;have hipw:i*pw lv≤7*pw lv:=Int.mul_le_mul_of_nonneg_right (by omega) (by omega);have hn1:(i+1)*pw lv=i*pw lv+pw lv:=by rw[Int.add_mul,Int.one_mul]
  have hn2:(8-i)*pw lv=(8-(i+1))*pw lv+pw lv:=by rw[show (8:Int)-i=(8-(i+1))+1 by omega,Int.add_mul,Int.one_mul]
  have w1:W64 (i+1)=i+1:=wrap_small (by omega) (by omega);have w2:W64 (d-1)=d-1:=wrap_small (by omega) (by omega);have hsl:List.take ((i+1).toNat-i.toNat) (List.drop i.toNat (rgt g k))=[(rgt g k).getD i.toNat 0]:=slice_one h8 hi;have hpre:anyPre lv x g [(rgt g k).getD i.toNat 0] (d-1)=true:=by
   unfold anyPre;simp only[andd,dec_iff,ble_iff];refine⟨?_,h3,by omega,by omega,by simp,by omega⟩;have:=rdAt_iff.1 h2;exact rdAt_iff.2 ⟨this.1,by omega⟩
  obtain⟨p1,p2⟩:=any_low x g [(rgt g k).getD i.toNat 0] (d-1) h1 (by simp) ⟨by omega,by omega⟩ hpre;have k1:inr i (i+1) (rgt g k).length=true:=inr_iff.2 (by omega);rw[w1,w2]at hx;change ∀R K,_=need true (branch (decide (i<((rgt g k).length:Int))) (need true (need (inr i (i+1) (rgt g k).length) _)) _)at hx;rw[zT hi,k1]at hx
  generalize hF:F_any lv x g [(rgt g k).getD i.toNat 0] (d-1)=f at p1 p2
  refine⟨d,k,i+1,f.2,g,z,q,s,r,ks++[f.1], ?_, ?_, ?_,fun R K=>(hx R K).trans ?_⟩
  ·simp only[inv_kids,andd,dec_iff,ble_iff];have ha:=rdAt_iff.1 h2;refine⟨by rw[fitR_adv p2];exact h1, ?_,h3,h4,h5,h6,h7,by omega,by omega,by rw[length_append,length_singleton];omega, ?_⟩
   ·have:=p2.2;exact rdAt_iff.2 ⟨by omega,by omega⟩
   ·rw[List.all_append,h11,List.all_cons,p1];rfl
  ·simp only[mu_kids];omega
  ·rintro o ⟨g1,g2,g3,g4,g5⟩;exact⟨g1,g2,g3,g4,(p2.trans g5).le (by omega)⟩
  ·have e:List.take ((i+1).toNat-i.toNat) (List.drop i.toNat (getD g.2 k.toNat d0).2)=[(rgt g k).getD i.toNat 0]:=hsl;have k2:fits (ks.length+[f.1].length) Tryd.t28.bytes=true:=by rw[treeBytes];exact fits_ok (by simp;omega) (by omega)
   rw[e,hF,hpre,tEta,k2];rfl
 ·left;refine⟨((z,q),(s,r),ks,x),⟨rfl,rfl,h11,by show ks.length≤8;omega,(Adv.refl x).le (Int.mul_nonneg (by omega) (by omega))⟩,fun R K=>(hx R K).trans ?_⟩;change need true (branch (decide (i<((rgt g k).length:Int))) _ _)=_;rw[zF hi,branch_false,need_t];unfold out_kids;rfl
def I_kids:sh_kids.V→Bool:=fun v=>match v with | ((d,k,i,()),(x,g,(z,q,()),(s,r,()),ks,()))=>inv_kids d k i x g z q s r ks
def P_kids:sh_kids.V→(Str×Int)×(Str×Int)×List GTree×Rd→Prop:=fun v o=>match v with | ((d,k,i,()),(x,g,(z,q,()),(s,r,()),ks,()))=>post_kids d k i x g z q s r ks o
def M_kids:sh_kids.V→Nat:=fun v=>match v with | ((d,k,i,()),(x,g,(z,q,()),(s,r,()),ks,()))=>mu_kids d k i x g z q s r ks
theorem a_kids:∀v:sh_kids.V,I_kids v=true→∃o,P_kids v o∧∀K r,K (.exit 2) (out_kids o)=some r→∃N,iter (evC cx0_kids (loopOf Tryd.f70 1)) (headAt cx0_kids 15) N (sh_kids.mk v) K=some r :=
 loop_any (fun v=>I_kids v=true) P_kids (.exit 2) M_kids fun v hI=>by
  obtain⟨⟨(d:Int),(k:Int),(i:Int),⟨⟩⟩,⟨(x:Den TR),(g:Gram),⟨(z:Str),(q:Int),⟨⟩⟩,⟨(s:Str),(r:Int),⟨⟩⟩,(ks:List (GTree)),⟨⟩⟩⟩:=v;rcases r_kids d k i x g z q s r ks hI with⟨o,h1,h2⟩ | ⟨d',k',i',x',g',z',q',s',r',ks',h1,h2,h3,h4⟩
  ·exact .inl ⟨o,h1,h2⟩
  ·exact .inr ⟨V_kids d' k' i' x' g' z' q' s' r' ks',h1,h2,h3,h4⟩
def g_kids:St→Cont→Option Fin:=gEnd sh_kids I_kids out_kids (evC cx0_kids (loopOf Tryd.f70 1)) (headAt cx0_kids 15) P_kids (.exit 2)
def E_kids (d:Int) (k:Int) (i:Int) (x:Den TR) (g:Gram) (z:Str) (q:Int) (s:Str) (r:Int) (ks:List (GTree)):(Str×Int)×(Str×Int)×List GTree×Rd:=endOf sh_kids.mk out_kids (evC cx0_kids (loopOf Tryd.f70 1)) (headAt cx0_kids 15) P_kids (.exit 2) (V_kids d k i x g z q s r ks)
theorem q_kids (d:Int) (k:Int) (i:Int) (x:Den TR) (g:Gram) (z:Str) (q:Int) (s:Str) (r:Int) (ks:List (GTree)) (hI:inv_kids d k i x g z q s r ks=true):post_kids d k i x g z q s r ks (E_kids d k i x g z q s r ks):=(endOf_spec (a_kids (V_kids d k i x g z q s r ks) hI)).1
def cx_anyF:Cx:=cb_any.withLoops (look [(15,g_kids),(9,g_shA)])
theorem y_spec_l3Any (x:Rd) (g:Gram) (s:Str) (d:Int):evFn cx_anyF Tryd.f70 true [.one (.ptr 0 0),ofD TG g,ofD .str s,ofD TI64 d] [boxD 125 TR x]=(
branch (smallS s) ( some ((.d (.agg [(.r (.v (Value.string (mk s)))),(.r (.v (Value.int IntKind.i64 (Int.neg 1)))),(.r (.li ty28 ([])))])),[(0,(bR x))])) (
 need (g.snd.length.ble 1000) <|
 branch (bif decide (((forL s g.snd 0).length:Int)=0)then true else decide (d<1)) ( some ((.d (.agg [(.r (.v (Value.string (mk s)))),(.r (.v (Value.int IntKind.i64 (Int.neg 1)))),(.r (.li ty28 ([])))])),[(0,(bR x))])) (
 need (rdOk x) <|
 need (inb (pickV x ((forL s g.snd 0).length:Int)) (forL s g.snd 0).length) <|
 branch (decide (d<4)) (
  need (pre_shA s d (forL s g.snd 0) ((forL s g.snd 0).getD (pickV x ((forL s g.snd 0).length:Int)).toNat 0) 0 (rdGo x 1) g ([]:Str) 0) <|
  need (inv_kids d (minK g (id (forL s g.snd 0)) ((forL s g.snd 0).getD (pickV x ((forL s g.snd 0).length:Int)).toNat 0)) 0 (rdGo x 1) g ([]:Str) 0 s (minK g (id (forL s g.snd 0)) ((forL s g.snd 0).getD (pickV x ((forL s g.snd 0).length:Int)).toNat 0)) []) <| some ((.d (.agg [(.r (.v (Value.string (mk (E_kids d (minK g (id (forL s g.snd 0)) ((forL s g.snd 0).getD (pickV x ((forL s g.snd 0).length:Int)).toNat 0)) 0 (rdGo x 1) g ([]:Str) 0 s (minK g (id (forL s g.snd 0)) ((forL s g.snd 0).getD (pickV x ((forL s g.snd 0).length:Int)).toNat 0)) []).snd.fst.fst)))),(.r (.v (Value.int IntKind.i64 (E_kids d (minK g (id (forL s g.snd 0)) ((forL s g.snd 0).getD (pickV x ((forL s g.snd 0).length:Int)).toNat 0)) 0 (rdGo x 1) g ([]:Str) 0 s (minK g (id (forL s g.snd 0)) ((forL s g.snd 0).getD (pickV x ((forL s g.snd 0).length:Int)).toNat 0)) []).snd.fst.snd))),(.r (.li (Ty.tree) ((E_kids d (minK g (id (forL s g.snd 0)) ((forL s g.snd 0).getD (pickV x ((forL s g.snd 0).length:Int)).toNat 0)) 0 (rdGo x 1) g ([]:Str) 0 s (minK g (id (forL s g.snd 0)) ((forL s g.snd 0).getD (pickV x ((forL s g.snd 0).length:Int)).toNat 0)) []).snd.snd.fst)))])),[(0,(bR (E_kids d (minK g (id (forL s g.snd 0)) ((forL s g.snd 0).getD (pickV x ((forL s g.snd 0).length:Int)).toNat 0)) 0 (rdGo x 1) g ([]:Str) 0 s (minK g (id (forL s g.snd 0)) ((forL s g.snd 0).getD (pickV x ((forL s g.snd 0).length:Int)).toNat 0)) []).snd.snd.snd))])) (
  need (inv_kids d ((forL s g.snd 0).getD (pickV x ((forL s g.snd 0).length:Int)).toNat 0) 0 (rdGo x 1) g ([]:Str) 0 s ((forL s g.snd 0).getD (pickV x ((forL s g.snd 0).length:Int)).toNat 0) []) <| some ((.d (.agg [(.r (.v (Value.string (mk (E_kids d ((forL s g.snd 0).getD (pickV x ((forL s g.snd 0).length:Int)).toNat 0) 0 (rdGo x 1) g ([]:Str) 0 s ((forL s g.snd 0).getD (pickV x ((forL s g.snd 0).length:Int)).toNat 0) []).snd.fst.fst)))),(.r (.v (Value.int IntKind.i64 (E_kids d ((forL s g.snd 0).getD (pickV x ((forL s g.snd 0).length:Int)).toNat 0) 0 (rdGo x 1) g ([]:Str) 0 s ((forL s g.snd 0).getD (pickV x ((forL s g.snd 0).length:Int)).toNat 0) []).snd.fst.snd))),(.r (.li (Ty.tree) ((E_kids d ((forL s g.snd 0).getD (pickV x ((forL s g.snd 0).length:Int)).toNat 0) 0 (rdGo x 1) g ([]:Str) 0 s ((forL s g.snd 0).getD (pickV x ((forL s g.snd 0).length:Int)).toNat 0) []).snd.snd.fst)))])),[(0,(bR (E_kids d ((forL s g.snd 0).getD (pickV x ((forL s g.snd 0).length:Int)).toNat 0) 0 (rdGo x 1) g ([]:Str) 0 s ((forL s g.snd 0).getD (pickV x ((forL s g.snd 0).length:Int)).toNat 0) []).snd.snd.snd))]))))):=by kernel_rfl
abbrev anyG (n:Nat) (x:Rd) (r:Fin):Prop:=∃(v:GTree) (x':Rd),r=(.d (ofD .tree v),[(0,some (boxD 125 TR x'))])∧tOk n v=true∧Adv x x' (pw n)
theorem any_fin {x:Rd} {g:Gram} {s:Str} {d k:Int} (hs:length s≤8) (hi:inv_kids d k 0 (rdGo x 1) g [] 0 s k []=true) (hk:0≤k∧k≤1000) :
  Ok (some (.d (.agg [.r (.v (.string (mk (E_kids d k 0 (rdGo x 1) g ([]:Str) 0 s k []).2.1.1))), .r (.v (.int .i64 (E_kids d k 0 (rdGo x 1) g ([]:Str) 0 s k []).2.1.2)), .r (.li .tree (E_kids d k 0 (rdGo x 1) g ([]:Str) 0 s k []).2.2.1)]),[(0,bR (E_kids d k 0 (rdGo x 1) g ([]:Str) 0 s k []).2.2.2)])) (anyG (lv+1) x):=by
 obtain⟨g1,g2,g3,g4,g5⟩:=q_kids d k 0 (rdGo x 1) g [] 0 s k [] hi
 generalize E_kids d k 0 (rdGo x 1) g ([]:Str) 0 s k []=o at g1 g2 g3 g4 g5
 obtain⟨o1,⟨o2,o3⟩,o4,o5⟩:=o
 cases g2
 have hp:=pw_pos lv;have hp2:=pw_succ lv;refine Ok.ret ⟨.node s k o4,o5,rfl,andd.2 ⟨andd.2 ⟨ble_iff.2 hs,andd.2 ⟨dec_iff.2 (show (-1:Int)≤k by omega),andd.2 ⟨dec_iff.2 (show k≤1000 by omega),ble_iff.2 g4⟩⟩⟩,g3⟩,((Adv.one x).trans g5).le ?_⟩;rw[show (8:Int)-0=8 from rfl];omega
theorem any_up:anyH (lv+1):=fun x g s d hx hg hs hd hpre=>by
 have f0:=fit_fitR hx;unfold anyPre at hpre;simp only[andd,dec_iff,ble_iff]at hpre;obtain⟨a1,a2,a3,a4,a5,a6⟩:=hpre;have hp:=pw_pos lv;have hp2:=pw_succ lv;have hlen:length g.2≤20:=by
  unfold szG at a2;rw[andd,andd,ble_iff,ble_iff]at a2;exact a2.2.1
 have hleaf:Ok (some (.d (.agg [.r (.v (.string (mk s))), .r (.v (.int .i64 (Int.neg 1))), .r (.li .tree [])]),[(0,bR x)])) (anyG (lv+1) x):=Ok.ret ⟨.node s (-1) [],x,rfl,leaf_ok a5,(Adv.refl x).le (by omega)⟩;have main:Ok (evFn cx_anyF Tryd.f70 true [.one (.ptr 0 0),ofD TG g,ofD .str s,ofD TI64 d] [boxD 125 TR x]) (anyG (lv+1) x):=by
  rw[y_spec_l3Any];refine Ok.br (fun _=>hleaf) fun _=>Ok.need (ble_iff.2 (by omega)) (Ok.br (fun _=>hleaf) fun hc => ?_);have hc1:¬((forL s g.2 0).length:Int)=0∧¬d<1:=by
   rw[b3]at hc;simp only[Bool.or_eq_false_iff,decide_eq_false_iff_not]at hc;exact hc
  have k0:rdOk x=true:=ok1 a1 (by omega);have hpk:=pickV_range (n:=((forL s g.2 0).length:Int)) ((byB_iff.1 (andd.1 f0).1)) k0 (by omega);have hin:=inb_ok hpk.1 hpk.2;have hall:∀a∈forL s g.2 0,inb a (length g.2)=true∧0≤a∧a≤1000:=fun a ha=>by
   obtain⟨m1,m2,_⟩:=forL_mem ha;exact⟨inb_ok (by omega) (by omega),by omega,by omega⟩
  have hk1:(forL s g.2 0).getD (pickV x ((forL s g.2 0).length:Int)).toNat 0∈forL s g.2 0:=by
   have hn:(pickV x ((forL s g.2 0).length:Int)).toNat<(forL s g.2 0).length:=by omega
   rw[zG,zE hn];exact List.getElem_mem hn
  generalize hK:(forL s g.2 0).getD (pickV x ((forL s g.2 0).length:Int)).toNat 0=k at hk1
  obtain⟨q1,q2,q3⟩:=hall k hk1;have hinv:∀k',inb k' (length g.2)=true→inv_kids d k' 0 (rdGo x 1) g [] 0 s k' []=true:=fun k' hk'=>by
   simp only[inv_kids,andd,dec_iff,ble_iff];have ha:=rdAt_iff.1 a1;refine⟨by rw[fitR_adv (Adv.one x)];exact f0, ?_,a2,by omega,by omega,by omega,hk',by omega,by omega,by simp,rfl⟩;rw[Int.zero_mul];exact rdAt_iff.2 ⟨by simp only[rdGo];omega,by simp only[rdGo];omega⟩
  refine Ok.need k0 (Ok.need hin (Ok.br (fun _ => ?_) fun _=>Ok.need (hinv k q1) (any_fin a5 (hinv k q1) ⟨q2,q3⟩)));have hsh:pre_shA s d (forL s g.2 0) k 0 (rdGo x 1) g ([]:Str) 0=true:=by
   simp only[pre_shA,andd,dec_iff,ble_iff];refine⟨by omega,q1,all_eq_true.2 fun a ha=>(hall a ha).1, ?_⟩;have:=forL_len (s:=s) (l:=g.2) (k:=0);omega
  have hm:=minK_in (g:=g) (n:=length g.2) (l:=forL s g.2 0) (k:=k) q1 (all_eq_true.2 fun a ha=>(hall a ha).1);have hm2:=inb_iff.1 hm;exact Ok.need hsh (Ok.need (hinv _ hm) (any_fin a5 (hinv _ hm) ⟨hm2.1,by show minK g (forL s g.2 0) k≤1000;omega⟩))
 obtain⟨r,e1,v,x',e2,e3,e4⟩:=main;subst e2;exact⟨(v,x'),fn_sound (cx:=cx_anyF) Tryd.func70 rfl ttOk Γ31ok mixed (fun c hc=>LoopsOk.all (l:=[(9,loopOf Tryd.f70 0),(15,loopOf Tryd.f70 1)]) (by cases hc;kernel_rfl) ⟨atLoop rfl (l_shA (L:=[(15,g_kids),(9,g_shA)]) 2 rfl (by kernel_rfl)),atLoop rfl (with_ok (by kernel_rfl) (gEnd_ok a_kids)),trivial⟩) (ro:=true) e1,e3,e4⟩
end
theorem any_all:∀n,anyH n
 |0=>any0
 |n+1=>@any_up ⟨⟨n,any_all n⟩⟩
def c_spec_l3Any:Con:=conAny 9
theorem k_spec_l3Any:ConOk Tryd.prog 70 c_spec_l3Any:=k_any (any_all 9)
def Γ32:GL:=(70,c_spec_l3Any)::Γ30
theorem Γ32ok:GO Γ32 := .cons k_spec_l3Any Γ30ok
def tOkP:Nat→GTree→Bool
 |0,_=>false
 |n+1,t=>tOk n t
theorem tOkP_kids:∀ {n:Nat} {t:GTree},tOkP (n+1) t=true→smT t=true∧List.all (GTree.kids t) (tOkP n)=true
 |0,t,h=>by
  obtain⟨h1,h2⟩:=andd.1 h;exact⟨h1,by rw[List.length_eq_zero_iff.1 (zB h2)];rfl⟩
 |n+1,t,h=>andd.1 h
def yldP:Nat→GTree→Str
 |0,_=>[]
 |n+1,t=>bif smallS t.sign then t.sign else t.kids.flatMap (yldP n)
theorem flat_len {f:GTree→Str} {m:Nat}:∀ {l:List GTree},(∀t∈l,(f t).length≤m)→(l.flatMap f).length≤l.length*m
 | [],_=>Nat.zero_le _
 |t::l,h=>by
  have h1:=h t mem_cons_self;have h2:=flat_len (l:=l) fun t ht=>h t (mem_cons_of_mem _ ht);rw[List.flatMap_cons,length_append,length_cons,Nat.add_mul];omega
theorem yld_len:∀ {n:Nat} {t:GTree},tOkP n t=true→(yldP n t).length≤8 ^ n
 |0,_,_=>Nat.zero_le _
 |n+1,t,h=>by
  obtain⟨h1,h2⟩:=tOkP_kids h;have hp:0<8 ^ n:=Nat.pow_pos (by omega);unfold yldP;rw[Nat.pow_succ]
  cases hs:smallS t.sign
  ·have hk:length t.kids≤8:=by
    unfold smT at h1;rw[andd,andd,andd]at h1;exact ble_iff.1 h1.2.2.2
   have:=flat_len (f:=yldP n) (m:=8 ^ n) (l:=t.kids) fun k hk=>yld_len (all_eq_true.1 h2 k hk);have h3:=Nat.mul_le_mul_right (8 ^ n) hk;simp only[cond_false];omega
  ·obtain ⟨c,e,_⟩:=smallS_one hs;rw[cond_true,e];simp only[length_cons,List.length_nil];omega
theorem yld_len12 {n:Nat} {t:GTree} (h:tOkP n t=true) (hn:n≤12):(yldP n t).length≤68719476736 :=
 Nat.le_trans (yld_len h) (Nat.le_trans (Nat.pow_le_pow_right (by omega) hn) (by decide))
abbrev kidT (t:GTree) (i:Int):GTree:=t.kids.getD i.toNat tz
theorem kid_in {t:GTree} {i:Int} (h0:0≤i) (h1:i<(t.kids.length:Int)):kidT t i∈t.kids:=by
 have hn:i.toNat<t.kids.length:=by omega
 show t.kids.getD i.toNat tz∈_;rw[zG,zE hn];exact List.getElem_mem hn
theorem yl_at {n:Nat} {t:GTree} {i:Int} (h0:0≤i) (h1:i<(t.kids.length:Int)):(t.kids.drop i.toNat).flatMap (yldP n)=yldP n (kidT t i)++(t.kids.drop (i+1).toNat).flatMap (yldP n):=by
 have hn:i.toNat<t.kids.length:=by omega
 rw[drop_eq_getElem_cons hn,List.flatMap_cons,show (i+1).toNat=i.toNat+1 by omega];show _=yldP n (t.kids.getD i.toNat tz)++_;rw[zG,zE hn];rfl
def conYield (n:Nat):Con:=conT [.tree] fun(t:GTree)=>(some (tOkP n t&&Nat.ble n 12), .d (ofD .str (yldP n t)))
structure LevY where
 n:Nat
 h:ConOk Tryd.prog 93 (conYield n)
noncomputable section
variable [Inhabited LevY]
abbrev lvY:Nat:=(default:LevY).n
def c_spec_l3YieldR:Con:=conYield lvY
theorem k_spec_l3YieldR:ConOk Tryd.prog 93 c_spec_l3YieldR:=(default:LevY).h
def Γ33:GL:=(93,c_spec_l3YieldR)::Γ32
theorem Γ33ok:GO Γ33 := .cons k_spec_l3YieldR Γ32ok
def cb_yield:Cx:=cxOf Γ33 Tryd.f93.ntmps [(5,[1,3,4])] [(0,[3]),(1,[1,3,4]),(1000000,[2])] [] []
abbrev st_ylA (o:Str) (i:Int) (t:GTree):St:=⟨[(1, kp0),(3,vS o),(4,vI i)],[(500000,some (boxD 28 .tree t))]⟩
theorem x_spec_l3Yield (t:GTree) (o:Str) (i:Int) (R:St→Option Fin) (K:Cont):evC (cb_yield.withLoops (look [])) (loopOf Tryd.f93 0) (st_ylA o i t) (onward (headAt (cb_yield.withLoops (look [])) 5) R K)=(
branch (decide (i<(t.kids.length:Int))) (
 need (inb i t.kids.length) <|
 need (tOkP lvY (GTree.node (GTree.sign (t.kids.getD i.toNat tz)) (GTree.rule (t.kids.getD i.toNat tz)) (GTree.kids (t.kids.getD i.toNat tz)))&&lvY.ble 12) <|
 need (decide ((length o+length (yldP lvY (GTree.node (GTree.sign (t.kids.getD i.toNat tz)) (GTree.rule (t.kids.getD i.toNat tz)) (GTree.kids (t.kids.getD i.toNat tz)))))≤9223372036854775807)) <| R (.mk [(1,kp0),(3,(vS (List.append o (yldP lvY (GTree.node (GTree.sign (t.kids.getD i.toNat tz)) (GTree.rule (t.kids.getD i.toNat tz)) (GTree.kids (t.kids.getD i.toNat tz))))))),(4,vI (W64 (i+1)))] [(500000,(.some (.box 28 [(.r (.v (Value.string (mk t.sign)))),(.r (.v (Value.int IntKind.i64 t.rule))),(.r (.li (Ty.tree) (t.kids)))])))])) ( K (.exit 0) (.mk [(3,vS o)] []))):=by kernel_rfl
def cx0_ylA:Cx:=(cb_yield).withLoops (look [])
def sh_ylA:Sh:=([(1, .ptr 500000 0),(3, .d .str),(4, .d TI64)],[(500000, .box 28 .tree)])
def pre_ylA (o:Str) (i:Int) (t:GTree):Bool:=decide (0≤i)&&(smT t&&(List.all (GTree.kids t) (tOkP lvY)&&(Nat.ble lvY 12&&decide ((length o:Int)≤i*68719476736))))
def res_ylA (o:Str) (i:Int) (t:GTree) (K:Cont):Option Fin:=K (.exit 0) ⟨[(3,vS (o++(t.kids.drop i.toNat).flatMap (yldP lvY)))],[]⟩
def mu_ylA (_o:Str) (i:Int) (t:GTree):Nat:=t.kids.length-i.toNat
theorem r_ylA (o:Str) (i:Int) (t:GTree) (K:Cont) (hI:pre_ylA o i t=true):(∀R:St→Option Fin,evC cx0_ylA (loopOf Tryd.f93 0) (st_ylA o i t) (onward (headAt cx0_ylA 5) R K)=res_ylA o i t K) ∨
  (∃(o':Str) (i':Int) (t':GTree),pre_ylA o' i' t'=true∧mu_ylA o' i' t'<mu_ylA o i t∧res_ylA o' i' t' K=res_ylA o i t K∧∀R:St→Option Fin,evC cx0_ylA (loopOf Tryd.f93 0) (st_ylA o i t) (onward (headAt cx0_ylA 5) R K)=R (st_ylA o' i' t')):=by
 have hx:=fun R=>x_spec_l3Yield t o i R K;rw[tEta (t.kids.getD i.toNat tz)]at hx;change ∀R,_=branch (decide (i<(t.kids.length:Int))) (need (inb i t.kids.length) (need (tOkP lvY (kidT t i)&&lvY.ble 12) (need (decide ((length o+length (yldP lvY (kidT t i)))≤9223372036854775807)) _))) _ at hx;simp only[pre_ylA]at hI;rw[andd,andd,andd,andd,dec_iff,ble_iff,dec_iff]at hI;obtain⟨h0,h1,h2,h3,h4⟩:=hI;have hk8:t.kids.length≤8:=by
  have h5:=h1;unfold smT at h5;rw[andd,andd,andd]at h5;exact ble_iff.1 h5.2.2.2
 by_cases hi:i<(t.kids.length:Int)
 ·have hkid:=all_eq_true.1 h2 _ (kid_in h0 hi);have hlen:=yld_len12 hkid h3;have k1:(tOkP lvY (kidT t i)&&lvY.ble 12)=true:=andd.2 ⟨hkid,ble_iff.2 h3⟩;have k2:decide ((length o+length (yldP lvY (kidT t i)))≤9223372036854775807)=true:=dec_iff.2 (by omega);have w:W64 (i+1)=i+1:=wrap_small (by omega) (by omega);rw[zT hi,inb_ok h0 hi,k1,k2,w]at hx;have hg:=yl_at (n:=lvY) h0 hi;right;refine⟨o++yldP lvY (kidT t i),i+1,t, ?_, ?_, ?_,fun R=>hx R⟩
  ·simp only[pre_ylA];rw[andd,andd,andd,andd,dec_iff,ble_iff,dec_iff,length_append];exact⟨by omega,h1,h2,h3,by omega⟩
  ·simp only[mu_ylA];omega
  ·simp only[res_ylA,hg,append_assoc]
 ·left;intro R;refine(hx R).trans ?_;rw[zF hi];have e:t.kids.drop i.toNat=[]:=drop_eq_nil_of_le (by omega);simp only[res_ylA,e,List.flatMap_nil,List.append_nil];rfl
def g_ylA:St→Cont→Option Fin:=gP sh_ylA (fun v=>match v with | ((o,i,()),(t,()))=>pre_ylA o i t) (fun v K=>match v with | ((o,i,()),(t,()))=>res_ylA o i t K)
def L_ylA:LpL:=(5,g_ylA)::[]
def cx_ylA:Cx:=(cb_yield).withLoops (look L_ylA)
theorem l_ylA {L:LpL} (n:Nat) (h1:L.drop n=[]) (h2:idsFree (L.take n) (loopOf Tryd.f93 0)=true):LoopsTo g_ylA (cb_yield) (loopOf Tryd.f93 0) 5 L :=
 with_drop h1 h2 (gP_ok (fun v=>match v with | ((o,i,()),(t,()))=>mu_ylA o i t) fun v K hI=>by
  obtain⟨⟨o,i,⟨⟩⟩,⟨t,⟨⟩⟩⟩:=v;exact(r_ylA o i t K hI).imp id fun⟨o',i',t',h⟩=>⟨((o',i',()),(t',())),h⟩)
theorem y_spec_l3Yield (t:GTree):evFn cx_ylA Tryd.f93 true [ofD .tree t] []=(
branch (smallS t.sign) ( some ((vS t.sign),[])) (
 need (pre_ylA ([]:Str) 0 (GTree.node t.sign t.rule t.kids)) <| some ((vS (([]:Str).append (List.flatMap (yldP lvY) (id (GTree.node t.sign t.rule t.kids).kids)))),[]))):=by kernel_rfl
theorem yield_up:ConOk Tryd.prog 93 (conYield (lvY+1)):=conT_ok Tryd.call93 fun(t:GTree) ht hqq=>by
 obtain⟨h1,h2⟩:=andd.1 (pre_of hqq);have h2:=ble_iff.1 h2;obtain⟨g1,g2⟩:=tOkP_kids h1;refine fn_sound (cx:=cx_ylA) Tryd.func93 rfl ttOk Γ33ok mixed (fun c hc=>LoopsOk.all (l:=[(5,loopOf Tryd.f93 0)]) (by cases hc;kernel_rfl) ⟨atLoop rfl (l_ylA 1 rfl (by kernel_rfl)),trivial⟩) (ro:=true) ?_;refine(y_spec_l3Yield t).trans ?_;have hp:pre_ylA ([]:Str) 0 (GTree.node t.sign t.rule t.kids)=true:=by
  rw[tEta];simp only[pre_ylA];rw[andd,andd,andd,andd,dec_iff,ble_iff,dec_iff];exact⟨Int.le_refl _,g1,g2,by omega,by simp⟩
 rw[hp];show branch (smallS t.sign) _ _=some (vS (bif smallS t.sign then t.sign else t.kids.flatMap (yldP lvY)),[])
 cases smallS t.sign<;>rfl
end
theorem yield_all:∀n,ConOk Tryd.prog 93 (conYield n)
 |0=>conT_ok Tryd.call93 fun(t:GTree) _ hqq=>by
  have:=pre_of hqq
  cases (andd.1 this).1
 |n+1=>@yield_up ⟨⟨n,yield_all n⟩⟩
def c_spec_l3Yield:Con:=conYield 10
theorem k_spec_l3Yield:ConOk Tryd.prog 93 c_spec_l3Yield:=yield_all 10
def Γ34:GL:=(93,c_spec_l3Yield)::Γ32
theorem Γ34ok:GO Γ34 := .cons k_spec_l3Yield Γ32ok
theorem y_impl_TextOk (s:Str):evFn (cxOf Γ34 Tryd.f61.ntmps [] [] [] []) Tryd.f61 true [ofD .str s] []=(
some ((vB (areSm s 8)),[])):=by kernel_rfl
theorem s_impl_TextOk (s:Str) (_hs:Fit .str s):Sat Tryd.prog 61 [ofD .str s] [] (.d (ofD .bool (areSm s 8))) [] :=
 fn_sound (cx:=cxOf Γ34 Tryd.f61.ntmps [] [] [] []) Tryd.func61 rfl ttOk Γ34ok mixed (fun _ _=>LoopsOk.no fun _=>rfl) (ro:=true) (by
  rw[y_impl_TextOk];rfl)
def c_impl_TextOk:Con:=conT [.str] fun(s:Str)=>(none, .d (ofD .bool (areSm s 8)))
theorem k_impl_TextOk:ConOk Tryd.prog 61 c_impl_TextOk:=conT_ok Tryd.call61 fun s hs _=>s_impl_TextOk s hs
def Γ35:GL:=(61,c_impl_TextOk)::Γ34
theorem Γ35ok:GO Γ35 := .cons k_impl_TextOk Γ34ok
def cb_sTextOk:Cx:=cxOf Γ35 Tryd.f94.ntmps [(2,[0,3])] [(0,[0]),(1,[0,3]),(1000000,[2])] [] []
abbrev st_sTextOk (s:Str) (i:Int):St:=⟨[(0,vS s),(3,vI i)],[]⟩
theorem x_spec_TextOk (s:Str) (i:Int) (R:St→Option Fin) (K:Cont):evC (cb_sTextOk.withLoops (look [])) (loopOf Tryd.f94 0) (st_sTextOk s i) (onward (headAt (cb_sTextOk.withLoops (look [])) 2) R K)=(
branch (decide (i<(s.length:Int))) (
 need (inb i s.length) <|
 branch (!smallI (byteAt s i)) ( K (.ret) (.mk [(2,vB false)] [])) ( R (st_sTextOk s (W64 (i+1))))) ( K (.exit 0) (.mk [(0,vS s)] []))):=by kernel_rfl
def cx0_sTextOk:Cx:=(cb_sTextOk).withLoops (look [])
def sh_sTextOk:Sh:=([(0, .d .str),(3, .d TI64)],[])
def pre_sTextOk (s:Str) (i:Int):Bool:=decide (0≤i)&&Nat.ble (length s) big
def res_sTextOk (s:Str) (i:Int) (K:Cont):Option Fin:=branch ((s.drop i.toNat).all small) (K (.exit 0) ⟨[(0,vS s)],[]⟩) (K .ret ⟨[(2,vB false)],[]⟩)
def mu_sTextOk (s:Str) (i:Int):Nat:=length s-i.toNat
theorem r_sTextOk (s:Str) (i:Int) (K:Cont) (hI:pre_sTextOk s i=true):(∀R:St→Option Fin,evC cx0_sTextOk (loopOf Tryd.f94 0) (st_sTextOk s i) (onward (headAt cx0_sTextOk 2) R K)=res_sTextOk s i K) ∨
  (∃(s':Str) (i':Int),pre_sTextOk s' i'=true∧mu_sTextOk s' i'<mu_sTextOk s i∧res_sTextOk s' i' K=res_sTextOk s i K∧∀R:St→Option Fin,evC cx0_sTextOk (loopOf Tryd.f94 0) (st_sTextOk s i) (onward (headAt cx0_sTextOk 2) R K)=R (st_sTextOk s' i')):=by
 have hx:=fun R=>x_spec_TextOk s i R K;simp only[pre_sTextOk,andd,dec_iff,ble_iff]at hI;obtain⟨h0,h1⟩:=hI
 by_cases hi:i<(length s:Int)
 ·have hg:=smalls_at (p:=small) h0 hi;have hc0:smallI (byteAt s i)=small (s.getD i.toNat 0):=smallI_nat _;simp only[hi,decide_true,inb_ok h0 hi,branch_true,W1 h0 hi h1,hc0]at hx
  cases hc:small (s.getD i.toNat 0)
  ·left;intro R;rw[hc]at hg;refine(hx R).trans ?_;rw[hc];simp only[res_sTextOk,hg];rfl
  ·right;rw[hc]at hg;refine⟨s,i+1, ?_, ?_, ?_,fun R=>(hx R).trans ?_⟩
   ·simp only[pre_sTextOk,andd,dec_iff,ble_iff];exact ⟨by omega,h1⟩
   ·simp only[mu_sTextOk];omega
   ·simp only[res_sTextOk,hg];rfl
   ·rw[hc];rfl
 ·left;intro R;refine(hx R).trans ?_;simp only[hi,decide_false,branch_false,res_sTextOk];rw[drop_end (by omega)];rfl
def g_sTextOk:St→Cont→Option Fin:=gP sh_sTextOk (fun v=>match v with | ((s,i,()),())=>pre_sTextOk s i) (fun v K=>match v with | ((s,i,()),())=>res_sTextOk s i K)
def L_sTextOk:LpL:=(2,g_sTextOk)::[]
def cx_sTextOk:Cx:=(cb_sTextOk).withLoops (look L_sTextOk)
theorem l_sTextOk {L:LpL} (n:Nat) (h1:L.drop n=[]) (h2:idsFree (L.take n) (loopOf Tryd.f94 0)=true):LoopsTo g_sTextOk (cb_sTextOk) (loopOf Tryd.f94 0) 2 L :=
 with_drop h1 h2 (gP_ok (fun v=>match v with | ((s,i,()),())=>mu_sTextOk s i) fun v K hI=>by
  obtain⟨⟨s,i,⟨⟩⟩,⟨⟩⟩:=v;exact(r_sTextOk s i K hI).imp id fun⟨s',i',h⟩=>⟨((s',i',()),()),h⟩)
theorem y_spec_TextOk (s:Str):evFn cx_sTextOk Tryd.f94 true [ofD .str s] []=(
need (pre_sTextOk s 0) <|
branch (s.all small) ( some ((vB (decide ((s.length:Int)≤8))),[])) ( some ((vB false),[]))):=by kernel_rfl
theorem s_spec_TextOk (s:Str) (hs:Fit .str s):Sat Tryd.prog 94 [ofD .str s] [] (.d (ofD .bool (areSm s 8))) [] :=
 fn_sound (cx:=cx_sTextOk) Tryd.func94 rfl ttOk Γ35ok mixed (fun c hc=>LoopsOk.all (l:=[(2,loopOf Tryd.f94 0)]) (by cases hc;kernel_rfl) ⟨atLoop rfl (l_sTextOk 1 rfl (by kernel_rfl)),trivial⟩) (ro:=true) (by
  have h:pre_sTextOk s 0=true:=andd.2 ⟨rfl,ble_iff.2 hs⟩;rw[y_spec_TextOk,h];unfold areSm;show branch (s.all small) _ _=_
  cases s.all small<;>cases decide ((length s:Int)≤8)<;>rfl)
def c_spec_TextOk:Con:=conT [.str] fun(s:Str)=>(none, .d (ofD .bool (areSm s 8)))
theorem k_spec_TextOk:ConOk Tryd.prog 94 c_spec_TextOk:=conT_ok Tryd.call94 fun s hs _=>s_spec_TextOk s hs
def Γ36:GL:=(94,c_spec_TextOk)::Γ35
theorem Γ36ok:GO Γ36 := .cons k_spec_TextOk Γ35ok
abbrev l4tl:List Str:=[[101],[65],[32],[97,97,97,97,97,97,97,97,97]]
abbrev l4F (z:Rd):Str×Rd:=F_spec_l4Text (rdGo z 1) (pickV z 7)
def l4T (z:Rd):Option Fin:=need (rdOk z) <| need (rdAt (rdGo z 1) 10000000999000&&decide (pickV z 7≤1000)) <| need (rdOk (l4F z).2) <|
 branch (decide (pickV (l4F z).2 30=0)) (need (rdOk (rdGo (l4F z).2 1)&&Nat.blt 0 l4tl.length) <| need (decide (length (l4F z).1+length (ofV (rdGo (l4F z).2 1) l4tl)≤9223372036854775807)) <| some (vS (List.append (l4F z).1 (ofV (rdGo (l4F z).2 1) l4tl)),[(0,bR (rdGo (rdGo (l4F z).2 1) 1))]))
  (some (vS (l4F z).1,[(0,bR (rdGo (l4F z).2 1))]))
abbrev nT:List Int:=[4,5,6,3]
abbrev anF (x:Rd) (g:Gram):GTree×Rd:=F_any 9 (rdGo (rdGo x 1) 1) g g.1 (numV (rdGo x 1) nT)
abbrev anT (x:Rd) (g:Gram):GTree:=GTree.node (anF x g).1.sign (anF x g).1.rule (anF x g).1.kids
theorem y_spec_l4Some (x:Rd) (g:Gram):evFn ((cxOf Γ36 Tryd.f51.ntmps [] [] [] []).parted [1]) Tryd.f51 true [.one (.ptr 0 0),ofD TG g] [boxD 125 TR x] =
 branch (decide (okG g=true)) (need (rdOk x) <| branch (bif true then decide (0<pickV x 3)else false)
  (need (rdOk (rdGo x 1)&&Nat.blt 0 nT.length) <| need (anyPre 9 (rdGo (rdGo x 1) 1) g g.1 (numV (rdGo x 1) nT)) <| need (tOkP 10 (anT x g)&&Nat.ble 10 12) <|
   branch (areSm (yldP 10 (anT x g)) 8) (some (vS (yldP 10 (anT x g)),[(0,bR (anF x g).2)])) (l4T (anF x g).2))
  (l4T (rdGo x 1))) (l4T x):=by kernel_rfl
abbrev strG (n:Nat) (c:Int) (x:Rd) (r:Fin):Prop:=∃(v:Str) (x':Rd),r=(.d (ofD .str v),[(0,some (boxD 125 TR x'))])∧length v≤n∧Adv x x' c
theorem l4T_ok {z:Rd} (hf:fitR z=true) (hz:rdAt z 5000000000000=true):Ok (l4T z) (strG 100 100 z):=by
 have hb:BY z:=byB_iff.1 (andd.1 hf).1;have k0:rdOk z=true:=ok1 hz (by omega);have hpk:=pickV_range (n:=7) hb k0 (by omega);have a1:=Adv.one z;have r1:rdAt (rdGo z 1) 5000000000001=true:=a1.at hz (by omega);have hp:(rdAt (rdGo z 1) 10000000999000&&decide (pickV z 7≤1000))=true:=andd.2 ⟨a1.at hz (by omega),dec_iff.2 (by omega)⟩;have hf1:fitR (rdGo z 1)=true:=by rw[fitR_adv a1];exact hf
 obtain⟨p1,p2⟩:=p_spec_l4Text (rdGo z 1) (pickV z 7) (fitR_fit hf1 r1 (by omega)) (wrap_small (by omega) (by omega)) hp;have a2:Adv z (l4F z).2 8:=(a1.trans p2).le (by omega);have p1:length (l4F z).1≤7:=by have:length (l4F z).1≤(pickV z 7).toNat:=p1;omega
 have r2:rdAt (l4F z).2 5000000000008=true:=a2.at hz (by omega);have hof:(ofV (rdGo (l4F z).2 1) l4tl).length≤9:=ofV_len (by decide);unfold l4T;refine Ok.need k0 (Ok.need hp (Ok.need (ok1 r2 (by omega)) (Ok.br (fun _ => ?_) fun _ => ?_)))
 ·refine Ok.need (andd.2 ⟨(Adv.one _).ok r2 (by omega),rfl⟩) (Ok.need (dec_iff.2 (by omega)) (Ok.ret ⟨_,_,rfl, ?_,((a2.trans (Adv.one _)).trans (Adv.one _)).le (by omega)⟩));rw[List.append_eq,length_append];omega
 ·exact Ok.ret ⟨_,_,rfl,by omega,(a2.trans (Adv.one _)).le (by omega)⟩
theorem e_spec_l4Some (x:Rd) (g:Gram) (hx:Fit TR x)  (hpre:(rdAt x 900000000&&szG 20 g)=true):∃q:(Str)×Rd,evFn (((cxOf Γ36 Tryd.f51.ntmps [] [] [] []).parted [1])) Tryd.f51 true [.one (.ptr 0 0),ofD TG g] [boxD 125 TR x]=some (.d (ofD .str q.1),[(0,some (boxD 125 TR q.2))])∧(length q.1≤100∧Adv x q.2 2000000000):=by
 obtain⟨r,h1,h2⟩:Ok (evFn (((cxOf Γ36 Tryd.f51.ntmps [] [] [] []).parted [1])) Tryd.f51 true [.one (.ptr 0 0),ofD TG g] [boxD 125 TR x]) (fun r=>∃(v:Str) (x':Rd),r=(.d (ofD .str v),[(0,some (boxD 125 TR x'))])∧(length v≤100∧Adv x x' 2000000000)):=by
  have f0:=fit_fitR hx;obtain⟨hp,hg⟩:=andd.1 hpre;have hb:BY x:=byB_iff.1 (andd.1 f0).1;have k0:rdOk x=true:=ok1 hp (by omega);have a1:=Adv.one x;have a2:=Adv.two x;have k1:rdOk (rdGo x 1)=true:=a1.ok hp (by omega);have up:∀ {z:Rd} {c:Int},Adv x z c→c≤1900000000→Ok (l4T z) (strG 100 2000000000 x):=fun {z c} ha hc=>by
   refine(l4T_ok (by rw[fitR_adv ha];exact f0) (ha.at hp (by omega))).mono ?_;rintro r ⟨v,x',e,h1,h2⟩;exact⟨v,x',e,h1,(ha.trans h2).le (by omega)⟩
  rw[y_spec_l4Some];refine Ok.br (fun hok=>Ok.need k0 (Ok.br (fun _ => ?_) fun _=>up a1 (by omega))) fun _=>up (Adv.refl x) (by omega);have hok:okG g=true:=of_decide_eq_true hok;have hn:=numV_le (x:=rdGo x 1) (l:=nT) (a:=3) (b:=6) (by decide) (BY_adv a1 hb) k1 (by decide);obtain⟨c0,e1,_⟩:=bigS_one (okG_big hok);have hpre9:anyPre 9 (rdGo (rdGo x 1) 1) g g.1 (numV (rdGo x 1) nT)=true:=by
   unfold anyPre;simp only[andd,dec_iff,ble_iff];refine⟨a2.at hp (by rw[show pw 9=1000000000 from rfl];omega),hg,by omega,by omega,by rw[e1];simp,by omega⟩
  have hf2:fitR (rdGo (rdGo x 1) 1)=true:=by rw[show rdGo (rdGo x 1) 1=go2 x from rfl,fitR_adv a2];exact f0
  have r2:rdAt (rdGo (rdGo x 1) 1) 900000002=true:=a2.at hp (by omega);obtain⟨t1,t2⟩:=(oneOf_spec (any_all 9 (rdGo (rdGo x 1) 1) g g.1 (numV (rdGo x 1) nT) (fitR_fit hf2 r2 (by omega)) (szG_fit hg (by omega)) (by show g.1.length≤9223372036854775807;rw[e1];simp) (wrap_small (by omega) (by omega)) hpre9)).2;have t1:tOk 9 (anF x g).1=true:=t1;have t2:Adv (rdGo (rdGo x 1) 1) (anF x g).2 (pw 9):=t2;have a3:Adv x (anF x g).2 1000000002:=(a2.trans t2).le (by rw[show pw 9=1000000000 from rfl];omega);have ht:(tOkP 10 (anT x g)&&Nat.ble 10 12)=true:=by
   unfold anT;rw[tEta];exact andd.2 ⟨t1,rfl⟩
  refine Ok.need (andd.2 ⟨k1,rfl⟩) (Ok.need hpre9 (Ok.need ht (Ok.br (fun hc=>Ok.ret ⟨_,_,rfl, ?_,a3.le (by omega)⟩) fun _=>up a3 (by omega))));unfold areSm at hc;rw[b2,andd]at hc;have:=of_decide_eq_true hc.1;omega
 obtain⟨v,x',h2,h3⟩:=h2;exact⟨(v,x'),by rw[h1,h2],h3⟩
def F_spec_l4Some (x:Rd) (g:Gram):(Str)×Rd:=oneOf (fun q:(Str)×Rd=>evFn (((cxOf Γ36 Tryd.f51.ntmps [] [] [] []).parted [1])) Tryd.f51 true [.one (.ptr 0 0),ofD TG g] [boxD 125 TR x]=some (.d (ofD .str q.1),[(0,some (boxD 125 TR q.2))])∧(length q.1≤100∧Adv x q.2 2000000000))
theorem s_spec_l4Some (x:Rd) (g:Gram) (hx:Fit TR x)  (hpre:(rdAt x 900000000&&szG 20 g)=true):Sat Tryd.prog 51 [.one (.ptr 0 0),ofD TG g] [boxD 125 TR x] (.d (ofD .str (F_spec_l4Some x g).1)) [(0,some (boxD 125 TR (F_spec_l4Some x g).2))] :=
 fn_sound (cx:=((cxOf Γ36 Tryd.f51.ntmps [] [] [] []).parted [1])) Tryd.func51 rfl ttOk Γ36ok mixed (fun _ _=>LoopsOk.no fun _=>rfl) (ro:=true) (oneOf_spec (e_spec_l4Some x g hx  hpre)).1
def c_spec_l4Some:Con:=conB 125 TR [TG] fun(x:Rd) (g:Gram)=>(some (rdAt x 900000000&&szG 20 g), .d (ofD .str (F_spec_l4Some x g).1),(F_spec_l4Some x g).2)
theorem k_spec_l4Some:ConOk Tryd.prog 51 c_spec_l4Some:=conB_ok Tryd.call51 fun x hx g _ hqq=>s_spec_l4Some x g hx  (pre_of hqq)
def Γ37:GL:=(51,c_spec_l4Some)::Γ36
theorem Γ37ok:GO Γ37 := .cons k_spec_l4Some Γ36ok
abbrev TBL:Ty := .list .bool
abbrev TILL:Ty := .list TIS
abbrev TA:Ty := .struct (.pair TI64 (.pair TBL TILL))
abbrev Auto:Type:=Int×List Bool×List (List Int)
def goalA (n k:Int):Bool:=decide (-1≤k)&&decide (k<n)
def rowA (n:Int) (l:List Int):Bool:=decide (l.length=4)&&l.all (goalA n)
abbrev nA (a:Auto):Int:=(length a.2.1:Int)
def okA (a:Auto):Bool:=(decide (1≤nA a)&&decide (nA a≤6)&&decide ((length a.2.2:Int)=nA a)&&decide (0≤a.1)&&decide (a.1<nA a))&&List.all a.2.2 (rowA (nA a))
def cb_sao:Cx:=(cxOf Γ37 Tryd.f22.ntmps [(10,[1,3,4,5]),(5,[1,3,4])] [(0,[]),(1,[1,3,4]),(2,[1,3,4]),(3,[1,3,4,5]),(1000000,[2])] [] []).parted [12]
abbrev row0:List Int:=[]
abbrev rowI (a:Auto) (i:Int):List Int:=getD a.2.2 i.toNat row0
abbrev hpA (a:Auto):Heap:=[(500000,some (boxD 49 TA a))]
theorem x_sao1 (a:Auto) (n i k:Int) (R:St→Option Fin) (K:Cont):evC (cb_sao.withLoops (look [])) (loopOf Tryd.f22 1) ⟨[(1, kp0),(3,vI n),(4,vI i),(5,vI k)],hpA a⟩ (onward (headAt (cb_sao.withLoops (look [])) 10) R K) =
  branch (decide (k<4)) (need (inb i (length a.2.2)) (need (inb k (rowI a i).length) (branch (decide (decide ((rowI a i).getD k.toNat 0<(-1))=false)) (
   need (inb i (length a.2.2)) (need (inb k (rowI a i).length) (branch (decide (n≤(rowI a i).getD k.toNat 0)) (K .ret ⟨[(2,vB false)],[]⟩) (R ⟨[(1, kp0),(3,vI n),(4,vI i),(5,vI (W64 (k+1)))],hpA a⟩)))) (K .ret ⟨[(2,vB false)],[]⟩)))) (K (.exit 2) ⟨[(1, kp0),(3,vI n),(4,vI i)],hpA a⟩):=by kernel_rfl
def cx0_sao1:Cx:=(cb_sao).withLoops (look [])
def sh_sao1:Sh:=([(1, .ptr 500000 0),(3, .d TI64),(4, .d TI64),(5, .d TI64)],[(500000, .box 49 TA)])
abbrev st_sao1 (n i k:Int) (a:Auto):St:=⟨[(1, kp0),(3,vI n),(4,vI i),(5,vI k)],[(500000,some (boxD 49 TA a))]⟩
def pre_sao1 (_n i k:Int) (a:Auto):Bool:=decide (0≤k)&&(inb i (length a.2.2)&&decide ((rowI a i).length=4))
def res_sao1 (n i k:Int) (a:Auto) (K:Cont):Option Fin:=branch (List.all ((rowI a i).drop k.toNat) (goalA n)) (K (.exit 2) ⟨[(1, kp0),(3,vI n),(4,vI i)],hpA a⟩) (K .ret ⟨[(2,vB false)],[]⟩)
def mu_sao1 (_n _i k:Int) (_a:Auto):Nat:=4-k.toNat
theorem r_sao1 (n i k:Int) (a:Auto) (K:Cont) (hI:pre_sao1 n i k a=true):(∀R:St→Option Fin,evC cx0_sao1 (loopOf Tryd.f22 1) (st_sao1 n i k a) (onward (headAt cx0_sao1 10) R K)=res_sao1 n i k a K) ∨
  (∃(n' i' k':Int) (a':Auto),pre_sao1 n' i' k' a'=true∧mu_sao1 n' i' k' a'<mu_sao1 n i k a∧res_sao1 n' i' k' a' K=res_sao1 n i k a K∧∀R:St→Option Fin,evC cx0_sao1 (loopOf Tryd.f22 1) (st_sao1 n i k a) (onward (headAt cx0_sao1 10) R K)=R (st_sao1 n' i' k' a')):=by
 have hx:=fun R=>x_sao1 a n i k R K;simp only[pre_sao1,andd,dec_iff]at hI;obtain⟨h0,h1,h2⟩:=hI
 by_cases hk:k<4
 ·have hn:k.toNat<(rowI a i).length:=by omega
  have hd:(rowI a i).drop k.toNat=(rowI a i).getD k.toNat 0::(rowI a i).drop (k+1).toNat:=by
   rw[drop_eq_getElem_cons hn,show (k+1).toNat=k.toNat+1 by omega,zG,zE hn];rfl
  have w:W64 (k+1)=k+1:=wrap_small (by omega) (by omega);rw[zT hk,h1,inb_ok h0 (by omega:k<((rowI a i).length:Int)),w]at hx;have hg:List.all ((rowI a i).drop k.toNat) (goalA n)=(goalA n ((rowI a i).getD k.toNat 0)&&List.all ((rowI a i).drop (k+1).toNat) (goalA n)):=by rw[hd,List.all_cons]
  generalize (rowI a i).getD k.toNat 0=e at hx hg
  unfold goalA at hg
  by_cases c1:e < -1
  ·left;intro R;refine(hx R).trans ?_;rw[zT c1];rw[zF (by omega:¬(-1≤e)),Bool.false_and,Bool.false_and]at hg;simp only[res_sao1];rw[show List.all ((rowI a i).drop k.toNat) (goalA n)=false from hg];rfl
  ·rw[zF c1]at hx;rw[zT (by omega : -1≤e),Bool.true_and]at hg
   by_cases c2:n≤e
   ·left;intro R;refine(hx R).trans ?_;rw[zT c2];rw[zF (by omega:¬e<n),Bool.false_and]at hg;simp only[res_sao1];rw[show List.all ((rowI a i).drop k.toNat) (goalA n)=false from hg];rfl
   ·rw[zF c2]at hx;rw[zT (by omega:e<n),Bool.true_and]at hg;right;refine⟨n,i,k+1,a, ?_, ?_, ?_,fun R=>hx R⟩
    ·simp only[pre_sao1,andd,dec_iff];exact⟨by omega,h1,h2⟩
    ·simp only[mu_sao1];omega
    ·simp only[res_sao1];rw[show List.all ((rowI a i).drop k.toNat) (goalA n)=List.all ((rowI a i).drop (k+1).toNat) (goalA n)from hg]
 ·left;intro R;refine(hx R).trans ?_;rw[zF hk];have e:(rowI a i).drop k.toNat=[]:=drop_eq_nil_of_le (by omega);simp only[res_sao1,e];rfl
def g_sao1:St→Cont→Option Fin:=gP sh_sao1 (fun v=>match v with | ((n,i,k,()),(a,()))=>pre_sao1 n i k a) (fun v K=>match v with | ((n,i,k,()),(a,()))=>res_sao1 n i k a K)
def L_sao1:LpL:=(10,g_sao1)::[]
theorem l_sao1 {L:LpL} (n:Nat) (h1:L.drop n=[]) (h2:idsFree (L.take n) (loopOf Tryd.f22 1)=true):LoopsTo g_sao1 (cb_sao) (loopOf Tryd.f22 1) 10 L :=
 with_drop h1 h2 (gP_ok (fun v=>match v with | ((n,i,k,()),(a,()))=>mu_sao1 n i k a) fun v K hI=>by
  obtain⟨⟨n,i,k,⟨⟩⟩,⟨a,⟨⟩⟩⟩:=v;exact(r_sao1 n i k a K hI).imp id fun⟨n',i',k',a',h⟩=>⟨((n',i',k',()),(a',())),h⟩)
theorem x_sao (a:Auto) (n i:Int) (R:St→Option Fin) (K:Cont):evC (cb_sao.withLoops (look L_sao1)) (loopOf Tryd.f22 0) ⟨[(1, kp0),(3,vI n),(4,vI i)],hpA a⟩ (onward (headAt (cb_sao.withLoops (look L_sao1)) 5) R K) =
  branch (decide (i<n)) (need (inb i (length a.2.2)) (branch (!decide (((rowI a i).length:Int)=4)) (K .ret ⟨[(2,vB false)],[]⟩) (need (pre_sao1 n i 0 a) (branch (List.all (rowI a i) (goalA n)) (R ⟨[(1, kp0),(3,vI n),(4,vI (W64 (i+1)))],hpA a⟩) (K .ret ⟨[(2,vB false)],[]⟩))))) (K (.exit 0) ⟨[],[]⟩):=by kernel_rfl
def cx0_sao:Cx:=(cb_sao).withLoops (look L_sao1)
def sh_sao:Sh:=([(1, .ptr 500000 0),(3, .d TI64),(4, .d TI64)],[(500000, .box 49 TA)])
abbrev st_sao (n i:Int) (a:Auto):St:=⟨[(1, kp0),(3,vI n),(4,vI i)],[(500000,some (boxD 49 TA a))]⟩
def pre_sao (n i:Int) (a:Auto):Bool:=decide (0≤i)&&(decide (n=(length a.2.2:Int))&&decide (n≤6))
def res_sao (n i:Int) (a:Auto) (K:Cont):Option Fin:=branch (List.all (List.drop i.toNat a.2.2) (rowA n)) (K (.exit 0) ⟨[],[]⟩) (K .ret ⟨[(2,vB false)],[]⟩)
def mu_sao (_n i:Int) (a:Auto):Nat:=length a.2.2-i.toNat
theorem r_sao (n i:Int) (a:Auto) (K:Cont) (hI:pre_sao n i a=true):(∀R:St→Option Fin,evC cx0_sao (loopOf Tryd.f22 0) (st_sao n i a) (onward (headAt cx0_sao 5) R K)=res_sao n i a K) ∨
  (∃(n' i':Int) (a':Auto),pre_sao n' i' a'=true∧mu_sao n' i' a'<mu_sao n i a∧res_sao n' i' a' K=res_sao n i a K∧∀R:St→Option Fin,evC cx0_sao (loopOf Tryd.f22 0) (st_sao n i a) (onward (headAt cx0_sao 5) R K)=R (st_sao n' i' a')):=by
 have hx:=fun R=>x_sao a n i R K;simp only[pre_sao,andd,dec_iff]at hI;obtain⟨h0,rfl,h1⟩:=hI
 by_cases hi:i<(length a.2.2:Int)
 ·have hn:i.toNat<length a.2.2:=by omega
  have hd:List.drop i.toNat a.2.2=rowI a i::List.drop (i+1).toNat a.2.2:=by
   rw[drop_eq_getElem_cons hn,show (i+1).toNat=i.toNat+1 by omega];show _=getD a.2.2 i.toNat row0::_;rw[zG,zE hn];rfl
  have w:W64 (i+1)=i+1:=wrap_small (by omega) (by omega);have hg:List.all (List.drop i.toNat a.2.2) (rowA (length a.2.2:Int))=(rowA (length a.2.2:Int) (rowI a i)&&List.all (List.drop (i+1).toNat a.2.2) (rowA (length a.2.2:Int))):=by rw[hd,List.all_cons]
  unfold rowA at hg;rw[zT hi,inb_ok h0 hi,w]at hx
  by_cases c1:(rowI a i).length=4
  ·have kp:pre_sao1 (length a.2.2:Int) i 0 a=true:=by
    simp only[pre_sao1,andd,dec_iff];exact⟨Int.le_refl 0,inb_ok h0 hi,c1⟩
   rw[zT (by omega:((rowI a i).length:Int)=4),kp]at hx;rw[zT c1,Bool.true_and]at hg
   cases c2:List.all (rowI a i) (goalA (length a.2.2:Int))
   ·left;intro R;refine(hx R).trans ?_;rw[c2,Bool.false_and]at hg;simp only[res_sao];rw[show List.all (List.drop i.toNat a.2.2) (rowA (length a.2.2:Int))=false from hg,c2];rfl
   ·right;rw[c2,Bool.true_and]at hg;refine⟨(length a.2.2:Int),i+1,a, ?_, ?_, ?_,fun R=>(hx R).trans ?_⟩
    ·simp only[pre_sao,andd,dec_iff];exact⟨by omega,trivial,h1⟩
    ·simp only[mu_sao];omega
    ·simp only[res_sao];rw[show List.all (List.drop i.toNat a.2.2) (rowA (length a.2.2:Int))=List.all (List.drop (i+1).toNat a.2.2) (rowA (length a.2.2:Int))from hg]
    ·rw[c2];rfl
  ·left;intro R;refine(hx R).trans ?_;rw[zF (by omega:¬((rowI a i).length:Int)=4)];rw[zF c1,Bool.false_and,Bool.false_and]at hg;simp only[res_sao];rw[show List.all (List.drop i.toNat a.2.2) (rowA (length a.2.2:Int))=false from hg];rfl
 ·left;intro R;refine(hx R).trans ?_;rw[zF hi];have e:List.drop i.toNat a.2.2=[]:=drop_eq_nil_of_le (by omega);simp only[res_sao,e];rfl
def g_sao:St→Cont→Option Fin:=gP sh_sao (fun v=>match v with | ((n,i,()),(a,()))=>pre_sao n i a) (fun v K=>match v with | ((n,i,()),(a,()))=>res_sao n i a K)
def L_sao:LpL:=(5,g_sao)::L_sao1
def cx_sao:Cx:=(cb_sao).withLoops (look L_sao)
theorem l_sao {L:LpL} (n:Nat) (h1:L.drop n=L_sao1) (h2:idsFree (L.take n) (loopOf Tryd.f22 0)=true):LoopsTo g_sao (cb_sao) (loopOf Tryd.f22 0) 5 L :=
 with_drop h1 h2 (gP_ok (fun v=>match v with | ((n,i,()),(a,()))=>mu_sao n i a) fun v K hI=>by
  obtain⟨⟨n,i,⟨⟩⟩,⟨a,⟨⟩⟩⟩:=v;exact(r_sao n i a K hI).imp id fun⟨n',i',a',h⟩=>⟨((n',i',()),(a',())),h⟩)
def badA (a:Auto):Bool:=bif bif bif bif decide (nA a<1)then true else decide (6<nA a)then true else !decide ((length a.2.2:Int)=nA a)then true else decide (a.1<0)then true else decide (nA a≤a.1)
theorem okA_bad {a:Auto} (h:badA a=true):okA a=false:=by
 unfold badA at h;rw[b3,b3,b3,b3,Bool.or_eq_true,Bool.or_eq_true,Bool.or_eq_true,Bool.or_eq_true,dec_iff,dec_iff,dec_iff,dec_iff,Bool.not_eq_true',decide_eq_false_iff_not]at h
 cases ho:okA a
 ·rfl
 ·unfold okA at ho;rw[andd,andd,andd,andd,andd,dec_iff,dec_iff,dec_iff,dec_iff,dec_iff]at ho;omega
theorem okA_good {a:Auto} (h:badA a=false):okA a=List.all a.2.2 (rowA (nA a))∧(length a.2.2:Int)=nA a∧nA a≤6:=by
 unfold badA at h;rw[b3,b3,b3,b3,Bool.or_eq_false_iff,Bool.or_eq_false_iff,Bool.or_eq_false_iff,Bool.or_eq_false_iff,decide_eq_false_iff_not,decide_eq_false_iff_not,decide_eq_false_iff_not,decide_eq_false_iff_not,Bool.not_eq_false',dec_iff]at h;obtain⟨⟨⟨⟨h1,h2⟩,h3⟩,h4⟩,h5⟩:=h;refine⟨?_,h3,by omega⟩;unfold okA;rw[zT (by omega:1≤nA a),zT (by omega:nA a≤6),zT h3,zT (by omega:0≤a.1),zT (by omega:a.1<nA a)];rfl
theorem y_spec_AutoOk (a:Auto):evFn cx_sao Tryd.f22 true [ofD TA a] []=branch (badA a) (some (vB false,[])) (need (pre_sao (nA a) 0 a) (branch (List.all a.2.2 (rowA (nA a))) (some (vB true,[])) (some (vB false,[])))):=by kernel_rfl
theorem s_spec_AutoOk (a:Auto) (_ha:Fit TA a):Sat Tryd.prog 22 [ofD TA a] [] (.d (ofD .bool (okA a))) [] :=
 fn_sound (cx:=cx_sao) Tryd.func22 rfl ttOk Γ37ok mixed (fun c hc=>LoopsOk.all (l:=[(5,loopOf Tryd.f22 0),(10,loopOf Tryd.f22 1)]) (by cases hc;kernel_rfl) ⟨atLoop rfl (l_sao 1 rfl (by kernel_rfl)),atLoop rfl (l_sao1 2 rfl (by kernel_rfl)),trivial⟩) (ro:=true) (by
  rw[y_spec_AutoOk]
  cases hb:badA a
  ·obtain ⟨h1,h2,h3⟩:=okA_good hb;have kp:pre_sao (nA a) 0 a=true:=by
    simp only[pre_sao,andd,dec_iff];exact⟨Int.le_refl 0,h2.symm,h3⟩
   rw[kp,h1]
   cases List.all a.2.2 (rowA (nA a))<;>rfl
  ·rw[okA_bad hb];rfl)
def c_spec_AutoOk:Con:=conT [TA] fun(a:Auto)=>(none, .d (ofD .bool (okA a)))
theorem k_spec_AutoOk:ConOk Tryd.prog 22 c_spec_AutoOk:=conT_ok Tryd.call22 fun a ha _=>s_spec_AutoOk a ha
def Γ38:GL:=(22,c_spec_AutoOk)::Γ37
theorem Γ38ok:GO Γ38 := .cons k_spec_AutoOk Γ37ok
theorem y_impl_Auto_isGoal (a:Auto) (k:Int):evFn ((cxOf Γ38 Tryd.f56.ntmps [] [] [] [])) Tryd.f56 true [ofD TA a,ofD TI64 k] []=(
some ((vB (bif decide (Int.neg 1≤k)then decide (k<(length a.snd.fst:Int))else false)),[])):=by kernel_rfl
theorem s_impl_Auto_isGoal (a:Auto) (_ha:Fit TA a) (k:Int) (_hk:Fit TI64 k):Sat Tryd.prog 56 [ofD TA a,ofD TI64 k] [] (.d (ofD .bool (goalA (nA a) k))) [] :=
 fn_sound (cx:=cxOf Γ38 Tryd.f56.ntmps [] [] [] []) Tryd.func56 rfl ttOk Γ38ok mixed (fun _ _=>LoopsOk.no fun _=>rfl) (ro:=true) (by
  rw[y_impl_Auto_isGoal];unfold goalA;rw[b2];rfl)
def c_impl_Auto_isGoal:Con:=conT [TA,TI64] fun(a:Auto) (k:Int)=>(none, .d (ofD .bool (goalA (nA a) k)))
theorem k_impl_Auto_isGoal:ConOk Tryd.prog 56 c_impl_Auto_isGoal:=conT_ok Tryd.call56 fun a ha k hk _=>s_impl_Auto_isGoal a ha k hk
def Γ39:GL:=(56,c_impl_Auto_isGoal)::Γ38
theorem Γ39ok:GO Γ39 := .cons k_impl_Auto_isGoal Γ38ok
abbrev boxA (a:Auto):Obj:=boxD 49 TA a
def conClo (t:Ty) (p:Auto→Den t→Bool):Con:=⟨false,fun ds os=>match ds,os with
 | [d, .one (.ptr 0 0)],[.box u [.r (.v (.int .i64 b)), .r (.li .bool es), .r (.li (.list (.int .i64)) gs)]]=>match asD t d,Nat.beq u 49 with
  |some x,true=>some (none, .d (ofD .bool (p (b,es,gs) x)),[(0,some (boxA (b,es,gs)))])
  |_,_=>none
 |_,_=>none⟩
theorem conClo_ok {f:FuncId} {t:Ty} {p:Auto→Den t→Bool} (hin:∀args w,(callFunc f args).run Tryd.prog w = .ok (.enter f args) w) (he:∀(a:Auto) (x:Den t),Fit t x→Sat Tryd.prog f [ofD t x, .one (.ptr 0 0)] [boxA a] (.d (ofD .bool (p a x))) [(0,some (boxA a))]):ConOk Tryd.prog f (conClo t p):=by
 refine⟨hin,fun ds os c x objs hc hok => ?_⟩;unfold conClo at hc;dsimp only at hc
 split at hc
 ·rename_i d u b es gs
  split at hc
  ·rename_i x e1 e3
   cases hc
   have e3:=zB e3;subst e3;intro w F β args H hds
   cases hds with | cons h1 h2 =>
   have hr:=asD_sound e1 h1 (hOf [boxA (b,es,gs)]) β;exact he (b,es,gs) x (RepD_fit hr) w F β _ H (.cons hr h2)
  ·cases hc
 ·cases hc
def conLC (t:Ty) (g:FuncId) (r:Ty) (p:Auto→List (Den t)→Den r):Con:=⟨false,fun ds os=>match ds,os with
 | [d, .one (.fn g' [0])],[.box u [.r (.v (.int .i64 b)), .r (.li .bool es), .r (.li (.list (.int .i64)) gs)]]=>match asD (.list t) d,Nat.beq u 49&&Nat.beq g' g with
  |some x,true=>some (none, .d (ofD r (p (b,es,gs) x)),[(0,some (boxA (b,es,gs)))])
  |_,_=>none
 |_,_=>none⟩
theorem conLC_ok {f g:FuncId} {t r:Ty} {p:Auto→List (Den t)→Den r} (hin:∀args w,(callFunc f args).run Tryd.prog w = .ok (.enter f args) w) (he:∀(a:Auto) (x:List (Den t)),Fit (.list t) x→Sat Tryd.prog f [ofD (.list t) x, .one (.fn g [0])] [boxA a] (.d (ofD r (p a x))) [(0,some (boxA a))]):ConOk Tryd.prog f (conLC t g r p):=by
 refine⟨hin,fun ds os c x objs hc hok => ?_⟩;unfold conLC at hc;dsimp only at hc
 split at hc
 ·rename_i d g' u b es gs
  split at hc
  ·rename_i x e1 e3
   cases hc
   obtain⟨e3,e4⟩:=andd.1 e3;have e3:=zB e3;have e4:=zB e4;subst e3 e4;intro w F β args H hds
   cases hds with | cons h1 h2 =>
   have hr:=asD_sound e1 h1 (hOf [boxA (b,es,gs)]) β;exact he (b,es,gs) x (RepD_fit hr) w F β _ H (.cons hr h2)
  ·cases hc
 ·cases hc
def ixG {α:Type} (p:α→Bool):List α→Int→Int
 | [],_ => -1
 |x::l,k=>bif p x then k else ixG p l (k+1)
theorem ixG_any {α:Type} {p:α→Bool}:∀ {l:List α} {k:Int},0≤k→decide (0≤ixG p l k)=List.any l p
 | [],_,_=>rfl
 |x::l,k,h=>by
  rw[List.any_cons];show decide (0≤(bif p x then k else ixG p l (k+1)))=_
  cases p x
  ·rw[cond_false,Bool.false_or];exact ixG_any (by omega)
  ·rw[cond_true,Bool.true_or];exact zT h
def pG (a:Auto) (k:Int):Bool := !goalA (nA a) k
theorem y_clo2 (a:Auto) (k:Int):evFn (cxOf Γ39 Tryd.f55.ntmps [] [] [] []) Tryd.f55 false [ofD TI64 k, .one (.ptr 0 0)] [boxA a]=some (vB (pG a k),[(0,some (boxA a))]):=by kernel_rfl
def c_impl_AutoOk_1_1:Con:=conClo TI64 pG
theorem k_impl_AutoOk_1_1:ConOk Tryd.prog 55 c_impl_AutoOk_1_1:=conClo_ok Tryd.call55 fun a (k:Int) _ =>
 fn_sound (cx:=cxOf Γ39 Tryd.f55.ntmps [] [] [] []) Tryd.func55 rfl ttOk Γ39ok mixed (fun _ _=>LoopsOk.no fun _=>rfl) (ro:=false) (y_clo2 a k)
def Γ40:GL:=(55,c_impl_AutoOk_1_1)::Γ39
theorem Γ40ok:GO Γ40 := .cons k_impl_AutoOk_1_1 Γ39ok
def cb_ixi:Cx:=cxOf Γ40 Tryd.f96.ntmps [(2,[0,1,7,8])] [(0,[]),(1,[0,1,7,8]),(1000000,[4])] [] []
abbrev envI (l:List Int) (n i:Int):List (Nat×T):=[(0, .d (ofD TIS l)),(1, .d (.one (.fn 55 [0]))),(7,vI n),(8,vI i)]
theorem x_ixi (l:List Int) (a:Auto) (n i:Int) (R:St→Option Fin) (K:Cont):evC (cb_ixi.withLoops (look [])) (loopOf Tryd.f96 0) ⟨envI l n i,[(0,some (boxA a))]⟩ (onward (headAt (cb_ixi.withLoops (look [])) 2) R K) =
  branch (decide (i<n)) (need (inb i l.length) (branch (pG a (l.getD i.toNat 0)) (K .ret ⟨[(4,vI i)],[(0,some (boxA a))]⟩) (R ⟨envI l n (W64 (i+1)),[(0,some (boxA a))]⟩))) (K (.exit 0) ⟨[],[(0,some (boxA a))]⟩):=by kernel_rfl
theorem il_at {l:List Int} {i:Int} (h0:0≤i) (h1:i<(l.length:Int)):l.drop i.toNat=l.getD i.toNat 0::l.drop (i+1).toNat:=by
 have hn:i.toNat<l.length:=by omega
 rw[drop_eq_getElem_cons hn,show (i+1).toNat=i.toNat+1 by omega,zG,zE hn];rfl
def cx0_ixi:Cx:=(cb_ixi).withLoops (look [])
def sh_ixi:Sh:=([(0, .d TIS),(1, .fn 55 [0]),(7, .d TI64),(8, .d TI64)],[(0, .box 49 TA)])
abbrev st_ixi (l:List Int) (n i:Int) (a:Auto):St:=⟨[(0, .d (ofD TIS l)),(1, .d (.one (.fn 55 [0]))),(7,vI n),(8,vI i)],[(0,some (boxD 49 TA a))]⟩
def pre_ixi (l:List Int) (n i:Int) (_a:Auto):Bool:=decide (0≤i)&&(decide (n=(length l:Int))&&decide (n≤9223372036854775807))
def res_ixi (l:List Int) (_n i:Int) (a:Auto) (K:Cont):Option Fin:=branch (List.any (List.drop i.toNat l) (pG a)) (K .ret ⟨[(4,vI (ixG (pG a) (List.drop i.toNat l) i))],[(0,some (boxA a))]⟩) (K (.exit 0) ⟨[],[(0,some (boxA a))]⟩)
def mu_ixi (l:List Int) (_n i:Int) (_a:Auto):Nat:=length l-i.toNat
theorem r_ixi (l:List Int) (n i:Int) (a:Auto) (K:Cont) (hI:pre_ixi l n i a=true):(∀R:St→Option Fin,evC cx0_ixi (loopOf Tryd.f96 0) (st_ixi l n i a) (onward (headAt cx0_ixi 2) R K)=res_ixi l n i a K) ∨
  (∃(l':List Int) (n' i':Int) (a':Auto),pre_ixi l' n' i' a'=true∧mu_ixi l' n' i' a'<mu_ixi l n i a∧res_ixi l' n' i' a' K=res_ixi l n i a K∧∀R:St→Option Fin,evC cx0_ixi (loopOf Tryd.f96 0) (st_ixi l n i a) (onward (headAt cx0_ixi 2) R K)=R (st_ixi l' n' i' a')):=by
 have hx:=fun R=>x_ixi l a n i R K;simp only[pre_ixi,andd,dec_iff]at hI;obtain⟨h0,rfl,h1⟩:=hI
 by_cases hi:i<(length l:Int)
 ·have hd:=il_at h0 hi;have w:W64 (i+1)=i+1:=wrap_small (by omega) (by omega);rw[zT hi,inb_ok h0 hi,w]at hx
  generalize getD l i.toNat 0=e at hx hd
  have hg:List.any (List.drop i.toNat l) (pG a)=(pG a e||List.any (List.drop (i+1).toNat l) (pG a)):=by rw[hd,List.any_cons]
  have hg2:ixG (pG a) (List.drop i.toNat l) i=bif pG a e then i else ixG (pG a) (List.drop (i+1).toNat l) (i+1):=by rw[hd];rfl
  cases hc:pG a e
  ·rw[hc,Bool.false_or]at hg;rw[hc,cond_false]at hg2;right;refine⟨l,(length l:Int),i+1,a, ?_, ?_, ?_,fun R=>(hx R).trans ?_⟩
   ·simp only[pre_ixi,andd,dec_iff];exact⟨by omega,trivial,h1⟩
   ·simp only[mu_ixi];omega
   ·simp only[res_ixi,hg,hg2]
   ·rw[hc];rfl
  ·rw[hc,Bool.true_or]at hg;rw[hc,cond_true]at hg2;left;intro R;refine(hx R).trans ?_;rw[hc];simp only[res_ixi,hg,hg2];rfl
 ·left;intro R;refine(hx R).trans ?_;rw[zF hi];have e:List.drop i.toNat l=[]:=drop_eq_nil_of_le (by omega);simp only[res_ixi,e];rfl
def g_ixi:St→Cont→Option Fin:=gP sh_ixi (fun v=>match v with | ((l,n,i,()),(a,()))=>pre_ixi l n i a) (fun v K=>match v with | ((l,n,i,()),(a,()))=>res_ixi l n i a K)
def L_ixi:LpL:=(2,g_ixi)::[]
def cx_ixi:Cx:=(cb_ixi).withLoops (look L_ixi)
theorem l_ixi {L:LpL} (n:Nat) (h1:L.drop n=[]) (h2:idsFree (L.take n) (loopOf Tryd.f96 0)=true):LoopsTo g_ixi (cb_ixi) (loopOf Tryd.f96 0) 2 L :=
 with_drop h1 h2 (gP_ok (fun v=>match v with | ((l,n,i,()),(a,()))=>mu_ixi l n i a) fun v K hI=>by
  obtain⟨⟨l,n,i,⟨⟩⟩,⟨a,⟨⟩⟩⟩:=v;exact(r_ixi l n i a K hI).imp id fun⟨l',n',i',a',h⟩=>⟨((l',n',i',()),(a',())),h⟩)
theorem ixG_none {α:Type} {p:α→Bool}:∀ {l:List α} {k:Int},List.any l p=false→ixG p l k = -1
 | [],_,_=>rfl
 |x::l,k,h=>by
  rw[List.any_cons,Bool.or_eq_false_iff]at h;show(bif p x then k else ixG p l (k+1)) = -1;rw[h.1,cond_false];exact ixG_none h.2
theorem y_ixi (l:List Int) (a:Auto):evFn cx_ixi Tryd.f96 false [ofD TIS l, .one (.fn 55 [0])] [boxA a] =
  need (pre_ixi l (length l:Int) 0 a) (branch (List.any l (pG a)) (some (vI (ixG (pG a) l 0),[(0,some (boxA a))])) (some (vI (-1),[(0,some (boxA a))]))):=by kernel_rfl
def c_slices_IndexFunc_int_int:Con:=conLC TI64 55 TI64 fun a (l:List Int)=>(ixG (pG a) l 0:Int)
theorem k_slices_IndexFunc_int_int:ConOk Tryd.prog 96 c_slices_IndexFunc_int_int:=conLC_ok Tryd.call96 fun a (l:List Int) hl =>
 fn_sound (cx:=cx_ixi) Tryd.func96 rfl ttOk Γ40ok mixed (fun c hc=>LoopsOk.all (l:=[(2,loopOf Tryd.f96 0)]) (by cases hc;kernel_rfl) ⟨atLoop rfl (l_ixi 1 rfl (by kernel_rfl)),trivial⟩) (ro:=false) (by
  have kp:pre_ixi l (length l:Int) 0 a=true:=by
   simp only[pre_ixi,andd,dec_iff];exact⟨Int.le_refl 0,trivial,by have:l.length≤9223372036854775807:=hl.1;omega⟩
  refine(y_ixi l a).trans ?_;rw[kp]
  cases hc:List.any l (pG a)
  ·rw[ixG_none hc];rfl
  ·rfl)
def Γ41:GL:=(96,c_slices_IndexFunc_int_int)::Γ40
theorem Γ41ok:GO Γ41 := .cons k_slices_IndexFunc_int_int Γ40ok
theorem y_cfi (l:List Int) (a:Auto):evFn (cxOf Γ41 Tryd.f54.ntmps [] [] [] []) Tryd.f54 false [ofD TIS l, .one (.fn 55 [0])] [boxA a] =
  some (vB (decide (0≤ixG (pG a) l 0)),[(0,some (boxA a))]):=by kernel_rfl
def c_slices_ContainsFunc_int_int:Con:=conLC TI64 55 .bool fun a (l:List Int)=>(List.any l (pG a):Bool)
theorem k_slices_ContainsFunc_int_int:ConOk Tryd.prog 54 c_slices_ContainsFunc_int_int:=conLC_ok Tryd.call54 fun a (l:List Int) _ =>
 fn_sound (cx:=cxOf Γ41 Tryd.f54.ntmps [] [] [] []) Tryd.func54 rfl ttOk Γ41ok mixed (fun _ _=>LoopsOk.no fun _=>rfl) (ro:=false) (by
  rw[y_cfi,ixG_any (Int.le_refl 0)];rfl)
def Γ42:GL:=(54,c_slices_ContainsFunc_int_int)::Γ41
theorem Γ42ok:GO Γ42 := .cons k_slices_ContainsFunc_int_int Γ41ok
theorem y_clo1 (a:Auto) (l:List Int):evFn ((cxOf Γ42 Tryd.f53.ntmps [] [] [] []).parted [1]) Tryd.f53 false [ofD TIS l, .one (.ptr 0 0)] [boxA a]=(
branch (decide ((!decide ((l.length:Int)=4))=false)) ( some ((vB (bif false then true else l.any (pG a))),[(0,(.some (.box 49 [(.r (.v (Value.int IntKind.i64 a.fst))),(.r (.li (Ty.bool) (a.snd.fst))),(.r (.li TIS (a.snd.snd)))])))])) ( some ((vB true),[(0,(.some (.box 49 [(.r (.v (Value.int IntKind.i64 a.fst))),(.r (.li (Ty.bool) (a.snd.fst))),(.r (.li TIS (a.snd.snd)))])))]))):=by kernel_rfl
theorem any_nall {l:List Int} {p:Int→Bool}:List.any l (fun k => !p k) = !List.all l p:=by
 induction l with
 |nil=>rfl
 |cons k l ih=>rw[List.any_cons,List.all_cons,ih];cases p k<;>rfl
def pR (a:Auto) (l:List Int):Bool := !rowA (nA a) l
def c_impl_AutoOk_1:Con:=conClo TIS pR
theorem k_impl_AutoOk_1:ConOk Tryd.prog 53 c_impl_AutoOk_1:=conClo_ok Tryd.call53 fun a (l:List Int) _ =>
 fn_sound (cx:=((cxOf Γ42 Tryd.f53.ntmps [] [] [] []).parted [1])) Tryd.func53 rfl ttOk Γ42ok mixed (fun _ _=>LoopsOk.no fun _=>rfl) (ro:=false) (by
  refine(y_clo1 a l).trans ?_;have e:List.any l (pG a) = !List.all l (goalA (nA a)):=any_nall;rw[e];unfold pR rowA
  by_cases h:l.length=4
  ·rw[zT h,zT (by omega:(l.length:Int)=4)];rfl
  ·rw[zF h,zF (by omega:¬(l.length:Int)=4)];rfl)
def Γ43:GL:=(53,c_impl_AutoOk_1)::Γ42
theorem Γ43ok:GO Γ43 := .cons k_impl_AutoOk_1 Γ42ok
def cb_ixr:Cx:=cxOf Γ43 Tryd.f95.ntmps [(2,[0,1,7,8])] [(0,[]),(1,[0,1,7,8]),(1000000,[4])] [] []
abbrev envR (l:List (List Int)) (n i:Int):List (Nat×T):=[(0, .d (ofD TILL l)),(1, .d (.one (.fn 53 [0]))),(7,vI n),(8,vI i)]
theorem x_ixr (l:List (List Int)) (a:Auto) (n i:Int) (R:St→Option Fin) (K:Cont):evC (cb_ixr.withLoops (look [])) (loopOf Tryd.f95 0) ⟨envR l n i,[(0,some (boxA a))]⟩ (onward (headAt (cb_ixr.withLoops (look [])) 2) R K) =
  branch (decide (i<n)) (need (inb i l.length) (branch (pR a (l.getD i.toNat row0)) (K .ret ⟨[(4,vI i)],[(0,some (boxA a))]⟩) (R ⟨envR l n (W64 (i+1)),[(0,some (boxA a))]⟩))) (K (.exit 0) ⟨[],[(0,some (boxA a))]⟩):=by kernel_rfl
theorem ill_at {l:List (List Int)} {i:Int} (h0:0≤i) (h1:i<(l.length:Int)):l.drop i.toNat=l.getD i.toNat row0::l.drop (i+1).toNat:=by
 have hn:i.toNat<l.length:=by omega
 rw[drop_eq_getElem_cons hn,show (i+1).toNat=i.toNat+1 by omega,zG,zE hn];rfl
def cx0_ixr:Cx:=(cb_ixr).withLoops (look [])
def sh_ixr:Sh:=([(0, .d TILL),(1, .fn 53 [0]),(7, .d TI64),(8, .d TI64)],[(0, .box 49 TA)])
abbrev st_ixr (l:List (List Int)) (n i:Int) (a:Auto):St:=⟨[(0, .d (ofD TILL l)),(1, .d (.one (.fn 53 [0]))),(7,vI n),(8,vI i)],[(0,some (boxD 49 TA a))]⟩
def pre_ixr (l:List (List Int)) (n i:Int) (_a:Auto):Bool:=decide (0≤i)&&(decide (n=(length l:Int))&&decide (n≤9223372036854775807))
def res_ixr (l:List (List Int)) (_n i:Int) (a:Auto) (K:Cont):Option Fin:=branch (List.any (List.drop i.toNat l) (pR a)) (K .ret ⟨[(4,vI (ixG (pR a) (List.drop i.toNat l) i))],[(0,some (boxA a))]⟩) (K (.exit 0) ⟨[],[(0,some (boxA a))]⟩)
def mu_ixr (l:List (List Int)) (_n i:Int) (_a:Auto):Nat:=length l-i.toNat
theorem r_ixr (l:List (List Int)) (n i:Int) (a:Auto) (K:Cont) (hI:pre_ixr l n i a=true):(∀R:St→Option Fin,evC cx0_ixr (loopOf Tryd.f95 0) (st_ixr l n i a) (onward (headAt cx0_ixr 2) R K)=res_ixr l n i a K) ∨
  (∃(l':List (List Int)) (n' i':Int) (a':Auto),pre_ixr l' n' i' a'=true∧mu_ixr l' n' i' a'<mu_ixr l n i a∧res_ixr l' n' i' a' K=res_ixr l n i a K∧∀R:St→Option Fin,evC cx0_ixr (loopOf Tryd.f95 0) (st_ixr l n i a) (onward (headAt cx0_ixr 2) R K)=R (st_ixr l' n' i' a')):=by
 have hx:=fun R=>x_ixr l a n i R K;simp only[pre_ixr,andd,dec_iff]at hI;obtain⟨h0,rfl,h1⟩:=hI
 by_cases hi:i<(length l:Int)
 ·have hd:=ill_at h0 hi;have w:W64 (i+1)=i+1:=wrap_small (by omega) (by omega);rw[zT hi,inb_ok h0 hi,w]at hx
  generalize getD l i.toNat row0=e at hx hd
  have hg:List.any (List.drop i.toNat l) (pR a)=(pR a e||List.any (List.drop (i+1).toNat l) (pR a)):=by rw[hd,List.any_cons]
  have hg2:ixG (pR a) (List.drop i.toNat l) i=bif pR a e then i else ixG (pR a) (List.drop (i+1).toNat l) (i+1):=by rw[hd];rfl
  cases hc:pR a e
  ·rw[hc,Bool.false_or]at hg;rw[hc,cond_false]at hg2;right;refine⟨l,(length l:Int),i+1,a, ?_, ?_, ?_,fun R=>(hx R).trans ?_⟩
   ·simp only[pre_ixr,andd,dec_iff];exact⟨by omega,trivial,h1⟩
   ·simp only[mu_ixr];omega
   ·simp only[res_ixr,hg,hg2]
   ·rw[hc];rfl
  ·rw[hc,Bool.true_or]at hg;rw[hc,cond_true]at hg2;left;intro R;refine(hx R).trans ?_;rw[hc];simp only[res_ixr,hg,hg2];rfl
 ·left;intro R;refine(hx R).trans ?_;rw[zF hi];have e:List.drop i.toNat l=[]:=drop_eq_nil_of_le (by omega);simp only[res_ixr,e];rfl
def g_ixr:St→Cont→Option Fin:=gP sh_ixr (fun v=>match v with | ((l,n,i,()),(a,()))=>pre_ixr l n i a) (fun v K=>match v with | ((l,n,i,()),(a,()))=>res_ixr l n i a K)
def L_ixr:LpL:=(2,g_ixr)::[]
def cx_ixr:Cx:=(cb_ixr).withLoops (look L_ixr)
theorem l_ixr {L:LpL} (n:Nat) (h1:L.drop n=[]) (h2:idsFree (L.take n) (loopOf Tryd.f95 0)=true):LoopsTo g_ixr (cb_ixr) (loopOf Tryd.f95 0) 2 L :=
 with_drop h1 h2 (gP_ok (fun v=>match v with | ((l,n,i,()),(a,()))=>mu_ixr l n i a) fun v K hI=>by
  obtain⟨⟨l,n,i,⟨⟩⟩,⟨a,⟨⟩⟩⟩:=v;exact(r_ixr l n i a K hI).imp id fun⟨l',n',i',a',h⟩=>⟨((l',n',i',()),(a',())),h⟩)
theorem y_ixr (l:List (List Int)) (a:Auto):evFn cx_ixr Tryd.f95 false [ofD TILL l, .one (.fn 53 [0])] [boxA a] =
  need (pre_ixr l (length l:Int) 0 a) (branch (List.any l (pR a)) (some (vI (ixG (pR a) l 0),[(0,some (boxA a))])) (some (vI (-1),[(0,some (boxA a))]))):=by kernel_rfl
def c_slices_IndexFunc_int_int2:Con:=conLC TIS 53 TI64 fun a (l:List (List Int))=>(ixG (pR a) l 0:Int)
theorem k_slices_IndexFunc_int_int2:ConOk Tryd.prog 95 c_slices_IndexFunc_int_int2:=conLC_ok Tryd.call95 fun a (l:List (List Int)) hl =>
 fn_sound (cx:=cx_ixr) Tryd.func95 rfl ttOk Γ43ok mixed (fun c hc=>LoopsOk.all (l:=[(2,loopOf Tryd.f95 0)]) (by cases hc;kernel_rfl) ⟨atLoop rfl (l_ixr 1 rfl (by kernel_rfl)),trivial⟩) (ro:=false) (by
  have kp:pre_ixr l (length l:Int) 0 a=true:=by
   simp only[pre_ixr,andd,dec_iff];exact⟨Int.le_refl 0,trivial,by have:l.length≤9223372036854775807:=hl.1;omega⟩
  refine(y_ixr l a).trans ?_;rw[kp]
  cases hc:List.any l (pR a)
  ·rw[ixG_none hc];rfl
  ·rfl)
def Γ44:GL:=(95,c_slices_IndexFunc_int_int2)::Γ43
theorem Γ44ok:GO Γ44 := .cons k_slices_IndexFunc_int_int2 Γ43ok
theorem y_cfr (l:List (List Int)) (a:Auto):evFn (cxOf Γ44 Tryd.f52.ntmps [] [] [] []) Tryd.f52 false [ofD TILL l, .one (.fn 53 [0])] [boxA a] =
  some (vB (decide (0≤ixG (pR a) l 0)),[(0,some (boxA a))]):=by kernel_rfl
def c_slices_ContainsFunc_int_int2:Con:=conLC TIS 53 .bool fun a (l:List (List Int))=>(List.any l (pR a):Bool)
theorem k_slices_ContainsFunc_int_int2:ConOk Tryd.prog 52 c_slices_ContainsFunc_int_int2:=conLC_ok Tryd.call52 fun a (l:List (List Int)) _ =>
 fn_sound (cx:=cxOf Γ44 Tryd.f52.ntmps [] [] [] []) Tryd.func52 rfl ttOk Γ44ok mixed (fun _ _=>LoopsOk.no fun _=>rfl) (ro:=false) (by
  rw[y_cfr,ixG_any (Int.le_refl 0)];rfl)
def Γ45:GL:=(52,c_slices_ContainsFunc_int_int2)::Γ44
theorem Γ45ok:GO Γ45 := .cons k_slices_ContainsFunc_int_int2 Γ44ok
theorem any_rows {l:List (List Int)} {p:List Int→Bool}:List.any l (fun k => !p k) = !List.all l p:=by
 induction l with
 |nil=>rfl
 |cons k l ih=>rw[List.any_cons,List.all_cons,ih];cases p k<;>rfl
theorem y_impl_AutoOk (a:Auto):evFn ((cxOf Γ45 Tryd.f21.ntmps [] [] [] [])) Tryd.f21 true [ofD TA a] []=(
branch (bif bif bif bif decide ((length a.snd.fst:Int)<1)then true else decide (6<(length a.snd.fst:Int))then true else !decide ((length a.snd.snd:Int)=(length a.snd.fst:Int))then true else decide (a.fst<0)then true else decide ((length a.snd.fst:Int)≤a.fst)) ( some ((vB false),[])) ( some ((vB !List.any a.snd.snd (pR a)),[]))):=by kernel_rfl
theorem s_impl_AutoOk (a:Auto) (_ha:Fit TA a):Sat Tryd.prog 21 [ofD TA a] [] (.d (ofD .bool (okA a))) [] :=
 fn_sound (cx:=cxOf Γ45 Tryd.f21.ntmps [] [] [] []) Tryd.func21 rfl ttOk Γ45ok mixed (fun _ _=>LoopsOk.no fun _=>rfl) (ro:=true) (by
  rw[y_impl_AutoOk];have e:List.any a.2.2 (pR a) = !List.all a.2.2 (rowA (nA a)):=any_rows;show branch (badA a) _ (some (vB (!List.any a.2.2 (pR a)),[]))=_;rw[e,Bool.not_not]
  cases hb:badA a
  ·rw[(okA_good hb).1];rfl
  ·rw[okA_bad hb];rfl)
def c_impl_AutoOk:Con:=conT [TA] fun(a:Auto)=>(none, .d (ofD .bool (okA a)))
theorem k_impl_AutoOk:ConOk Tryd.prog 21 c_impl_AutoOk:=conT_ok Tryd.call21 fun a ha _=>s_impl_AutoOk a ha
def Γ46:GL:=(21,c_impl_AutoOk)::Γ45
theorem Γ46ok:GO Γ46 := .cons k_impl_AutoOk Γ45ok
abbrev zA:Auto:=(0,[],[])
abbrev TPA:Ty := .struct (.pair .str (.pair TI64 TI64))
theorem y_impl_AutoIs (a:Auto) (s:Str):evFn (cxOf Γ46 Tryd.f25.ntmps [] [] [] []) Tryd.f25 true [ofD TA a,ofD .str s] []=(
need (bif !okA a then true else !areSm s 8) <| some ((vB false),[])):=by kernel_rfl
theorem s_impl_AutoIs (a:Auto) (_ha:Fit TA a) (s:Str) (_hs:Fit .str s) (hpre:(!okA a)=true):Sat Tryd.prog 25 [ofD TA a,ofD .str s] [] (.d (ofD .bool false)) [] :=
 fn_sound (cx:=cxOf Γ46 Tryd.f25.ntmps [] [] [] []) Tryd.func25 rfl ttOk Γ46ok mixed (fun _ _=>LoopsOk.no fun _=>rfl) (ro:=true) (by
  rw[y_impl_AutoIs];rw[Bool.not_eq_true']at hpre;rw[hpre];rfl)
def c_impl_AutoIs:Con:=conT [TA, .str] fun(a:Auto) (_s:Str)=>(some (!okA a), .d (ofD .bool false))
theorem k_impl_AutoIs:ConOk Tryd.prog 25 c_impl_AutoIs:=conT_ok Tryd.call25 fun a ha s hs hqq=>s_impl_AutoIs a ha s hs (pre_of hqq)
def Γ47:GL:=(25,c_impl_AutoIs)::Γ46
theorem Γ47ok:GO Γ47 := .cons k_impl_AutoIs Γ46ok
theorem y_impl_AutoNot (a:Auto):evFn (cxOf Γ47 Tryd.f23.ntmps [] [] [] []) Tryd.f23 true [ofD TA a] []=(
need (!okA a) <| some ((.tup [(.agg [(.r (.v (Value.int IntKind.i64 0))),(.r (.li ty4 ([]))),(.r (.li ty98 ([])))]),(.one (.r (.v (Value.bool false))))]),[])):=by kernel_rfl
theorem s_impl_AutoNot (a:Auto) (_ha:Fit TA a) (hpre:(!okA a)=true):Sat Tryd.prog 23 [ofD TA a] [] (.tup [ofD TA zA,ofD .bool false]) [] :=
 fn_sound (cx:=cxOf Γ47 Tryd.f23.ntmps [] [] [] []) Tryd.func23 rfl ttOk Γ47ok mixed (fun _ _=>LoopsOk.no fun _=>rfl) (ro:=true) (by
  rw[y_impl_AutoNot];rw[Bool.not_eq_true']at hpre;rw[hpre];rfl)
def c_impl_AutoNot:Con:=conT [TA] fun(a:Auto)=>(some (!okA a), .tup [ofD TA zA,ofD .bool false])
theorem k_impl_AutoNot:ConOk Tryd.prog 23 c_impl_AutoNot:=conT_ok Tryd.call23 fun a ha hqq=>s_impl_AutoNot a ha (pre_of hqq)
def Γ48:GL:=(23,c_impl_AutoNot)::Γ47
theorem Γ48ok:GO Γ48 := .cons k_impl_AutoNot Γ47ok
theorem y_impl_AutoBoth (a:Auto) (b:Auto):evFn (cxOf Γ48 Tryd.f24.ntmps [] [] [] []) Tryd.f24 true [ofD TA a,ofD TA b] []=(
need (bif !okA a then true else !okA b) <| some ((.tup [(.agg [(.r (.v (Value.int IntKind.i64 0))),(.r (.li ty4 ([]))),(.r (.li ty98 ([])))]),(.one (.r (.v (Value.bool false))))]),[])):=by kernel_rfl
theorem s_impl_AutoBoth (a:Auto) (_ha:Fit TA a) (b:Auto) (_hb:Fit TA b) (hpre:(!okA a)=true):Sat Tryd.prog 24 [ofD TA a,ofD TA b] [] (.tup [ofD TA zA,ofD .bool false]) [] :=
 fn_sound (cx:=cxOf Γ48 Tryd.f24.ntmps [] [] [] []) Tryd.func24 rfl ttOk Γ48ok mixed (fun _ _=>LoopsOk.no fun _=>rfl) (ro:=true) (by
  rw[y_impl_AutoBoth];rw[Bool.not_eq_true']at hpre;rw[hpre];rfl)
def c_impl_AutoBoth:Con:=conT [TA,TA] fun(a:Auto) (_b:Auto)=>(some (!okA a), .tup [ofD TA zA,ofD .bool false])
theorem k_impl_AutoBoth:ConOk Tryd.prog 24 c_impl_AutoBoth:=conT_ok Tryd.call24 fun a ha b hb hqq=>s_impl_AutoBoth a ha b hb (pre_of hqq)
def Γ49:GL:=(24,c_impl_AutoBoth)::Γ48
theorem Γ49ok:GO Γ49 := .cons k_impl_AutoBoth Γ48ok
theorem y_impl_MeetParts (g:Gram) (a:Auto):evFn (cxOf Γ49 Tryd.f27.ntmps [] [] [] []) Tryd.f27 true [ofD TG g,ofD TA a] []=(
need (bif !okG g then true else !okA a) <| some ((.d (.one (.r (.li ty37 ([]))))),[])):=by kernel_rfl
theorem s_impl_MeetParts (g:Gram) (_hg:Fit TG g) (a:Auto) (_ha:Fit TA a) (hpre:(!okA a)=true):Sat Tryd.prog 27 [ofD TG g,ofD TA a] [] (.d (ofD (.list TPA) [])) [] :=
 fn_sound (cx:=cxOf Γ49 Tryd.f27.ntmps [] [] [] []) Tryd.func27 rfl ttOk Γ49ok mixed (fun _ _=>LoopsOk.no fun _=>rfl) (ro:=true) (by
  rw[y_impl_MeetParts];rw[Bool.not_eq_true']at hpre;rw[hpre]
  cases okG g<;>rfl)
def c_impl_MeetParts:Con:=conT [TG,TA] fun(_g:Gram) (a:Auto)=>(some (!okA a), .d (ofD (.list TPA) []))
theorem k_impl_MeetParts:ConOk Tryd.prog 27 c_impl_MeetParts:=conT_ok Tryd.call27 fun g hg a ha hqq=>s_impl_MeetParts g hg a ha (pre_of hqq)
def Γ50:GL:=(27,c_impl_MeetParts)::Γ49
theorem Γ50ok:GO Γ50 := .cons k_impl_MeetParts Γ49ok
theorem y_impl_MeetLeast (g:Gram) (a:Auto):evFn (cxOf Γ50 Tryd.f68.ntmps [] [] [] []) Tryd.f68 true [ofD TG g,ofD TA a] []=(
need (bif !okG g then true else !okA a) <| some ((.tup [(.one (.r (.v (Value.int IntKind.i64 0)))),(.one (.r (.v (Value.bool false))))]),[])):=by kernel_rfl
theorem s_impl_MeetLeast (g:Gram) (_hg:Fit TG g) (a:Auto) (_ha:Fit TA a) (hpre:(!okA a)=true):Sat Tryd.prog 68 [ofD TG g,ofD TA a] [] (.tup [ofD TI64 (0:Int),ofD .bool false]) [] :=
 fn_sound (cx:=cxOf Γ50 Tryd.f68.ntmps [] [] [] []) Tryd.func68 rfl ttOk Γ50ok mixed (fun _ _=>LoopsOk.no fun _=>rfl) (ro:=true) (by
  rw[y_impl_MeetLeast];rw[Bool.not_eq_true']at hpre;rw[hpre]
  cases okG g<;>rfl)
def c_impl_MeetLeast:Con:=conT [TG,TA] fun(_g:Gram) (a:Auto)=>(some (!okA a), .tup [ofD TI64 (0:Int),ofD .bool false])
theorem k_impl_MeetLeast:ConOk Tryd.prog 68 c_impl_MeetLeast:=conT_ok Tryd.call68 fun g hg a ha hqq=>s_impl_MeetLeast g hg a ha (pre_of hqq)
def Γ51:GL:=(68,c_impl_MeetLeast)::Γ50
theorem Γ51ok:GO Γ51 := .cons k_impl_MeetLeast Γ50ok
theorem y_impl_MeetHas (g:Gram) (a:Auto):evFn (cxOf Γ51 Tryd.f28.ntmps [] [] [] []) Tryd.f28 true [ofD TG g,ofD TA a] []=(
need (!okA a) <| some ((vB false),[])):=by kernel_rfl
theorem s_impl_MeetHas (g:Gram) (_hg:Fit TG g) (a:Auto) (_ha:Fit TA a) (hpre:(!okA a)=true):Sat Tryd.prog 28 [ofD TG g,ofD TA a] [] (.d (ofD .bool false)) [] :=
 fn_sound (cx:=cxOf Γ51 Tryd.f28.ntmps [] [] [] []) Tryd.func28 rfl ttOk Γ51ok mixed (fun _ _=>LoopsOk.no fun _=>rfl) (ro:=true) (by
  rw[y_impl_MeetHas];rw[Bool.not_eq_true']at hpre;rw[hpre];rfl)
def c_impl_MeetHas:Con:=conT [TG,TA] fun(_g:Gram) (a:Auto)=>(some (!okA a), .d (ofD .bool false))
theorem k_impl_MeetHas:ConOk Tryd.prog 28 c_impl_MeetHas:=conT_ok Tryd.call28 fun g hg a ha hqq=>s_impl_MeetHas g hg a ha (pre_of hqq)
def Γ52:GL:=(28,c_impl_MeetHas)::Γ51
theorem Γ52ok:GO Γ52 := .cons k_impl_MeetHas Γ51ok
def cb_eqb:Cx:=cxOf Γ52 Tryd.f63.ntmps [(4,[0,1,12,13])] [(0,[]),(1,[0,1,12,13]),(1000000,[4])] [] []
theorem x_eqb (l m:List Bool) (n i:Int) (R:St→Option Fin) (K:Cont):evC (cb_eqb.withLoops (look [])) (loopOf Tryd.f63 0) ⟨[(0, .d (ofD TBL l)),(1, .d (ofD TBL m)),(12,vI n),(13,vI i)],[]⟩ (onward (headAt (cb_eqb.withLoops (look [])) 4) R K)=(
branch (decide (i<n)) (
 need (inb i l.length) <|
 need (inb i m.length) <|
 branch (!decide (l.getD i.toNat false=m.getD i.toNat false)) ( K (.ret) (.mk [(4,vB false)] [])) ( R (.mk [(0,(.d (.one (.r (.li (Ty.bool) l))))),(1,(.d (.one (.r (.li (Ty.bool) m))))),(12,vI n),(13,vI (W64 (i+1)))] []))) ( K (.exit 0) (.mk [] []))):=by kernel_rfl
def cx0_eqb:Cx:=(cb_eqb).withLoops (look [])
def sh_eqb:Sh:=([(0, .d TBL),(1, .d TBL),(12, .d TI64),(13, .d TI64)],[])
abbrev st_eqb (l m:List Bool) (n i:Int):St:=⟨[(0, .d (ofD TBL l)),(1, .d (ofD TBL m)),(12,vI n),(13,vI i)],[]⟩
def pre_eqb (_l _m:List Bool) (n i:Int):Bool:=decide (n≤i)
def res_eqb (_l _m:List Bool) (_n _i:Int) (K:Cont):Option Fin:=K (.exit 0) ⟨[],[]⟩
def mu_eqb (_l _m:List Bool) (_n _i:Int):Nat:=0
theorem r_eqb (l m:List Bool) (n i:Int) (K:Cont) (hI:pre_eqb l m n i=true):(∀R:St→Option Fin,evC cx0_eqb (loopOf Tryd.f63 0) (st_eqb l m n i) (onward (headAt cx0_eqb 4) R K)=res_eqb l m n i K) ∨
  (∃(l' m':List Bool) (n' i':Int),pre_eqb l' m' n' i'=true∧mu_eqb l' m' n' i'<mu_eqb l m n i∧res_eqb l' m' n' i' K=res_eqb l m n i K∧∀R:St→Option Fin,evC cx0_eqb (loopOf Tryd.f63 0) (st_eqb l m n i) (onward (headAt cx0_eqb 4) R K)=R (st_eqb l' m' n' i')):=by
 have hx:=fun R=>x_eqb l m n i R K;simp only[pre_eqb,dec_iff]at hI;left;intro R;refine(hx R).trans ?_;rw[zF (by omega:¬i<n)];rfl
def g_eqb:St→Cont→Option Fin:=gP sh_eqb (fun v=>match v with | ((l,m,n,i,()),())=>pre_eqb l m n i) (fun v K=>match v with | ((l,m,n,i,()),())=>res_eqb l m n i K)
def L_eqb:LpL:=(4,g_eqb)::[]
def cx_eqb:Cx:=(cb_eqb).withLoops (look L_eqb)
theorem l_eqb {L:LpL} (n:Nat) (h1:L.drop n=[]) (h2:idsFree (L.take n) (loopOf Tryd.f63 0)=true):LoopsTo g_eqb (cb_eqb) (loopOf Tryd.f63 0) 4 L :=
 with_drop h1 h2 (gP_ok (fun v=>match v with | ((l,m,n,i,()),())=>mu_eqb l m n i) fun v K hI=>by
  obtain⟨⟨l,m,n,i,⟨⟩⟩,⟨⟩⟩:=v;exact(r_eqb l m n i K hI).imp id fun⟨l',m',n',i',h⟩=>⟨((l',m',n',i',()),()),h⟩)
theorem y_slices_Equal_bool_bool (l:List Bool) (m:List Bool):evFn cx_eqb Tryd.f63 true [ofD TBL l,ofD TBL m] []=(
branch (!decide ((l.length:Int)=(m.length:Int))) ( some ((vB false),[])) (
 need (pre_eqb l m ((l.length:Int)) 0) <| some ((vB true),[]))):=by kernel_rfl
theorem s_slices_Equal_bool_bool (l:List Bool) (_hl:Fit TBL l) (m:List Bool) (_hm:Fit TBL m) (hpre:(l.isEmpty&&m.isEmpty)=true):Sat Tryd.prog 63 [ofD TBL l,ofD TBL m] [] (.d (ofD .bool true)) [] :=
 fn_sound (cx:=cx_eqb) Tryd.func63 rfl ttOk Γ52ok mixed (fun c hc=>LoopsOk.all (l:=[(4,loopOf Tryd.f63 0)]) (by cases hc;kernel_rfl) ⟨atLoop rfl (l_eqb 1 rfl (by kernel_rfl)),trivial⟩) (ro:=true) (by
  obtain⟨h1,h2⟩:=andd.1 hpre;have e1:l=[]:=List.isEmpty_iff.1 h1;have e2:m=[]:=List.isEmpty_iff.1 h2;rw[y_slices_Equal_bool_bool,e1,e2];rfl)
def c_slices_Equal_bool_bool:Con:=conT [TBL,TBL] fun(l:List Bool) (m:List Bool)=>(some (l.isEmpty&&m.isEmpty), .d (ofD .bool true))
theorem k_slices_Equal_bool_bool:ConOk Tryd.prog 63 c_slices_Equal_bool_bool:=conT_ok Tryd.call63 fun l hl m hm hqq=>s_slices_Equal_bool_bool l hl m hm (pre_of hqq)
def Γ53:GL:=(63,c_slices_Equal_bool_bool)::Γ52
theorem Γ53ok:GO Γ53 := .cons k_slices_Equal_bool_bool Γ52ok
def cb_eqf:Cx:=cxOf Γ53 Tryd.f64.ntmps [(4,[1,2,15,16,17])] [(0,[]),(1,[1,2,15,16,17]),(1000000,[6])] [] []
theorem x_eqf (l m:List (List Int)) (n i:Int) (R:St→Option Fin) (K:Cont):evC (cb_eqf.withLoops (look [])) (loopOf Tryd.f64 0) ⟨[(1, .d (ofD TILL m)),(2, .d (.one (.fn 65 []))),(15, .d (ofD TILL l)),(16,vI n),(17,vI i)],[]⟩ (onward (headAt (cb_eqf.withLoops (look [])) 4) R K)=(
branch (decide (i<n)) (
 need (inb i l.length) <|
 need (inb i m.length) <| none) ( K (.exit 0) (.mk [] []))):=by kernel_rfl
def cx0_eqf:Cx:=(cb_eqf).withLoops (look [])
def sh_eqf:Sh:=([(1, .d TILL),(2, .fn 65 []),(15, .d TILL),(16, .d TI64),(17, .d TI64)],[])
abbrev st_eqf (m l:List (List Int)) (n i:Int):St:=⟨[(1, .d (ofD TILL m)),(2, .d (.one (.fn 65 []))),(15, .d (ofD TILL l)),(16,vI n),(17,vI i)],[]⟩
def pre_eqf (_m _l:List (List Int)) (n i:Int):Bool:=decide (n≤i)
def res_eqf (_m _l:List (List Int)) (_n _i:Int) (K:Cont):Option Fin:=K (.exit 0) ⟨[],[]⟩
def mu_eqf (_m _l:List (List Int)) (_n _i:Int):Nat:=0
theorem r_eqf (m l:List (List Int)) (n i:Int) (K:Cont) (hI:pre_eqf m l n i=true):(∀R:St→Option Fin,evC cx0_eqf (loopOf Tryd.f64 0) (st_eqf m l n i) (onward (headAt cx0_eqf 4) R K)=res_eqf m l n i K) ∨
  (∃(m' l':List (List Int)) (n' i':Int),pre_eqf m' l' n' i'=true∧mu_eqf m' l' n' i'<mu_eqf m l n i∧res_eqf m' l' n' i' K=res_eqf m l n i K∧∀R:St→Option Fin,evC cx0_eqf (loopOf Tryd.f64 0) (st_eqf m l n i) (onward (headAt cx0_eqf 4) R K)=R (st_eqf m' l' n' i')):=by
 have hx:=fun R=>x_eqf l m n i R K;simp only[pre_eqf,dec_iff]at hI;left;intro R;refine(hx R).trans ?_;rw[zF (by omega:¬i<n)];rfl
def g_eqf:St→Cont→Option Fin:=gP sh_eqf (fun v=>match v with | ((m,l,n,i,()),())=>pre_eqf m l n i) (fun v K=>match v with | ((m,l,n,i,()),())=>res_eqf m l n i K)
def L_eqf:LpL:=(4,g_eqf)::[]
def cx_eqf:Cx:=(cb_eqf).withLoops (look L_eqf)
theorem l_eqf {L:LpL} (n:Nat) (h1:L.drop n=[]) (h2:idsFree (L.take n) (loopOf Tryd.f64 0)=true):LoopsTo g_eqf (cb_eqf) (loopOf Tryd.f64 0) 4 L :=
 with_drop h1 h2 (gP_ok (fun v=>match v with | ((m,l,n,i,()),())=>mu_eqf m l n i) fun v K hI=>by
  obtain⟨⟨m,l,n,i,⟨⟩⟩,⟨⟩⟩:=v;exact(r_eqf m l n i K hI).imp id fun⟨m',l',n',i',h⟩=>⟨((m',l',n',i',()),()),h⟩)
theorem y_eqf (l m:List (List Int)):evFn cx_eqf Tryd.f64 false [ofD TILL l,ofD TILL m, .one (.fn 65 [])] []=(
branch (!decide ((l.length:Int)=(m.length:Int))) ( some ((vB false),[])) (
 need (pre_eqf m l ((l.length:Int)) 0) <| some ((vB true),[]))):=by kernel_rfl
def c_slices_EqualFunc_int_int_int_int:Con:=⟨true,fun ds os=>match ds,os with
 | [d,e, .one (.fn g [])],[]=>match asD TILL d,asD TILL e with
  |some (l:List (List Int)),some (m:List (List Int))=>some (some (l.isEmpty&&(m.isEmpty&&Nat.beq g 65)), .d (ofD .bool true),[])
  |_,_=>none
 |_,_=>none⟩
theorem k_slices_EqualFunc_int_int_int_int:ConOk Tryd.prog 64 c_slices_EqualFunc_int_int_int_int:=by
 refine⟨Tryd.call64,fun ds os c x objs hc hok => ?_⟩;unfold c_slices_EqualFunc_int_int_int_int at hc;dsimp only at hc
 split at hc
 ·rename_i d e g
  split at hc
  ·rename_i l m e1 e2
   cases hc
   obtain⟨h1,h2⟩:=andd.1 (pre_of hok);obtain⟨h2,h3⟩:=andd.1 h2;have h1:l=[]:=List.isEmpty_iff.1 h1;have h2:m=[]:=List.isEmpty_iff.1 h2;have h3:=zB h3;subst h1 h2 h3;intro w F β args H hds
   cases hds with | cons g1 g2=>cases g2 with | cons g2 g3 =>
   refine fn_sound (cx:=cx_eqf) Tryd.func64 rfl ttOk Γ53ok mixed (fun c hc=>LoopsOk.all (l:=[(4,loopOf Tryd.f64 0)]) (by cases hc;kernel_rfl) ⟨atLoop rfl (l_eqf 1 rfl (by kernel_rfl)),trivial⟩) (ro:=false) ?_ w F β _ H (.cons (asD_sound e1 g1 _ β) (.cons (asD_sound e2 g2 _ β) g3));exact(y_eqf [] []).trans rfl
  ·cases hc
 ·cases hc
def Γ54:GL:=(64,c_slices_EqualFunc_int_int_int_int)::Γ53
theorem Γ54ok:GO Γ54 := .cons k_slices_EqualFunc_int_int_int_int Γ53ok
theorem y_impl_AutoSame (a:Auto) (b:Auto):evFn (cxOf Γ54 Tryd.f26.ntmps [] [] [] []) Tryd.f26 true [ofD TA a,ofD TA b] []=(
need (bif decide (decide (a.fst=b.fst)=true)then List.isEmpty a.snd.fst&&List.isEmpty b.snd.fst else true) <|
need (bif decide ((bif decide (a.fst=b.fst)then true else false)=true)then List.isEmpty a.snd.snd&&(List.isEmpty b.snd.snd&&Nat.beq 65 65)else true) <| some ((vB (bif bif decide (a.fst=b.fst)then true else false then true else false)),[])):=by kernel_rfl
theorem s_impl_AutoSame (a:Auto) (_ha:Fit TA a) (b:Auto) (_hb:Fit TA b) (hpre:(decide (a.1=b.1)&&(List.isEmpty a.2.1&&(List.isEmpty b.2.1&&(List.isEmpty a.2.2&&List.isEmpty b.2.2))))=true):Sat Tryd.prog 26 [ofD TA a,ofD TA b] [] (.d (ofD .bool true)) [] :=
 fn_sound (cx:=cxOf Γ54 Tryd.f26.ntmps [] [] [] []) Tryd.func26 rfl ttOk Γ54ok mixed (fun _ _=>LoopsOk.no fun _=>rfl) (ro:=true) (by
  rw[andd,andd,andd,andd]at hpre;obtain⟨h1,h2,h3,h4,h5⟩:=hpre;rw[y_impl_AutoSame,h1,h2,h3,h4,h5];rfl)
def c_impl_AutoSame:Con:=conT [TA,TA] fun(a:Auto) (b:Auto)=>(some (decide (a.1=b.1)&&(List.isEmpty a.2.1&&(List.isEmpty b.2.1&&(List.isEmpty a.2.2&&List.isEmpty b.2.2)))), .d (ofD .bool true))
theorem k_impl_AutoSame:ConOk Tryd.prog 26 c_impl_AutoSame:=conT_ok Tryd.call26 fun a ha b hb hqq=>s_impl_AutoSame a ha b hb (pre_of hqq)
def Γ55:GL:=(26,c_impl_AutoSame)::Γ54
theorem Γ55ok:GO Γ55 := .cons k_impl_AutoSame Γ54ok
end
end Go.Proofs.YtkhhclpkljikkaaDoor.Ev
