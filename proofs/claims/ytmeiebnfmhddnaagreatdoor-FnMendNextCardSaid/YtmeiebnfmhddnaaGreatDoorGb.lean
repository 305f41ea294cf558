/-
  Library: strings.Trim at the cutset "abcd".
-/
import Derived.Test.YtmeiebnfmhddnaaGreatDoorGa
namespace Go.Proofs.YtmeiebnfmhddnaaGreatDoor.Ev
open Go
noncomputable section
abbrev TI64:Ty := .int .i64
abbrev Str:Type:=List UInt8
def isB:R→Bool
 | .v (.bool _)=>true
 |_=>false
def theB:R→Bool
 | .v (.bool b)=>b
 |_=>false
def boolsB (get:Nat→R):Bool:=(List.range 256).all fun i=>isB (get i)
def ropB (p:Nat→Bool):R := .rop 256 fun i => .v (.bool (p i))
abbrev arg1 (r:R):D := .one (.r r)
theorem bools_at {get:Nat→R} (h:boolsB get=true) {i:Nat} (hi:i<256):get i = .v (.bool (theB (get i))):=by
 have h1:=List.all_eq_true.1 h i (List.mem_range.2 hi)
 generalize get i=r at h1 ⊢
 unfold isB at h1
 split at h1
 ·rfl
 ·cases h1
theorem rop_bools {w:World} {F:Nat→Prop} {h:HF} {β:Nat→Value} {m:Nat} {get:Nat→R} {u:Value} (hb:(Nat.beq m 256&&boolsB get)=true) (hr:RepD w F h β (arg1 (.rop m get)) u):RepD w F h β (arg1 (ropB fun i=>theB (get i))) u:=by
 simp only[Bool.and_eq_true]at hb
 have:=Nat.eq_of_beq_eq_true hb.1
 subst this
 obtain⟨b,off,h1,h2,h3⟩:=hr
 refine⟨b,off,h1,h2,fun j hj => ?_⟩
 obtain⟨y,g1,g2⟩:=h3 j hj
 exact⟨y,g1,by rw[bools_at hb.2 hj]at g2;exact g2⟩
theorem y_asciiHas (p:Nat→Bool) (n:Int):evFn (cxOf Γ0 Tryz.f159.ntmps [] [] [] []) Tryz.f159 true [arg1 (ropB p),ofD (.int .u8) n] []=need (inb n 256) (some (.d (ofD .bool (p (n.toNat*1+0))),[])):=by kernel_rfl
theorem s_asciiHas (p:Nat→Bool) (n:Int) (h0:0≤n) (h1:n<256):Sat Tryz.prog 159 [arg1 (ropB p),ofD (.int .u8) n] [] (.d (ofD .bool (p n.toNat))) [] :=
 fn_sound (cx:=cxOf Γ0 Tryz.f159.ntmps [] [] [] []) Tryz.func159 rfl ttOk Γ0ok mixed (fun c hc=>LoopsOk.nil (by cases hc;kernel_rfl)) (ro:=true) (by
  rw[y_asciiHas,inb_ok h0 (by omega),Nat.mul_one,Nat.add_zero];rfl)
def c_strings_asciiSet_contains:Con:=⟨true,fun ds os=>match ds,os with
 | [.one (.r (.rop m get)), .one (.r (.v (.int .u8 n)))],[]=>some (some (Nat.beq m 256&&boolsB get), .d (ofD .bool (theB (get n.toNat))),[])
 |_,_=>none⟩
theorem k_strings_asciiSet_contains:ConOk Tryz.prog 159 c_strings_asciiSet_contains:=by
 refine⟨Tryz.call159,fun ds os c x objs hc hok => ?_⟩
 unfold c_strings_asciiSet_contains at hc
 dsimp only at hc
 split at hc
 ·rename_i m get n
  cases hc
  rcases hok with h | h
  ·cases h
  ·have hb:=Option.some.inj h
   intro w F β args H hds
   cases hds with | cons g1 g2=>cases g2 with | cons g2 g3 =>
   have hf:=RepD_fit (t := .int .u8) (x:=n) g2
   have hf:IntKind.u8.wrap n=n:=hf
   rw[IntKind.wrap_u8]at hf
   exact s_asciiHas (fun i=>theB (get i)) n (by omega) (by omega) w F β _ H (.cons (rop_bools hb g1) (.cons g2 g3))
 ·cases hc
def Γ1:GL:=(159,c_strings_asciiSet_contains)::Γ0
theorem Γ1ok:GO Γ1 := .cons k_strings_asciiSet_contains Γ0ok
abbrev W64 (n:Int):Int:=IntKind.i64.wrap n
def hasB (get:Nat→R) (c:UInt8):Bool:=theB (get c.toNat)
def trimR (p:UInt8→Bool) (s:List UInt8):List UInt8:=(s.reverse.dropWhile p).reverse
def trimL (p:UInt8→Bool) (s:List UInt8):List UInt8:=s.dropWhile p
def g_trim (f:(UInt8→Bool)→List UInt8→List UInt8) (st:St) (K:Cont):Option Fin:=match st with
 | ⟨[(0,x0),(1, .d (.one (.r (.rop m get))))],[]⟩=>match exS x0 with
  |some s=>need (Nat.ble s.length 9223372036854775807) (need (Nat.beq m 256&&boolsB get) (K (.exit 0) ⟨[(0,vS (f (hasB get) s))],[]⟩))
  |none=>none
 |_=>none
theorem trim_loop {f:(UInt8→Bool)→List UInt8→List UInt8} {F:St→Cont→Option Fin} {head:St→St}
  (h:∀(N:Nat) (s:List UInt8) (get:Nat→R) (K:Cont) (r:Fin),s.length<N→s.length≤9223372036854775807→boolsB get=true→K (.exit 0) ⟨[(0,vS (f (hasB get) s))],[]⟩=some r→iter F head N ⟨[(0,vS s),(1, .d (arg1 (.rop 256 get)))],[]⟩ K=some r) :
  ∀st K r,g_trim f st K=some r→∃N,iter F head N st K=some r:=by
 intro st K r hg
 unfold g_trim at hg
 split at hg
 ·split at hg
  ·rename_i s hs
   rw[need_some,need_some,Nat.ble_eq,Bool.and_eq_true]at hg
   obtain⟨h0,⟨h1,h2⟩,h3⟩:=hg
   have:=Nat.eq_of_beq_eq_true h1
   subst this
   rw[exS_some hs]
   exact⟨_,h _ s _ K r (Nat.lt_succ_self _) h0 h2 h3⟩
  ·cases hg
 ·cases hg
theorem byteAt_0 (c:UInt8) (s:List UInt8):(byteAt (c::s) 0).toNat=c.toNat:=rfl
def cx_trimLeftASCII:Cx:=cxOf Γ1 Tryz.f142.ntmps [(1,[0,1])] [(0,[0]),(1,[0,1])] [] [(1,g_trim trimL)]
theorem x_trimLeftASCII (s:Str) (get:Nat→R) (R:St→Option Fin) (K:Cont):evC cx_trimLeftASCII (loopOf Tryz.f142 0) ⟨[(0,vS s),(1, .d (arg1 (.rop 256 get)))],[]⟩ (onward (headAt cx_trimLeftASCII 1) R K) =
  branch (decide ((0:Int)<(s.length:Int))) (need (inb 0 s.length) <| need (Nat.beq 256 256&&boolsB get) <| branch (!theB (get (byteAt s 0).toNat)) (K (.exit 0) ⟨[(0,vS s)],[]⟩)
   (need (inr 1 (s.length:Int) s.length) <| R ⟨[(0,vS (List.take ((s.length:Int).toNat-(1:Int).toNat) (List.drop (1:Int).toNat s))),(1, .d (arg1 (.rop 256 get)))],[]⟩))
  (K (.exit 0) ⟨[(0,vS s)],[]⟩):=by kernel_rfl
theorem l_trimLeftASCII:∀st K r,g_trim trimL st K=some r→∃N,iter (evC cx_trimLeftASCII (loopOf Tryz.f142 0)) (headAt cx_trimLeftASCII 1) N st K=some r:=by
 refine trim_loop fun N => ?_
 induction N with
 |zero=>intro s get K r hN;omega
 |succ N ih =>
  intro s get K r hN hl hb hr
  rw[iter_succ,x_trimLeftASCII]
  cases s with
  |nil=>exact hr
  |cons c s =>
   have hi:inr 1 ((c::s).length:Int) (c::s).length=true:=decide_eq_true ⟨by omega,by simp;omega,by omega⟩
   rw[decide_eq_true (by simp:(0:Int)<((c::s).length:Int)),branch_true,inb_ok (by omega) (by simp),hb,hi,byteAt_0]
   simp only[need,branch_true,Nat.beq_refl,Bool.true_and,Int.toNat_natCast]
   have hd:trimL (hasB get) (c::s)=bif hasB get c then trimL (hasB get) s else c::s:=by unfold trimL;rw[List.dropWhile_cons];cases hasB get c<;>rfl
   rw[hd]at hr
   unfold hasB at hr
   cases hc:theB (get c.toNat)
   ·rw[hc]at hr;exact hr
   ·rw[hc]at hr
    rw[Bool.not_true,branch_false]
    have e:List.take ((c::s).length-(1:Int).toNat) (List.drop (1:Int).toNat (c::s))=s:=by simp
    rw[e]
    exact ih s get K r (by simp at hN;omega) (by simp at hl;omega) hb hr
theorem y_trimLeftASCII (s:Str) (p:Nat→Bool):evFn cx_trimLeftASCII Tryz.f142 true [ofD .str s,arg1 (ropB p)] []=need (Nat.ble s.length 9223372036854775807) (some (.d (ofD .str (trimL (hasB fun i => .v (.bool (p i))) s)),[])):=by kernel_rfl
theorem s_trimLeftASCII (s:Str) (p:Nat→Bool) (hs:s.length≤9223372036854775807):Sat Tryz.prog 142 [ofD .str s,arg1 (ropB p)] [] (.d (ofD .str (trimL (fun c=>p c.toNat) s))) [] :=
 fn_sound (cx:=cx_trimLeftASCII) Tryz.func142 rfl ttOk Γ1ok mixed (fun c hc=>LoopsOk.one (b:=loopOf Tryz.f142 0) (id:=1) (g:=g_trim trimL) (by cases hc;kernel_rfl) rfl l_trimLeftASCII) (ro:=true) (by
  rw[y_trimLeftASCII,Nat.ble_eq_true_of_le hs];rfl)
def c_strings_trimLeftASCII:Con:=⟨true,fun ds os=>match ds,os with
 | [.one (.r (.v (.string s))), .one (.r (.rop m get))],[]=>some (some (Nat.beq m 256&&boolsB get), .d (ofD .str (trimL (hasB get) s.data.toList)),[])
 |_,_=>none⟩
theorem k_strings_trimLeftASCII:ConOk Tryz.prog 142 c_strings_trimLeftASCII:=by
 refine⟨Tryz.call142,fun ds os c x objs hc hok => ?_⟩
 unfold c_strings_trimLeftASCII at hc
 dsimp only at hc
 split at hc
 ·rename_i s m get
  cases hc
  rcases hok with h | h
  ·cases h
  ·have hb:=Option.some.inj h
   intro w F β args H hds
   cases hds with | cons g1 g2=>cases g2 with | cons g2 g3 =>
   have hf:s.data.toList.length≤9223372036854775807:=RepD_fit (t := .str) (x:=s.data.toList) g1
   exact s_trimLeftASCII s.data.toList (fun i=>theB (get i)) hf w F β _ H (.cons g1 (.cons (rop_bools hb g2) g3))
 ·cases hc
def Γ2:GL:=(142,c_strings_trimLeftASCII)::Γ1
theorem Γ2ok:GO Γ2 := .cons k_strings_trimLeftASCII Γ1ok
def cx_trimRightASCII:Cx:=cxOf Γ2 Tryz.f143.ntmps [(1,[0,1])] [(0,[0]),(1,[0,1])] [] [(1,g_trim trimR)]
theorem x_trimRightASCII (s:Str) (get:Nat→R) (R:St→Option Fin) (K:Cont):evC cx_trimRightASCII (loopOf Tryz.f143 0) ⟨[(0,vS s),(1, .d (arg1 (.rop 256 get)))],[]⟩ (onward (headAt cx_trimRightASCII 1) R K) =
  branch (decide ((0:Int)<(s.length:Int))) (need (inb (W64 ((s.length:Int)-1)) s.length) <| need (Nat.beq 256 256&&boolsB get) <| branch (!theB (get (byteAt s (W64 ((s.length:Int)-1))).toNat)) (K (.exit 0) ⟨[(0,vS s)],[]⟩)
   (need (inr 0 (W64 ((s.length:Int)-1)) s.length) <| R ⟨[(0,vS (List.take ((W64 ((s.length:Int)-1)).toNat-(0:Int).toNat) (List.drop (0:Int).toNat s))),(1, .d (arg1 (.rop 256 get)))],[]⟩))
  (K (.exit 0) ⟨[(0,vS s)],[]⟩):=by kernel_rfl
theorem trimR_snoc (p:UInt8→Bool) (s:List UInt8) (c:UInt8):trimR p (s++[c])=bif p c then trimR p s else s++[c]:=by
 unfold trimR
 rw[List.reverse_append]
 show(List.dropWhile p (c::s.reverse)).reverse=_
 rw[List.dropWhile_cons]
 cases p c
 ·simp
 ·rfl
theorem l_trimRightASCII:∀st K r,g_trim trimR st K=some r→∃N,iter (evC cx_trimRightASCII (loopOf Tryz.f143 0)) (headAt cx_trimRightASCII 1) N st K=some r:=by
 refine trim_loop fun N => ?_
 induction N with
 |zero=>intro s get K r hN;omega
 |succ N ih =>
  intro s get K r hN hl hb hr
  rw[iter_succ,x_trimRightASCII]
  have hcc:s=[]∨∃l c,s=l++[c]:=by
   rcases List.eq_nil_or_concat s with hn | ⟨l,e,hl⟩
   ·exact .inl hn
   ·exact .inr ⟨l,e,by rw[hl,List.concat_eq_append]⟩
  rcases hcc with rfl | ⟨s,c,rfl⟩
  ·exact hr
  ·have hlen:(s++[c]).length=s.length+1:=by simp
   rw[hlen]at hN hl ⊢
   have e1:W64 (((s.length+1:Nat):Int)-1)=(s.length:Int):=by simp only[W64];rw[wrap_small (by omega) (by omega)];omega
   have e2:byteAt (s++[c]) (s.length:Int)=(c.toNat:Int):=by unfold byteAt;simp[List.getD]
   have hi:inr 0 (s.length:Int) (s.length+1)=true:=decide_eq_true ⟨by omega,by omega,by omega⟩
   rw[decide_eq_true (by omega:(0:Int)<((s.length+1:Nat):Int)),branch_true,e1,e2,inb_ok (by omega) (by omega),hb,hi]
   simp only[need,branch_true,Nat.beq_refl,Bool.true_and,Int.toNat_natCast]
   rw[trimR_snoc]at hr
   unfold hasB at hr
   cases hc:theB (get c.toNat)
   ·rw[hc]at hr;exact hr
   ·rw[hc]at hr
    rw[Bool.not_true,branch_false]
    have e:List.take (s.length-(0:Int).toNat) (List.drop (0:Int).toNat (s++[c]))=s:=by simp
    rw[e]
    exact ih s get K r (by omega) (by omega) hb hr
theorem y_trimRightASCII (s:Str) (p:Nat→Bool):evFn cx_trimRightASCII Tryz.f143 true [ofD .str s,arg1 (ropB p)] []=need (Nat.ble s.length 9223372036854775807) (some (.d (ofD .str (trimR (hasB fun i => .v (.bool (p i))) s)),[])):=by kernel_rfl
theorem s_trimRightASCII (s:Str) (p:Nat→Bool) (hs:s.length≤9223372036854775807):Sat Tryz.prog 143 [ofD .str s,arg1 (ropB p)] [] (.d (ofD .str (trimR (fun c=>p c.toNat) s))) [] :=
 fn_sound (cx:=cx_trimRightASCII) Tryz.func143 rfl ttOk Γ2ok mixed (fun c hc=>LoopsOk.one (b:=loopOf Tryz.f143 0) (id:=1) (g:=g_trim trimR) (by cases hc;kernel_rfl) rfl l_trimRightASCII) (ro:=true) (by
  rw[y_trimRightASCII,Nat.ble_eq_true_of_le hs];rfl)
def c_strings_trimRightASCII:Con:=⟨true,fun ds os=>match ds,os with
 | [.one (.r (.v (.string s))), .one (.r (.rop m get))],[]=>some (some (Nat.beq m 256&&boolsB get), .d (ofD .str (trimR (hasB get) s.data.toList)),[])
 |_,_=>none⟩
theorem k_strings_trimRightASCII:ConOk Tryz.prog 143 c_strings_trimRightASCII:=by
 refine⟨Tryz.call143,fun ds os c x objs hc hok => ?_⟩
 unfold c_strings_trimRightASCII at hc
 dsimp only at hc
 split at hc
 ·rename_i s m get
  cases hc
  rcases hok with h | h
  ·cases h
  ·have hb:=Option.some.inj h
   intro w F β args H hds
   cases hds with | cons g1 g2=>cases g2 with | cons g2 g3 =>
   have hf:s.data.toList.length≤9223372036854775807:=RepD_fit (t := .str) (x:=s.data.toList) g1
   exact s_trimRightASCII s.data.toList (fun i=>theB (get i)) hf w F β _ H (.cons g1 (.cons (rop_bools hb g2) g3))
 ·cases hc
def Γ3:GL:=(143,c_strings_trimRightASCII)::Γ2
theorem Γ3ok:GO Γ3 := .cons k_strings_trimRightASCII Γ2ok
def cutA:Str:=[97,98,99,100]
def cutB:Str:=[65,66,67,68,69,97,98,99,100]
def isCut (s:Str):Bool:=decide (s=cutA)||decide (s=cutB)
def setOf (l:Str) (i:Nat):Bool:=l.any fun c=>Nat.beq c.toNat i
def cells256 (l:Str):List C:=(List.range 256).map fun i => .r (.v (.bool (setOf l i)))
def inCut (l:Str) (c:UInt8):Bool:=setOf l c.toNat
def trim (cut s:Str):Str:=trimL (inCut cut) (trimR (inCut cut) s)
theorem isCut_iff {s:Str} (h:isCut s=true):s=cutA∨s=cutB:=by
 unfold isCut at h
 rw[Bool.or_eq_true,decide_eq_true_eq,decide_eq_true_eq]at h
 exact h
def cx_mkSet0:Cx:=cxOf Γ3 Tryz.f141.ntmps [(2,[0,2,4])] [(0,[2]),(1,[0,2,4])] [] []
def cx_mkSet:Cx:=cx_mkSet0.withLoops (look [(2,unroll cx_mkSet0 (loopOf Tryz.f141 0) 2 12)])
theorem y_mkSetA:evFn cx_mkSet Tryz.f141 true [ofD .str cutA] []=some (.tup [.agg (cells256 cutA), .one (.r (.v (.bool true)))],[]):=by kernel_rfl
theorem y_mkSetB:evFn cx_mkSet Tryz.f141 true [ofD .str cutB] []=some (.tup [.agg (cells256 cutB), .one (.r (.v (.bool true)))],[]):=by kernel_rfl
theorem s_mkSet (s:Str) (h:isCut s=true):Sat Tryz.prog 141 [ofD .str s] [] (.tup [.agg (cells256 s), .one (.r (.v (.bool true)))]) [] :=
 fn_sound (cx:=cx_mkSet) Tryz.func141 rfl ttOk Γ3ok mixed (fun c hc=>LoopsOk.one (b:=loopOf Tryz.f141 0) (id:=2) (g:=unroll cx_mkSet0 (loopOf Tryz.f141 0) 2 12) (by cases hc;kernel_rfl) rfl (unroll_ok (by kernel_rfl))) (ro:=true) (by
  rcases isCut_iff h with rfl | rfl
  ·exact y_mkSetA
  ·exact y_mkSetB)
def c_strings_makeASCIISet:Con:=⟨true,fun ds os=>match ds,os with
 | [.one (.r (.v (.string s)))],[]=>match isCut s.data.toList with
  |true=>some (none, .tup [.agg (cells256 s.data.toList), .one (.r (.v (.bool true)))],[])
  |false=>none
 |_,_=>none⟩
theorem k_strings_makeASCIISet:ConOk Tryz.prog 141 c_strings_makeASCIISet:=by
 refine⟨Tryz.call141,fun ds os c x objs hc hok => ?_⟩
 unfold c_strings_makeASCIISet at hc
 dsimp only at hc
 split at hc
 ·rename_i s
  split at hc
  ·rename_i hb
   cases hc
   exact s_mkSet s.data.toList hb
  ·cases hc
 ·cases hc
def Γ4:GL:=(141,c_strings_makeASCIISet)::Γ3
theorem Γ4ok:GO Γ4 := .cons k_strings_makeASCIISet Γ3ok
theorem y_trimA (s:Str):evFn (cxOf Γ4 Tryz.f105.ntmps [] [] [] []) Tryz.f105 true [ofD .str s,ofD .str cutA] []=branch (bif decide (s=[])then true else false) (some (.d (ofD .str s),[])) (need true (need true (some (.d (ofD .str (trimL (hasB fun i=>((List.range 256).map fun i=>R.v (.bool (setOf cutA i))).getD i z0) (trimR (hasB fun i=>((List.range 256).map fun i=>R.v (.bool (setOf cutA i))).getD i z0) s))),[])))):=by kernel_rfl
theorem y_trimB (s:Str):evFn (cxOf Γ4 Tryz.f105.ntmps [] [] [] []) Tryz.f105 true [ofD .str s,ofD .str cutB] []=branch (bif decide (s=[])then true else false) (some (.d (ofD .str s),[])) (need true (need true (some (.d (ofD .str (trimL (hasB fun i=>((List.range 256).map fun i=>R.v (.bool (setOf cutB i))).getD i z0) (trimR (hasB fun i=>((List.range 256).map fun i=>R.v (.bool (setOf cutB i))).getD i z0) s))),[])))):=by kernel_rfl
theorem hasB_cells (cut:Str):(hasB fun i=>((List.range 256).map fun i=>R.v (.bool (setOf cut i))).getD i z0)=inCut cut:=by
 funext c
 unfold hasB inCut
 show theB (((List.range 256).map fun i=>R.v (.bool (setOf cut i))).getD c.toNat z0)=_
 rw[List.getD_eq_getElem?_getD,List.getElem?_map,List.getElem?_range c.toNat_lt]
 rfl
theorem s_trim (s cut:Str) (h:isCut cut=true):Sat Tryz.prog 105 [ofD .str s,ofD .str cut] [] (.d (ofD .str (trim cut s))) [] :=
 fn_sound (cx:=cxOf Γ4 Tryz.f105.ntmps [] [] [] []) Tryz.func105 rfl ttOk Γ4ok mixed (fun c hc=>LoopsOk.nil (by cases hc;kernel_rfl)) (ro:=true) (by
  have key:∀(cut:Str),branch (bif decide (s=[])then true else false) (some ((.d (ofD .str s),[]):Fin)) (need true (need true (some (.d (ofD .str (trimL (hasB fun i=>((List.range 256).map fun i=>R.v (.bool (setOf cut i))).getD i z0) (trimR (hasB fun i=>((List.range 256).map fun i=>R.v (.bool (setOf cut i))).getD i z0) s))),[]))))=some (.d (ofD .str (trim cut s)),[]):=by
   intro cut
   rw[hasB_cells]
   by_cases hs:s=[]
   ·subst hs;rfl
   ·rw[decide_eq_false hs];rfl
  rcases isCut_iff h with rfl | rfl
  ·rw[y_trimA];exact key cutA
  ·rw[y_trimB];exact key cutB)
def c_strings_Trim:Con:=conT [.str, .str] fun s cut=>(some (isCut cut), .d (ofD .str (trim cut s)))
theorem k_strings_Trim:ConOk Tryz.prog 105 c_strings_Trim:=conT_ok Tryz.call105 fun s _ cut _ h=>s_trim s cut (by
 rcases h with h | h
 ·cases h
 ·exact Option.some.inj h)
def Γ5:GL:=(105,c_strings_Trim)::Γ4
theorem Γ5ok:GO Γ5 := .cons k_strings_Trim Γ4ok
theorem dropWhile_nil {p:UInt8→Bool}:∀ {s:Str},s.dropWhile p=[]↔s.all p=true
 | []=>by simp
 |c::s=>by
  rw[List.dropWhile_cons,List.all_cons]
  cases h:p c
  ·simp
  ·simp[dropWhile_nil (s:=s)]
theorem trim_nil {cut s:Str}:trim cut s=[]↔s.all (inCut cut)=true:=by
 unfold trim trimL trimR
 rw[dropWhile_nil,List.all_reverse]
 constructor
 ·intro h
  have h1:∀(l:Str),(l.dropWhile (inCut cut)).all (inCut cut)=true→l.all (inCut cut)=true:=by
   intro l
   induction l with
   |nil=>intro _;rfl
   |cons c l ih =>
    intro hl
    rw[List.dropWhile_cons]at hl
    cases hc:inCut cut c
    ·rw[hc]at hl;exact hl
    ·rw[hc]at hl;rw[List.all_cons,hc,ih hl];rfl
  have:=h1 _ h
  rwa [List.all_reverse]at this
 ·intro h
  have:s.reverse.dropWhile (inCut cut)=[]:=dropWhile_nil.2 (by rw[List.all_reverse];exact h)
  rw[this];rfl
theorem inCut_A (c:UInt8):inCut cutA c=(Nat.ble 97 c.toNat&&Nat.ble c.toNat 100):=by
 have:∀n:_root_.Fin 256,setOf cutA n.val=(Nat.ble 97 n.val&&Nat.ble n.val 100):=by decide +kernel
 exact this ⟨c.toNat,c.toNat_lt⟩
theorem inCut_B (c:UInt8):inCut cutB c=((Nat.ble 65 c.toNat&&Nat.ble c.toNat 69)||(Nat.ble 97 c.toNat&&Nat.ble c.toNat 100)):=by
 have:∀n:_root_.Fin 256,setOf cutB n.val=((Nat.ble 65 n.val&&Nat.ble n.val 69)||(Nat.ble 97 n.val&&Nat.ble n.val 100)):=by decide +kernel
 exact this ⟨c.toNat,c.toNat_lt⟩
end
end Go.Proofs.YtmeiebnfmhddnaaGreatDoor.Ev
