/-
  Sets of signs.
-/
import Derived.Test.YtmeiebnfmhddnaaGreatDoorGn
namespace Go.Proofs.YtmeiebnfmhddnaaGreatDoor.Ev
open Go
noncomputable section
def isUni (_:FuncId):Bool:=false
theorem y_setOf1U {f:FuncId} (h:isUni f=true) (t:TypeId) (c:Int):evFn (cxOf Γ49 Tryz.f136.ntmps [] [] [] []) Tryz.f136 false [ofD TU8 c, .one (.ptr 0 0)] [.box t [.fn f []]]=some (vB (!true),[(0,some (.box t [.fn f []]))]):=by cases h
def chrS (c:Int):Str:=(Utf8.encode (IntKind.i32.wrap c)).data.toList
theorem y_setOf1B (t:TypeId) (c:Int):evFn (cxOf Γ49 Tryz.f136.ntmps [] [] [] []) Tryz.f136 false [ofD TU8 c, .one (.ptr 0 0)] [.box t [.fn 42 []]]=some (vB (!bigS (chrS c)),[(0,some (.box t [.fn 42 []]))]):=by kernel_rfl
theorem y_setOf1S (t:TypeId) (c:Int):evFn (cxOf Γ49 Tryz.f136.ntmps [] [] [] []) Tryz.f136 false [ofD TU8 c, .one (.ptr 0 0)] [.box t [.fn 55 []]]=some (vB (!smallS (chrS c)),[(0,some (.box t [.fn 55 []]))]):=by kernel_rfl
def holdF (f:FuncId):Option (Str→Bool):=bif Nat.beq f 42 then some bigS else bif Nat.beq f 55 then some smallS else bif isUni f then some (fun _=>true)else none
theorem s_setOf1 {f:FuncId} {p:Str→Bool} (h:holdF f=some p) (t:TypeId) (c:Int):Sat Tryz.prog 136 [ofD TU8 c, .one (.ptr 0 0)] [.box t [.fn f []]] (vB (!p (chrS c))) [(0,some (.box t [.fn f []]))]:=by
 have snd:∀ {x:T} {objs:Heap},evFn (cxOf Γ49 Tryz.f136.ntmps [] [] [] []) Tryz.f136 false [ofD TU8 c, .one (.ptr 0 0)] [.box t [.fn f []]]=some (x,objs)→Sat Tryz.prog 136 [ofD TU8 c, .one (.ptr 0 0)] [.box t [.fn f []]] x objs:=fun he =>
  fn_sound (cx:=cxOf Γ49 Tryz.f136.ntmps [] [] [] []) Tryz.func136 rfl ttOk Γ49ok mixed (fun _ _=>LoopsOk.no fun _=>rfl) (ro:=false) he
 refine snd ?_
 unfold holdF at h
 cases h1:Nat.beq f 42<;>rw[h1]at h
 ·cases h2:Nat.beq f 55<;>rw[h2]at h
  ·cases h3:isUni f<;>rw[h3]at h
   ·cases h
   ·cases h
    exact y_setOf1U h3 t c
  ·cases h
   have:=Nat.eq_of_beq_eq_true h2
   subst this
   exact y_setOf1S t c
 ·cases h
  have:=Nat.eq_of_beq_eq_true h1
  subst this
  exact y_setOf1B t c
def pF (f:FuncId):Str→Bool:=(holdF f).getD fun _=>false
def c_impl_setOf_1:Con:=⟨false,fun ds os=>match ds,os with
 | [.one (.r (.v (.int .u8 c))), .one (.ptr 0 0)],[.box t [.fn f []]]=>some (some (holdF f).isSome,vB (!pF f (chrS c)),[(0,some (.box t [.fn f []]))])
 |_,_=>none⟩
theorem k_impl_setOf_1:ConOk Tryz.prog 136 c_impl_setOf_1:=by
 refine⟨Tryz.call136,fun ds os c x objs hc hok => ?_⟩
 unfold c_impl_setOf_1 at hc
 dsimp only at hc
 split at hc
 ·rename_i c0 t f
  cases hc
  have hp:=pre_of hok
  cases h:holdF f with
  |none=>rw[h]at hp;cases hp
  |some p =>
   have:=s_setOf1 h t c0
   unfold pF
   rw[h]
   exact this
 ·cases hc
def Γ50:GL:=(136,c_impl_setOf_1)::Γ49
theorem Γ50ok:GO Γ50 := .cons k_impl_setOf_1 Γ49ok
def cb_ixF:Cx:=cxOf Γ50 Tryz.f158.ntmps [(2,[0,1,7,8])] [(0,[]),(1,[0,1,7,8]),(1000000,[4])] [] []
theorem x_ixF (l:List Int) (t:TypeId) (f:FuncId) (n i:Int) (R:St→Option Fin) (K:Cont):evC (cb_ixF.withLoops (look [])) (loopOf Tryz.f158 0) ⟨[(0, .d (.one (.own 0))),(1, .d (.one (.fn 136 [1]))),(7,vI n),(8,vI i)],[(0,some (.lis 5 TU8 l)),(1,some (.box t [.fn f []]))]⟩ (onward (headAt (cb_ixF.withLoops (look [])) 2) R K)=(
branch (decide (i<n)) (
 need (inb i l.length) <|
 need ((holdF f).isSome) <|
 branch (!pF f (chrS (l.getD i.toNat 0))) ( K (.ret) (.mk [(4,vI i)] [(1,(.some (.box t [(.fn f [])]))),(0,some (.lis 5 TU8 l))])) ( R (.mk [(0,(.d (.one (.own 0)))),(1,(.d (.one (.fn 136 [1])))),(7,vI n),(8,vI (W64 (i+1)))] [(0,some (.lis 5 TU8 l)),(1,(.some (.box t [(.fn f [])])))]))) ( K (.exit 0) (.mk [] [(0,some (.lis 5 TU8 l)),(1,(.some (.box t [(.fn f [])])))]))):=by kernel_rfl
def ixV (f:FuncId):List Int→Nat→Option Nat
 | [],_=>none
 |x::l,k=>bif !pF f (chrS x)then some k else ixV f l (k+1)
theorem ixV_at {f:FuncId} {l:List Int} {i:Nat} (h:i<l.length):ixV f (l.drop i) i=bif !pF f (chrS (l.getD i 0))then some i else ixV f (l.drop (i+1)) (i+1):=by
 rw[List.drop_eq_getElem_cons h,getD_at h];rfl
def cx0_ixF:Cx:=(cb_ixF).withLoops (look [])
def sh_ixF:Sh:=([(0, .own 0),(1, .fn 136 [1]),(7, .d TI64),(8, .d TI64)],[(0, .lis 5 TU8),(1, .mix 61 [.fnv])])
abbrev st_ixF (n i:Int) (l:List (Int)) (f:Nat):St:=⟨[(0, .d (.one (.own 0))),(1, .d (.one (.fn 136 [1]))),(7,vI n),(8,vI i)],[(0,some (.lis 5 TU8 l)),(1,some (.box 61 ([.fn f []])))]⟩
def pre_ixF (n i:Int) (l:List (Int)) (f:Nat):Bool:=decide (0≤i)&&(decide (n=(List.length l:Int))&&(Nat.ble (List.length l) 1000000&&(holdF f).isSome))
def res_ixF (_n i:Int) (l:List (Int)) (f:Nat) (K:Cont):Option Fin:=branch (ixV f (l.drop i.toNat) i.toNat).isSome (K .ret ⟨[(4,vI (((ixV f (l.drop i.toNat) i.toNat).getD 0:Nat):Int))],[(1,some (.box 61 [.fn f []])),(0,some (.lis 5 TU8 l))]⟩) (K (.exit 0) ⟨[],[(0,some (.lis 5 TU8 l)),(1,some (.box 61 [.fn f []]))]⟩)
def mu_ixF (_n i:Int) (l:List (Int)) (_f:Nat):Nat:=l.length-i.toNat
theorem r_ixF (n i:Int) (l:List (Int)) (f:Nat) (K:Cont) (hI:pre_ixF n i l f=true):(∀R:St→Option Fin,evC cx0_ixF (loopOf Tryz.f158 0) (st_ixF n i l f) (onward (headAt cx0_ixF 2) R K)=res_ixF n i l f K) ∨
  (∃(n' i':Int) (l':List (Int)) (f':Nat),pre_ixF n' i' l' f'=true∧mu_ixF n' i' l' f'<mu_ixF n i l f∧res_ixF n' i' l' f' K=res_ixF n i l f K∧∀R:St→Option Fin,evC cx0_ixF (loopOf Tryz.f158 0) (st_ixF n i l f) (onward (headAt cx0_ixF 2) R K)=R (st_ixF n' i' l' f')):=by
 have hx:=fun R=>x_ixF l 61 f n i R K
 simp only[pre_ixF,andd,dec_iff,ble_iff]at hI
 obtain⟨h0,rfl,h2,h3⟩:=hI
 by_cases hi:i<(l.length:Int)
 ·have e:=ixV_at (f:=f) (l:=l) (i:=i.toNat) (by omega)
  have w:W64 (i+1)=i+1:=wrap_small (by omega) (by omega)
  simp only[hi,decide_true,inb_ok h0 hi,h3,w]at hx
  cases hc : !pF f (chrS (l.getD i.toNat 0))
  ·right
   rw[hc]at e
   refine⟨(l.length:Int),i+1,l,f, ?_, ?_, ?_,fun R=>(hx R).trans ?_⟩
   ·simp only[pre_ixF,andd,dec_iff,ble_iff,true_and];exact ⟨by omega,h2,h3⟩
   ·simp only[mu_ixF];omega
   ·simp only[res_ixF,e,show (i+1).toNat=i.toNat+1 by omega];rfl
   ·rw[hc];rfl
  ·left
   intro R
   rw[hc]at e
   refine(hx R).trans ?_
   rw[hc]
   simp only[res_ixF,e]
   show K .ret _=K .ret _
   simp only[cond_true,Option.getD_some,Int.toNat_of_nonneg h0]
 ·left
  intro R
  refine(hx R).trans ?_
  simp only[hi,decide_false,res_ixF,List.drop_eq_nil_of_le (show l.length≤i.toNat by omega)];rfl
def g_ixF:St→Cont→Option Fin:=gP sh_ixF (fun v=>match v with | ((n,i,()),(l,(f,()),()))=>pre_ixF n i l f) (fun v K=>match v with | ((n,i,()),(l,(f,()),()))=>res_ixF n i l f K)
def L_ixF:LpL:=(2,g_ixF)::[]
def cx_ixF:Cx:=(cb_ixF).withLoops (look L_ixF)
theorem l_ixF {L:LpL} (n:Nat) (h1:L.drop n=[]) (h2:idsFree (L.take n) (loopOf Tryz.f158 0)=true):LoopsTo g_ixF (cb_ixF) (loopOf Tryz.f158 0) 2 L :=
 with_drop h1 h2 (gP_ok (fun v=>match v with | ((n,i,()),(l,(f,()),()))=>mu_ixF n i l f) fun v K hI=>by
  obtain⟨⟨n,i,⟨⟩⟩,⟨l,⟨f,⟨⟩⟩,⟨⟩⟩⟩:=v
  exact(r_ixF n i l f K hI).imp id fun⟨n',i',l',f',h⟩=>⟨((n',i',()),(l',(f',()),())),h⟩)
abbrev hLF (l:List Int) (f:FuncId):Heap:=[(0,some (.lis 5 TU8 l)),(1,some (.box 61 [.fn f []]))]
def ixI (f:FuncId) (l:List Int):Int:=bif (ixV f l 0).isSome then(((ixV f l 0).getD 0:Nat):Int)else -1
theorem y_ixF (l:List Int) (f:FuncId):evFn cx_ixF Tryz.f158 false [.one (.own 0), .one (.fn 136 [1])] [.lis 5 TU8 l, .box 61 [.fn f []]] =
 need (pre_ixF (l.length:Int) 0 l f) (branch (ixV f l 0).isSome (some (vI (((ixV f l 0).getD 0:Nat):Int),hLF l f)) (some (vI (-1),hLF l f))):=by kernel_rfl
theorem s_ixF (l:List Int) (f:FuncId) (h:(Nat.ble l.length 1000000&&(holdF f).isSome)=true):Sat Tryz.prog 158 [.one (.own 0), .one (.fn 136 [1])] [.lis 5 TU8 l, .box 61 [.fn f []]] (vI (ixI f l)) (hLF l f) :=
 fn_sound (cx:=cx_ixF) Tryz.func158 rfl ttOk Γ50ok mixed (fun c hc=>LoopsOk.all (l:=[(2,loopOf Tryz.f158 0)]) (by cases hc;kernel_rfl) ⟨atLoop rfl (l_ixF 1 rfl (by kernel_rfl)),trivial⟩) (ro:=false) (by
  have hp:pre_ixF (l.length:Int) 0 l f=true:=andd.2 ⟨rfl,andd.2 ⟨decide_eq_true rfl,h⟩⟩
  rw[y_ixF,hp]
  unfold ixI
  cases (ixV f l 0).isSome<;>rfl)
def c_slices_IndexFunc_byte_byte:Con:=⟨false,fun ds os=>match ds,os with
 | [.one (.own 0), .one (.fn g [1])],[o, .box t [.fn f []]]=>match exLis 5 TU8 (some o),Nat.beq g 136&&Nat.beq t 61 with
  |some l,true=>some (some (Nat.ble (List.length l) 1000000&&(holdF f).isSome),vI (ixI f l),hLF l f)
  |_,_=>none
 |_,_=>none⟩
theorem k_slices_IndexFunc_byte_byte:ConOk Tryz.prog 158 c_slices_IndexFunc_byte_byte:=by
 refine⟨Tryz.call158,fun ds os c x objs hc hok => ?_⟩
 unfold c_slices_IndexFunc_byte_byte at hc
 dsimp only at hc
 split at hc
 ·split at hc
  ·rename_i l e1 e2
   cases hc
   have e1:=Option.some.inj (exLis_some e1)
   subst e1
   obtain⟨h1,h2⟩:=andd.1 e2
   have h1:=Nat.eq_of_beq_eq_true h1
   have h2:=Nat.eq_of_beq_eq_true h2
   subst h1;subst h2
   exact s_ixF l _ (pre_of hok)
  ·cases hc
 ·cases hc
def Γ51:GL:=(158,c_slices_IndexFunc_byte_byte)::Γ50
theorem Γ51ok:GO Γ51 := .cons k_slices_IndexFunc_byte_byte Γ50ok
end
end Go.Proofs.YtmeiebnfmhddnaaGreatDoor.Ev
