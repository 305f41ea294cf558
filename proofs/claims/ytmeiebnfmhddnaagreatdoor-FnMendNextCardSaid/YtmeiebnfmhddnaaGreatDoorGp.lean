/-
  slices.DeleteFunc at bytes; sets of signs.
-/
import Derived.Test.YtmeiebnfmhddnaaGreatDoorGo
namespace Go.Proofs.YtmeiebnfmhddnaaGreatDoor.Ev
open Go
noncomputable section
set_option maxHeartbeats 1000000
def cb_del:Cx:=cxOf Γ51 Tryz.f134.ntmps [(5,[0,1,5,6])] [(0,[0,5]),(1,[0,1,5,6]),(1000000,[4])] [] []
theorem x_del (l:List Int) (f:FuncId) (i j:Int) (R:St→Option Fin) (K:Cont):evC (cb_del.withLoops (look [])) (loopOf Tryz.f134 0) ⟨[(0, .d (.one (.own 0))),(1, .d (.one (.fn 136 [1]))),(5,vI i),(6,vI j)],[(0,some (.lis 5 TU8 l)),(1,some (.box 61 [.fn f []]))]⟩ (onward (headAt (cb_del.withLoops (look [])) 5) R K)=(
branch (decide (j<(l.length:Int))) (
 need (inb j l.length) <|
 need ((holdF f).isSome) <|
 branch (!!pF f (chrS (l.getD j.toNat 0))) (
 need (inb i l.length) <| R (.mk [(0,(.d (.one (.own 0)))),(1,(.d (.one (.fn 136 [1])))),(5,vI (W64 (i+1))),(6,vI (W64 (j+1)))] [(0,(.some (.lis 5 TU8 (l.set i.toNat (l.getD j.toNat 0))))),(1,(.some (.box 61 [(.fn f [])])))])) ( R (.mk [(0,(.d (.one (.own 0)))),(1,(.d (.one (.fn 136 [1])))),(5,vI i),(6,vI (W64 (j+1)))] [(0,some (.lis 5 TU8 l)),(1,(.some (.box 61 [(.fn f [])])))]))) ( K (.exit 0) (.mk [(0,(.d (.one (.own 0)))),(5,vI i)] [(0,some (.lis 5 TU8 l)),(1,(.some (.box 61 [(.fn f [])])))]))):=by kernel_rfl
def dlL (f:FuncId):Nat→List Int→Nat→Nat→List Int×Nat
 |0,l,i,_=>(l,i)
 |m+1,l,i,j=>bif pF f (chrS (l.getD j 0))then dlL f m (l.set i (l.getD j 0)) (i+1) (j+1)else dlL f m l i (j+1)
def cx0_del:Cx:=(cb_del).withLoops (look [])
def sh_del:Sh:=([(0, .own 0),(1, .fn 136 [1]),(5, .d TI64),(6, .d TI64)],[(0, .lis 5 TU8),(1, .mix 61 [.fnv])])
abbrev st_del (i j:Int) (l:List (Int)) (f:Nat):St:=⟨[(0, .d (.one (.own 0))),(1, .d (.one (.fn 136 [1]))),(5,vI i),(6,vI j)],[(0,some (.lis 5 TU8 l)),(1,some (.box 61 ([.fn f []])))]⟩
def pre_del (i j:Int) (l:List (Int)) (f:Nat):Bool:=decide (0≤i)&&(decide (i<j)&&(decide (j≤1000001)&&(Nat.ble (List.length l) 1000000&&(holdF f).isSome)))
def res_del (i j:Int) (l:List (Int)) (f:Nat) (K:Cont):Option Fin:=K (.exit 0) ⟨[(0, .d (.one (.own 0))),(5,vI ((dlL f (l.length-j.toNat) l i.toNat j.toNat).2:Nat))],[(0,some (.lis 5 TU8 (dlL f (l.length-j.toNat) l i.toNat j.toNat).1)),(1,some (.box 61 [.fn f []]))]⟩
def mu_del (_i j:Int) (l:List (Int)) (_f:Nat):Nat:=l.length-j.toNat
theorem r_del (i j:Int) (l:List (Int)) (f:Nat) (K:Cont) (hI:pre_del i j l f=true):(∀R:St→Option Fin,evC cx0_del (loopOf Tryz.f134 0) (st_del i j l f) (onward (headAt cx0_del 5) R K)=res_del i j l f K) ∨
  (∃(i' j':Int) (l':List (Int)) (f':Nat),pre_del i' j' l' f'=true∧mu_del i' j' l' f'<mu_del i j l f∧res_del i' j' l' f' K=res_del i j l f K∧∀R:St→Option Fin,evC cx0_del (loopOf Tryz.f134 0) (st_del i j l f) (onward (headAt cx0_del 5) R K)=R (st_del i' j' l' f')):=by
 have hx:=fun R=>x_del l f i j R K
 simp only[pre_del,andd,dec_iff,ble_iff]at hI
 obtain⟨h0,h1,h2,h3,h4⟩:=hI
 by_cases hj:j<(l.length:Int)
 ·have w1:W64 (j+1)=j+1:=wrap_small (by omega) (by omega)
  have w2:W64 (i+1)=i+1:=wrap_small (by omega) (by omega)
  obtain⟨m,hm⟩:∃m,l.length-j.toNat=m+1:=⟨l.length-j.toNat-1,by omega⟩
  have hm':l.length-(j.toNat+1)=m:=by omega
  have t1:(j+1).toNat=j.toNat+1:=by omega
  have t2:(i+1).toNat=i.toNat+1:=by omega
  simp only[hj,decide_true,inb_ok (by omega:0≤j) hj,inb_ok h0 (by omega:i<(l.length:Int)),h4,w1,w2]at hx
  right
  cases hc:pF f (chrS (l.getD j.toNat 0))
  ·refine ⟨i,j+1,l,f, ?_, ?_, ?_,fun R=>(hx R).trans ?_⟩
   ·simp only[pre_del,andd,dec_iff,ble_iff];exact ⟨h0,by omega,by omega,h3,h4⟩
   ·simp only[mu_del];omega
   ·simp only[res_del,t1,hm,hm',dlL,hc];rfl
   ·rw[hc];rfl
  ·refine ⟨i+1,j+1,l.set i.toNat (l.getD j.toNat 0),f, ?_, ?_, ?_,fun R=>(hx R).trans ?_⟩
   ·simp only[pre_del,andd,dec_iff,ble_iff,List.length_set];exact ⟨by omega,by omega,by omega,h3,h4⟩
   ·simp only[mu_del,List.length_set];omega
   ·simp only[res_del,List.length_set,t1,t2,hm,hm',dlL,hc];rfl
   ·rw[hc];rfl
 ·left
  intro R
  refine(hx R).trans ?_
  simp only[hj,decide_false,res_del,show l.length-j.toNat=0 by omega,dlL,Int.toNat_of_nonneg h0];rfl
def g_del:St→Cont→Option Fin:=gP sh_del (fun v=>match v with | ((i,j,()),(l,(f,()),()))=>pre_del i j l f) (fun v K=>match v with | ((i,j,()),(l,(f,()),()))=>res_del i j l f K)
def L_del:LpL:=(5,g_del)::[]
def cx_del:Cx:=(cb_del).withLoops (look L_del)
theorem l_del {L:LpL} (n:Nat) (h1:L.drop n=[]) (h2:idsFree (L.take n) (loopOf Tryz.f134 0)=true):LoopsTo g_del (cb_del) (loopOf Tryz.f134 0) 5 L :=
 with_drop h1 h2 (gP_ok (fun v=>match v with | ((i,j,()),(l,(f,()),()))=>mu_del i j l f) fun v K hI=>by
  obtain⟨⟨i,j,⟨⟩⟩,⟨l,⟨f,⟨⟩⟩,⟨⟩⟩⟩:=v
  exact(r_del i j l f K hI).imp id fun⟨i',j',l',f',h⟩=>⟨((i',j',()),(l',(f',()),())),h⟩)
abbrev dlE (f:FuncId) (l:List Int) (i:Int):List Int×Nat:=dlL f (l.length-(W64 (i+1)).toNat) l i.toNat (W64 (i+1)).toNat
def delOut (f:FuncId) (r:List Int×Nat):Option Fin :=
 need (inr (r.2:Nat) (r.1.length:Int) r.1.length&&Nat.blt 0 r.1.length) <| need (Nat.blt r.2 r.1.length) <| need (inr 0 (r.2:Nat) (clrL (e:=TU8) r.1 r.2).length) <|
 some (.d (.one (.own 1000)),[(1000,some (.lis 5 TU8 (List.take r.2 (clrL (e:=TU8) r.1 r.2)))),(1,some (.box 61 [.fn f []])),(0,none)])
theorem y_del (l:List Int) (f:FuncId):evFn cx_del Tryz.f134 false [.one (.own 0), .one (.fn 136 [1])] [.lis 5 TU8 l, .box 61 [.fn f []]] =
 need (Nat.ble l.length 1000000&&(holdF f).isSome) (branch (decide (ixI f l = -1)) (some (.d (.one (.own 0)),hLF l f)) (need (pre_del (ixI f l) (W64 (ixI f l+1)) l f) (delOut f (dlE f l (ixI f l))))):=by kernel_rfl
theorem sat_move2 {P:Program} {f:FuncId} {ds:List D} {o0 o1 p1:Obj} {t:TypeId} {e:Ty} {l:List (Den e)} (S:Sat P f ds [o0,o1] (.d (.one (.own 0))) [(0,some (.lis t e l)),(1,some p1)]) :
  Sat P f ds [o0,o1] (.d (.one (.own 1000))) [(1000,some (.lis t e l)),(1,some p1),(0,none)]:=by
 intro w F β args H hds
 refine(S w F β args H hds).mono ?_
 rintro ex w' ⟨v,F',β',r1,r2,r3,r4,r5,r6⟩
 have h0:look [(0,some (Obj.lis t e l)),(1,some p1)] 0=some (some (.lis t e l)):=rfl
 obtain⟨H1,_⟩:=r2.kill 0
 rw[setB_self]at H1
 have hs1:setH (look [(0,some (Obj.lis t e l)),(1,some p1)]) 0 none 1000=none:=rfl
 have T:=H1.turn (w':=w') (F':=F') 1000 (some (.lis t e l)) (β' 0) rfl rfl rfl (Nat.le_refl _) (fun b=>Blk (β' 0) b)
  (fun b hb=>⟨r2.notF 0 _ b h0 hb,fun j o' _ hj hb'=>by
   simp only[setH]at hj
   split at hj
   ·cases hj
   ·rename_i hne
    exact hne (r2.apart j 0 o' _ b hj h0 hb' hb),r2.fromO 0 _ b h0 hb⟩)
  (fun _ _ _=>rfl) (fun _ hf=>hf) (fun _ hf => .inl hf) (fun q0 _ h0=>by rw[hs1]at h0;cases h0)
  (fun _ ob hob=>by
   cases hob
   refine⟨RepO.leaf.2 ?_,fun b hb => .inl hb⟩
   have:=RepO.leaf.1 (r2.obj 0 _ h0)
   simpa [setB]using this)
 have hcomm:setH (setH (look [(0,some (Obj.lis t e l)),(1,some p1)]) 0 none) 1000 (some (.lis t e l))=look [(1000,some (Obj.lis t e l)),(1,some p1),(0,none)]:=by
  funext j
  simp only[setH,look]
  by_cases h1:j=1000
  ·subst h1;rfl
  ·by_cases h2:j=0
   ·subst h2;rfl
   ·rw[if_neg h1,if_neg h2]
    have e1:Nat.beq 0 j=false:=by cases h:Nat.beq 0 j with | false=>rfl | true=>exact absurd (Nat.eq_of_beq_eq_true h).symm h2
    have e2:Nat.beq 1000 j=false:=by cases h:Nat.beq 1000 j with | false=>rfl | true=>exact absurd (Nat.eq_of_beq_eq_true h).symm h1
    rw[e1,e2];rfl
 rw[hcomm]at T
 have hv:v=β' 0:=r6.2.2 _ h0
 have h2:∀i,i<2→i=0∨i=1:=fun i hi=>by omega
 refine⟨v,F',_,r1,T.1,fun i hi => ?_,fun i o hi ho => ?_,fun _ _ _=>by simp, ?_⟩
 ·rcases h2 i hi with rfl | rfl
  ·exact ⟨none,rfl⟩
  ·exact ⟨some p1,rfl⟩
 ·rcases h2 i hi with rfl | rfl
  ·cases ho
  ·show setB β' 1000 (β' 0) 1=β 1
   exact r4 1 p1 hi rfl
 ·exact ⟨r6.1,⟨_,rfl⟩,fun o ho=>by rw[hv];simp[setB]⟩
theorem ixV_lt {f:FuncId}:∀ {l:List Int} {k q:Nat},ixV f l k=some q→k≤q∧q<k+l.length
 | [],k,q,h=>by cases h
 |x::l,k,q,h=>by
  unfold ixV at h
  cases hc : !pF f (chrS x)<;>rw[hc]at h
  ·have:=ixV_lt (l:=l) (k:=k+1) (q:=q) h
   simp only[List.length_cons];omega
  ·cases h
   simp only[List.length_cons];omega
theorem dlL_len (f:FuncId):∀(m:Nat) (l:List Int) (i j:Nat),(dlL f m l i j).1.length=l.length∧i≤(dlL f m l i j).2∧(dlL f m l i j).2≤i+m
 |0,l,i,j=>⟨rfl,Nat.le_refl _,Nat.le_refl _⟩
 |m+1,l,i,j=>by
  unfold dlL
  cases pF f (chrS (l.getD j 0))
  ·obtain ⟨h1,h2,h3⟩:=dlL_len f m l i (j+1)
   simp only[cond_false];omega
  ·obtain ⟨h1,h2,h3⟩:=dlL_len f m (l.set i (l.getD j 0)) (i+1) (j+1)
   rw[List.length_set]at h1
   simp only[cond_true];omega
def delV (f:FuncId) (l:List Int):List Int:=bif decide (ixI f l = -1)then l else List.take (dlE f l (ixI f l)).2 (clrL (e:=TU8) (dlE f l (ixI f l)).1 (dlE f l (ixI f l)).2)
theorem s_del (l:List Int) (f:FuncId) (h:(Nat.ble l.length 1000000&&(holdF f).isSome)=true):Sat Tryz.prog 134 [.one (.own 0), .one (.fn 136 [1])] [.lis 5 TU8 l, .box 61 [.fn f []]] (.d (.one (.own 1000))) [(1000,some (.lis 5 TU8 (delV f l))),(1,some (.box 61 [.fn f []])),(0,none)]:=by
 have snd:∀ {x:T} {objs:Heap},evFn cx_del Tryz.f134 false [.one (.own 0), .one (.fn 136 [1])] [.lis 5 TU8 l, .box 61 [.fn f []]]=some (x,objs)→Sat Tryz.prog 134 [.one (.own 0), .one (.fn 136 [1])] [.lis 5 TU8 l, .box 61 [.fn f []]] x objs:=fun he =>
  fn_sound (cx:=cx_del) Tryz.func134 rfl ttOk Γ51ok mixed (fun c hc=>LoopsOk.all (l:=[(5,loopOf Tryz.f134 0)]) (by cases hc;kernel_rfl) ⟨atLoop rfl (l_del 1 rfl (by kernel_rfl)),trivial⟩) (ro:=false) he
 have y:=y_del l f
 rw[h]at y
 obtain⟨h1,h2⟩:=andd.1 h
 have h1:=ble_iff.1 h1
 unfold delV
 cases hc:decide (ixI f l = -1)
 ·rw[hc]at y
  have hb:0≤ixI f l∧ixI f l<(l.length:Int):=by
   have hne:=of_decide_eq_false hc
   unfold ixI at hne ⊢
   cases hv:ixV f l 0 with
   |none=>rw[hv]at hne;exact absurd rfl hne
   |some q =>
    have:=ixV_lt hv
    show 0≤(q:Int)∧(q:Int)<_
    omega
  have w:W64 (ixI f l+1)=ixI f l+1:=wrap_small (by omega) (by omega)
  have hp:pre_del (ixI f l) (W64 (ixI f l+1)) l f=true:=by
   rw[w];simp only[pre_del,andd,dec_iff,ble_iff];exact ⟨hb.1,by omega,by omega,h1,h2⟩
  obtain⟨c1,c2,c3⟩:(dlE f l (ixI f l)).1.length=l.length∧(ixI f l).toNat≤(dlE f l (ixI f l)).2∧(dlE f l (ixI f l)).2≤(ixI f l).toNat+(l.length-(W64 (ixI f l+1)).toNat):=dlL_len f _ _ _ _
  rw[w]at c3
  rw[hp]at y
  refine snd (y.trans ?_)
  show delOut f (dlE f l (ixI f l))=_
  generalize dlE f l (ixI f l)=r at c1 c2 c3
  unfold delOut
  have p3:(inr (r.2:Nat) (r.1.length:Int) r.1.length&&Nat.blt 0 r.1.length)=true:=andd.2 ⟨inr_iff.2 (by omega),Nat.ble_eq_true_of_le (by omega)⟩
  have p4:Nat.blt r.2 r.1.length=true:=Nat.ble_eq_true_of_le (by omega)
  have p5:inr 0 (r.2:Nat) (clrL (e:=TU8) r.1 r.2).length=true:=inr_iff.2 (by rw[clr_len (by omega)];omega)
  rw[p3,p4,p5];rfl
 ·rw[hc]at y
  exact sat_move2 (snd y)
def c_slices_DeleteFunc_byte_byte:Con:=⟨false,fun ds os=>match ds,os with
 | [.one (.own 0), .one (.fn g [1])],[o, .box t [.fn f []]]=>match exLis 5 TU8 (some o),Nat.beq g 136&&Nat.beq t 61 with
  |some l,true=>some (some (Nat.ble (List.length l) 1000000&&(holdF f).isSome), .d (.one (.own 1000)),[(1000,some (.lis 5 TU8 (delV f l))),(1,some (.box 61 [.fn f []])),(0,none)])
  |_,_=>none
 |_,_=>none⟩
theorem k_slices_DeleteFunc_byte_byte:ConOk Tryz.prog 134 c_slices_DeleteFunc_byte_byte:=by
 refine⟨Tryz.call134,fun ds os c x objs hc hok => ?_⟩
 unfold c_slices_DeleteFunc_byte_byte at hc
 dsimp only at hc
 split at hc
 ·split at hc
  ·rename_i l e1 e2
   cases hc
   have e1:=Option.some.inj (exLis_some e1)
   subst e1
   obtain⟨h1,h2⟩:=andd.1 e2
   have h1:=Nat.eq_of_beq_eq_true h1
   have h2:=Nat.eq_of_beq_eq_true h2
   subst h1;subst h2
   exact s_del l _ (pre_of hok)
  ·cases hc
 ·cases hc
def Γ52:GL:=(134,c_slices_DeleteFunc_byte_byte)::Γ51
theorem Γ52ok:GO Γ52 := .cons k_slices_DeleteFunc_byte_byte Γ51ok
end
end Go.Proofs.YtmeiebnfmhddnaaGreatDoor.Ev
