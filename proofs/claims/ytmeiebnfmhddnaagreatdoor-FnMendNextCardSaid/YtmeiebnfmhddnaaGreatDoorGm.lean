/-
  slices.Compact, IndexFunc, DeleteFunc at bytes; sets of signs.
-/
import Derived.Test.YtmeiebnfmhddnaaGreatDoorGl
namespace Go.Proofs.YtmeiebnfmhddnaaGreatDoor.Ev
open Go
noncomputable section
set_option maxHeartbeats 1000000
theorem sat_move {P:Program} {f:FuncId} {ds:List D} {o0:Obj} {t:TypeId} {e:Ty} {l:List (Den e)} (S:Sat P f ds [o0] (.d (.one (.own 0))) [(0,some (.lis t e l))]) :
  Sat P f ds [o0] (.d (.one (.own 1000))) [(1000,some (.lis t e l)),(0,none)]:=by
 intro w F β args H hds
 refine(S w F β args H hds).mono ?_
 rintro ex w' ⟨v,F',β',r1,r2,r3,r4,r5,r6⟩
 have h0:look [(0,some (Obj.lis t e l))] 0=some (some (.lis t e l)):=rfl
 obtain⟨H1,_⟩:=r2.kill 0
 rw[setB_self]at H1
 have hs1:setH (look [(0,some (Obj.lis t e l))]) 0 none 1000=none:=rfl
 have hone:∀b j o',j≠1000→setH (look [(0,some (Obj.lis t e l))]) 0 none j=some (some o')→¬Blk (β' j) b:=by
  intro b j o' _ hj
  cases j with
  |zero=>cases hj
  |succ j=>cases hj
 have T:=H1.turn (w':=w') (F':=F') 1000 (some (.lis t e l)) (β' 0) rfl rfl rfl (Nat.le_refl _) (fun b=>Blk (β' 0) b)
  (fun b hb=>⟨r2.notF 0 _ b h0 hb,hone b,r2.fromO 0 _ b h0 hb⟩)
  (fun _ _ _=>rfl) (fun _ hf=>hf) (fun _ hf => .inl hf) (fun q0 _ h0=>by rw[hs1]at h0;cases h0)
  (fun _ ob hob=>by
   cases hob
   refine⟨RepO.leaf.2 ?_,fun b hb => .inl hb⟩
   have:=RepO.leaf.1 (r2.obj 0 _ h0)
   simpa [setB]using this)
 have hcomm:setH (setH (look [(0,some (Obj.lis t e l))]) 0 none) 1000 (some (.lis t e l))=look [(1000,some (Obj.lis t e l)),(0,none)]:=by
  funext j
  simp only[setH,look]
  by_cases h1:j=1000
  ·subst h1;rfl
  ·by_cases h2:j=0
   ·subst h2;rfl
   ·rw[if_neg h1,if_neg h2]
    have e1:Nat.beq 0 j=false:=by cases h:Nat.beq 0 j with | false=>rfl | true=>exact absurd (Nat.eq_of_beq_eq_true h).symm h2
    have e2:Nat.beq 1000 j=false:=by cases h:Nat.beq 1000 j with | false=>rfl | true=>exact absurd (Nat.eq_of_beq_eq_true h).symm h1
    rw[e1,e2];rfl
 rw[hcomm]at T
 have hv:v=β' 0:=r6.2.2 _ h0
 refine⟨v,F',_,r1,T.1,fun i hi => ?_,fun i o hi ho => ?_,fun _ _ _=>by simp, ?_⟩
 ·have:i=0:=by simpa using hi
  subst this;exact ⟨none,rfl⟩
 ·have:i=0:=by simpa using hi
  subst this;cases ho
 ·exact ⟨r6.1,⟨_,rfl⟩,fun o ho=>by rw[hv];simp[setB]⟩
def cb_cpt:Cx:=cxOf Γ48 Tryz.f135.ntmps [(9,[0,3,4,5]),(4,[0,3])] [(0,[0]),(1,[0,3]),(2,[0,3]),(3,[0,3,4,5]),(1000000,[2])] [] []
theorem x_cptIn (l:List Int) (k j:Int) (w:Nat) (R:St→Option Fin) (K:Cont):evC (cb_cpt.withLoops (look [])) (loopOf Tryz.f135 1) ⟨[(0, .d (.one (.own 0))),(3,vI k),(4, .d (.one (.win 0 1 w))),(5,vI j)],[(0,some (.lis 5 TU8 l))]⟩ (onward (headAt (cb_cpt.withLoops (look [])) 9) R K)=(
branch (decide (j<((l.length-w:Nat):Int))) (
 need (inb j (l.length-w)) <|
 need (inb (W64 (j-1)) (l.length-w)) <|
 branch (!decide (l.getD (w+j.toNat) 0=l.getD (w+(W64 (j-1)).toNat) 0)) (
 need (inb j (l.length-w)) <|
 need (inb k l.length) <| R ⟨[(0, .d (.one (.own 0))),(3,vI (W64 (k+1))),(4, .d (.one (.win 0 1 w))),(5,vI (W64 (j+1)))],[(0,some (.lis 5 TU8 (l.set k.toNat (l.getD (w+j.toNat) 0))))]⟩)
 (R ⟨[(0, .d (.one (.own 0))),(3,vI k),(4, .d (.one (.win 0 1 w))),(5,vI (W64 (j+1)))],[(0,some (.lis 5 TU8 l))]⟩))
 (K (.exit 2) ⟨[(0, .d (.one (.own 0))),(3,vI k)],[(0,some (.lis 5 TU8 l))]⟩)):=by kernel_rfl
def cpL:Nat→List Int→Nat→Nat→List Int×Nat
 |0,l,k,_=>(l,k)
 |m+1,l,k,p=>bif decide (l.getD p 0=l.getD (p-1) 0)then cpL m l k (p+1)else cpL m (l.set k (l.getD p 0)) (k+1) (p+1)
def cx0_cptIn:Cx:=(cb_cpt).withLoops (look [])
def sh_cptIn:Sh:=([(0, .own 0),(3, .d TI64),(4, .win 0 1),(5, .d TI64)],[(0, .lis 5 TU8)])
abbrev st_cptIn (k:Int) (w:Nat) (j:Int) (l:List (Int)):St:=⟨[(0, .d (.one (.own 0))),(3,vI k),(4, .d (.one (.win 0 1 w))),(5,vI j)],[(0,some (.lis 5 TU8 l))]⟩
def pre_cptIn (k:Int) (w:Nat) (j:Int) (l:List (Int)):Bool:=decide (0≤k)&&(decide (1≤j)&&(decide (k<(w:Int)+j)&&(decide (j≤1000001)&&(Nat.ble w (List.length l)&&Nat.ble (List.length l) 1000000))))
def res_cptIn (k:Int) (w:Nat) (j:Int) (l:List (Int)) (K:Cont):Option Fin:=K (.exit 2) ⟨[(0, .d (.one (.own 0))),(3,vI ((cpL (l.length-(w+j.toNat)) l k.toNat (w+j.toNat)).2:Nat))],[(0,some (.lis 5 TU8 (cpL (l.length-(w+j.toNat)) l k.toNat (w+j.toNat)).1))]⟩
def mu_cptIn (_k:Int) (w:Nat) (j:Int) (l:List (Int)):Nat:=l.length-(w+j.toNat)
theorem r_cptIn (k:Int) (w:Nat) (j:Int) (l:List (Int)) (K:Cont) (hI:pre_cptIn k w j l=true):(∀R:St→Option Fin,evC cx0_cptIn (loopOf Tryz.f135 1) (st_cptIn k w j l) (onward (headAt cx0_cptIn 9) R K)=res_cptIn k w j l K) ∨
  (∃(k':Int) (w':Nat) (j':Int) (l':List (Int)),pre_cptIn k' w' j' l'=true∧mu_cptIn k' w' j' l'<mu_cptIn k w j l∧res_cptIn k' w' j' l' K=res_cptIn k w j l K∧∀R:St→Option Fin,evC cx0_cptIn (loopOf Tryz.f135 1) (st_cptIn k w j l) (onward (headAt cx0_cptIn 9) R K)=R (st_cptIn k' w' j' l')):=by
 have hx:=fun R=>x_cptIn l k j w R K
 simp only[pre_cptIn,andd,dec_iff,ble_iff]at hI
 obtain⟨h0,h1,h2,h3,h4,h5⟩:=hI
 have w1:W64 (j-1)=j-1:=wrap_small (by omega) (by omega)
 have w2:W64 (j+1)=j+1:=wrap_small (by omega) (by omega)
 have t1:w+(j-1).toNat=w+j.toNat-1:=by omega
 have t2:w+(j+1).toNat=w+j.toNat+1:=by omega
 rw[w1,w2,t1]at hx
 by_cases hi:j<((l.length-w:Nat):Int)
 ·have b1:inb j (l.length-w)=true:=inb_ok (by omega) hi
  have b2:inb (j-1) (l.length-w)=true:=inb_ok (by omega) (by omega)
  have b3:inb k l.length=true:=inb_ok (by omega) (by omega)
  have w3:W64 (k+1)=k+1:=wrap_small (by omega) (by omega)
  obtain⟨m,hm⟩:∃m,l.length-(w+j.toNat)=m+1:=⟨l.length-(w+j.toNat)-1,by omega⟩
  have hm':l.length-(w+j.toNat+1)=m:=by omega
  simp only[hi,decide_true,b1,b2,b3,w3]at hx
  right
  cases hc:decide (l.getD (w+j.toNat) 0=l.getD (w+j.toNat-1) 0)
  ·refine ⟨k+1,w,j+1,l.set k.toNat (l.getD (w+j.toNat) 0), ?_, ?_, ?_,fun R=>(hx R).trans ?_⟩
   ·simp only[pre_cptIn,andd,dec_iff,ble_iff,List.length_set];omega
   ·simp only[mu_cptIn,List.length_set];omega
   ·simp only[res_cptIn,List.length_set,t2,hm,hm',show (k+1).toNat=k.toNat+1 by omega,cpL,hc];rfl
   ·rw[hc];rfl
  ·refine ⟨k,w,j+1,l, ?_, ?_, ?_,fun R=>(hx R).trans ?_⟩
   ·simp only[pre_cptIn,andd,dec_iff,ble_iff];omega
   ·simp only[mu_cptIn];omega
   ·simp only[res_cptIn,t2,hm,hm',cpL,hc];rfl
   ·rw[hc];rfl
 ·left
  intro R
  refine(hx R).trans ?_
  simp only[hi,decide_false,res_cptIn,show l.length-(w+j.toNat)=0 by omega,cpL,Int.toNat_of_nonneg h0];rfl
def g_cptIn:St→Cont→Option Fin:=gP sh_cptIn (fun v=>match v with | ((k,w,j,()),(l,()))=>pre_cptIn k w j l) (fun v K=>match v with | ((k,w,j,()),(l,()))=>res_cptIn k w j l K)
def L_cptIn:LpL:=(9,g_cptIn)::[]
def cx_cptIn:Cx:=(cb_cpt).withLoops (look L_cptIn)
theorem l_cptIn {L:LpL} (n:Nat) (h1:L.drop n=[]) (h2:idsFree (L.take n) (loopOf Tryz.f135 1)=true):LoopsTo g_cptIn (cb_cpt) (loopOf Tryz.f135 1) 9 L :=
 with_drop h1 h2 (gP_ok (fun v=>match v with | ((k,w,j,()),(l,()))=>mu_cptIn k w j l) fun v K hI=>by
  obtain⟨⟨k,w,j,⟨⟩⟩,⟨l,⟨⟩⟩⟩:=v
  exact(r_cptIn k w j l K hI).imp id fun⟨k',w',j',l',h⟩=>⟨((k',w',j',()),(l',())),h⟩)
abbrev cpE (l:List Int) (k:Nat):List Int×Nat:=cpL (l.length-(k+1)) l k (k+1)
abbrev cpO (l:List Int) (k:Nat):List Int:=List.take (cpE l k).2 (clrL (e:=TU8) (cpE l k).1 (cpE l k).2)
theorem cpL_len:∀(m:Nat) (l:List Int) (k p:Nat),(cpL m l k p).1.length=l.length∧k≤(cpL m l k p).2∧(cpL m l k p).2≤k+m
 |0,l,k,p=>⟨rfl,Nat.le_refl _,Nat.le_refl _⟩
 |m+1,l,k,p=>by
  unfold cpL
  cases decide (l.getD p 0=l.getD (p-1) 0)
  ·obtain ⟨h1,h2,h3⟩:=cpL_len m (l.set k (l.getD p 0)) (k+1) (p+1)
   rw[List.length_set]at h1
   simp only[cond_false];omega
  ·obtain ⟨h1,h2,h3⟩:=cpL_len m l k (p+1)
   simp only[cond_true];omega
theorem clr_len {l:List Int} {k:Nat} (h:k≤l.length):List.length (clrL (e:=TU8) l k)=l.length:=by
 show List.length (List.take k l++List.replicate (l.length-k) (0:Int))=_
 rw[List.length_append,List.length_take,List.length_replicate];omega
theorem x_cptOut (l:List Int) (k:Int) (R:St→Option Fin) (K:Cont):evC cx_cptIn (loopOf Tryz.f135 0) ⟨[(0, .d (.one (.own 0))),(3,vI k)],[(0,some (.lis 5 TU8 l))]⟩ (onward (headAt cx_cptIn 4) R K)=(
branch (decide (k<(l.length:Int))) (
 need (inb k l.length) <|
 need (inb (W64 (k-1)) l.length) <|
 branch (decide (l.getD k.toNat 0=l.getD (W64 (k-1)).toNat 0)) (
 need (inr k (l.length:Int) l.length&&Nat.blt 0 l.length) <|
 need (pre_cptIn k k.toNat 1 l) <|
 need (inr ((cpE l k.toNat).2:Nat) ((cpE l k.toNat).1.length:Int) (cpE l k.toNat).1.length&&Nat.blt 0 (cpE l k.toNat).1.length) <|
 need (Nat.blt (cpE l k.toNat).2 (cpE l k.toNat).1.length) <|
 need (inr 0 ((cpE l k.toNat).2:Nat) (clrL (e:=TU8) (cpE l k.toNat).1 (cpE l k.toNat).2).length) <|
 K .ret ⟨[(2, oA)],[(500000,some (.lis 5 TU8 (cpO l k.toNat)))]⟩)
 (R ⟨[(0, .d (.one (.own 0))),(3,vI (W64 (k+1)))],[(0,some (.lis 5 TU8 l))]⟩))
 (K (.exit 0) ⟨[(0, .d (.one (.own 0)))],[(0,some (.lis 5 TU8 l))]⟩)):=by kernel_rfl
def dupF (l:List Int):Nat→Nat→Option Nat
 |0,_=>none
 |m+1,k=>bif decide (l.getD k 0=l.getD (k-1) 0)then some k else dupF l m (k+1)
def cpRes (l:List Int) (K:Cont):Option Nat→Option Fin
 |some q=>K .ret ⟨[(2, oA)],[(500000,some (.lis 5 TU8 (cpO l q)))]⟩
 |none=>K (.exit 0) ⟨[(0, .d (.one (.own 0)))],[(0,some (.lis 5 TU8 l))]⟩
def cx0_cptOut:Cx:=(cb_cpt).withLoops (look L_cptIn)
def sh_cptOut:Sh:=([(0, .own 0),(3, .d TI64)],[(0, .lis 5 TU8)])
abbrev st_cptOut (k:Int) (l:List (Int)):St:=⟨[(0, .d (.one (.own 0))),(3,vI k)],[(0,some (.lis 5 TU8 l))]⟩
def pre_cptOut (k:Int) (l:List (Int)):Bool:=decide (1≤k)&&(decide (k≤1000001)&&Nat.ble (List.length l) 1000000)
def res_cptOut (k:Int) (l:List (Int)) (K:Cont):Option Fin:=cpRes l K (dupF l (l.length-k.toNat) k.toNat)
def mu_cptOut (k:Int) (l:List (Int)):Nat:=l.length-k.toNat
theorem r_cptOut (k:Int) (l:List (Int)) (K:Cont) (hI:pre_cptOut k l=true):(∀R:St→Option Fin,evC cx0_cptOut (loopOf Tryz.f135 0) (st_cptOut k l) (onward (headAt cx0_cptOut 4) R K)=res_cptOut k l K) ∨
  (∃(k':Int) (l':List (Int)),pre_cptOut k' l'=true∧mu_cptOut k' l'<mu_cptOut k l∧res_cptOut k' l' K=res_cptOut k l K∧∀R:St→Option Fin,evC cx0_cptOut (loopOf Tryz.f135 0) (st_cptOut k l) (onward (headAt cx0_cptOut 4) R K)=R (st_cptOut k' l')):=by
 have hx:=fun R=>x_cptOut l k R K
 simp only[pre_cptOut,andd,dec_iff,ble_iff]at hI
 obtain⟨h0,h1,h2⟩:=hI
 obtain⟨q,rfl⟩:=Int.eq_ofNat_of_zero_le (show 0≤k by omega)
 have w1:W64 ((q:Int)-1)=(q:Int)-1:=wrap_small (by omega) (by omega)
 have t1:((q:Int)-1).toNat=q-1:=by omega
 simp only[w1,t1,Int.toNat_natCast]at hx
 by_cases hi:q<l.length
 ·have b1:inb (q:Int) l.length=true:=inb_ok (by omega) (by omega)
  have b2:inb ((q:Int)-1) l.length=true:=inb_ok (by omega) (by omega)
  obtain⟨m,hm⟩:∃m,l.length-q=m+1:=⟨l.length-q-1,by omega⟩
  simp only[show (q:Int)<(l.length:Int)by omega,decide_true,b1,b2]at hx
  cases hc:decide (l.getD q 0=l.getD (q-1) 0)
  ·right
   have w2:W64 ((q:Int)+1)=(q:Int)+1:=wrap_small (by omega) (by omega)
   refine⟨(q:Int)+1,l, ?_, ?_, ?_,fun R=>(hx R).trans ?_⟩
   ·simp only[pre_cptOut,andd,dec_iff,ble_iff];omega
   ·simp only[mu_cptOut];omega
   ·simp only[res_cptOut,Int.toNat_natCast,show ((q:Int)+1).toNat=q+1 by omega,hm,show l.length-(q+1)=m by omega,dupF,hc];rfl
   ·rw[hc,w2];rfl
  ·left
   intro R
   obtain⟨c1,c2,c3⟩:(cpE l q).1.length=l.length∧q≤(cpE l q).2∧(cpE l q).2≤q+(l.length-(q+1)):=cpL_len _ _ _ _
   have p1:(inr (q:Int) (l.length:Int) l.length&&Nat.blt 0 l.length)=true:=andd.2 ⟨inr_iff.2 (by omega),Nat.ble_eq_true_of_le (by omega)⟩
   have p2:pre_cptIn (q:Int) q 1 l=true:=by simp only[pre_cptIn,andd,dec_iff,ble_iff];omega
   have p3:(inr ((cpE l q).2:Nat) ((cpE l q).1.length:Int) (cpE l q).1.length&&Nat.blt 0 (cpE l q).1.length)=true:=andd.2 ⟨inr_iff.2 (by omega),Nat.ble_eq_true_of_le (by omega)⟩
   have p4:Nat.blt (cpE l q).2 (cpE l q).1.length=true:=Nat.ble_eq_true_of_le (by omega)
   have p5:inr 0 ((cpE l q).2:Nat) (clrL (e:=TU8) (cpE l q).1 (cpE l q).2).length=true:=by
    refine inr_iff.2 ?_
    rw[clr_len (by omega)];omega
   refine(hx R).trans ?_
   rw[hc,p1,p2,p3,p4,p5]
   simp only[res_cptOut,Int.toNat_natCast,hm,dupF,hc];rfl
 ·left
  intro R
  refine(hx R).trans ?_
  simp only[show ¬(q:Int)<(l.length:Int)by omega,decide_false,res_cptOut,Int.toNat_natCast,show l.length-q=0 by omega,dupF];rfl
def g_cptOut:St→Cont→Option Fin:=gP sh_cptOut (fun v=>match v with | ((k,()),(l,()))=>pre_cptOut k l) (fun v K=>match v with | ((k,()),(l,()))=>res_cptOut k l K)
def L_cptOut:LpL:=(4,g_cptOut)::L_cptIn
def cx_cptOut:Cx:=(cb_cpt).withLoops (look L_cptOut)
theorem l_cptOut {L:LpL} (n:Nat) (h1:L.drop n=L_cptIn) (h2:idsFree (L.take n) (loopOf Tryz.f135 0)=true):LoopsTo g_cptOut (cb_cpt) (loopOf Tryz.f135 0) 4 L :=
 with_drop h1 h2 (gP_ok (fun v=>match v with | ((k,()),(l,()))=>mu_cptOut k l) fun v K hI=>by
  obtain⟨⟨k,⟨⟩⟩,⟨l,⟨⟩⟩⟩:=v
  exact(r_cptOut k l K hI).imp id fun⟨k',l',h⟩=>⟨((k',()),(l',())),h⟩)
def cpFin (l:List Int):Option Nat→Option Fin
 |some q=>some (.d (.one (.own 1000)),[(1000,some (.lis 5 TU8 (cpO l q))),(0,none)])
 |none=>some (.d (.one (.own 0)),[(0,some (.lis 5 TU8 l))])
theorem y_Compact (l:List Int):evFn cx_cptOut Tryz.f135 false [.one (.own 0)] [.lis 5 TU8 l]=(
branch (decide ((l.length:Int)<2)) (some (.d (.one (.own 0)),[(0,some (.lis 5 TU8 l))])) (
 need (pre_cptOut 1 l) <| cpFin l (dupF l (l.length-1) 1))):=by kernel_rfl
def cptV (l:List Int):List Int:=bif decide ((l.length:Int)<2)then l else match dupF l (l.length-1) 1 with
 |some q=>cpO l q
 |none=>l
def conLN (t:TypeId) (s:Ty) (ts:List Ty) (G:List (Den s)→Fn ts (Option Bool×List (Den s))):Con:=⟨false,fun ds os=>match ds,os with
 | .one (.own 0)::ds,[o]=>match exLis t s (some o)with
  |some l=>match applyD ts (G l) ds with
   |some (c,m)=>some (c, .d (.one (.own 1000)),[(1000,some (.lis t s m)),(0,none)])
   |none=>none
  |none=>none
 |_,_=>none⟩
theorem conLN_ok {P:Program} {f:FuncId} {t:TypeId} {s:Ty} {ts:List Ty} {G:List (Den s)→Fn ts (Option Bool×List (Den s))} (hs:tyFlat s=true) (hin:∀args w,(callFunc f args).run P w = .ok (.enter f args) w)
  (he:∀l,Fit (.list s) l→EachF ts (G l) fun ds r=>(r.1=none∨r.1=some true)→Sat P f (.one (.own 0)::ds) [.lis t s l] (.d (.one (.own 1000))) [(1000,some (.lis t s r.2)),(0,none)]):ConOk P f (conLN t s ts G):=by
 refine⟨hin,fun ds os c x objs hc hok => ?_⟩
 simp only[conLN]at hc
 split at hc
 ·rename_i ds o
  split at hc
  ·rename_i l e2
   have e2:=Option.some.inj (exLis_some e2)
   subst e2
   split at hc
   ·rename_i c' m hap
    cases hc
    refine lis_fit hs fun hf => ?_
    intro w F β args H hds
    cases hds with
    |cons g1 g2 =>
     obtain⟨ds',q1,q2⟩:=each_of (he l hf) hap g2
     exact q1 hok w F β _ H (.cons g1 q2)
   ·cases hc
  ·cases hc
 ·cases hc
theorem s_Compact (l:List Int) (h:l.length≤1000000):Sat Tryz.prog 135 [.one (.own 0)] [.lis 5 TU8 l] (.d (.one (.own 1000))) [(1000,some (.lis 5 TU8 (cptV l))),(0,none)]:=by
 have snd:∀ {x:T} {objs:Heap},evFn cx_cptOut Tryz.f135 false [.one (.own 0)] [.lis 5 TU8 l]=some (x,objs)→Sat Tryz.prog 135 [.one (.own 0)] [.lis 5 TU8 l] x objs:=fun he =>
  fn_sound (cx:=cx_cptOut) Tryz.func135 rfl ttOk Γ48ok mixed (fun c hc=>LoopsOk.all (l:=[(4,loopOf Tryz.f135 0),(9,loopOf Tryz.f135 1)]) (by cases hc;kernel_rfl) ⟨atLoop rfl (l_cptOut 1 rfl (by kernel_rfl)),atLoop rfl (l_cptIn 2 rfl (by kernel_rfl)),trivial⟩) (ro:=false) he
 have y:=y_Compact l
 have hp:pre_cptOut 1 l=true:=by simp only[pre_cptOut,andd,dec_iff,ble_iff];omega
 rw[hp]at y
 unfold cptV
 by_cases hl:(l.length:Int)<2
 ·rw[decide_eq_true hl]at y ⊢
  exact sat_move (snd y)
 ·rw[decide_eq_false hl]at y ⊢
  cases hd:dupF l (l.length-1) 1 with
  |none=>rw[hd]at y;exact sat_move (snd y)
  |some q=>rw[hd]at y;exact snd y
def c_slices_Compact_byte_byte:Con:=conLN 5 TU8 [] fun(l:List Int)=>(some (Nat.ble (List.length l) 1000000),cptV l)
theorem k_slices_Compact_byte_byte:ConOk Tryz.prog 135 c_slices_Compact_byte_byte:=conLN_ok rfl Tryz.call135 fun l _ hqq=>s_Compact l (Nat.le_of_ble_eq_true (pre_of hqq))
def Γ49:GL:=(135,c_slices_Compact_byte_byte)::Γ48
theorem Γ49ok:GO Γ49 := .cons k_slices_Compact_byte_byte Γ48ok
end
end Go.Proofs.YtmeiebnfmhddnaaGreatDoor.Ev
