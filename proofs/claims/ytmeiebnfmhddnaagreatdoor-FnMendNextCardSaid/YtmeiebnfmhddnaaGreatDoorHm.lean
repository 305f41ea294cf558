/-
  Distances: the program's table.
-/
import Derived.Test.YtmeiebnfmhddnaaGreatDoorHk
namespace Go.Proofs.YtmeiebnfmhddnaaGreatDoor.Ev
open Go
noncomputable section
abbrev TDs:Ty := .struct (.pair TG (.pair .str (.map TP TI64)))
abbrev DMap:Type:=List (Part×Int)
abbrev Dists:Type:=Gram×Str×DMap
def never:Int:=1073741824
def hasI (s:Str) (a:Str) (i j:Int):Bool:=anyI (fun p=>decide (([s.getD p.toNat 0]:Str)=a)) (j-i).toNat i
def costZ (s a:Str) (i j:Int):Int:=bif hasI s a i j then j-i-1 else(if 1<j-i then j-i else 1)
def getD' (m:DMap) (p:Part):Int:=(mget TP TI64 p m).getD never
def dofV (s:Str) (m:DMap) (a:Str) (i j:Int):Int:=bif bigS a then getD' m (a,i,j)else costZ s a i j
def cb_dof:Cx:=cxOf Γ70 Tryz.f96.ntmps [(7,[0,1,2,3,11])] [(0,[2,3]),(1,[0,1,2,3,11]),(1000000,[8])] [] []
theorem x_impl_distances_of (c:Dists) (a:Str) (i j p:Int) (R:St→Option Fin) (K:Cont):evC (cb_dof.withLoops (look [])) (loopOf Tryz.f96 0) ⟨[(0, .d (ofD (.ref TDs) c)),(1,vS a),(2,vI i),(3,vI j),(11,vI p)],[]⟩ (onward (headAt (cb_dof.withLoops (look [])) 7) R K)=(
branch (decide (p<j)) (
 need (inr p (W64 (p+1)) (List.length c.snd.fst)) <|
 branch (decide ((List.take ((W64 (p+1)).toNat-p.toNat) (List.drop p.toNat c.snd.fst))=a)) ( K (.ret) (.mk [(8,(vI (W64 (W64 (j-i)-1))))] [])) ( R (.mk [(0,(.d (.one (.r (.rf TDs c))))),(1,vS a),(2,vI i),(3,vI j),(11,vI (W64 (p+1)))] []))) ( K (.exit 0) (.mk [(2,vI i),(3,vI j)] []))):=by kernel_rfl
def cx0_dof:Cx:=(cb_dof).withLoops (look [])
def sh_dof:Sh:=([(0, .d (.ref TDs)),(1, .d .str),(2, .d TI64),(3, .d TI64),(11, .d TI64)],[])
abbrev st_dof (c:Dists) (a:Str) (i j p:Int):St:=⟨[(0, .d (ofD (.ref TDs) c)),(1,vS a),(2,vI i),(3,vI j),(11,vI p)],[]⟩
def pre_dof (c:Dists) (_a:Str) (i j p:Int):Bool:=decide (0≤i)&&(decide (i≤p)&&(decide (p≤j)&&(decide (j≤(List.length c.2.1:Int))&&decide (List.length c.2.1≤1000))))
def res_dof (c:Dists) (a:Str) (i j p:Int) (K:Cont):Option Fin:=branch (hasI c.2.1 a p j) (K .ret ⟨[(8,vI (j-i-1))],[]⟩) (K (.exit 0) ⟨[(2,vI i),(3,vI j)],[]⟩)
def mu_dof (_c:Dists) (_a:Str) (_i j p:Int):Nat:=(j-p).toNat
theorem r_dof (c:Dists) (a:Str) (i j p:Int) (K:Cont) (hI:pre_dof c a i j p=true):(∀R:St→Option Fin,evC cx0_dof (loopOf Tryz.f96 0) (st_dof c a i j p) (onward (headAt cx0_dof 7) R K)=res_dof c a i j p K) ∨
  (∃(c':Dists) (a':Str) (i' j' p':Int),pre_dof c' a' i' j' p'=true∧mu_dof c' a' i' j' p'<mu_dof c a i j p∧res_dof c' a' i' j' p' K=res_dof c a i j p K∧∀R:St→Option Fin,evC cx0_dof (loopOf Tryz.f96 0) (st_dof c a i j p) (onward (headAt cx0_dof 7) R K)=R (st_dof c' a' i' j' p')):=by
 have hx:=fun R=>x_impl_distances_of c a i j p R K
 simp only[pre_dof,andd,dec_iff]at hI
 obtain⟨h0,h1,h2,h3,h4⟩:=hI
 by_cases hp:p<j
 ·have w:W64 (p+1)=p+1:=wrap_small (by omega) (by omega)
  have w2:W64 (W64 (j-i)-1)=j-i-1:=by
   rw[show W64 (j-i)=j-i from wrap_small (by omega) (by omega)]
   exact wrap_small (by omega) (by omega)
  obtain⟨m,hm⟩:∃m,(j-p).toNat=m+1:=⟨(j-p).toNat-1,by omega⟩
  have hm2:(j-(p+1)).toNat=m:=by omega
  have hg:hasI c.2.1 a p j=(decide (([c.2.1.getD p.toNat 0]:Str)=a)||hasI c.2.1 a (p+1) j):=by
   unfold hasI
   rw[hm,hm2];rfl
  rw[decide_eq_true hp,w,w2,inr_iff.2 (by omega:0≤p∧p≤p+1∧p+1≤(List.length c.2.1:Int)),slice_one (by omega) (by omega)]at hx
  change ∀R:St→Option Fin,_=branch (decide (([c.2.1.getD p.toNat 0]:Str)=a)) _ _ at hx
  cases hc:decide (([c.2.1.getD p.toNat 0]:Str)=a)
  ·right
   rw[hc]at hx hg
   refine⟨c,a,i,j,p+1, ?_, ?_, ?_,fun R=>hx R⟩
   ·simp only[pre_dof,andd,dec_iff]
    exact⟨h0,by omega,by omega,h3,h4⟩
   ·simp only[mu_dof];omega
   ·simp only[res_dof,hg,Bool.false_or]
  ·left
   intro R
   refine(hx R).trans ?_
   rw[hc,Bool.true_or]at hg
   rw[hc]
   simp only[res_dof,hg];rfl
 ·left
  intro R
  refine(hx R).trans ?_
  have hg:hasI c.2.1 a p j=false:=by
   unfold hasI
   rw[show (j-p).toNat=0 by omega];rfl
  rw[decide_eq_false hp]
  simp only[res_dof,hg];rfl
def g_dof:St→Cont→Option Fin:=gP sh_dof (fun v=>match v with | ((c,a,i,j,p,()),())=>pre_dof c a i j p) (fun v K=>match v with | ((c,a,i,j,p,()),())=>res_dof c a i j p K)
def L_dof:LpL:=(7,g_dof)::[]
def cx_dof:Cx:=(cb_dof).withLoops (look L_dof)
theorem l_dof {L:LpL} (n:Nat) (h1:L.drop n=[]) (h2:idsFree (L.take n) (loopOf Tryz.f96 0)=true):LoopsTo g_dof (cb_dof) (loopOf Tryz.f96 0) 7 L :=
 with_drop h1 h2 (gP_ok (fun v=>match v with | ((c,a,i,j,p,()),())=>mu_dof c a i j p) fun v K hI=>by
  obtain⟨⟨c,a,i,j,p,⟨⟩⟩,⟨⟩⟩:=v
  exact(r_dof c a i j p K hI).imp id fun⟨c',a',i',j',p',h⟩=>⟨((c',a',i',j',p',()),()),h⟩)
theorem y_impl_distances_of (c:Dists) (a:Str) (i:Int) (j:Int):evFn cx_dof Tryz.f96 true [ofD (.ref TDs) c,ofD .str a,ofD TI64 i,ofD TI64 j] []=(
branch (bigS a) (
 branch ((mget TP TI64 (a,i,j) c.2.2).isSome) ( some ((vI (Option.getD (α:=Int) (mget TP TI64 (a,i,j) c.2.2) 0)),[])) ( some ((vI 1073741824),[]))) (
 need (pre_dof c a i j i) <|
 branch (hasI c.2.1 a i j) ( some ((vI (j-i-1)),[])) ( some ((vI (if 1<W64 (j-i)then W64 (j-i)else 1)),[])))):=by kernel_rfl
theorem s_impl_distances_of (c:Dists) (_hc:Fit (.ref TDs) c) (a:Str) (_ha:Fit .str a) (i:Int) (_hi:Fit TI64 i) (j:Int) (_hj:Fit TI64 j) (hpre:(okIJ c.2.1 i j&&decide (List.length c.2.1≤1000))=true):Sat Tryz.prog 96 [ofD (.ref TDs) c,ofD .str a,ofD TI64 i,ofD TI64 j] [] (.d (ofD TI64 (dofV c.2.1 c.2.2 a i j))) [] :=
 fn_sound (cx:=cx_dof) Tryz.func96 rfl ttOk Γ70ok mixed (fun c hc=>LoopsOk.all (l:=[(7,loopOf Tryz.f96 0)]) (by cases hc;kernel_rfl) ⟨atLoop rfl (l_dof 1 rfl (by kernel_rfl)),trivial⟩) (ro:=true) (by
  rw[andd,dec_iff]at hpre
  obtain⟨h1,h2⟩:=hpre
  obtain⟨i0,i1,i2⟩:=okIJ_iff.1 h1
  rw[y_impl_distances_of]
  unfold dofV
  cases hb:bigS a
  ·have kp:pre_dof c a i j i=true:=by
    simp only[pre_dof,andd,dec_iff]
    exact⟨i0,Int.le_refl _,i1,i2,h2⟩
   have w:W64 (j-i)=j-i:=wrap_small (by omega) (by omega)
   rw[kp,w]
   unfold costZ
   cases hasI c.2.1 a i j<;>rfl
  ·unfold getD'
   show branch ((mget TP TI64 (a,i,j) c.2.2).isSome) _ _=(some (.d (ofD TI64 ((mget TP TI64 (a,i,j) c.2.2).getD never)),[]):Option Fin)
   cases mget TP TI64 (a,i,j) c.2.2<;>rfl)
def c_impl_distances_of:Con:=conT [(.ref TDs), .str,TI64,TI64] fun(c:Dists) (a:Str) (i:Int) (j:Int)=>(some (okIJ c.2.1 i j&&decide (List.length c.2.1≤1000)), .d (ofD TI64 (dofV c.2.1 c.2.2 a i j)))
theorem k_impl_distances_of:ConOk Tryz.prog 96 c_impl_distances_of:=conT_ok Tryz.call96 fun c hc a ha i hi j hj hqq=>s_impl_distances_of c hc a ha i hi j hj (pre_of hqq)
def Γ71:GL:=(96,c_impl_distances_of)::Γ70
theorem Γ71ok:GO Γ71 := .cons k_impl_distances_of Γ70ok
def cb_drl:Cx:=cxOf Γ71 Tryz.f95.ntmps [(12,[0,1,2,3,10,11,12,13,14,24,25,34,35,36]),(8,[0,1,2,3,10,11,24,25,34,35,36]),(4,[0,1,2,3,9,24,25])] [(0,[1,2,3,9]),(1,[0,1,2,3,9,24,25]),(2,[0,1,2,3,11,24,25]),(3,[0,1,2,3,10,11,24,25,34,35,36]),(4,[0,1,2,3,10,11,24,25,34,35,36]),(5,[0,1,2,3,10,11,12,13,14,24,25,34,35,36]),(1000000,[8])] [] []
theorem x_impl_distances_rule_2 (c:Dists) (a:Str) (i j p k v z n q m x:Int) (nx be:List Int) (R:St→Option Fin) (K:Cont):evC (cb_drl.withLoops (look [])) (loopOf Tryz.f95 2) ⟨[(0, .d (ofD (.ref TDs) c)),(1,vS a),(2,vI i),(3,vI j),(10,vI p),(11, oA),(12,vI k),(13,vI v),(14,vI z),(24,vI n),(25,vI q),(34, oB),(35,vI m),(36,vI x)],[(500000,some (.lis 3 TI64 nx)),(500001,some (.lis 3 TI64 be))]⟩ (onward (headAt (cb_drl.withLoops (look [])) 12) R K)=(
branch (decide (z<(nx.length:Int))) (
 need (inb z nx.length) <|
 need (inr p (W64 (p+1)) a.length) <|
 need (okIJ c.snd.fst (W64 (i+k)) (W64 (i+z))&&decide ((List.length c.snd.fst)≤1000)) <|
 need (inb z nx.length) <| R (.mk [(0,(.d (.one (.r (.rf TDs c))))),(1,vS a),(2,vI i),(3,vI j),(10,vI p),(11,oA),(12,vI k),(13,vI v),(14,vI (W64 (z+1))),(24,vI n),(25,vI q),(34,oB),(35,vI m),(36,vI x)] [(500000,(.some (.lis 3 TI64 (nx.set z.toNat (if W64 (v+dofV c.snd.fst c.snd.snd (List.take ((W64 (p+1)).toNat-p.toNat) (List.drop p.toNat a)) (W64 (i+k)) (W64 (i+z)))<nx.getD z.toNat 0 then W64 (v+dofV c.snd.fst c.snd.snd (List.take ((W64 (p+1)).toNat-p.toNat) (List.drop p.toNat a)) (W64 (i+k)) (W64 (i+z)))else nx.getD z.toNat 0))))),(500001,some (.lis 3 TI64 be))])) ( K (.exit 4) (.mk [(0,(.d (.one (.r (.rf TDs c))))),(1,vS a),(2,vI i),(3,vI j),(10,vI p),(11,oA),(24,vI n),(25,vI q),(34,oB),(35,vI m),(36,vI x)] [(500000,some (.lis 3 TI64 nx)),(500001,some (.lis 3 TI64 be))]))):=by kernel_rfl
def okV (e:Int):Bool:=decide (0≤e)&&decide (e≤never)
theorem okV_iff {e:Int}:okV e=true↔0≤e∧e≤1073741824:=by unfold okV never;rw[andd,dec_iff,dec_iff]
def okLs (l:List Int):Bool:=List.all l okV
def okDm (m:DMap):Bool:=List.all m fun e=>okV e.2
theorem mget_mem {x:Part} {v:Int}:∀ {m:DMap},mget TP TI64 x m=some v→∃e∈m,e.2=v
 | [],h=>by cases h
 | (a,u)::m,h=>by
  have h:(bif eqDen TP x a then some u else mget TP TI64 x m)=some v:=h
  cases hc:eqDen TP x a
  ·rw[hc]at h
   obtain⟨e,he,hv⟩:=mget_mem h
   exact⟨e,List.mem_cons_of_mem _ he,hv⟩
  ·rw[hc]at h
   exact⟨(a,u),List.mem_cons_self,Option.some.inj h⟩
theorem getD_ok {m:DMap} {x:Part} (h:okDm m=true):0≤getD' m x∧getD' m x≤1073741824:=by
 unfold getD'
 cases hg:mget TP TI64 x m with
 |none =>
  show(0:Int)≤never∧never≤1073741824
  exact⟨by decide,by decide⟩
 |some v =>
  obtain⟨e,he,rfl⟩:=mget_mem hg
  exact okV_iff.1 (List.all_eq_true.1 h e he)
theorem dofV_ok {s a:Str} {m:DMap} {i j:Int} (h:okDm m=true) (i0:0≤i) (i1:i≤j) (i2:j≤(List.length s:Int)) (hs:List.length s≤1000):0≤dofV s m a i j∧dofV s m a i j≤1073741824:=by
 unfold dofV
 cases bigS a
 ·rw[cond_false]
  unfold costZ
  cases hh:hasI s a i j
  ·rw[cond_false];split<;>omega
  ·rw[cond_true]
   have:i<j:=by
    by_cases hlt:i<j
    ·exact hlt
    ·unfold hasI at hh
     rw[show (j-i).toNat=0 by omega]at hh
     cases hh
   omega
 ·rw[cond_true];exact getD_ok h
def relN (f:Int→Int):Nat→Int→List Int→List Int
 |0,_,l=>l
 |n+1,z,l=>relN f n (z+1) (l.set z.toNat (if f z<l.getD z.toNat 0 then f z else l.getD z.toNat 0))
theorem relN_len {f:Int→Int}:∀ {n:Nat} {z:Int} {l:List Int},(relN f n z l).length=l.length
 |0,_,_=>rfl
 |n+1,z,l=>by
  unfold relN
  rw[relN_len,List.length_set]
theorem okLs_set {l:List Int} {i:Nat} {x:Int} (h:okLs l=true) (hx:okV x=true):okLs (l.set i x)=true:=List.all_eq_true.2 fun e he=>by
 rcases List.mem_or_eq_of_mem_set he with he | rfl
 ·exact List.all_eq_true.1 h e he
 ·exact hx
theorem okLs_at {l:List Int} {i:Nat} (h:okLs l=true) (hi:i<l.length):0≤l.getD i 0∧l.getD i 0≤1073741824:=okV_iff.1 (List.all_eq_true.1 h _ (getD_mem hi))
theorem relN_ok {f:Int→Int}:∀ {n:Nat} {z:Int} {l:List Int},0≤z→z+n≤(l.length:Int)→okLs l=true→(∀y,z≤y→y<z+n→0≤f y)→okLs (relN f n z l)=true
 |0,_,_,_,_,h,_=>h
 |n+1,z,l,h0,h1,h,hf=>by
  unfold relN
  have hz:=okLs_at (i:=z.toNat) h (by omega)
  refine relN_ok (by omega) (by rw[List.length_set];omega) (okLs_set h (okV_iff.2 ?_)) fun y y0 y1=>hf y (by omega) (by omega)
  split
  ·have:=hf z (Int.le_refl _) (by omega)
   omega
  ·exact hz
abbrev drF (s:Str) (m:DMap) (c:Str) (i k v:Int):Int→Int:=fun z=>v+dofV s m c (i+k) (i+z)
abbrev drH (nx be:List Int):Heap:=[(500000,some (.lis 3 TI64 nx)),(500001,some (.lis 3 TI64 be))]
def cx0_dr3:Cx:=(cb_drl).withLoops (look [])
def sh_dr3:Sh:=([(0, .d (.ref TDs)),(1, .d .str),(2, .d TI64),(3, .d TI64),(10, .d TI64),(11, .own 500000),(12, .d TI64),(13, .d TI64),(14, .d TI64),(24, .d TI64),(25, .d TI64),(34, .own 500001),(35, .d TI64),(36, .d TI64)],[(500000, .lis 3 TI64),(500001, .lis 3 TI64)])
abbrev st_dr3 (c:Dists) (a:Str) (i j p k v z n q m x:Int) (nx be:List (Int)):St:=⟨[(0, .d (ofD (.ref TDs) c)),(1,vS a),(2,vI i),(3,vI j),(10,vI p),(11, .d (.one (.own 500000))),(12,vI k),(13,vI v),(14,vI z),(24,vI n),(25,vI q),(34, .d (.one (.own 500001))),(35,vI m),(36,vI x)],[(500000,some (.lis 3 TI64 nx)),(500001,some (.lis 3 TI64 be))]⟩
def pre_dr3 (c:Dists) (a:Str) (i j p k v z _n _q _m _x:Int) (nx _be:List (Int)):Bool:=decide (0≤i)&&(decide (0≤k)&&(decide (k≤z)&&(decide ((List.length nx:Int)=j-i+1)&&(decide (j≤(List.length c.2.1:Int))&&(decide (List.length c.2.1≤1000)&&(decide (0≤p)&&(decide (p<(List.length a:Int))&&(decide (List.length a≤1000)&&(okDm c.2.2&&(okLs nx&&okV v))))))))))
def res_dr3 (c:Dists) (a:Str) (i j p k v z n q m x:Int) (nx be:List (Int)) (K:Cont):Option Fin:=K (.exit 4) ⟨[(0, .d (ofD (.ref TDs) c)),(1,vS a),(2,vI i),(3,vI j),(10,vI p),(11, oA),(24,vI n),(25,vI q),(34, oB),(35,vI m),(36,vI x)],drH (relN (drF c.2.1 c.2.2 [List.getD a p.toNat 0] i k v) (List.length nx-z.toNat) z nx) be⟩
def mu_dr3 (_c:Dists) (_a:Str) (_i _j _p _k _v z _n _q _m _x:Int) (nx _be:List (Int)):Nat:=List.length nx-z.toNat
theorem r_dr3 (c:Dists) (a:Str) (i j p k v z n q m x:Int) (nx be:List (Int)) (K:Cont) (hI:pre_dr3 c a i j p k v z n q m x nx be=true):(∀R:St→Option Fin,evC cx0_dr3 (loopOf Tryz.f95 2) (st_dr3 c a i j p k v z n q m x nx be) (onward (headAt cx0_dr3 12) R K)=res_dr3 c a i j p k v z n q m x nx be K) ∨
  (∃(c':Dists) (a':Str) (i' j' p' k' v' z' n' q' m' x':Int) (nx' be':List (Int)),pre_dr3 c' a' i' j' p' k' v' z' n' q' m' x' nx' be'=true∧mu_dr3 c' a' i' j' p' k' v' z' n' q' m' x' nx' be'<mu_dr3 c a i j p k v z n q m x nx be∧res_dr3 c' a' i' j' p' k' v' z' n' q' m' x' nx' be' K=res_dr3 c a i j p k v z n q m x nx be K∧∀R:St→Option Fin,evC cx0_dr3 (loopOf Tryz.f95 2) (st_dr3 c a i j p k v z n q m x nx be) (onward (headAt cx0_dr3 12) R K)=R (st_dr3 c' a' i' j' p' k' v' z' n' q' m' x' nx' be')):=by
 have hx:=fun R=>x_impl_distances_rule_2 c a i j p k v z n q m x nx be R K
 simp only[pre_dr3,andd,dec_iff]at hI
 obtain⟨h0,h1,h2,h3,h4,h5,h6,h7,h8,h9,h10,h11⟩:=hI
 by_cases hz:z<(List.length nx:Int)
 ·have w:W64 (z+1)=z+1:=wrap_small (by omega) (by omega)
  have w1:W64 (p+1)=p+1:=wrap_small (by omega) (by omega)
  have w2:W64 (i+k)=i+k:=wrap_small (by omega) (by omega)
  have w3:W64 (i+z)=i+z:=wrap_small (by omega) (by omega)
  obtain⟨v0,v1⟩:=okV_iff.1 h11
  obtain⟨d0,d1⟩:=dofV_ok (s:=c.2.1) (a:=[List.getD a p.toNat 0]) (m:=c.2.2) (i:=i+k) (j:=i+z) h9 (by omega) (by omega) (by omega) h5
  have w4:W64 (v+dofV c.2.1 c.2.2 [List.getD a p.toNat 0] (i+k) (i+z))=v+dofV c.2.1 c.2.2 [List.getD a p.toNat 0] (i+k) (i+z):=wrap_small (by omega) (by omega)
  have kk:(okIJ c.2.1 (i+k) (i+z)&&decide (List.length c.2.1≤1000))=true:=andd.2 ⟨okIJ_iff.2 ⟨by omega,by omega,by omega⟩,decide_eq_true h5⟩
  obtain⟨y,hy⟩:∃y,List.length nx-z.toNat=y+1:=⟨List.length nx-z.toNat-1,by omega⟩
  have hz2:=okLs_at (i:=z.toNat) h10 (by omega)
  rw[decide_eq_true hz,inb_ok (by omega:0≤z) hz,w,w1,w2,w3,inr_iff.2 (by omega:0≤p∧p≤p+1∧p+1≤(List.length a:Int)),slice_one h6 h7,kk,w4]at hx
  right
  refine⟨c,a,i,j,p,k,v,z+1,n,q,m,x,List.set nx z.toNat (if drF c.2.1 c.2.2 [List.getD a p.toNat 0] i k v z<List.getD nx z.toNat 0 then drF c.2.1 c.2.2 [List.getD a p.toNat 0] i k v z else List.getD nx z.toNat 0),be, ?_, ?_, ?_,fun R=>hx R⟩
  ·simp only[pre_dr3,andd,dec_iff]
   rw[List.length_set]
   refine⟨h0,h1,by omega,h3,h4,h5,h6,h7,h8,h9,okLs_set h10 (okV_iff.2 ?_),h11⟩
   rw[show drF c.2.1 c.2.2 [List.getD a p.toNat 0] i k v z=v+dofV c.2.1 c.2.2 [List.getD a p.toNat 0] (i+k) (i+z)from rfl]
   split<;>omega
  ·simp only[mu_dr3]
   rw[List.length_set];omega
  ·simp only[res_dr3]
   rw[List.length_set,hy,show List.length nx-(z+1).toNat=y by omega];rfl
 ·left
  intro R
  refine(hx R).trans ?_
  rw[decide_eq_false hz]
  have e:List.length nx-z.toNat=0:=by omega
  simp only[res_dr3,e];rfl
def g_dr3:St→Cont→Option Fin:=gP sh_dr3 (fun v=>match v with | ((c,a,i,j,p,k,v,z,n,q,m,x,()),(nx,be,()))=>pre_dr3 c a i j p k v z n q m x nx be) (fun v K=>match v with | ((c,a,i,j,p,k,v,z,n,q,m,x,()),(nx,be,()))=>res_dr3 c a i j p k v z n q m x nx be K)
def L_dr3:LpL:=(12,g_dr3)::[]
theorem l_dr3 {L:LpL} (n:Nat) (h1:L.drop n=[]) (h2:idsFree (L.take n) (loopOf Tryz.f95 2)=true):LoopsTo g_dr3 (cb_drl) (loopOf Tryz.f95 2) 12 L :=
 with_drop h1 h2 (gP_ok (fun v=>match v with | ((c,a,i,j,p,k,v,z,n,q,m,x,()),(nx,be,()))=>mu_dr3 c a i j p k v z n q m x nx be) fun v K hI=>by
  obtain⟨⟨c,a,i,j,p,k,v,z,n,q,m,x,⟨⟩⟩,⟨nx,be,⟨⟩⟩⟩:=v
  exact(r_dr3 c a i j p k v z n q m x nx be K hI).imp id fun⟨c',a',i',j',p',k',v',z',n',q',m',x',nx',be',h⟩=>⟨((c',a',i',j',p',k',v',z',n',q',m',x',()),(nx',be',())),h⟩)
theorem x_impl_distances_rule_1 (c:Dists) (a:Str) (i j p n q m x:Int) (nx be:List Int) (R:St→Option Fin) (K:Cont):evC (cb_drl.withLoops (look L_dr3)) (loopOf Tryz.f95 1) ⟨[(0, .d (ofD (.ref TDs) c)),(1,vS a),(2,vI i),(3,vI j),(10,vI p),(11, oA),(24,vI n),(25,vI q),(34, oB),(35,vI m),(36,vI x)],drH nx be⟩ (onward (headAt (cb_drl.withLoops (look L_dr3)) 8) R K)=(
branch (decide (x<m)) (
 need (inb x be.length) <|
 branch (decide (be.getD x.toNat 0=1073741824)) ( R (.mk [(0,(.d (.one (.r (.rf TDs c))))),(1,vS a),(2,vI i),(3,vI j),(10,vI p),(11,oA),(24,vI n),(25,vI q),(34,oB),(35,vI m),(36,vI (W64 (x+1)))] [(500000,some (.lis 3 TI64 nx)),(500001,some (.lis 3 TI64 be))])) (
 need (pre_dr3 c a i j p x (be.getD x.toNat 0) x n q m x nx be) <| R (.mk [(0,(.d (.one (.r (.rf TDs c))))),(1,vS a),(2,vI i),(3,vI j),(10,vI p),(11,oA),(24,vI n),(25,vI q),(34,oB),(35,vI m),(36,vI (W64 (x+1)))] [(500000,(.some (.lis 3 TI64 (relN (drF c.snd.fst c.snd.snd [List.getD a p.toNat 0] i x (be.getD x.toNat 0)) (nx.length-x.toNat) x nx)))),(500001,some (.lis 3 TI64 be))]))) ( K (.exit 2) (.mk [(0,(.d (.one (.r (.rf TDs c))))),(1,vS a),(2,vI i),(3,vI j),(11,oA),(24,vI n),(25,vI q)] [(500000,some (.lis 3 TI64 nx))]))):=by kernel_rfl
def stepM (s:Str) (m:DMap) (c:Str) (i:Int) (be:List Int) (x:Int) (nx:List Int):List Int:=bif decide (be.getD x.toNat 0=1073741824)then nx else relN (drF s m c i x (be.getD x.toNat 0)) (nx.length-x.toNat) x nx
def midF (s:Str) (m:DMap) (c:Str) (i:Int) (be:List Int):Nat→Int→List Int→List Int
 |0,_,nx=>nx
 |n+1,x,nx=>midF s m c i be n (x+1) (stepM s m c i be x nx)
theorem stepM_len {s:Str} {m:DMap} {c:Str} {i:Int} {be nx:List Int} {x:Int}:(stepM s m c i be x nx).length=nx.length:=by
 unfold stepM
 cases decide (be.getD x.toNat 0=1073741824)
 ·exact relN_len
 ·rfl
theorem midF_len {s:Str} {m:DMap} {c:Str} {i:Int} {be:List Int}:∀ {n:Nat} {x:Int} {nx:List Int},(midF s m c i be n x nx).length=nx.length
 |0,_,_=>rfl
 |n+1,x,nx=>by
  unfold midF
  rw[midF_len,stepM_len]
theorem stepM_ok {s:Str} {m:DMap} {c:Str} {i:Int} {be nx:List Int} {x:Int} (hm:okDm m=true) (hs:List.length s≤1000) (i0:0≤i) (hl:i+nx.length≤(List.length s:Int)+1) (x0:0≤x) (hx:x<(nx.length:Int)) (hb:okLs be=true) (hbl:be.length=nx.length) (hn:okLs nx=true):okLs (stepM s m c i be x nx)=true:=by
 unfold stepM
 cases decide (be.getD x.toNat 0=1073741824)
 ·have hv:=okLs_at (i:=x.toNat) hb (by omega)
  refine relN_ok x0 (by omega) hn fun y y0 y1 => ?_
  have:=dofV_ok (s:=s) (a:=c) (m:=m) (i:=i+x) (j:=i+y) hm (by omega) (by omega) (by omega) hs
  show 0≤be.getD x.toNat 0+dofV s m c (i+x) (i+y)
  omega
 ·exact hn
def cx0_dr2:Cx:=(cb_drl).withLoops (look L_dr3)
def sh_dr2:Sh:=([(0, .d (.ref TDs)),(1, .d .str),(2, .d TI64),(3, .d TI64),(10, .d TI64),(11, .own 500000),(24, .d TI64),(25, .d TI64),(34, .own 500001),(35, .d TI64),(36, .d TI64)],[(500000, .lis 3 TI64),(500001, .lis 3 TI64)])
abbrev st_dr2 (c:Dists) (a:Str) (i j p n q m x:Int) (nx be:List (Int)):St:=⟨[(0, .d (ofD (.ref TDs) c)),(1,vS a),(2,vI i),(3,vI j),(10,vI p),(11, .d (.one (.own 500000))),(24,vI n),(25,vI q),(34, .d (.one (.own 500001))),(35,vI m),(36,vI x)],[(500000,some (.lis 3 TI64 nx)),(500001,some (.lis 3 TI64 be))]⟩
def pre_dr2 (c:Dists) (a:Str) (i j p _n _q m x:Int) (nx be:List (Int)):Bool:=decide (0≤i)&&(decide (0≤x)&&(decide (m=(List.length be:Int))&&(decide (List.length be=List.length nx)&&(decide ((List.length nx:Int)=j-i+1)&&(decide (j≤(List.length c.2.1:Int))&&(decide (List.length c.2.1≤1000)&&(decide (0≤p)&&(decide (p<(List.length a:Int))&&(decide (List.length a≤1000)&&(okDm c.2.2&&(okLs nx&&okLs be)))))))))))
def res_dr2 (c:Dists) (a:Str) (i j p n q _m x:Int) (nx be:List (Int)) (K:Cont):Option Fin:=K (.exit 2) ⟨[(0, .d (ofD (.ref TDs) c)),(1,vS a),(2,vI i),(3,vI j),(11, oA),(24,vI n),(25,vI q)],[(500000,some (.lis 3 TI64 (midF c.2.1 c.2.2 [List.getD a p.toNat 0] i be (List.length be-x.toNat) x nx)))]⟩
def mu_dr2 (_c:Dists) (_a:Str) (_i _j _p _n _q _m x:Int) (_nx be:List (Int)):Nat:=List.length be-x.toNat
theorem r_dr2 (c:Dists) (a:Str) (i j p n q m x:Int) (nx be:List (Int)) (K:Cont) (hI:pre_dr2 c a i j p n q m x nx be=true):(∀R:St→Option Fin,evC cx0_dr2 (loopOf Tryz.f95 1) (st_dr2 c a i j p n q m x nx be) (onward (headAt cx0_dr2 8) R K)=res_dr2 c a i j p n q m x nx be K) ∨
  (∃(c':Dists) (a':Str) (i' j' p' n' q' m' x':Int) (nx' be':List (Int)),pre_dr2 c' a' i' j' p' n' q' m' x' nx' be'=true∧mu_dr2 c' a' i' j' p' n' q' m' x' nx' be'<mu_dr2 c a i j p n q m x nx be∧res_dr2 c' a' i' j' p' n' q' m' x' nx' be' K=res_dr2 c a i j p n q m x nx be K∧∀R:St→Option Fin,evC cx0_dr2 (loopOf Tryz.f95 1) (st_dr2 c a i j p n q m x nx be) (onward (headAt cx0_dr2 8) R K)=R (st_dr2 c' a' i' j' p' n' q' m' x' nx' be')):=by
 have hx:=fun R=>x_impl_distances_rule_1 c a i j p n q m x nx be R K
 simp only[pre_dr2,andd,dec_iff]at hI
 obtain⟨h0,h1,rfl,h2,h3,h4,h5,h6,h7,h8,h9,h10,h11⟩:=hI
 by_cases hz:x<(List.length be:Int)
 ·have w:W64 (x+1)=x+1:=wrap_small (by omega) (by omega)
  obtain⟨y,hy⟩:∃y,List.length be-x.toNat=y+1:=⟨List.length be-x.toNat-1,by omega⟩
  have hy2:List.length be-(x+1).toNat=y:=by omega
  have hv:=okLs_at (i:=x.toNat) h11 (by omega)
  have hok:=stepM_ok (c:=[List.getD a p.toNat 0]) (be:=be) (nx:=nx) (x:=x) h9 h5 h0 (by omega) h1 (by omega) h11 h2 h10
  have kp:pre_dr3 c a i j p x (List.getD be x.toNat 0) x n q (List.length be:Int) x nx be=true:=by
   simp only[pre_dr3,andd,dec_iff]
   exact⟨h0,h1,Int.le_refl _,h3,h4,h5,h6,h7,h8,h9,h10,okV_iff.2 hv⟩
  rw[decide_eq_true hz,inb_ok h1 hz,w,kp]at hx
  right
  refine⟨c,a,i,j,p,n,q,(List.length be:Int),x+1,stepM c.2.1 c.2.2 [List.getD a p.toNat 0] i be x nx,be, ?_, ?_, ?_,fun R=>(hx R).trans ?_⟩
  ·simp only[pre_dr2,andd,dec_iff]
   rw[stepM_len]
   exact⟨h0,by omega,trivial,h2,h3,h4,h5,h6,h7,h8,h9,hok,h11⟩
  ·simp only[mu_dr2];omega
  ·simp only[res_dr2,hy,hy2];rfl
  ·unfold stepM
   cases decide (List.getD be x.toNat 0=1073741824)<;>rfl
 ·left
  intro R
  refine(hx R).trans ?_
  rw[decide_eq_false hz]
  have e:List.length be-x.toNat=0:=by omega
  simp only[res_dr2,e];rfl
def g_dr2:St→Cont→Option Fin:=gP sh_dr2 (fun v=>match v with | ((c,a,i,j,p,n,q,m,x,()),(nx,be,()))=>pre_dr2 c a i j p n q m x nx be) (fun v K=>match v with | ((c,a,i,j,p,n,q,m,x,()),(nx,be,()))=>res_dr2 c a i j p n q m x nx be K)
def L_dr2:LpL:=(8,g_dr2)::L_dr3
theorem l_dr2 {L:LpL} (n:Nat) (h1:L.drop n=L_dr3) (h2:idsFree (L.take n) (loopOf Tryz.f95 1)=true):LoopsTo g_dr2 (cb_drl) (loopOf Tryz.f95 1) 8 L :=
 with_drop h1 h2 (gP_ok (fun v=>match v with | ((c,a,i,j,p,n,q,m,x,()),(nx,be,()))=>mu_dr2 c a i j p n q m x nx be) fun v K hI=>by
  obtain⟨⟨c,a,i,j,p,n,q,m,x,⟨⟩⟩,⟨nx,be,⟨⟩⟩⟩:=v
  exact(r_dr2 c a i j p n q m x nx be K hI).imp id fun⟨c',a',i',j',p',n',q',m',x',nx',be',h⟩=>⟨((c',a',i',j',p',n',q',m',x',()),(nx',be',())),h⟩)
theorem x_impl_distances_rule (c:Dists) (a:Str) (i j n q:Int) (be:List Int) (R:St→Option Fin) (K:Cont):evC (cb_drl.withLoops (look L_dr2)) (loopOf Tryz.f95 0) ⟨[(0, .d (ofD (.ref TDs) c)),(1,vS a),(2,vI i),(3,vI j),(9, oA),(24,vI n),(25,vI q)],[(500000,some (.lis 3 TI64 be))]⟩ (onward (headAt (cb_drl.withLoops (look L_dr2)) 4) R K)=(
branch (decide (q<n)) (
 need (decide ([1073741824].length=1)&&(decide (1≤W64 (W64 (j-i)+1))&&decide (W64 (W64 (j-i)+1)≤1001))) <|
 need (pre_dr2 c a i j q n q ((be.length:Int)) 0 (List.replicate (W64 (W64 (j-i)+1)).toNat ([1073741824].getD 0 0)) be) <| R (.mk [(0,(.d (.one (.r (.rf TDs c))))),(1,vS a),(2,vI i),(3,vI j),(9,oA),(24,vI n),(25,vI (W64 (q+1)))] [(500000,(.some (.lis 3 TI64 (midF c.snd.fst c.snd.snd [List.getD a q.toNat 0] i be (be.length-(0:Int).toNat) 0 (List.replicate (W64 (W64 (j-i)+1)).toNat ([1073741824].getD 0 0))))))])) ( K (.exit 0) (.mk [(1,vS a),(2,vI i),(3,vI j),(9,oA)] [(500000,some (.lis 3 TI64 be))]))):=by kernel_rfl
def outF (s:Str) (m:DMap) (i:Int):Str→List Int→List Int
 | [],be=>be
 |c::r,be=>outF s m i r (midF s m [c] i be be.length 0 (List.replicate be.length never))
theorem midF_ok {s:Str} {m:DMap} {c:Str} {i:Int} {be:List Int} (hm:okDm m=true) (hs:List.length s≤1000) (i0:0≤i) (hb:okLs be=true):∀ {n:Nat} {x:Int} {nx:List Int},i+nx.length≤(List.length s:Int)+1→0≤x→x+n≤(nx.length:Int)→be.length=nx.length→okLs nx=true→okLs (midF s m c i be n x nx)=true
 |0,_,_,_,_,_,_,h=>h
 |n+1,x,nx,hl,x0,hx,hbl,h=>by
  unfold midF
  exact midF_ok hm hs i0 hb (by rw[stepM_len];exact hl) (by omega) (by rw[stepM_len];omega) (by rw[stepM_len];exact hbl) (stepM_ok hm hs i0 hl x0 (by omega) hb hbl h)
theorem okLs_rep {n:Nat}:okLs (List.replicate n never)=true:=List.all_eq_true.2 fun e he=>by
 rw[List.eq_of_mem_replicate he];decide
theorem outF_ok {s:Str} {m:DMap} {i:Int} (hm:okDm m=true) (hs:List.length s≤1000) (i0:0≤i):∀ {r:Str} {be:List Int},i+be.length≤(List.length s:Int)+1→okLs be=true→okLs (outF s m i r be)=true∧(outF s m i r be).length=be.length
 | [],_,_,h=>⟨h,rfl⟩
 |c::r,be,hl,h=>by
  have h1:=midF_ok (c:=[c]) (n:=be.length) (x:=0) (nx:=List.replicate be.length never) hm hs i0 h (by rw[List.length_replicate];exact hl) (Int.le_refl 0) (by rw[List.length_replicate];omega) (by rw[List.length_replicate]) okLs_rep
  have h2:(midF s m [c] i be be.length 0 (List.replicate be.length never)).length=be.length:=by rw[midF_len,List.length_replicate]
  have:=outF_ok hm hs i0 (r:=r) (by rw[h2];exact hl) h1
  unfold outF
  exact⟨this.1,by rw[this.2,h2]⟩
def cx0_dr1:Cx:=(cb_drl).withLoops (look L_dr2)
def sh_dr1:Sh:=([(0, .d (.ref TDs)),(1, .d .str),(2, .d TI64),(3, .d TI64),(9, .own 500000),(24, .d TI64),(25, .d TI64)],[(500000, .lis 3 TI64)])
abbrev st_dr1 (c:Dists) (a:Str) (i j n q:Int) (be:List (Int)):St:=⟨[(0, .d (ofD (.ref TDs) c)),(1,vS a),(2,vI i),(3,vI j),(9, .d (.one (.own 500000))),(24,vI n),(25,vI q)],[(500000,some (.lis 3 TI64 be))]⟩
def pre_dr1 (c:Dists) (a:Str) (i j n q:Int) (be:List (Int)):Bool:=decide (0≤i)&&(decide (i≤j)&&(decide (0≤q)&&(decide (n=(List.length a:Int))&&(decide (List.length a≤1000)&&(decide ((List.length be:Int)=j-i+1)&&(decide (j≤(List.length c.2.1:Int))&&(decide (List.length c.2.1≤1000)&&(okDm c.2.2&&okLs be))))))))
def res_dr1 (c:Dists) (a:Str) (i j _n q:Int) (be:List (Int)) (K:Cont):Option Fin:=K (.exit 0) ⟨[(1,vS a),(2,vI i),(3,vI j),(9, oA)],[(500000,some (.lis 3 TI64 (outF c.2.1 c.2.2 i (List.drop q.toNat a) be)))]⟩
def mu_dr1 (_c:Dists) (a:Str) (_i _j _n q:Int) (_be:List (Int)):Nat:=List.length a-q.toNat
theorem r_dr1 (c:Dists) (a:Str) (i j n q:Int) (be:List (Int)) (K:Cont) (hI:pre_dr1 c a i j n q be=true):(∀R:St→Option Fin,evC cx0_dr1 (loopOf Tryz.f95 0) (st_dr1 c a i j n q be) (onward (headAt cx0_dr1 4) R K)=res_dr1 c a i j n q be K) ∨
  (∃(c':Dists) (a':Str) (i' j' n' q':Int) (be':List (Int)),pre_dr1 c' a' i' j' n' q' be'=true∧mu_dr1 c' a' i' j' n' q' be'<mu_dr1 c a i j n q be∧res_dr1 c' a' i' j' n' q' be' K=res_dr1 c a i j n q be K∧∀R:St→Option Fin,evC cx0_dr1 (loopOf Tryz.f95 0) (st_dr1 c a i j n q be) (onward (headAt cx0_dr1 4) R K)=R (st_dr1 c' a' i' j' n' q' be')):=by
 have hx:=fun R=>x_impl_distances_rule c a i j n q be R K
 simp only[pre_dr1,andd,dec_iff]at hI
 obtain⟨h0,h1,h2,rfl,h3,h4,h5,h6,h7,h8⟩:=hI
 by_cases hq:q<(List.length a:Int)
 ·have w:W64 (q+1)=q+1:=wrap_small (by omega) (by omega)
  have w2:W64 (W64 (j-i)+1)=j-i+1:=by
   rw[show W64 (j-i)=j-i from wrap_small (by omega) (by omega)]
   exact wrap_small (by omega) (by omega)
  have e1:List.replicate (j-i+1).toNat (([1073741824]:List Int).getD 0 0)=List.replicate be.length never:=by
   rw[show (j-i+1).toNat=be.length by omega];rfl
  have kk:(decide (([1073741824]:List Int).length=1)&&(decide (1≤j-i+1)&&decide (j-i+1≤1001)))=true:=andd.2 ⟨rfl,andd.2 ⟨decide_eq_true (by omega),decide_eq_true (by omega)⟩⟩
  have e2:be.length-(0:Int).toNat=be.length:=rfl
  have kp:pre_dr2 c a i j q (List.length a:Int) q (be.length:Int) 0 (List.replicate be.length never) be=true:=by
   simp only[pre_dr2,andd,dec_iff]
   rw[List.length_replicate]
   exact⟨h0,Int.le_refl 0,trivial,rfl,h4,h5,h6,h2,hq,h3,h7,okLs_rep,h8⟩
  have hd:List.drop q.toNat a=List.getD a q.toNat 0::List.drop (q+1).toNat a:=by
   have hn:q.toNat<List.length a:=by omega
   rw[List.drop_eq_getElem_cons hn,show (q+1).toNat=q.toNat+1 by omega,List.getD_eq_getElem?_getD,List.getElem?_eq_getElem hn];rfl
  rw[decide_eq_true hq,w,w2]at hx
  change ∀R:St→Option Fin,_=branch true (need (decide (([1073741824]:List Int).length=1)&&(decide (1≤j-i+1)&&decide (j-i+1≤1001))) (need (pre_dr2 c a i j q (List.length a:Int) q (be.length:Int) 0 (List.replicate (j-i+1).toNat (([1073741824]:List Int).getD 0 0)) be) (R ⟨[(0, .d (ofD (.ref TDs) c)),(1,vS a),(2,vI i),(3,vI j),(9, oA),(24,vI (List.length a:Int)),(25,vI (q+1))],[(500000,some (.lis 3 TI64 (midF c.2.1 c.2.2 [List.getD a q.toNat 0] i be (be.length-(0:Int).toNat) 0 (List.replicate (j-i+1).toNat (([1073741824]:List Int).getD 0 0)))))]⟩))) _ at hx
  rw[kk,e1,e2,kp]at hx
  right
  refine⟨c,a,i,j,(List.length a:Int),q+1,midF c.2.1 c.2.2 [List.getD a q.toNat 0] i be be.length 0 (List.replicate be.length never), ?_, ?_, ?_,fun R=>hx R⟩
  ·simp only[pre_dr1,andd,dec_iff]
   rw[midF_len,List.length_replicate]
   exact⟨h0,h1,by omega,trivial,h3,h4,h5,h6,h7,midF_ok h7 h6 h0 h8 (by rw[List.length_replicate];omega) (Int.le_refl 0) (by rw[List.length_replicate];omega) (by rw[List.length_replicate]) okLs_rep⟩
  ·simp only[mu_dr1];omega
  ·simp only[res_dr1,hd];rfl
 ·left
  intro R
  refine(hx R).trans ?_
  rw[decide_eq_false hq]
  have e:List.drop q.toNat a=[]:=List.drop_eq_nil_of_le (by omega)
  simp only[res_dr1,e];rfl
def g_dr1:St→Cont→Option Fin:=gP sh_dr1 (fun v=>match v with | ((c,a,i,j,n,q,()),(be,()))=>pre_dr1 c a i j n q be) (fun v K=>match v with | ((c,a,i,j,n,q,()),(be,()))=>res_dr1 c a i j n q be K)
def L_dr1:LpL:=(4,g_dr1)::L_dr2
def cx_dr1:Cx:=(cb_drl).withLoops (look L_dr1)
theorem l_dr1 {L:LpL} (n:Nat) (h1:L.drop n=L_dr2) (h2:idsFree (L.take n) (loopOf Tryz.f95 0)=true):LoopsTo g_dr1 (cb_drl) (loopOf Tryz.f95 0) 4 L :=
 with_drop h1 h2 (gP_ok (fun v=>match v with | ((c,a,i,j,n,q,()),(be,()))=>mu_dr1 c a i j n q be) fun v K hI=>by
  obtain⟨⟨c,a,i,j,n,q,⟨⟩⟩,⟨be,⟨⟩⟩⟩:=v
  exact(r_dr1 c a i j n q be K hI).imp id fun⟨c',a',i',j',n',q',be',h⟩=>⟨((c',a',i',j',n',q',()),(be',())),h⟩)
def ruleV (s:Str) (m:DMap) (r:Str) (i j:Int):Int:=bif decide (r=[])then j-i else(outF s m i r (List.set (List.replicate (j-i+1).toNat never) 0 0)).getD (j-i).toNat 0
theorem init_ok {n:Nat}:okLs (List.set (List.replicate n never) 0 0)=true:=okLs_set okLs_rep rfl
theorem ruleV_ok {s:Str} {m:DMap} {r:Str} {i j:Int} (hm:okDm m=true) (hs:List.length s≤1000) (i0:0≤i) (i1:i≤j) (i2:j≤(List.length s:Int)):0≤ruleV s m r i j:=by
 unfold ruleV
 cases decide (r=[])
 ·obtain ⟨h1,h2⟩:=outF_ok (r:=r) (be:=List.set (List.replicate (j-i+1).toNat never) 0 0) hm hs i0 (by rw[List.length_set,List.length_replicate];omega) init_ok
  rw[List.length_set,List.length_replicate]at h2
  exact(okLs_at h1 (by omega)).1
 ·rw[cond_true];omega
theorem y_impl_distances_rule (c:Dists) (a:Str) (i:Int) (j:Int):evFn cx_dr1 Tryz.f95 true [ofD (.ref TDs) c,ofD .str a,ofD TI64 i,ofD TI64 j] []=(
need (decide (([1073741824]:List Int).length=1)&&(decide (1≤W64 (W64 (j-i)+1))&&decide (W64 (W64 (j-i)+1)≤1001))) <|
need (inb 0 (List.replicate (W64 (W64 (j-i)+1)).toNat (([1073741824]:List Int).getD 0 0)).length) <|
need (pre_dr1 c a i j ((a.length:Int)) 0 ((List.replicate (W64 (W64 (j-i)+1)).toNat (([1073741824]:List Int).getD 0 0)).set ((0:Int).toNat) 0)) <|
branch (decide (a=[])) ( some ((vI (W64 (j-i))),[])) (
 need (inb (W64 (j-i)) (outF c.snd.fst c.snd.snd i a ((List.replicate (W64 (W64 (j-i)+1)).toNat (([1073741824]:List Int).getD 0 0)).set ((0:Int).toNat) 0)).length) <| some ((vI ((outF c.snd.fst c.snd.snd i a ((List.replicate (W64 (W64 (j-i)+1)).toNat (([1073741824]:List Int).getD 0 0)).set ((0:Int).toNat) 0)).getD (W64 (j-i)).toNat 0)),[]))):=by kernel_rfl
theorem s_impl_distances_rule (c:Dists) (_hc:Fit (.ref TDs) c) (a:Str) (_ha:Fit .str a) (i:Int) (_hi:Fit TI64 i) (j:Int) (_hj:Fit TI64 j) (hpre:(okIJ c.2.1 i j&&(decide (List.length c.2.1≤1000)&&(decide (List.length a≤1000)&&okDm c.2.2)))=true):Sat Tryz.prog 95 [ofD (.ref TDs) c,ofD .str a,ofD TI64 i,ofD TI64 j] [] (.d (ofD TI64 (ruleV c.2.1 c.2.2 a i j))) [] :=
 fn_sound (cx:=cx_dr1) Tryz.func95 rfl ttOk Γ71ok mixed (fun c hc=>LoopsOk.all (l:=[(4,loopOf Tryz.f95 0),(8,loopOf Tryz.f95 1),(12,loopOf Tryz.f95 2)]) (by cases hc;kernel_rfl) ⟨atLoop rfl (l_dr1 1 rfl (by kernel_rfl)),atLoop rfl (l_dr2 2 rfl (by kernel_rfl)),atLoop rfl (l_dr3 3 rfl (by kernel_rfl)),trivial⟩) (ro:=true) (by
  simp only[andd,dec_iff]at hpre
  obtain⟨h1,h2,h3,h4⟩:=hpre
  obtain⟨i0,i1,i2⟩:=okIJ_iff.1 h1
  rw[y_impl_distances_rule]
  have w:W64 (j-i)=j-i:=wrap_small (by omega) (by omega)
  have w2:W64 (W64 (j-i)+1)=j-i+1:=by
   rw[w];exact wrap_small (by omega) (by omega)
  have kk:(decide (([1073741824]:List Int).length=1)&&(decide (1≤j-i+1)&&decide (j-i+1≤1001)))=true:=andd.2 ⟨rfl,andd.2 ⟨decide_eq_true (by omega),decide_eq_true (by omega)⟩⟩
  have e1:(([1073741824]:List Int).getD 0 0)=never:=rfl
  have hl:((List.replicate (j-i+1).toNat never).set (0:Int).toNat 0).length=(j-i+1).toNat:=by rw[List.length_set,List.length_replicate]
  have kb:inb 0 (List.replicate (j-i+1).toNat never).length=true:=by
   rw[List.length_replicate];exact inb_ok (by omega) (by omega)
  obtain⟨o1,o2⟩:=outF_ok (r:=a) (be:=(List.replicate (j-i+1).toNat never).set (0:Int).toNat 0) h4 h2 i0 (by rw[hl];omega) init_ok
  have kp:pre_dr1 c a i j (a.length:Int) 0 ((List.replicate (j-i+1).toNat never).set (0:Int).toNat 0)=true:=by
   simp only[pre_dr1,andd,dec_iff]
   rw[hl]
   exact⟨i0,i1,Int.le_refl 0,trivial,h3,by omega,i2,h2,h4,init_ok⟩
  have kq:inb (j-i) (outF c.2.1 c.2.2 i a ((List.replicate (j-i+1).toNat never).set (0:Int).toNat 0)).length=true:=by
   rw[o2,hl];exact inb_ok (by omega) (by omega)
  rw[w2,w,kk,e1,kb,kp,kq]
  unfold ruleV
  cases decide (a=[])<;>rfl)
def c_impl_distances_rule:Con:=conT [(.ref TDs), .str,TI64,TI64] fun(c:Dists) (a:Str) (i:Int) (j:Int)=>(some (okIJ c.2.1 i j&&(decide (List.length c.2.1≤1000)&&(decide (List.length a≤1000)&&okDm c.2.2))), .d (ofD TI64 (ruleV c.2.1 c.2.2 a i j)))
theorem k_impl_distances_rule:ConOk Tryz.prog 95 c_impl_distances_rule:=conT_ok Tryz.call95 fun c hc a ha i hi j hj hqq=>s_impl_distances_rule c hc a ha i hi j hj (pre_of hqq)
def Γ72:GL:=(95,c_impl_distances_rule)::Γ71
theorem Γ72ok:GO Γ72 := .cons k_impl_distances_rule Γ71ok
def cb_far:Cx:=(cxOf Γ72 Tryz.f46.ntmps [(12,[1,2,5,6,7,8,32,33,34]),(9,[1,2,5,6,7,8]),(6,[1,2,5,6,7]),(3,[1,2,5,6])] [(0,[1,2,5]),(1,[1,2,5,6]),(2,[1,2,5,6]),(3,[1,2,5,6,7]),(4,[1,2,5,6,7]),(5,[1,2,5,6,7,8]),(6,[1,2,5,6,7,8]),(7,[1,2,5,6,7,8,32,33,34]),(1000000,[4])] [] [])
abbrev dsO (a:Str) (l:List Rule) (s:Str) (i:Nat):Option Obj:=some (.box 103 [.r (.v (.string (mk a))), .r (.li TRu l), .r (.v (.string (mk s))), .own i])
abbrev dsH (g:Gram) (a:Str) (l:List Rule) (s:Str) (m:DMap):Heap:=[(500000,some (boxD 25 TG g)),(500001,dsO a l s 500002),(500002,some (.map TP TI64 m))]
theorem x_impl_farFrom_3 (t s a:Str) (g:Gram) (l q:List Rule) (m:DMap) (b:Bool) (i j n k:Int) (R:St→Option Fin) (K:Cont):evC (cb_far.withLoops (look [])) (loopOf Tryz.f46 3) ⟨[(1,vS t),(2, pA),(5, pB),(6,vB b),(7,vI i),(8,vI j),(32, .d (ofD TRL l)),(33,vI n),(34,vI k)],[(500000,some (boxD 25 TG g)),(500001,dsO a q s 500002),(500002,some (.map TP TI64 m))]⟩ (onward (headAt (cb_far.withLoops (look [])) 12) R K)=(
branch (decide (k<n)) (
 need (inb k l.length) <|
 need (okIJ s i j&&(decide (s.length≤1000)&&(decide ((List.length (l.getD k.toNat d0).snd)≤1000)&&okDm m))) <|
 need (okIJ s i j&&decide (s.length≤1000)) <|
 branch (decide (ruleV s m (l.getD k.toNat d0).snd i j<dofV s m (l.getD k.toNat d0).fst i j)) ( R (.mk [(1,vS t),(2,pA),(5,pB),(6,vB true),(7,vI i),(8,vI j),(32,(.d (.one (.r (.li TRu l))))),(33,vI n),(34,vI (W64 (k+1)))] [(500000,some (boxD 25 TG g)),(500001,(.some (.box 103 [(.r (.v (Value.string (mk a)))),(.r (.li TRu q)),(.r (.v (Value.string (mk s)))),(.own 500002)]))),(500002,(.some (.map ty106 ty3 (mset ty106 ty3 ((l.getD k.toNat d0).fst,i,j) (ruleV s m (l.getD k.toNat d0).snd i j) m))))])) ( R (.mk [(1,vS t),(2,pA),(5,pB),(6,vB b),(7,vI i),(8,vI j),(32,(.d (.one (.r (.li TRu l))))),(33,vI n),(34,vI (W64 (k+1)))] [(500000,some (boxD 25 TG g)),(500001,(.some (.box 103 [(.r (.v (Value.string (mk a)))),(.r (.li TRu q)),(.r (.v (Value.string (mk s)))),(.own 500002)]))),(500002,(.some (.map TP TI64 m)))]))) ( K (.exit 6) (.mk [(1,vS t),(2,pA),(5,pB),(6,vB b),(7,vI i),(8,vI j)] [(500000,some (boxD 25 TG g)),(500001,(.some (.box 103 [(.r (.v (Value.string (mk a)))),(.r (.li TRu q)),(.r (.v (Value.string (mk s)))),(.own 500002)]))),(500002,(.some (.map TP TI64 m)))]))):=by kernel_rfl
def putD (q:Part) (v:Int) (m:DMap):DMap:=mset TP TI64 q v m
def stepRD (s:Str) (i j:Int) (r:Rule) (p:DMap×Bool):DMap×Bool:=bif decide (ruleV s p.1 r.2 i j<dofV s p.1 r.1 i j)then(putD (r.1,i,j) (ruleV s p.1 r.2 i j) p.1,true)else p
def rulesD (s:Str) (i j:Int):List Rule→DMap×Bool→DMap×Bool
 | [],p=>p
 |r::l,p=>rulesD s i j l (stepRD s i j r p)
def tosD (s:Str) (l:List Rule) (i:Int):Nat→Int→DMap×Bool→DMap×Bool
 |0,_,p=>p
 |n+1,j,p=>tosD s l i n (j+1) (rulesD s i j l p)
def fromsD (s:Str) (l:List Rule):Nat→DMap×Bool→DMap×Bool
 |0,p=>p
 |n+1,p=>fromsD s l n (tosD s l (n:Int) (s.length+1-n) (n:Int) p)
theorem rulesD_at {s:Str} {i j k:Int} {l:List Rule} {p:DMap×Bool} (h0:0≤k) (h1:k<(l.length:Int)):rulesD s i j (l.drop k.toNat) p=rulesD s i j (l.drop (k+1).toNat) (stepRD s i j (l.getD k.toNat d0) p):=by
 have hn:k.toNat<l.length:=by omega
 rw[List.drop_eq_getElem_cons hn,show (k+1).toNat=k.toNat+1 by omega,List.getD_eq_getElem?_getD,List.getElem?_eq_getElem hn];rfl
def stepVD (s:Str) (v:Vis) (p:DMap×Bool):DMap×Bool:=stepRD s v.1 v.2.1 v.2.2 p
theorem rulesD_vis {s:Str} {i j:Int}:∀ {l:List Rule} {p:DMap×Bool},rulesD s i j l p=foldG (stepVD s) (visR i j l) p
 | [],_=>rfl
 |r::l,p=>rulesD_vis (l:=l) (p:=stepRD s i j r p)
theorem tosD_vis {s:Str} {l:List Rule} {i:Int}:∀ {n:Nat} {j:Int} {p:DMap×Bool},tosD s l i n j p=foldG (stepVD s) (visT l i n j) p
 |0,_,_=>rfl
 |n+1,j,p=>by
  show tosD s l i n (j+1) (rulesD s i j l p)=foldG (stepVD s) (visR i j l++visT l i n (j+1)) p
  rw[foldG_app,← rulesD_vis,tosD_vis]
theorem fromsD_vis {s:Str} {l:List Rule}:∀ {n:Nat} {p:DMap×Bool},fromsD s l n p=foldG (stepVD s) (visF s l n) p
 |0,_=>rfl
 |n+1,p=>by
  show fromsD s l n (tosD s l (n:Int) (s.length+1-n) (n:Int) p)=foldG (stepVD s) (visT l (n:Int) (s.length+1-n) (n:Int)++visF s l n) p
  rw[foldG_app,← tosD_vis,fromsD_vis]
theorem okDm_set {q:Part} {v:Int} (hv:okV v=true):∀ {m:DMap},okDm m=true→okDm (putD q v m)=true
 | [],_=>by
  show(okV v&&true)=true
  rw[hv];rfl
 | (a,u)::m,h=>by
  obtain⟨h1,h2⟩:=andd.1 (show (okV u&&okDm m)=true from h)
  show okDm (bif eqDen TP q a then(q,v)::m else(a,u)::putD q v m)=true
  cases eqDen TP q a
  ·exact andd.2 ⟨h1,okDm_set hv h2⟩
  ·exact andd.2 ⟨hv,h2⟩
theorem getD_cons {x a:Part} {u:Int} {m:DMap}:getD' ((a,u)::m) x=bif decide (x=a)then u else getD' m x:=by
 rw[← eqP_dec]
 show(bif eqDen TP x a then some u else mget TP TI64 x m).getD never=_
 cases eqDen TP x a<;>rfl
theorem getDm_set {q x:Part} {v:Int}:∀ {m:DMap},getD' (putD q v m) x=bif decide (x=q)then v else getD' m x
 | []=>getD_cons (m:=[])
 | (a,u)::m=>by
  have ih:=getDm_set (q:=q) (x:=x) (v:=v) (m:=m)
  show getD' (bif eqDen TP q a then(q,v)::m else(a,u)::putD q v m) x=_
  rw[eqP_dec,getD_cons]
  by_cases h1:q=a
  ·subst h1
   rw[decide_eq_true rfl,cond_true,getD_cons]
   cases decide (x=q)<;>rfl
  ·rw[decide_eq_false h1,cond_false]
   refine getD_cons.trans ?_
   by_cases h:x=a
   ·have hx:¬x=q:=fun e=>h1 (e.symm.trans h)
    rw[decide_eq_false hx,decide_eq_true h];rfl
   ·rw[decide_eq_false h,cond_false,cond_false,ih]
theorem stepRD_ok {s:Str} {i j:Int} {r:Rule} {p:DMap×Bool} (hs:List.length s≤1000) (i0:0≤i) (i1:i≤j) (i2:j≤(List.length s:Int)) (hm:okDm p.1=true):okDm (stepRD s i j r p).1=true:=by
 unfold stepRD
 cases hc:decide (ruleV s p.1 r.2 i j<dofV s p.1 r.1 i j)
 ·exact hm
 ·have h1:=ruleV_ok (r:=r.2) hm hs i0 i1 i2
  have h2:=dofV_ok (a:=r.1) hm i0 i1 i2 hs
  have h3:=dec_iff.1 hc
  exact okDm_set (okV_iff.2 ⟨h1,by omega⟩) hm
theorem rulesD_ok {s:Str} {i j:Int} (hs:List.length s≤1000) (i0:0≤i) (i1:i≤j) (i2:j≤(List.length s:Int)):∀ {l:List Rule} {p:DMap×Bool},okDm p.1=true→okDm (rulesD s i j l p).1=true
 | [],_,h=>h
 |r::l,p,h=>rulesD_ok (l:=l) (p:=stepRD s i j r p) hs i0 i1 i2 (stepRD_ok hs i0 i1 i2 h)
theorem tosD_ok {s:Str} {l:List Rule} {i:Int} (hs:List.length s≤1000) (i0:0≤i):∀ {n:Nat} {j:Int} {p:DMap×Bool},i≤j→j+n≤(List.length s:Int)+1→okDm p.1=true→okDm (tosD s l i n j p).1=true
 |0,_,_,_,_,h=>h
 |n+1,j,p,h1,h2,h=>tosD_ok (n:=n) (j:=j+1) (p:=rulesD s i j l p) hs i0 (by omega) (by omega) (rulesD_ok hs i0 h1 (by omega) h)
def okRd (l:List Rule):Bool:=decide (List.length l≤1000)&&List.all l (fun r=>decide (List.length r.2≤1000)&&bigS r.1)
theorem okRd_iff {l:List Rule}:okRd l=true↔l.length≤1000∧List.all l (fun r=>decide (List.length r.2≤1000)&&bigS r.1)=true:=by
 unfold okRd
 rw[andd,dec_iff]
theorem okRd_at {l:List Rule} {r:Rule} (h:okRd l=true) (hr:r∈l):List.length r.2≤1000∧bigS r.1=true:=by
 obtain⟨h1,h2⟩:=andd.1 (List.all_eq_true.1 (okRd_iff.1 h).2 r hr)
 exact⟨dec_iff.1 h1,h2⟩
def ksD (v:Vis):List (Part×Int):=(List.range never.toNat).map fun(n:Nat)=>(keyV v,(n:Int))
def hasD (m:DMap) (x:Part×Int):Bool:=decide (getD' m x.1≤x.2)
def goodD (s:Str) (v:Vis):Prop:=0≤v.1∧v.1≤v.2.1∧v.2.1≤(List.length s:Int)∧bigS v.2.2.1=true
theorem stepVD_ok {s:Str} (hs:List.length s≤1000):StepOk (fun m=>okDm m=true) (goodD s) hasD ksD (stepVD s) where
 inv v p hG hI:=stepRD_ok hs hG.1 hG.2.1 hG.2.2.1 hI
 mono v p x hG hI h:=by
  obtain⟨g1,g2,g3,g4⟩:=hG
  unfold stepVD stepRD
  cases hc:decide (ruleV s p.1 v.2.2.2 v.1 v.2.1<dofV s p.1 v.2.2.1 v.1 v.2.1)
  ·exact h
  ·show decide (getD' (putD (v.2.2.1,v.1,v.2.1) (ruleV s p.1 v.2.2.2 v.1 v.2.1) p.1) x.1≤x.2)=true
   rw[getDm_set]
   by_cases he:x.1=(v.2.2.1,v.1,v.2.1)
   ·rw[decide_eq_true he,cond_true]
    have h1:=dec_iff.1 hc
    have h2:=dec_iff.1 h
    unfold dofV at h1
    rw[g4,cond_true,← he]at h1
    exact decide_eq_true (by omega)
   ·rw[decide_eq_false he];exact h
 new v p hG hI h:=by
  obtain⟨g1,g2,g3,g4⟩:=hG
  have h0:=ruleV_ok (r:=v.2.2.2) hI hs g1 g2 g3
  have h2:=dofV_ok (a:=v.2.2.1) hI g1 g2 g3 hs
  unfold stepVD stepRD at *
  cases hc:decide (ruleV s p.1 v.2.2.2 v.1 v.2.1<dofV s p.1 v.2.2.1 v.1 v.2.1)<;>rw[hc]at h
  ·exact .inl h
  ·have h1:=dec_iff.1 hc
   refine .inr ⟨(keyV v,ruleV s p.1 v.2.2.2 v.1 v.2.1),List.mem_map.2 ⟨(ruleV s p.1 v.2.2.2 v.1 v.2.1).toNat,List.mem_range.2 ?_, ?_⟩, ?_, ?_⟩
   ·have:(never:Int)=1073741824:=rfl
    omega
   ·rw[Int.toNat_of_nonneg h0]
   ·unfold dofV at h1
    rw[g4,cond_true]at h1
    exact decide_eq_false (by show ¬getD' p.1 (v.2.2.1,v.1,v.2.1)≤_;omega)
   ·show decide (getD' (putD (v.2.2.1,v.1,v.2.1) (ruleV s p.1 v.2.2.2 v.1 v.2.1) p.1) (v.2.2.1,v.1,v.2.1)≤_)=true
    rw[getDm_set,decide_eq_true rfl,cond_true]
    exact decide_eq_true (Int.le_refl _)
 quiet v p _ _ h:=by
  unfold stepVD stepRD at *
  cases hc:decide (ruleV s p.1 v.2.2.2 v.1 v.2.1<dofV s p.1 v.2.2.1 v.1 v.2.1)<;>rw[hc]at h
  ·exact ⟨h,rfl⟩
  ·cases h
def distM (s:Str) (l:List Rule):DMap:=runC hasD ksD (stepVD s) (visF s l (s.length+1)) []
theorem good_vis {s:Str} {l:List Rule} (h:okRd l=true):∀v∈visF s l (s.length+1),goodD s v:=fun v hv=>by
 obtain⟨v1,v2,v3,v4,v5⟩:=(mem_visF (Nat.le_refl _)).1 hv
 exact⟨v1,v3,v4,(okRd_at h v5).2⟩
def cx0_d4:Cx:=(cb_far).withLoops (look [])
def sh_d4:Sh:=([(1, .d .str),(2, .ptr 500000 0),(5, .ptr 500001 0),(6, .d .bool),(7, .d TI64),(8, .d TI64),(32, .d TRL),(33, .d TI64),(34, .d TI64)],[(500000, .box 25 TG),(500001, .mix 103 [.d .str, .d TRL, .d .str, .own 500002]),(500002, .map TP TI64)])
abbrev st_d4 (t:Str) (b:Bool) (i j:Int) (l:List Rule) (n k:Int) (g:Gram) (a:Str) (q:List Rule) (s:Str) (m:List (Den TP×Den TI64)):St:=⟨[(1,vS t),(2, .d (.one (.ptr 500000 0))),(5, .d (.one (.ptr 500001 0))),(6,vB b),(7,vI i),(8,vI j),(32, .d (ofD TRL l)),(33,vI n),(34,vI k)],[(500000,some (boxD 25 TG g)),(500001,some (.box 103 ((cellsR .str a).map C.r++(cellsR TRL q).map C.r++(cellsR .str s).map C.r++[.own 500002]))),(500002,some (.map TP TI64 m))]⟩
def pre_d4 (_t:Str) (_b:Bool) (i j:Int) (l:List Rule) (n k:Int) (_g:Gram) (_a:Str) (_q:List Rule) (s:Str) (m:List (Den TP×Den TI64)):Bool:=decide (0≤k)&&(decide (n=(List.length l:Int))&&(okRd l&&(okIJ s i j&&(decide (List.length s≤1000)&&okDm m))))
def res_d4 (t:Str) (b:Bool) (i j:Int) (l:List Rule) (_n k:Int) (g:Gram) (a:Str) (q:List Rule) (s:Str) (m:List (Den TP×Den TI64)) (K:Cont):Option Fin:=K (.exit 6) ⟨[(1,vS t),(2, pA),(5, pB),(6,vB (rulesD s i j (List.drop k.toNat l) (m,b)).2),(7,vI i),(8,vI j)],dsH g a q s (rulesD s i j (List.drop k.toNat l) (m,b)).1⟩
def mu_d4 (_t:Str) (_b:Bool) (_i _j:Int) (l:List Rule) (_n k:Int) (_g:Gram) (_a:Str) (_q:List Rule) (_s:Str) (_m:List (Den TP×Den TI64)):Nat:=List.length l-k.toNat
theorem r_d4 (t:Str) (b:Bool) (i j:Int) (l:List Rule) (n k:Int) (g:Gram) (a:Str) (q:List Rule) (s:Str) (m:List (Den TP×Den TI64)) (K:Cont) (hI:pre_d4 t b i j l n k g a q s m=true):(∀R:St→Option Fin,evC cx0_d4 (loopOf Tryz.f46 3) (st_d4 t b i j l n k g a q s m) (onward (headAt cx0_d4 12) R K)=res_d4 t b i j l n k g a q s m K) ∨
  (∃(t':Str) (b':Bool) (i' j':Int) (l':List Rule) (n' k':Int) (g':Gram) (a':Str) (q':List Rule) (s':Str) (m':List (Den TP×Den TI64)),pre_d4 t' b' i' j' l' n' k' g' a' q' s' m'=true∧mu_d4 t' b' i' j' l' n' k' g' a' q' s' m'<mu_d4 t b i j l n k g a q s m∧res_d4 t' b' i' j' l' n' k' g' a' q' s' m' K=res_d4 t b i j l n k g a q s m K∧∀R:St→Option Fin,evC cx0_d4 (loopOf Tryz.f46 3) (st_d4 t b i j l n k g a q s m) (onward (headAt cx0_d4 12) R K)=R (st_d4 t' b' i' j' l' n' k' g' a' q' s' m')):=by
 have hx:=fun R=>x_impl_farFrom_3 t s a g l q m b i j n k R K
 simp only[pre_d4,andd,dec_iff]at hI
 obtain⟨h0,rfl,h2,h4,h5,h6⟩:=hI
 obtain⟨i0,i1,i2⟩:=okIJ_iff.1 h4
 have h3:=(okRd_iff.1 h2).1
 by_cases hk:k<(List.length l:Int)
 ·have w:W64 (k+1)=k+1:=wrap_small (by omega) (by omega)
  have hg:=rulesD_at (s:=s) (i:=i) (j:=j) (p:=(m,b)) h0 hk
  have hmem:l.getD k.toNat d0∈l:=by
   have hn:k.toNat<List.length l:=by omega
   rw[getD_at hn];exact List.getElem_mem hn
  have hr:=(okRd_at h2 hmem).1
  have k1:(okIJ s i j&&(decide (List.length s≤1000)&&(decide (List.length (l.getD k.toNat d0).2≤1000)&&okDm m)))=true:=andd.2 ⟨h4,andd.2 ⟨decide_eq_true h5,andd.2 ⟨decide_eq_true hr,h6⟩⟩⟩
  have k2:(okIJ s i j&&decide (List.length s≤1000))=true:=andd.2 ⟨h4,decide_eq_true h5⟩
  have hok:=stepRD_ok (r:=l.getD k.toNat d0) (p:=(m,b)) h5 i0 i1 i2 h6
  rw[decide_eq_true hk,inb_ok h0 hk,w,k1,k2]at hx
  change ∀R:St→Option Fin,_=branch (decide (ruleV s m (l.getD k.toNat d0).2 i j<dofV s m (l.getD k.toNat d0).1 i j)) _ _ at hx
  have hst:stepRD s i j (l.getD k.toNat d0) (m,b)=bif decide (ruleV s m (l.getD k.toNat d0).2 i j<dofV s m (l.getD k.toNat d0).1 i j)then(putD ((l.getD k.toNat d0).1,i,j) (ruleV s m (l.getD k.toNat d0).2 i j) m,true)else(m,b):=rfl
  right
  cases hc:decide (ruleV s m (l.getD k.toNat d0).2 i j<dofV s m (l.getD k.toNat d0).1 i j)
  ·rw[hc]at hx hst
   rw[hst]at hg
   refine⟨t,b,i,j,l,(List.length l:Int),k+1,g,a,q,s,m, ?_, ?_, ?_,fun R=>hx R⟩
   ·simp only[pre_d4,andd,dec_iff]
    exact⟨by omega,trivial,h2,h4,h5,h6⟩
   ·simp only[mu_d4];omega
   ·simp only[res_d4,hg];rfl
  ·rw[hc]at hx hst
   rw[hst]at hg hok
   refine⟨t,true,i,j,l,(List.length l:Int),k+1,g,a,q,s,putD ((l.getD k.toNat d0).1,i,j) (ruleV s m (l.getD k.toNat d0).2 i j) m, ?_, ?_, ?_,fun R=>hx R⟩
   ·simp only[pre_d4,andd,dec_iff]
    exact⟨by omega,trivial,h2,h4,h5,hok⟩
   ·simp only[mu_d4];omega
   ·simp only[res_d4,hg];rfl
 ·left
  intro R
  refine(hx R).trans ?_
  rw[decide_eq_false hk]
  have e:List.drop k.toNat l=[]:=List.drop_eq_nil_of_le (by omega)
  simp only[res_d4,e];rfl
def g_d4:St→Cont→Option Fin:=gP sh_d4 (fun v=>match v with | ((t,b,i,j,l,n,k,()),(g,(a,q,s,()),m,()))=>pre_d4 t b i j l n k g a q s m) (fun v K=>match v with | ((t,b,i,j,l,n,k,()),(g,(a,q,s,()),m,()))=>res_d4 t b i j l n k g a q s m K)
def L_d4:LpL:=(12,g_d4)::[]
theorem l_d4 {L:LpL} (n:Nat) (h1:L.drop n=[]) (h2:idsFree (L.take n) (loopOf Tryz.f46 3)=true):LoopsTo g_d4 (cb_far) (loopOf Tryz.f46 3) 12 L :=
 with_drop h1 h2 (gP_ok (fun v=>match v with | ((t,b,i,j,l,n,k,()),(g,(a,q,s,()),m,()))=>mu_d4 t b i j l n k g a q s m) fun v K hI=>by
  obtain⟨⟨t,b,i,j,l,n,k,⟨⟩⟩,⟨g,⟨a,q,s,⟨⟩⟩,m,⟨⟩⟩⟩:=v
  exact(r_d4 t b i j l n k g a q s m K hI).imp id fun⟨t',b',i',j',l',n',k',g',a',q',s',m',h⟩=>⟨((t',b',i',j',l',n',k',()),(g',(a',q',s',()),m',())),h⟩)
theorem x_impl_farFrom_2 (t s a:Str) (g:Gram) (q:List Rule) (m:DMap) (b:Bool) (i j:Int) (R:St→Option Fin) (K:Cont):evC (cb_far.withLoops (look L_d4)) (loopOf Tryz.f46 2) ⟨[(1,vS t),(2, pA),(5, pB),(6,vB b),(7,vI i),(8,vI j)],[(500000,some (boxD 25 TG g)),(500001,dsO a q s 500002),(500002,some (.map TP TI64 m))]⟩ (onward (headAt (cb_far.withLoops (look L_d4)) 9) R K)=(
branch (decide (j≤(t.length:Int))) (
 need (pre_d4 t b i j g.snd ((List.length g.snd:Int)) 0 g a q s m) <| R (.mk [(1,vS t),(2,pA),(5,pB),(6,(vB (rulesD s i j g.snd (m,b)).snd)),(7,vI i),(8,vI (W64 (j+1)))] [(500000,some (boxD 25 TG g)),(500001,(.some (.box 103 [(.r (.v (Value.string (mk a)))),(.r (.li TRu q)),(.r (.v (Value.string (mk s)))),(.own 500002)]))),(500002,(.some (.map TP TI64 ((rulesD s i j g.snd (m,b)).fst))))])) ( K (.exit 4) (.mk [(1,vS t),(2,pA),(5,pB),(6,vB b),(7,vI i)] [(500000,some (boxD 25 TG g)),(500001,(.some (.box 103 [(.r (.v (Value.string (mk a)))),(.r (.li TRu q)),(.r (.v (Value.string (mk s)))),(.own 500002)]))),(500002,(.some (.map TP TI64 m)))]))):=by kernel_rfl
def cx0_d3:Cx:=(cb_far).withLoops (look L_d4)
def sh_d3:Sh:=([(1, .d .str),(2, .ptr 500000 0),(5, .ptr 500001 0),(6, .d .bool),(7, .d TI64),(8, .d TI64)],[(500000, .box 25 TG),(500001, .mix 103 [.d .str, .d TRL, .d .str, .own 500002]),(500002, .map TP TI64)])
abbrev st_d3 (t:Str) (b:Bool) (i j:Int) (g:Gram) (a:Str) (q:List Rule) (s:Str) (m:List (Den TP×Den TI64)):St:=⟨[(1,vS t),(2, .d (.one (.ptr 500000 0))),(5, .d (.one (.ptr 500001 0))),(6,vB b),(7,vI i),(8,vI j)],[(500000,some (boxD 25 TG g)),(500001,some (.box 103 ((cellsR .str a).map C.r++(cellsR TRL q).map C.r++(cellsR .str s).map C.r++[.own 500002]))),(500002,some (.map TP TI64 m))]⟩
def pre_d3 (t:Str) (_b:Bool) (i j:Int) (g:Gram) (_a:Str) (_q:List Rule) (s:Str) (m:List (Den TP×Den TI64)):Bool:=decide (0≤i)&&(decide (i≤j)&&(okRd g.2&&(decide (t=s)&&(decide (List.length s≤1000)&&(decide (j≤(List.length s:Int)+1)&&okDm m)))))
def res_d3 (t:Str) (b:Bool) (i j:Int) (g:Gram) (a:Str) (q:List Rule) (s:Str) (m:List (Den TP×Den TI64)) (K:Cont):Option Fin:=K (.exit 4) ⟨[(1,vS t),(2, pA),(5, pB),(6,vB (tosD s g.2 i ((s.length:Int)+1-j).toNat j (m,b)).2),(7,vI i)],dsH g a q s (tosD s g.2 i ((s.length:Int)+1-j).toNat j (m,b)).1⟩
def mu_d3 (_t:Str) (_b:Bool) (_i j:Int) (_g:Gram) (_a:Str) (_q:List Rule) (s:Str) (_m:List (Den TP×Den TI64)):Nat:=(List.length s+1)-j.toNat
theorem r_d3 (t:Str) (b:Bool) (i j:Int) (g:Gram) (a:Str) (q:List Rule) (s:Str) (m:List (Den TP×Den TI64)) (K:Cont) (hI:pre_d3 t b i j g a q s m=true):(∀R:St→Option Fin,evC cx0_d3 (loopOf Tryz.f46 2) (st_d3 t b i j g a q s m) (onward (headAt cx0_d3 9) R K)=res_d3 t b i j g a q s m K) ∨
  (∃(t':Str) (b':Bool) (i' j':Int) (g':Gram) (a':Str) (q':List Rule) (s':Str) (m':List (Den TP×Den TI64)),pre_d3 t' b' i' j' g' a' q' s' m'=true∧mu_d3 t' b' i' j' g' a' q' s' m'<mu_d3 t b i j g a q s m∧res_d3 t' b' i' j' g' a' q' s' m' K=res_d3 t b i j g a q s m K∧∀R:St→Option Fin,evC cx0_d3 (loopOf Tryz.f46 2) (st_d3 t b i j g a q s m) (onward (headAt cx0_d3 9) R K)=R (st_d3 t' b' i' j' g' a' q' s' m')):=by
 have hx:=fun R=>x_impl_farFrom_2 t s a g q m b i j R K
 simp only[pre_d3,andd,dec_iff]at hI
 obtain⟨h0,h1,h2,rfl,h4,h5,h6⟩:=hI
 by_cases hj:j≤(List.length t:Int)
 ·have w:W64 (j+1)=j+1:=wrap_small (by omega) (by omega)
  obtain⟨n,hn⟩:∃n,((List.length t:Int)+1-j).toNat=n+1:=⟨((List.length t:Int)+1-j).toNat-1,by omega⟩
  have hn2:((List.length t:Int)+1-(j+1)).toNat=n:=by omega
  have hg:tosD t g.2 i (n+1) j (m,b)=tosD t g.2 i n (j+1) (rulesD t i j g.2 (m,b)):=rfl
  have hok:=rulesD_ok (l:=g.2) (p:=(m,b)) h4 h0 h1 hj h6
  have hp:pre_d4 t b i j g.2 ((List.length g.2:Int)) 0 g a q t m=true:=by
   simp only[pre_d4,andd,dec_iff]
   exact⟨by omega,trivial,h2,okIJ_iff.2 ⟨h0,h1,hj⟩,h4,h6⟩
  rw[decide_eq_true hj,hp,w]at hx
  right
  refine⟨t,(rulesD t i j g.2 (m,b)).2,i,j+1,g,a,q,t,(rulesD t i j g.2 (m,b)).1, ?_, ?_, ?_,fun R=>hx R⟩
  ·simp only[pre_d3,andd,dec_iff]
   exact⟨by omega,by omega,h2,trivial,h4,by omega,hok⟩
  ·simp only[mu_d3];omega
  ·simp only[res_d3,hn,hn2,hg]
 ·left
  intro R
  refine(hx R).trans ?_
  rw[decide_eq_false hj]
  have e:((List.length t:Int)+1-j).toNat=0:=by omega
  simp only[res_d3,e];rfl
def g_d3:St→Cont→Option Fin:=gP sh_d3 (fun v=>match v with | ((t,b,i,j,()),(g,(a,q,s,()),m,()))=>pre_d3 t b i j g a q s m) (fun v K=>match v with | ((t,b,i,j,()),(g,(a,q,s,()),m,()))=>res_d3 t b i j g a q s m K)
def L_d3:LpL:=(9,g_d3)::L_d4
theorem l_d3 {L:LpL} (n:Nat) (h1:L.drop n=L_d4) (h2:idsFree (L.take n) (loopOf Tryz.f46 2)=true):LoopsTo g_d3 (cb_far) (loopOf Tryz.f46 2) 9 L :=
 with_drop h1 h2 (gP_ok (fun v=>match v with | ((t,b,i,j,()),(g,(a,q,s,()),m,()))=>mu_d3 t b i j g a q s m) fun v K hI=>by
  obtain⟨⟨t,b,i,j,⟨⟩⟩,⟨g,⟨a,q,s,⟨⟩⟩,m,⟨⟩⟩⟩:=v
  exact(r_d3 t b i j g a q s m K hI).imp id fun⟨t',b',i',j',g',a',q',s',m',h⟩=>⟨((t',b',i',j',()),(g',(a',q',s',()),m',())),h⟩)
theorem x_impl_farFrom_1 (t s a:Str) (g:Gram) (q:List Rule) (m:DMap) (b:Bool) (i:Int) (R:St→Option Fin) (K:Cont):evC (cb_far.withLoops (look L_d3)) (loopOf Tryz.f46 1) ⟨[(1,vS t),(2, pA),(5, pB),(6,vB b),(7,vI i)],[(500000,some (boxD 25 TG g)),(500001,dsO a q s 500002),(500002,some (.map TP TI64 m))]⟩ (onward (headAt (cb_far.withLoops (look L_d3)) 6) R K)=(
branch (decide (0≤i)) (
 need (pre_d3 t b i i g a q s m) <| R (.mk [(1,vS t),(2,pA),(5,pB),(6,(vB (tosD s g.snd i ((s.length:Int)+1-i).toNat i (m,b)).snd)),(7,vI (W64 (i-1)))] [(500000,some (boxD 25 TG g)),(500001,(.some (.box 103 [(.r (.v (Value.string (mk a)))),(.r (.li TRu q)),(.r (.v (Value.string (mk s)))),(.own 500002)]))),(500002,(.some (.map TP TI64 ((tosD s g.snd i ((s.length:Int)+1-i).toNat i (m,b)).fst))))])) ( K (.exit 2) (.mk [(1,vS t),(2,pA),(5,pB),(6,vB b)] [(500000,some (boxD 25 TG g)),(500001,(.some (.box 103 [(.r (.v (Value.string (mk a)))),(.r (.li TRu q)),(.r (.v (Value.string (mk s)))),(.own 500002)]))),(500002,(.some (.map TP TI64 m)))]))):=by kernel_rfl
def cx0_d2:Cx:=(cb_far).withLoops (look L_d3)
def sh_d2:Sh:=([(1, .d .str),(2, .ptr 500000 0),(5, .ptr 500001 0),(6, .d .bool),(7, .d TI64)],[(500000, .box 25 TG),(500001, .mix 103 [.d .str, .d TRL, .d .str, .own 500002]),(500002, .map TP TI64)])
abbrev st_d2 (t:Str) (b:Bool) (i:Int) (g:Gram) (a:Str) (q:List Rule) (s:Str) (m:List (Den TP×Den TI64)):St:=⟨[(1,vS t),(2, .d (.one (.ptr 500000 0))),(5, .d (.one (.ptr 500001 0))),(6,vB b),(7,vI i)],[(500000,some (boxD 25 TG g)),(500001,some (.box 103 ((cellsR .str a).map C.r++(cellsR TRL q).map C.r++(cellsR .str s).map C.r++[.own 500002]))),(500002,some (.map TP TI64 m))]⟩
def pre_d2 (t:Str) (_b:Bool) (i:Int) (g:Gram) (_a:Str) (_q:List Rule) (s:Str) (m:List (Den TP×Den TI64)):Bool:=decide (-1≤i)&&(decide (i≤(List.length s:Int))&&(okRd g.2&&(decide (t=s)&&(decide (List.length s≤1000)&&okDm m))))
def res_d2 (t:Str) (b:Bool) (i:Int) (g:Gram) (a:Str) (q:List Rule) (s:Str) (m:List (Den TP×Den TI64)) (K:Cont):Option Fin:=K (.exit 2) ⟨[(1,vS t),(2, pA),(5, pB),(6,vB (fromsD s g.2 (i+1).toNat (m,b)).2)],dsH g a q s (fromsD s g.2 (i+1).toNat (m,b)).1⟩
def mu_d2 (_t:Str) (_b:Bool) (i:Int) (_g:Gram) (_a:Str) (_q:List Rule) (_s:Str) (_m:List (Den TP×Den TI64)):Nat:=(i+1).toNat
theorem r_d2 (t:Str) (b:Bool) (i:Int) (g:Gram) (a:Str) (q:List Rule) (s:Str) (m:List (Den TP×Den TI64)) (K:Cont) (hI:pre_d2 t b i g a q s m=true):(∀R:St→Option Fin,evC cx0_d2 (loopOf Tryz.f46 1) (st_d2 t b i g a q s m) (onward (headAt cx0_d2 6) R K)=res_d2 t b i g a q s m K) ∨
  (∃(t':Str) (b':Bool) (i':Int) (g':Gram) (a':Str) (q':List Rule) (s':Str) (m':List (Den TP×Den TI64)),pre_d2 t' b' i' g' a' q' s' m'=true∧mu_d2 t' b' i' g' a' q' s' m'<mu_d2 t b i g a q s m∧res_d2 t' b' i' g' a' q' s' m' K=res_d2 t b i g a q s m K∧∀R:St→Option Fin,evC cx0_d2 (loopOf Tryz.f46 1) (st_d2 t b i g a q s m) (onward (headAt cx0_d2 6) R K)=R (st_d2 t' b' i' g' a' q' s' m')):=by
 have hx:=fun R=>x_impl_farFrom_1 t s a g q m b i R K
 simp only[pre_d2,andd,dec_iff]at hI
 obtain⟨h0,h1,h2,rfl,h4,h6⟩:=hI
 by_cases hi:0≤i
 ·have w:W64 (i-1)=i-1:=wrap_small (by omega) (by omega)
  have hn:(i+1).toNat=i.toNat+1:=by omega
  have hn2:(i-1+1).toNat=i.toNat:=by omega
  have hg:fromsD t g.2 (i.toNat+1) (m,b)=fromsD t g.2 i.toNat (tosD t g.2 ((i.toNat:Nat):Int) (t.length+1-i.toNat) ((i.toNat:Nat):Int) (m,b)):=rfl
  have e1:((i.toNat:Nat):Int)=i:=by omega
  have e2:((t.length:Int)+1-i).toNat=t.length+1-i.toNat:=by omega
  have hok:=tosD_ok (l:=g.2) (n:=t.length+1-i.toNat) (j:=i) (p:=(m,b)) h4 hi (Int.le_refl i) (by omega) h6
  rw[e1]at hg
  have hp:pre_d3 t b i i g a q t m=true:=by
   simp only[pre_d3,andd,dec_iff]
   exact⟨by omega,by omega,h2,trivial,h4,by omega,h6⟩
  rw[decide_eq_true hi,hp,w,e2]at hx
  right
  refine⟨t,(tosD t g.2 i (t.length+1-i.toNat) i (m,b)).2,i-1,g,a,q,t,(tosD t g.2 i (t.length+1-i.toNat) i (m,b)).1, ?_, ?_, ?_,fun R=>hx R⟩
  ·simp only[pre_d2,andd,dec_iff]
   exact⟨by omega,by omega,h2,trivial,h4,hok⟩
  ·simp only[mu_d2];omega
  ·simp only[res_d2,hn,hn2,hg]
 ·left
  intro R
  refine(hx R).trans ?_
  rw[decide_eq_false hi]
  have e:(i+1).toNat=0:=by omega
  simp only[res_d2,e];rfl
def g_d2:St→Cont→Option Fin:=gP sh_d2 (fun v=>match v with | ((t,b,i,()),(g,(a,q,s,()),m,()))=>pre_d2 t b i g a q s m) (fun v K=>match v with | ((t,b,i,()),(g,(a,q,s,()),m,()))=>res_d2 t b i g a q s m K)
def L_d2:LpL:=(6,g_d2)::L_d3
theorem l_d2 {L:LpL} (n:Nat) (h1:L.drop n=L_d3) (h2:idsFree (L.take n) (loopOf Tryz.f46 1)=true):LoopsTo g_d2 (cb_far) (loopOf Tryz.f46 1) 6 L :=
 with_drop h1 h2 (gP_ok (fun v=>match v with | ((t,b,i,()),(g,(a,q,s,()),m,()))=>mu_d2 t b i g a q s m) fun v K hI=>by
  obtain⟨⟨t,b,i,⟨⟩⟩,⟨g,⟨a,q,s,⟨⟩⟩,m,⟨⟩⟩⟩:=v
  exact(r_d2 t b i g a q s m K hI).imp id fun⟨t',b',i',g',a',q',s',m',h⟩=>⟨((t',b',i',()),(g',(a',q',s',()),m',())),h⟩)
theorem x_impl_farFrom (t s a:Str) (g:Gram) (q:List Rule) (m:DMap) (b:Bool) (R:St→Option Fin) (K:Cont):evC (cb_far.withLoops (look L_d2)) (loopOf Tryz.f46 0) ⟨[(1,vS t),(2, pA),(5, pB),(6,vB b)],[(500000,some (boxD 25 TG g)),(500001,dsO a q s 500002),(500002,some (.map TP TI64 m))]⟩ (onward (headAt (cb_far.withLoops (look L_d2)) 3) R K)=(
branch b (
 need (pre_d2 t false ((t.length:Int)) g a q s m) <| R (.mk [(1,vS t),(2,pA),(5,pB),(6,(vB (fromsD s g.snd ((t.length:Int)+1).toNat (m,false)).snd))] [(500000,some (boxD 25 TG g)),(500001,(.some (.box 103 [(.r (.v (Value.string (mk a)))),(.r (.li TRu q)),(.r (.v (Value.string (mk s)))),(.own 500002)]))),(500002,(.some (.map TP TI64 ((fromsD s g.snd ((t.length:Int)+1).toNat (m,false)).fst))))])) ( K (.exit 0) (.mk [(1,vS t),(2,pA),(5,pB)] [(500000,some (boxD 25 TG g)),(500001,(.some (.box 103 [(.r (.v (Value.string (mk a)))),(.r (.li TRu q)),(.r (.v (Value.string (mk s)))),(.own 500002)]))),(500002,(.some (.map TP TI64 m)))]))):=by kernel_rfl
def cx0_d1:Cx:=(cb_far).withLoops (look L_d2)
def sh_d1:Sh:=([(1, .d .str),(2, .ptr 500000 0),(5, .ptr 500001 0),(6, .d .bool)],[(500000, .box 25 TG),(500001, .mix 103 [.d .str, .d TRL, .d .str, .own 500002]),(500002, .map TP TI64)])
abbrev st_d1 (t:Str) (b:Bool) (g:Gram) (a:Str) (q:List Rule) (s:Str) (m:List (Den TP×Den TI64)):St:=⟨[(1,vS t),(2, .d (.one (.ptr 500000 0))),(5, .d (.one (.ptr 500001 0))),(6,vB b)],[(500000,some (boxD 25 TG g)),(500001,some (.box 103 ((cellsR .str a).map C.r++(cellsR TRL q).map C.r++(cellsR .str s).map C.r++[.own 500002]))),(500002,some (.map TP TI64 m))]⟩
def pre_d1 (t:Str) (_b:Bool) (g:Gram) (_a:Str) (_q:List Rule) (s:Str) (m:List (Den TP×Den TI64)):Bool:=okRd g.2&&(decide (t=s)&&(decide (List.length s≤1000)&&okDm m))
def res_d1 (t:Str) (b:Bool) (g:Gram) (a:Str) (q:List Rule) (s:Str) (m:List (Den TP×Den TI64)) (K:Cont):Option Fin:=K (.exit 0) ⟨[(1,vS t),(2, pA),(5, pB)],dsH g a q s (bif b then runC hasD ksD (stepVD s) (visF s g.2 (s.length+1)) m else m)⟩
def mu_d1 (_t:Str) (b:Bool) (g:Gram) (_a:Str) (_q:List Rule) (s:Str) (m:List (Den TP×Den TI64)):Nat:=2*missG hasD ((visF s g.2 (s.length+1)).flatMap ksD) m+(bif b then 1 else 0)
theorem r_d1 (t:Str) (b:Bool) (g:Gram) (a:Str) (q:List Rule) (s:Str) (m:List (Den TP×Den TI64)) (K:Cont) (hI:pre_d1 t b g a q s m=true):(∀R:St→Option Fin,evC cx0_d1 (loopOf Tryz.f46 0) (st_d1 t b g a q s m) (onward (headAt cx0_d1 3) R K)=res_d1 t b g a q s m K) ∨
  (∃(t':Str) (b':Bool) (g':Gram) (a':Str) (q':List Rule) (s':Str) (m':List (Den TP×Den TI64)),pre_d1 t' b' g' a' q' s' m'=true∧mu_d1 t' b' g' a' q' s' m'<mu_d1 t b g a q s m∧res_d1 t' b' g' a' q' s' m' K=res_d1 t b g a q s m K∧∀R:St→Option Fin,evC cx0_d1 (loopOf Tryz.f46 0) (st_d1 t b g a q s m) (onward (headAt cx0_d1 3) R K)=R (st_d1 t' b' g' a' q' s' m')):=by
 have hx:=fun R=>x_impl_farFrom t s a g q m b R K
 simp only[pre_d1,andd,dec_iff]at hI
 obtain⟨h2,rfl,h4,h6⟩:=hI
 have hgood:=good_vis (s:=t) h2
 cases b
 ·left
  intro R
  refine(hx R).trans ?_
  simp only[res_d1];rfl
 ·have hp:pre_d2 t false ((t.length:Int)) g a q t m=true:=by
   simp only[pre_d2,andd,dec_iff]
   exact⟨by omega,by omega,h2,trivial,h4,h6⟩
  have e:((t.length:Int)+1).toNat=t.length+1:=by omega
  rw[hp,e,fromsD_vis]at hx
  have hg:=runC_at (stepVD_ok h4) (vs:=visF t g.2 (t.length+1)) (m:=m) hgood h6
  have hok:=foldG_ok (stepVD_ok h4) (vs:=visF t g.2 (t.length+1)) (p:=(m,false)) hgood h6
  right
  refine⟨t,(foldG (stepVD t) (visF t g.2 (t.length+1)) (m,false)).2,g,a,q,t,(foldG (stepVD t) (visF t g.2 (t.length+1)) (m,false)).1, ?_, ?_, ?_,fun R=>hx R⟩
  ·simp only[pre_d1,andd,dec_iff]
   exact⟨h2,trivial,h4,hok⟩
  ·simp only[mu_d1]
   cases hc:(foldG (stepVD t) (visF t g.2 (t.length+1)) (m,false)).2
   ·obtain ⟨_,h5,_⟩:=foldG_quiet (stepVD_ok h4) hgood h6 hc
    rw[h5,cond_true,cond_false]
    show 2*missG hasD _ m+0<2*missG hasD _ m+1
    omega
   ·have:=miss_lt (stepVD_ok h4) hgood h6 hc
    rw[cond_true];omega
  ·simp only[res_d1]
   exact congrArg (fun z:DMap=>K (.exit 0) ⟨[(1,vS t),(2, pA),(5, pB)],dsH g a q t z⟩) hg.symm
def g_d1:St→Cont→Option Fin:=gP sh_d1 (fun v=>match v with | ((t,b,()),(g,(a,q,s,()),m,()))=>pre_d1 t b g a q s m) (fun v K=>match v with | ((t,b,()),(g,(a,q,s,()),m,()))=>res_d1 t b g a q s m K)
def L_d1:LpL:=(3,g_d1)::L_d2
def cx_d1:Cx:=(cb_far).withLoops (look L_d1)
theorem l_d1 {L:LpL} (n:Nat) (h1:L.drop n=L_d2) (h2:idsFree (L.take n) (loopOf Tryz.f46 0)=true):LoopsTo g_d1 (cb_far) (loopOf Tryz.f46 0) 3 L :=
 with_drop h1 h2 (gP_ok (fun v=>match v with | ((t,b,()),(g,(a,q,s,()),m,()))=>mu_d1 t b g a q s m) fun v K hI=>by
  obtain⟨⟨t,b,⟨⟩⟩,⟨g,⟨a,q,s,⟨⟩⟩,m,⟨⟩⟩⟩:=v
  exact(r_d1 t b g a q s m K hI).imp id fun⟨t',b',g',a',q',s',m',h⟩=>⟨((t',b',()),(g',(a',q',s',()),m',())),h⟩)
theorem y_impl_farFrom (g:Gram) (s:Str):evFn cx_d1 Tryz.f46 true [ofD TG g,ofD .str s] []=(
need (pre_d1 s true g g.fst g.snd s []) <|
need (okIJ s 0 (s.length:Int)&&decide (s.length≤1000)) <| some ((vI (dofV s (bif true then runC hasD ksD (stepVD s) (visF s g.snd (List.length s+1)) [] else []) g.fst 0 (s.length:Int))),[])):=by kernel_rfl
theorem s_impl_farFrom (g:Gram) (_hg:Fit TG g) (s:Str) (_hs:Fit .str s) (hpre:(okRd g.2&&decide (List.length s≤1000))=true):Sat Tryz.prog 46 [ofD TG g,ofD .str s] [] (.d (ofD TI64 (dofV s (distM s g.2) g.1 0 (s.length:Int)))) [] :=
 fn_sound (cx:=cx_d1) Tryz.func46 rfl ttOk Γ72ok mixed (fun c hc=>LoopsOk.all (l:=[(3,loopOf Tryz.f46 0),(6,loopOf Tryz.f46 1),(9,loopOf Tryz.f46 2),(12,loopOf Tryz.f46 3)]) (by cases hc;kernel_rfl) ⟨atLoop rfl (l_d1 1 rfl (by kernel_rfl)),atLoop rfl (l_d2 2 rfl (by kernel_rfl)),atLoop rfl (l_d3 3 rfl (by kernel_rfl)),atLoop rfl (l_d4 4 rfl (by kernel_rfl)),trivial⟩) (ro:=true) (by
  obtain⟨h1,h2⟩:=andd.1 hpre
  have h3:=dec_iff.1 h2
  have hp:pre_d1 s true g g.1 g.2 s []=true:=by
   simp only[pre_d1,andd,dec_iff]
   exact⟨h1,trivial,h3,rfl⟩
  have hk:(okIJ s 0 (s.length:Int)&&decide (s.length≤1000))=true:=andd.2 ⟨okIJ_iff.2 ⟨Int.le_refl 0,by omega,Int.le_refl _⟩,h2⟩
  rw[y_impl_farFrom,hp,hk];rfl)
def c_impl_farFrom:Con:=conT [TG, .str] fun(g:Gram) (s:Str)=>(some (okRd g.2&&decide (List.length s≤1000)), .d (ofD TI64 (dofV s (distM s g.2) g.1 0 (s.length:Int))))
theorem k_impl_farFrom:ConOk Tryz.prog 46 c_impl_farFrom:=conT_ok Tryz.call46 fun g hg s hs hqq=>s_impl_farFrom g hg s hs (pre_of hqq)
def Γ73:GL:=(46,c_impl_farFrom)::Γ72
theorem Γ73ok:GO Γ73 := .cons k_impl_farFrom Γ72ok
def farV (g:Gram) (s:Str):Int:=dofV s (distM s g.2) g.1 0 (s.length:Int)
def mendV (g:Gram) (s:Str):Int:=bif both2 g s then bif decide ((1073741824:Int)≤farV g s)then -1 else farV g s else -1
theorem both2_iff {g:Gram} {s:Str}:both2 g s=true↔okG g=true∧areSm s 8=true:=by
 unfold both2
 cases okG g
 ·constructor
  ·intro h;cases h
  ·rintro ⟨h,_⟩;cases h
 ·exact ⟨fun h=>⟨rfl,h⟩,fun h=>h.2⟩
theorem okRd_G {g:Gram} (h:okG g=true):okRd g.2=true:=by
 obtain⟨_,h2,h3⟩:=okG_iff h
 refine okRd_iff.2 ⟨by omega,List.all_eq_true.2 fun r hr => ?_⟩
 obtain⟨h4,h5⟩:=h3 r hr
 have:=(areS_iff h5).2
 exact andd.2 ⟨decide_eq_true (by omega),h4⟩
theorem y_impl_MendFar (g:Gram) (s:Str):evFn (cxOf Γ73 Tryz.f13.ntmps [] [] [] []) Tryz.f13 true [ofD TG g,ofD .str s] []=(
branch (!both2 g s) ( some ((vI (Int.neg 1)),[])) (
 need (okRd g.snd&&decide (s.length≤1000)) <|
 branch (decide (1073741824≤dofV s (distM s g.snd) g.fst 0 (s.length:Int))) ( some ((vI (Int.neg 1)),[])) ( some ((vI (dofV s (distM s g.snd) g.fst 0 (s.length:Int))),[])))):=by kernel_rfl
theorem s_impl_MendFar (g:Gram) (_hg:Fit TG g) (s:Str) (_hs:Fit .str s):Sat Tryz.prog 13 [ofD TG g,ofD .str s] [] (.d (ofD TI64 (mendV g s))) [] :=
 fn_sound (cx:=cxOf Γ73 Tryz.f13.ntmps [] [] [] []) Tryz.func13 rfl ttOk Γ73ok mixed (fun _ _=>LoopsOk.no fun _=>rfl) (ro:=true) (by
  rw[y_impl_MendFar]
  unfold mendV
  cases hb:both2 g s
  ·rfl
  ·obtain ⟨h1,h2⟩:=both2_iff.1 hb
   have hk:(okRd g.2&&decide (s.length≤1000))=true:=by
    have:=(areSm_iff.1 h2).1
    exact andd.2 ⟨okRd_G h1,decide_eq_true (by omega)⟩
   rw[hk]
   show branch (decide ((1073741824:Int)≤farV g s)) _ _=(some (.d (ofD TI64 (bif decide ((1073741824:Int)≤farV g s)then(-1:Int)else farV g s)),[]):Option Fin)
   cases decide ((1073741824:Int)≤farV g s)<;>rfl)
def c_impl_MendFar:Con:=conT [TG, .str] fun(g:Gram) (s:Str)=>(none, .d (ofD TI64 (mendV g s)))
theorem k_impl_MendFar:ConOk Tryz.prog 13 c_impl_MendFar:=conT_ok Tryz.call13 fun g hg s hs _=>s_impl_MendFar g hg s hs
def Γ74:GL:=(13,c_impl_MendFar)::Γ73
theorem Γ74ok:GO Γ74 := .cons k_impl_MendFar Γ73ok
end
end Go.Proofs.YtmeiebnfmhddnaaGreatDoor.Ev
