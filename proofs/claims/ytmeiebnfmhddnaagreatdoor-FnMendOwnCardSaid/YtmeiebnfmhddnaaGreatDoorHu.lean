/-
  Distances: the program's table.
-/
import Derived.Test.YtmeiebnfmhddnaaGreatDoorHk
namespace Go.Proofs.YtmeiebnfmhddnaaGreatDoor.Ev
open Go
open List (length length_append length_cons length_singleton length_replicate length_set length_take length_drop mem_cons_of_mem mem_cons_self getD replicate mem_append_left mem_append_right all_eq_true drop_eq_getElem_cons drop_eq_nil_of_le append_assoc mem_singleton getElem?_append_left getElem?_append_right getElem?_eq_none getElem?_take mem_append)
noncomputable section
abbrev TDs:Ty := .struct (.pair TG (.pair .str (.map TP TI64)))
abbrev DMap:Type:=List (Part×Int)
abbrev Dists:Type:=Gram×Str×DMap
def never:Int:=1073741824
def hasI (s:Str) (a:Str) (i j:Int):Bool:=anyI (fun p=>decide (([s.getD p.toNat 0]:Str)=a)) (j-i).toNat i
def costZ (s a:Str) (i j:Int):Int:=bif hasI s a i j then j-i-1 else(if 1<j-i then j-i else 1)
def getD' (m:DMap) (p:Part):Int:=(mget TP TI64 p m).getD never
def dofV (s:Str) (m:DMap) (a:Str) (i j:Int):Int:=bif bigS a then getD' m (a,i,j)else costZ s a i j
def cb_dof:Cx:=cxOf Γ76 Tryz.f96.ntmps [(7,[0,1,2,3,11])] [(0,[2,3]),(1,[0,1,2,3,11]),(1000000,[8])] [] []
abbrev st_dof (c:Dists) (a:Str) (i j p:Int):St:=⟨[(0, .d (ofD (.ref TDs) c)),(1,vS a),(2,vI i),(3,vI j),(11,vI p)],[]⟩
theorem x_impl_distances_of (c:Dists) (a:Str) (i j p:Int) (R:St→Option Fin) (K:Cont):evC (cb_dof.withLoops (look [])) (loopOf Tryz.f96 0) (st_dof c a i j p) (onward (headAt (cb_dof.withLoops (look [])) 7) R K)=(
branch (decide (p<j)) (
 need (inr p (W64 (p+1)) (length c.snd.fst)) <|
 branch (decide ((List.take ((W64 (p+1)).toNat-p.toNat) (List.drop p.toNat c.snd.fst))=a)) ( K (.ret) (.mk [(8,(vI (W64 (W64 (j-i)-1))))] [])) ( R (st_dof c a i j (W64 (p+1))))) ( K (.exit 0) (.mk [(2,vI i),(3,vI j)] []))):=by kernel_rfl
def cx0_dof:Cx:=(cb_dof).withLoops (look [])
def sh_dof:Sh:=([(0, .d (.ref TDs)),(1, .d .str),(2, .d TI64),(3, .d TI64),(11, .d TI64)],[])
def pre_dof (c:Dists) (_a:Str) (i j p:Int):Bool:=decide (0≤i)&&(decide (i≤p)&&(decide (p≤j)&&(decide (j≤(length c.2.1:Int))&&decide (length c.2.1≤1000))))
def res_dof (c:Dists) (a:Str) (i j p:Int) (K:Cont):Option Fin:=branch (hasI c.2.1 a p j) (K .ret ⟨[(8,vI (j-i-1))],[]⟩) (K (.exit 0) ⟨[(2,vI i),(3,vI j)],[]⟩)
def mu_dof (_c:Dists) (_a:Str) (_i j p:Int):Nat:=(j-p).toNat
theorem r_dof (c:Dists) (a:Str) (i j p:Int) (K:Cont) (hI:pre_dof c a i j p=true):(∀R:St→Option Fin,evC cx0_dof (loopOf Tryz.f96 0) (st_dof c a i j p) (onward (headAt cx0_dof 7) R K)=res_dof c a i j p K) ∨
  (∃(c':Dists) (a':Str) (i' j' p':Int),pre_dof c' a' i' j' p'=true∧mu_dof c' a' i' j' p'<mu_dof c a i j p∧res_dof c' a' i' j' p' K=res_dof c a i j p K∧∀R:St→Option Fin,evC cx0_dof (loopOf Tryz.f96 0) (st_dof c a i j p) (onward (headAt cx0_dof 7) R K)=R (st_dof c' a' i' j' p')):=by
 have hx:=fun R=>x_impl_distances_of c a i j p R K;simp only[pre_dof,andd,dec_iff]at hI;obtain⟨h0,h1,h2,h3,h4⟩:=hI
 by_cases hp:p<j
 ·have w:W64 (p+1)=p+1:=wrap_small (by omega) (by omega);have w2:W64 (W64 (j-i)-1)=j-i-1:=by
   rw[show W64 (j-i)=j-i from wrap_small (by omega) (by omega)];exact wrap_small (by omega) (by omega)
  obtain⟨m,hm⟩:∃m,(j-p).toNat=m+1:=⟨(j-p).toNat-1,by omega⟩;have hm2:(j-(p+1)).toNat=m:=by omega
  have hg:hasI c.2.1 a p j=(decide (([c.2.1.getD p.toNat 0]:Str)=a)||hasI c.2.1 a (p+1) j):=by
   unfold hasI;rw[hm,hm2];rfl
  rw[zT hp,w,w2,inr_iff.2 (by omega:0≤p∧p≤p+1∧p+1≤(length c.2.1:Int)),slice_one (by omega) (by omega)]at hx;change ∀R:St→Option Fin,_=branch (decide (([c.2.1.getD p.toNat 0]:Str)=a)) _ _ at hx
  cases hc:decide (([c.2.1.getD p.toNat 0]:Str)=a)
  ·right;rw[hc]at hx hg;refine⟨c,a,i,j,p+1, ?_, ?_, ?_,fun R=>hx R⟩
   ·simp only[pre_dof,andd,dec_iff];exact⟨h0,by omega,by omega,h3,h4⟩
   ·simp only[mu_dof];omega
   ·simp only[res_dof,hg,Bool.false_or]
  ·left;intro R;refine(hx R).trans ?_;rw[hc,Bool.true_or]at hg;rw[hc];simp only[res_dof,hg];rfl
 ·left;intro R;refine(hx R).trans ?_;have hg:hasI c.2.1 a p j=false:=by
   unfold hasI;rw[show (j-p).toNat=0 by omega];rfl
  rw[zF hp];simp only[res_dof,hg];rfl
def g_dof:St→Cont→Option Fin:=gP sh_dof (fun v=>match v with | ((c,a,i,j,p,()),())=>pre_dof c a i j p) (fun v K=>match v with | ((c,a,i,j,p,()),())=>res_dof c a i j p K)
def L_dof:LpL:=(7,g_dof)::[]
def cx_dof:Cx:=(cb_dof).withLoops (look L_dof)
theorem l_dof {L:LpL} (n:Nat) (h1:L.drop n=[]) (h2:idsFree (L.take n) (loopOf Tryz.f96 0)=true):LoopsTo g_dof (cb_dof) (loopOf Tryz.f96 0) 7 L :=
 with_drop h1 h2 (gP_ok (fun v=>match v with | ((c,a,i,j,p,()),())=>mu_dof c a i j p) fun v K hI=>by
  obtain⟨⟨c,a,i,j,p,⟨⟩⟩,⟨⟩⟩:=v;exact(r_dof c a i j p K hI).imp id fun⟨c',a',i',j',p',h⟩=>⟨((c',a',i',j',p',()),()),h⟩)
theorem y_impl_distances_of (c:Dists) (a:Str) (i:Int) (j:Int):evFn cx_dof Tryz.f96 true [ofD (.ref TDs) c,ofD .str a,ofD TI64 i,ofD TI64 j] []=(
branch (bigS a) (
 branch ((mget TP TI64 (a,i,j) c.2.2).isSome) ( some ((vI (Option.getD (α:=Int) (mget TP TI64 (a,i,j) c.2.2) 0)),[])) ( some ((vI 1073741824),[]))) (
 need (pre_dof c a i j i) <|
 branch (hasI c.2.1 a i j) ( some ((vI (j-i-1)),[])) ( some ((vI (if 1<W64 (j-i)then W64 (j-i)else 1)),[])))):=by kernel_rfl
theorem s_impl_distances_of (c:Dists) (_hc:Fit (.ref TDs) c) (a:Str) (_ha:Fit .str a) (i:Int) (_hi:Fit TI64 i) (j:Int) (_hj:Fit TI64 j) (hpre:(okIJ c.2.1 i j&&decide (length c.2.1≤1000))=true):Sat Tryz.prog 96 [ofD (.ref TDs) c,ofD .str a,ofD TI64 i,ofD TI64 j] [] (.d (ofD TI64 (dofV c.2.1 c.2.2 a i j))) [] :=
 fn_sound (cx:=cx_dof) Tryz.func96 rfl ttOk Γ76ok mixed (fun c hc=>LoopsOk.all (l:=[(7,loopOf Tryz.f96 0)]) (by cases hc;kernel_rfl) ⟨atLoop rfl (l_dof 1 rfl (by kernel_rfl)),trivial⟩) (ro:=true) (by
  rw[andd,dec_iff]at hpre;obtain⟨h1,h2⟩:=hpre;obtain⟨i0,i1,i2⟩:=okIJ_iff.1 h1;rw[y_impl_distances_of];unfold dofV
  cases hb:bigS a
  ·have kp:pre_dof c a i j i=true:=by
    simp only[pre_dof,andd,dec_iff];exact⟨i0,Int.le_refl _,i1,i2,h2⟩
   have w:W64 (j-i)=j-i:=wrap_small (by omega) (by omega);rw[kp,w];unfold costZ
   cases hasI c.2.1 a i j<;>rfl
  ·unfold getD';show branch ((mget TP TI64 (a,i,j) c.2.2).isSome) _ _=(some (.d (ofD TI64 ((mget TP TI64 (a,i,j) c.2.2).getD never)),[]):Option Fin)
   cases mget TP TI64 (a,i,j) c.2.2<;>rfl)
def c_impl_distances_of:Con:=conT [(.ref TDs), .str,TI64,TI64] fun(c:Dists) (a:Str) (i:Int) (j:Int)=>(some (okIJ c.2.1 i j&&decide (length c.2.1≤1000)), .d (ofD TI64 (dofV c.2.1 c.2.2 a i j)))
theorem k_impl_distances_of:ConOk Tryz.prog 96 c_impl_distances_of:=conT_ok Tryz.call96 fun c hc a ha i hi j hj hqq=>s_impl_distances_of c hc a ha i hi j hj (pre_of hqq)
def Γ77:GL:=(96,c_impl_distances_of)::Γ76
theorem Γ77ok:GO Γ77 := .cons k_impl_distances_of Γ76ok
def cb_drl:Cx:=cxOf Γ77 Tryz.f95.ntmps [(12,[0,1,2,3,10,11,12,13,14,24,25,34,35,36]),(8,[0,1,2,3,10,11,24,25,34,35,36]),(4,[0,1,2,3,9,24,25])] [(0,[1,2,3,9]),(1,[0,1,2,3,9,24,25]),(2,[0,1,2,3,11,24,25]),(3,[0,1,2,3,10,11,24,25,34,35,36]),(4,[0,1,2,3,10,11,24,25,34,35,36]),(5,[0,1,2,3,10,11,12,13,14,24,25,34,35,36]),(1000000,[8])] [] []
abbrev st_dr3 (c:Dists) (a:Str) (i j p k v z n q m x:Int) (nx be:List (Int)):St:=⟨[(0, .d (ofD (.ref TDs) c)),(1,vS a),(2,vI i),(3,vI j),(10,vI p),(11, ko0),(12,vI k),(13,vI v),(14,vI z),(24,vI n),(25,vI q),(34, ko1),(35,vI m),(36,vI x)],[(500000,some (.lis 3 TI64 nx)),(500001,some (.lis 3 TI64 be))]⟩
theorem x_impl_distances_rule_2 (c:Dists) (a:Str) (i j p k v z n q m x:Int) (nx be:List Int) (R:St→Option Fin) (K:Cont):evC (cb_drl.withLoops (look [])) (loopOf Tryz.f95 2) (st_dr3 c a i j p k v z n q m x nx be) (onward (headAt (cb_drl.withLoops (look [])) 12) R K)=(
branch (decide (z<(nx.length:Int))) (
 need (inb z nx.length) <|
 need (inr p (W64 (p+1)) a.length) <|
 need (okIJ c.snd.fst (W64 (i+k)) (W64 (i+z))&&decide ((length c.snd.fst)≤1000)) <|
 need (inb z nx.length) <| R (st_dr3 c a i j p k v (W64 (z+1)) n q m x (nx.set z.toNat (if W64 (v+dofV c.snd.fst c.snd.snd (List.take ((W64 (p+1)).toNat-p.toNat) (List.drop p.toNat a)) (W64 (i+k)) (W64 (i+z)))<nx.getD z.toNat 0 then W64 (v+dofV c.snd.fst c.snd.snd (List.take ((W64 (p+1)).toNat-p.toNat) (List.drop p.toNat a)) (W64 (i+k)) (W64 (i+z)))else nx.getD z.toNat 0)) be)) ( K (.exit 4) (.mk [(0,(.d (.one (.r (.rf TDs c))))),(1,vS a),(2,vI i),(3,vI j),(10,vI p),(11,ko0),(24,vI n),(25,vI q),(34,ko1),(35,vI m),(36,vI x)] [(500000,some (.lis 3 TI64 nx)),(500001,some (.lis 3 TI64 be))]))):=by kernel_rfl
def okV (e:Int):Bool:=decide (0≤e)&&decide (e≤never)
theorem okV_iff {e:Int}:okV e=true↔0≤e∧e≤1073741824:=by unfold okV never;rw[andd,dec_iff,dec_iff]
def okLs (l:List Int):Bool:=List.all l okV
def okDm (m:DMap):Bool:=List.all m fun e=>okV e.2
theorem mget_mem {x:Part} {v:Int}:∀ {m:DMap},mget TP TI64 x m=some v→∃e∈m,e.2=v
 | [],h=>by cases h
 | (a,u)::m,h=>by
  have h:(bif eqDen TP x a then some u else mget TP TI64 x m)=some v:=h
  cases hc:eqDen TP x a
  ·rw[hc]at h;obtain⟨e,he,hv⟩:=mget_mem h;exact⟨e,mem_cons_of_mem _ he,hv⟩
  ·rw[hc]at h;exact⟨(a,u),mem_cons_self,Option.some.inj h⟩
theorem getD_ok {m:DMap} {x:Part} (h:okDm m=true):0≤getD' m x∧getD' m x≤1073741824:=by
 unfold getD'
 cases hg:mget TP TI64 x m with
 |none =>
  show(0:Int)≤never∧never≤1073741824;exact⟨by decide,by decide⟩
 |some v =>
  obtain⟨e,he,rfl⟩:=mget_mem hg;exact okV_iff.1 (all_eq_true.1 h e he)
theorem dofV_ok {s a:Str} {m:DMap} {i j:Int} (h:okDm m=true) (i0:0≤i) (i1:i≤j) (i2:j≤(length s:Int)) (hs:length s≤1000):0≤dofV s m a i j∧dofV s m a i j≤1073741824:=by
 unfold dofV
 cases bigS a
 ·rw[cond_false];unfold costZ
  cases hh:hasI s a i j
  ·rw[cond_false];split<;>omega
  ·rw[cond_true];have:i<j:=by
    by_cases hlt:i<j
    ·exact hlt
    ·unfold hasI at hh;rw[show (j-i).toNat=0 by omega]at hh
     cases hh
   omega
 ·rw[cond_true];exact getD_ok h
def relN (f:Int→Int):Nat→Int→List Int→List Int
 |0,_,l=>l
 |n+1,z,l=>relN f n (z+1) (l.set z.toNat (if f z<l.getD z.toNat 0 then f z else l.getD z.toNat 0))
theorem relN_len {f:Int→Int}:∀ {n:Nat} {z:Int} {l:List Int},(relN f n z l).length=l.length
 |0,_,_=>rfl
 |n+1,z,l=>by
  unfold relN;rw[relN_len,length_set]
theorem okLs_set {l:List Int} {i:Nat} {x:Int} (h:okLs l=true) (hx:okV x=true):okLs (l.set i x)=true:=all_eq_true.2 fun e he=>by
 rcases List.mem_or_eq_of_mem_set he with he | rfl
 ·exact all_eq_true.1 h e he
 ·exact hx
theorem okLs_at {l:List Int} {i:Nat} (h:okLs l=true) (hi:i<l.length):0≤l.getD i 0∧l.getD i 0≤1073741824:=okV_iff.1 (all_eq_true.1 h _ (getD_mem hi))
theorem relN_ok {f:Int→Int}:∀ {n:Nat} {z:Int} {l:List Int},0≤z→z+n≤(l.length:Int)→okLs l=true→(∀y,z≤y→y<z+n→0≤f y)→okLs (relN f n z l)=true
 |0,_,_,_,_,h,_=>h
 |n+1,z,l,h0,h1,h,hf=>by
  unfold relN;have hz:=okLs_at (i:=z.toNat) h (by omega);refine relN_ok (by omega) (by rw[length_set];omega) (okLs_set h (okV_iff.2 ?_)) fun y y0 y1=>hf y (by omega) (by omega)
  split
  ·have:=hf z (Int.le_refl _) (by omega);omega
  ·exact hz
abbrev drF (s:Str) (m:DMap) (c:Str) (i k v:Int):Int→Int:=fun z=>v+dofV s m c (i+k) (i+z)
abbrev drH (nx be:List Int):Heap:=[(500000,some (.lis 3 TI64 nx)),(500001,some (.lis 3 TI64 be))]
def cx0_dr3:Cx:=(cb_drl).withLoops (look [])
def sh_dr3:Sh:=([(0, .d (.ref TDs)),(1, .d .str),(2, .d TI64),(3, .d TI64),(10, .d TI64),(11, .own 500000),(12, .d TI64),(13, .d TI64),(14, .d TI64),(24, .d TI64),(25, .d TI64),(34, .own 500001),(35, .d TI64),(36, .d TI64)],[(500000, .lis 3 TI64),(500001, .lis 3 TI64)])
def pre_dr3 (c:Dists) (a:Str) (i j p k v z _n _q _m _x:Int) (nx _be:List (Int)):Bool:=decide (0≤i)&&(decide (0≤k)&&(decide (k≤z)&&(decide ((length nx:Int)=j-i+1)&&(decide (j≤(length c.2.1:Int))&&(decide (length c.2.1≤1000)&&(decide (0≤p)&&(decide (p<(length a:Int))&&(decide (length a≤1000)&&(okDm c.2.2&&(okLs nx&&okV v))))))))))
def res_dr3 (c:Dists) (a:Str) (i j p k v z n q m x:Int) (nx be:List (Int)) (K:Cont):Option Fin:=K (.exit 4) ⟨[(0, .d (ofD (.ref TDs) c)),(1,vS a),(2,vI i),(3,vI j),(10,vI p),(11, ko0),(24,vI n),(25,vI q),(34, ko1),(35,vI m),(36,vI x)],drH (relN (drF c.2.1 c.2.2 [getD a p.toNat 0] i k v) (length nx-z.toNat) z nx) be⟩
def mu_dr3 (_c:Dists) (_a:Str) (_i _j _p _k _v z _n _q _m _x:Int) (nx _be:List (Int)):Nat:=length nx-z.toNat
theorem r_dr3 (c:Dists) (a:Str) (i j p k v z n q m x:Int) (nx be:List (Int)) (K:Cont) (hI:pre_dr3 c a i j p k v z n q m x nx be=true):(∀R:St→Option Fin,evC cx0_dr3 (loopOf Tryz.f95 2) (st_dr3 c a i j p k v z n q m x nx be) (onward (headAt cx0_dr3 12) R K)=res_dr3 c a i j p k v z n q m x nx be K) ∨
  (∃(c':Dists) (a':Str) (i' j' p' k' v' z' n' q' m' x':Int) (nx' be':List (Int)),pre_dr3 c' a' i' j' p' k' v' z' n' q' m' x' nx' be'=true∧mu_dr3 c' a' i' j' p' k' v' z' n' q' m' x' nx' be'<mu_dr3 c a i j p k v z n q m x nx be∧res_dr3 c' a' i' j' p' k' v' z' n' q' m' x' nx' be' K=res_dr3 c a i j p k v z n q m x nx be K∧∀R:St→Option Fin,evC cx0_dr3 (loopOf Tryz.f95 2) (st_dr3 c a i j p k v z n q m x nx be) (onward (headAt cx0_dr3 12) R K)=R (st_dr3 c' a' i' j' p' k' v' z' n' q' m' x' nx' be')):=by
 have hx:=fun R=>x_impl_distances_rule_2 c a i j p k v z n q m x nx be R K;simp only[pre_dr3,andd,dec_iff]at hI;obtain⟨h0,h1,h2,h3,h4,h5,h6,h7,h8,h9,h10,h11⟩:=hI
 by_cases hz:z<(length nx:Int)
 ·have w:W64 (z+1)=z+1:=wrap_small (by omega) (by omega);have w1:W64 (p+1)=p+1:=wrap_small (by omega) (by omega);have w2:W64 (i+k)=i+k:=wrap_small (by omega) (by omega);have w3:W64 (i+z)=i+z:=wrap_small (by omega) (by omega);obtain⟨v0,v1⟩:=okV_iff.1 h11;obtain⟨d0,d1⟩:=dofV_ok (s:=c.2.1) (a:=[getD a p.toNat 0]) (m:=c.2.2) (i:=i+k) (j:=i+z) h9 (by omega) (by omega) (by omega) h5;have w4:W64 (v+dofV c.2.1 c.2.2 [getD a p.toNat 0] (i+k) (i+z))=v+dofV c.2.1 c.2.2 [getD a p.toNat 0] (i+k) (i+z):=wrap_small (by omega) (by omega);have kk:(okIJ c.2.1 (i+k) (i+z)&&decide (length c.2.1≤1000))=true:=andd.2 ⟨okIJ_iff.2 ⟨by omega,by omega,by omega⟩,zT h5⟩;obtain⟨y,hy⟩:∃y,length nx-z.toNat=y+1:=⟨length nx-z.toNat-1,by omega⟩;have hz2:=okLs_at (i:=z.toNat) h10 (by omega);rw[zT hz,inb_ok (by omega:0≤z) hz,w,w1,w2,w3,inr_iff.2 (by omega:0≤p∧p≤p+1∧p+1≤(length a:Int)),slice_one h6 h7,kk,w4]at hx;right;refine⟨c,a,i,j,p,k,v,z+1,n,q,m,x,List.set nx z.toNat (if drF c.2.1 c.2.2 [getD a p.toNat 0] i k v z<getD nx z.toNat 0 then drF c.2.1 c.2.2 [getD a p.toNat 0] i k v z else getD nx z.toNat 0),be, ?_, ?_, ?_,fun R=>hx R⟩
  ·simp only[pre_dr3,andd,dec_iff];rw[length_set];refine⟨h0,h1,by omega,h3,h4,h5,h6,h7,h8,h9,okLs_set h10 (okV_iff.2 ?_),h11⟩;rw[show drF c.2.1 c.2.2 [getD a p.toNat 0] i k v z=v+dofV c.2.1 c.2.2 [getD a p.toNat 0] (i+k) (i+z)from rfl]
   split<;>omega
  ·simp only[mu_dr3];rw[length_set];omega
  ·simp only[res_dr3];rw[length_set,hy,show length nx-(z+1).toNat=y by omega];rfl
 ·left;intro R;refine(hx R).trans ?_;rw[zF hz];have e:length nx-z.toNat=0:=by omega
  simp only[res_dr3,e];rfl
def g_dr3:St→Cont→Option Fin:=gP sh_dr3 (fun v=>match v with | ((c,a,i,j,p,k,v,z,n,q,m,x,()),(nx,be,()))=>pre_dr3 c a i j p k v z n q m x nx be) (fun v K=>match v with | ((c,a,i,j,p,k,v,z,n,q,m,x,()),(nx,be,()))=>res_dr3 c a i j p k v z n q m x nx be K)
def L_dr3:LpL:=(12,g_dr3)::[]
theorem l_dr3 {L:LpL} (n:Nat) (h1:L.drop n=[]) (h2:idsFree (L.take n) (loopOf Tryz.f95 2)=true):LoopsTo g_dr3 (cb_drl) (loopOf Tryz.f95 2) 12 L :=
 with_drop h1 h2 (gP_ok (fun v=>match v with | ((c,a,i,j,p,k,v,z,n,q,m,x,()),(nx,be,()))=>mu_dr3 c a i j p k v z n q m x nx be) fun v K hI=>by
  obtain⟨⟨c,a,i,j,p,k,v,z,n,q,m,x,⟨⟩⟩,⟨nx,be,⟨⟩⟩⟩:=v;exact(r_dr3 c a i j p k v z n q m x nx be K hI).imp id fun⟨c',a',i',j',p',k',v',z',n',q',m',x',nx',be',h⟩=>⟨((c',a',i',j',p',k',v',z',n',q',m',x',()),(nx',be',())),h⟩)
theorem x_impl_distances_rule_1 (c:Dists) (a:Str) (i j p n q m x:Int) (nx be:List Int) (R:St→Option Fin) (K:Cont):evC (cb_drl.withLoops (look L_dr3)) (loopOf Tryz.f95 1) ⟨[(0, .d (ofD (.ref TDs) c)),(1,vS a),(2,vI i),(3,vI j),(10,vI p),(11, ko0),(24,vI n),(25,vI q),(34, ko1),(35,vI m),(36,vI x)],drH nx be⟩ (onward (headAt (cb_drl.withLoops (look L_dr3)) 8) R K)=(
branch (decide (x<m)) (
 need (inb x be.length) <|
 branch (decide (be.getD x.toNat 0=1073741824)) ( R (.mk [(0,(.d (.one (.r (.rf TDs c))))),(1,vS a),(2,vI i),(3,vI j),(10,vI p),(11,ko0),(24,vI n),(25,vI q),(34,ko1),(35,vI m),(36,vI (W64 (x+1)))] [(500000,some (.lis 3 TI64 nx)),(500001,some (.lis 3 TI64 be))])) (
 need (pre_dr3 c a i j p x (be.getD x.toNat 0) x n q m x nx be) <| R (.mk [(0,(.d (.one (.r (.rf TDs c))))),(1,vS a),(2,vI i),(3,vI j),(10,vI p),(11,ko0),(24,vI n),(25,vI q),(34,ko1),(35,vI m),(36,vI (W64 (x+1)))] [(500000,(.some (.lis 3 TI64 (relN (drF c.snd.fst c.snd.snd [getD a p.toNat 0] i x (be.getD x.toNat 0)) (nx.length-x.toNat) x nx)))),(500001,some (.lis 3 TI64 be))]))) ( K (.exit 2) (.mk [(0,(.d (.one (.r (.rf TDs c))))),(1,vS a),(2,vI i),(3,vI j),(11,ko0),(24,vI n),(25,vI q)] [(500000,some (.lis 3 TI64 nx))]))):=by kernel_rfl
def stepM (s:Str) (m:DMap) (c:Str) (i:Int) (be:List Int) (x:Int) (nx:List Int):List Int:=bif decide (be.getD x.toNat 0=1073741824)then nx else relN (drF s m c i x (be.getD x.toNat 0)) (nx.length-x.toNat) x nx
def midF (s:Str) (m:DMap) (c:Str) (i:Int) (be:List Int):Nat→Int→List Int→List Int
 |0,_,nx=>nx
 |n+1,x,nx=>midF s m c i be n (x+1) (stepM s m c i be x nx)
theorem stepM_len {s:Str} {m:DMap} {c:Str} {i:Int} {be nx:List Int} {x:Int}:(stepM s m c i be x nx).length=nx.length:=by
 unfold stepM
 cases decide (be.getD x.toNat 0=1073741824)
 ·exact relN_len
 ·rfl
theorem midF_len {s:Str} {m:DMap} {c:Str} {i:Int} {be:List Int}:∀ {n:Nat} {x:Int} {nx:List Int},(midF s m c i be n x nx).length=nx.length
 |0,_,_=>rfl
 |n+1,x,nx=>by
  unfold midF;rw[midF_len,stepM_len]
theorem stepM_ok {s:Str} {m:DMap} {c:Str} {i:Int} {be nx:List Int} {x:Int} (hm:okDm m=true) (hs:length s≤1000) (i0:0≤i) (hl:i+nx.length≤(length s:Int)+1) (x0:0≤x) (hx:x<(nx.length:Int)) (hb:okLs be=true) (hbl:be.length=nx.length) (hn:okLs nx=true):okLs (stepM s m c i be x nx)=true:=by
 unfold stepM
 cases decide (be.getD x.toNat 0=1073741824)
 ·have hv:=okLs_at (i:=x.toNat) hb (by omega);refine relN_ok x0 (by omega) hn fun y y0 y1 => ?_;have:=dofV_ok (s:=s) (a:=c) (m:=m) (i:=i+x) (j:=i+y) hm (by omega) (by omega) (by omega) hs;show 0≤be.getD x.toNat 0+dofV s m c (i+x) (i+y);omega
 ·exact hn
def cx0_dr2:Cx:=(cb_drl).withLoops (look L_dr3)
def sh_dr2:Sh:=([(0, .d (.ref TDs)),(1, .d .str),(2, .d TI64),(3, .d TI64),(10, .d TI64),(11, .own 500000),(24, .d TI64),(25, .d TI64),(34, .own 500001),(35, .d TI64),(36, .d TI64)],[(500000, .lis 3 TI64),(500001, .lis 3 TI64)])
abbrev st_dr2 (c:Dists) (a:Str) (i j p n q m x:Int) (nx be:List (Int)):St:=⟨[(0, .d (ofD (.ref TDs) c)),(1,vS a),(2,vI i),(3,vI j),(10,vI p),(11, ko0),(24,vI n),(25,vI q),(34, ko1),(35,vI m),(36,vI x)],[(500000,some (.lis 3 TI64 nx)),(500001,some (.lis 3 TI64 be))]⟩
def pre_dr2 (c:Dists) (a:Str) (i j p _n _q m x:Int) (nx be:List (Int)):Bool:=decide (0≤i)&&(decide (0≤x)&&(decide (m=(length be:Int))&&(decide (length be=length nx)&&(decide ((length nx:Int)=j-i+1)&&(decide (j≤(length c.2.1:Int))&&(decide (length c.2.1≤1000)&&(decide (0≤p)&&(decide (p<(length a:Int))&&(decide (length a≤1000)&&(okDm c.2.2&&(okLs nx&&okLs be)))))))))))
def res_dr2 (c:Dists) (a:Str) (i j p n q _m x:Int) (nx be:List (Int)) (K:Cont):Option Fin:=K (.exit 2) ⟨[(0, .d (ofD (.ref TDs) c)),(1,vS a),(2,vI i),(3,vI j),(11, ko0),(24,vI n),(25,vI q)],[(500000,some (.lis 3 TI64 (midF c.2.1 c.2.2 [getD a p.toNat 0] i be (length be-x.toNat) x nx)))]⟩
def mu_dr2 (_c:Dists) (_a:Str) (_i _j _p _n _q _m x:Int) (_nx be:List (Int)):Nat:=length be-x.toNat
theorem r_dr2 (c:Dists) (a:Str) (i j p n q m x:Int) (nx be:List (Int)) (K:Cont) (hI:pre_dr2 c a i j p n q m x nx be=true):(∀R:St→Option Fin,evC cx0_dr2 (loopOf Tryz.f95 1) (st_dr2 c a i j p n q m x nx be) (onward (headAt cx0_dr2 8) R K)=res_dr2 c a i j p n q m x nx be K) ∨
  (∃(c':Dists) (a':Str) (i' j' p' n' q' m' x':Int) (nx' be':List (Int)),pre_dr2 c' a' i' j' p' n' q' m' x' nx' be'=true∧mu_dr2 c' a' i' j' p' n' q' m' x' nx' be'<mu_dr2 c a i j p n q m x nx be∧res_dr2 c' a' i' j' p' n' q' m' x' nx' be' K=res_dr2 c a i j p n q m x nx be K∧∀R:St→Option Fin,evC cx0_dr2 (loopOf Tryz.f95 1) (st_dr2 c a i j p n q m x nx be) (onward (headAt cx0_dr2 8) R K)=R (st_dr2 c' a' i' j' p' n' q' m' x' nx' be')):=by
 have hx:=fun R=>x_impl_distances_rule_1 c a i j p n q m x nx be R K;simp only[pre_dr2,andd,dec_iff]at hI;obtain⟨h0,h1,rfl,h2,h3,h4,h5,h6,h7,h8,h9,h10,h11⟩:=hI
 by_cases hz:x<(length be:Int)
 ·have w:W64 (x+1)=x+1:=wrap_small (by omega) (by omega);obtain⟨y,hy⟩:∃y,length be-x.toNat=y+1:=⟨length be-x.toNat-1,by omega⟩;have hy2:length be-(x+1).toNat=y:=by omega
  have hv:=okLs_at (i:=x.toNat) h11 (by omega);have hok:=stepM_ok (c:=[getD a p.toNat 0]) (be:=be) (nx:=nx) (x:=x) h9 h5 h0 (by omega) h1 (by omega) h11 h2 h10;have kp:pre_dr3 c a i j p x (getD be x.toNat 0) x n q (length be:Int) x nx be=true:=by
   simp only[pre_dr3,andd,dec_iff];exact⟨h0,h1,Int.le_refl _,h3,h4,h5,h6,h7,h8,h9,h10,okV_iff.2 hv⟩
  rw[zT hz,inb_ok h1 hz,w,kp]at hx;right;refine⟨c,a,i,j,p,n,q,(length be:Int),x+1,stepM c.2.1 c.2.2 [getD a p.toNat 0] i be x nx,be, ?_, ?_, ?_,fun R=>(hx R).trans ?_⟩
  ·simp only[pre_dr2,andd,dec_iff];rw[stepM_len];exact⟨h0,by omega,trivial,h2,h3,h4,h5,h6,h7,h8,h9,hok,h11⟩
  ·simp only[mu_dr2];omega
  ·simp only[res_dr2,hy,hy2];rfl
  ·unfold stepM
   cases decide (getD be x.toNat 0=1073741824)<;>rfl
 ·left;intro R;refine(hx R).trans ?_;rw[zF hz];have e:length be-x.toNat=0:=by omega
  simp only[res_dr2,e];rfl
def g_dr2:St→Cont→Option Fin:=gP sh_dr2 (fun v=>match v with | ((c,a,i,j,p,n,q,m,x,()),(nx,be,()))=>pre_dr2 c a i j p n q m x nx be) (fun v K=>match v with | ((c,a,i,j,p,n,q,m,x,()),(nx,be,()))=>res_dr2 c a i j p n q m x nx be K)
def L_dr2:LpL:=(8,g_dr2)::L_dr3
theorem l_dr2 {L:LpL} (n:Nat) (h1:L.drop n=L_dr3) (h2:idsFree (L.take n) (loopOf Tryz.f95 1)=true):LoopsTo g_dr2 (cb_drl) (loopOf Tryz.f95 1) 8 L :=
 with_drop h1 h2 (gP_ok (fun v=>match v with | ((c,a,i,j,p,n,q,m,x,()),(nx,be,()))=>mu_dr2 c a i j p n q m x nx be) fun v K hI=>by
  obtain⟨⟨c,a,i,j,p,n,q,m,x,⟨⟩⟩,⟨nx,be,⟨⟩⟩⟩:=v;exact(r_dr2 c a i j p n q m x nx be K hI).imp id fun⟨c',a',i',j',p',n',q',m',x',nx',be',h⟩=>⟨((c',a',i',j',p',n',q',m',x',()),(nx',be',())),h⟩)
abbrev st_dr1 (c:Dists) (a:Str) (i j n q:Int) (be:List (Int)):St:=⟨[(0, .d (ofD (.ref TDs) c)),(1,vS a),(2,vI i),(3,vI j),(9, ko0),(24,vI n),(25,vI q)],[(500000,some (.lis 3 TI64 be))]⟩
theorem x_impl_distances_rule (c:Dists) (a:Str) (i j n q:Int) (be:List Int) (R:St→Option Fin) (K:Cont):evC (cb_drl.withLoops (look L_dr2)) (loopOf Tryz.f95 0) (st_dr1 c a i j n q be) (onward (headAt (cb_drl.withLoops (look L_dr2)) 4) R K)=(
branch (decide (q<n)) (
 need (decide ([1073741824].length=1)&&(decide (1≤W64 (W64 (j-i)+1))&&decide (W64 (W64 (j-i)+1)≤1001))) <|
 need (pre_dr2 c a i j q n q ((be.length:Int)) 0 (replicate (W64 (W64 (j-i)+1)).toNat ([1073741824].getD 0 0)) be) <| R (st_dr1 c a i j n (W64 (q+1)) (midF c.snd.fst c.snd.snd [getD a q.toNat 0] i be (be.length-(0:Int).toNat) 0 (replicate (W64 (W64 (j-i)+1)).toNat ([1073741824].getD 0 0))))) ( K (.exit 0) (.mk [(1,vS a),(2,vI i),(3,vI j),(9,ko0)] [(500000,some (.lis 3 TI64 be))]))):=by kernel_rfl
def outF (s:Str) (m:DMap) (i:Int):Str→List Int→List Int
 | [],be=>be
 |c::r,be=>outF s m i r (midF s m [c] i be be.length 0 (replicate be.length never))
theorem midF_ok {s:Str} {m:DMap} {c:Str} {i:Int} {be:List Int} (hm:okDm m=true) (hs:length s≤1000) (i0:0≤i) (hb:okLs be=true):∀ {n:Nat} {x:Int} {nx:List Int},i+nx.length≤(length s:Int)+1→0≤x→x+n≤(nx.length:Int)→be.length=nx.length→okLs nx=true→okLs (midF s m c i be n x nx)=true
 |0,_,_,_,_,_,_,h=>h
 |n+1,x,nx,hl,x0,hx,hbl,h=>by
  unfold midF;exact midF_ok hm hs i0 hb (by rw[stepM_len];exact hl) (by omega) (by rw[stepM_len];omega) (by rw[stepM_len];exact hbl) (stepM_ok hm hs i0 hl x0 (by omega) hb hbl h)
theorem okLs_rep {n:Nat}:okLs (replicate n never)=true:=all_eq_true.2 fun e he=>by
 rw[List.eq_of_mem_replicate he];decide
theorem outF_ok {s:Str} {m:DMap} {i:Int} (hm:okDm m=true) (hs:length s≤1000) (i0:0≤i):∀ {r:Str} {be:List Int},i+be.length≤(length s:Int)+1→okLs be=true→okLs (outF s m i r be)=true∧(outF s m i r be).length=be.length
 | [],_,_,h=>⟨h,rfl⟩
 |c::r,be,hl,h=>by
  have h1:=midF_ok (c:=[c]) (n:=be.length) (x:=0) (nx:=replicate be.length never) hm hs i0 h (by rw[length_replicate];exact hl) (Int.le_refl 0) (by rw[length_replicate];omega) (by rw[length_replicate]) okLs_rep;have h2:(midF s m [c] i be be.length 0 (replicate be.length never)).length=be.length:=by rw[midF_len,length_replicate]
  have:=outF_ok hm hs i0 (r:=r) (by rw[h2];exact hl) h1;unfold outF;exact⟨this.1,by rw[this.2,h2]⟩
def cx0_dr1:Cx:=(cb_drl).withLoops (look L_dr2)
def sh_dr1:Sh:=([(0, .d (.ref TDs)),(1, .d .str),(2, .d TI64),(3, .d TI64),(9, .own 500000),(24, .d TI64),(25, .d TI64)],[(500000, .lis 3 TI64)])
def pre_dr1 (c:Dists) (a:Str) (i j n q:Int) (be:List (Int)):Bool:=decide (0≤i)&&(decide (i≤j)&&(decide (0≤q)&&(decide (n=(length a:Int))&&(decide (length a≤1000)&&(decide ((length be:Int)=j-i+1)&&(decide (j≤(length c.2.1:Int))&&(decide (length c.2.1≤1000)&&(okDm c.2.2&&okLs be))))))))
def res_dr1 (c:Dists) (a:Str) (i j _n q:Int) (be:List (Int)) (K:Cont):Option Fin:=K (.exit 0) ⟨[(1,vS a),(2,vI i),(3,vI j),(9, ko0)],[(500000,some (.lis 3 TI64 (outF c.2.1 c.2.2 i (List.drop q.toNat a) be)))]⟩
def mu_dr1 (_c:Dists) (a:Str) (_i _j _n q:Int) (_be:List (Int)):Nat:=length a-q.toNat
theorem r_dr1 (c:Dists) (a:Str) (i j n q:Int) (be:List (Int)) (K:Cont) (hI:pre_dr1 c a i j n q be=true):(∀R:St→Option Fin,evC cx0_dr1 (loopOf Tryz.f95 0) (st_dr1 c a i j n q be) (onward (headAt cx0_dr1 4) R K)=res_dr1 c a i j n q be K) ∨
  (∃(c':Dists) (a':Str) (i' j' n' q':Int) (be':List (Int)),pre_dr1 c' a' i' j' n' q' be'=true∧mu_dr1 c' a' i' j' n' q' be'<mu_dr1 c a i j n q be∧res_dr1 c' a' i' j' n' q' be' K=res_dr1 c a i j n q be K∧∀R:St→Option Fin,evC cx0_dr1 (loopOf Tryz.f95 0) (st_dr1 c a i j n q be) (onward (headAt cx0_dr1 4) R K)=R (st_dr1 c' a' i' j' n' q' be')):=by
 have hx:=fun R=>x_impl_distances_rule c a i j n q be R K;simp only[pre_dr1,andd,dec_iff]at hI;obtain⟨h0,h1,h2,rfl,h3,h4,h5,h6,h7,h8⟩:=hI
 by_cases hq:q<(length a:Int)
 ·have w:W64 (q+1)=q+1:=wrap_small (by omega) (by omega);have w2:W64 (W64 (j-i)+1)=j-i+1:=by
   rw[show W64 (j-i)=j-i from wrap_small (by omega) (by omega)];exact wrap_small (by omega) (by omega)
  have e1:replicate (j-i+1).toNat (([1073741824]:List Int).getD 0 0)=replicate be.length never:=by
   rw[show (j-i+1).toNat=be.length by omega];rfl
  have kk:(decide (([1073741824]:List Int).length=1)&&(decide (1≤j-i+1)&&decide (j-i+1≤1001)))=true:=andd.2 ⟨rfl,andd.2 ⟨zT (by omega),zT (by omega)⟩⟩;have e2:be.length-(0:Int).toNat=be.length:=rfl;have kp:pre_dr2 c a i j q (length a:Int) q (be.length:Int) 0 (replicate be.length never) be=true:=by
   simp only[pre_dr2,andd,dec_iff];rw[length_replicate];exact⟨h0,Int.le_refl 0,trivial,rfl,h4,h5,h6,h2,hq,h3,h7,okLs_rep,h8⟩
  have hd:List.drop q.toNat a=getD a q.toNat 0::List.drop (q+1).toNat a:=by
   have hn:q.toNat<length a:=by omega
   rw[drop_eq_getElem_cons hn,show (q+1).toNat=q.toNat+1 by omega,zG,zE hn];rfl
  rw[zT hq,w,w2]at hx;change ∀R:St→Option Fin,_=branch true (need (decide (([1073741824]:List Int).length=1)&&(decide (1≤j-i+1)&&decide (j-i+1≤1001))) (need (pre_dr2 c a i j q (length a:Int) q (be.length:Int) 0 (replicate (j-i+1).toNat (([1073741824]:List Int).getD 0 0)) be) (R ⟨[(0, .d (ofD (.ref TDs) c)),(1,vS a),(2,vI i),(3,vI j),(9, ko0),(24,vI (length a:Int)),(25,vI (q+1))],[(500000,some (.lis 3 TI64 (midF c.2.1 c.2.2 [getD a q.toNat 0] i be (be.length-(0:Int).toNat) 0 (replicate (j-i+1).toNat (([1073741824]:List Int).getD 0 0)))))]⟩))) _ at hx;rw[kk,e1,e2,kp]at hx;right;refine⟨c,a,i,j,(length a:Int),q+1,midF c.2.1 c.2.2 [getD a q.toNat 0] i be be.length 0 (replicate be.length never), ?_, ?_, ?_,fun R=>hx R⟩
  ·simp only[pre_dr1,andd,dec_iff];rw[midF_len,length_replicate];exact⟨h0,h1,by omega,trivial,h3,h4,h5,h6,h7,midF_ok h7 h6 h0 h8 (by rw[length_replicate];omega) (Int.le_refl 0) (by rw[length_replicate];omega) (by rw[length_replicate]) okLs_rep⟩
  ·simp only[mu_dr1];omega
  ·simp only[res_dr1,hd];rfl
 ·left;intro R;refine(hx R).trans ?_;rw[zF hq];have e:List.drop q.toNat a=[]:=drop_eq_nil_of_le (by omega);simp only[res_dr1,e];rfl
def g_dr1:St→Cont→Option Fin:=gP sh_dr1 (fun v=>match v with | ((c,a,i,j,n,q,()),(be,()))=>pre_dr1 c a i j n q be) (fun v K=>match v with | ((c,a,i,j,n,q,()),(be,()))=>res_dr1 c a i j n q be K)
def L_dr1:LpL:=(4,g_dr1)::L_dr2
def cx_dr1:Cx:=(cb_drl).withLoops (look L_dr1)
theorem l_dr1 {L:LpL} (n:Nat) (h1:L.drop n=L_dr2) (h2:idsFree (L.take n) (loopOf Tryz.f95 0)=true):LoopsTo g_dr1 (cb_drl) (loopOf Tryz.f95 0) 4 L :=
 with_drop h1 h2 (gP_ok (fun v=>match v with | ((c,a,i,j,n,q,()),(be,()))=>mu_dr1 c a i j n q be) fun v K hI=>by
  obtain⟨⟨c,a,i,j,n,q,⟨⟩⟩,⟨be,⟨⟩⟩⟩:=v;exact(r_dr1 c a i j n q be K hI).imp id fun⟨c',a',i',j',n',q',be',h⟩=>⟨((c',a',i',j',n',q',()),(be',())),h⟩)
def ruleV (s:Str) (m:DMap) (r:Str) (i j:Int):Int:=bif decide (r=[])then j-i else(outF s m i r (List.set (replicate (j-i+1).toNat never) 0 0)).getD (j-i).toNat 0
theorem init_ok {n:Nat}:okLs (List.set (replicate n never) 0 0)=true:=okLs_set okLs_rep rfl
theorem ruleV_ok {s:Str} {m:DMap} {r:Str} {i j:Int} (hm:okDm m=true) (hs:length s≤1000) (i0:0≤i) (i1:i≤j) (i2:j≤(length s:Int)):0≤ruleV s m r i j:=by
 unfold ruleV
 cases decide (r=[])
 ·obtain ⟨h1,h2⟩:=outF_ok (r:=r) (be:=List.set (replicate (j-i+1).toNat never) 0 0) hm hs i0 (by rw[length_set,length_replicate];omega) init_ok;rw[length_set,length_replicate]at h2;exact(okLs_at h1 (by omega)).1
 ·rw[cond_true];omega
theorem y_impl_distances_rule (c:Dists) (a:Str) (i:Int) (j:Int):evFn cx_dr1 Tryz.f95 true [ofD (.ref TDs) c,ofD .str a,ofD TI64 i,ofD TI64 j] []=(
need (decide (([1073741824]:List Int).length=1)&&(decide (1≤W64 (W64 (j-i)+1))&&decide (W64 (W64 (j-i)+1)≤1001))) <|
need (inb 0 (replicate (W64 (W64 (j-i)+1)).toNat (([1073741824]:List Int).getD 0 0)).length) <|
need (pre_dr1 c a i j ((a.length:Int)) 0 ((replicate (W64 (W64 (j-i)+1)).toNat (([1073741824]:List Int).getD 0 0)).set ((0:Int).toNat) 0)) <|
branch (decide (a=[])) ( some ((vI (W64 (j-i))),[])) (
 need (inb (W64 (j-i)) (outF c.snd.fst c.snd.snd i a ((replicate (W64 (W64 (j-i)+1)).toNat (([1073741824]:List Int).getD 0 0)).set ((0:Int).toNat) 0)).length) <| some ((vI ((outF c.snd.fst c.snd.snd i a ((replicate (W64 (W64 (j-i)+1)).toNat (([1073741824]:List Int).getD 0 0)).set ((0:Int).toNat) 0)).getD (W64 (j-i)).toNat 0)),[]))):=by kernel_rfl
theorem s_impl_distances_rule (c:Dists) (_hc:Fit (.ref TDs) c) (a:Str) (_ha:Fit .str a) (i:Int) (_hi:Fit TI64 i) (j:Int) (_hj:Fit TI64 j) (hpre:(okIJ c.2.1 i j&&(decide (length c.2.1≤1000)&&(decide (length a≤1000)&&okDm c.2.2)))=true):Sat Tryz.prog 95 [ofD (.ref TDs) c,ofD .str a,ofD TI64 i,ofD TI64 j] [] (.d (ofD TI64 (ruleV c.2.1 c.2.2 a i j))) [] :=
 fn_sound (cx:=cx_dr1) Tryz.func95 rfl ttOk Γ77ok mixed (fun c hc=>LoopsOk.all (l:=[(4,loopOf Tryz.f95 0),(8,loopOf Tryz.f95 1),(12,loopOf Tryz.f95 2)]) (by cases hc;kernel_rfl) ⟨atLoop rfl (l_dr1 1 rfl (by kernel_rfl)),atLoop rfl (l_dr2 2 rfl (by kernel_rfl)),atLoop rfl (l_dr3 3 rfl (by kernel_rfl)),trivial⟩) (ro:=true) (by
  simp only[andd,dec_iff]at hpre;obtain⟨h1,h2,h3,h4⟩:=hpre;obtain⟨i0,i1,i2⟩:=okIJ_iff.1 h1;rw[y_impl_distances_rule];have w:W64 (j-i)=j-i:=wrap_small (by omega) (by omega);have w2:W64 (W64 (j-i)+1)=j-i+1:=by
   rw[w];exact wrap_small (by omega) (by omega)
  have kk:(decide (([1073741824]:List Int).length=1)&&(decide (1≤j-i+1)&&decide (j-i+1≤1001)))=true:=andd.2 ⟨rfl,andd.2 ⟨zT (by omega),zT (by omega)⟩⟩;have e1:(([1073741824]:List Int).getD 0 0)=never:=rfl;have hl:((replicate (j-i+1).toNat never).set (0:Int).toNat 0).length=(j-i+1).toNat:=by rw[length_set,length_replicate]
  have kb:inb 0 (replicate (j-i+1).toNat never).length=true:=by
   rw[length_replicate];exact inb_ok (by omega) (by omega)
  obtain⟨o1,o2⟩:=outF_ok (r:=a) (be:=(replicate (j-i+1).toNat never).set (0:Int).toNat 0) h4 h2 i0 (by rw[hl];omega) init_ok;have kp:pre_dr1 c a i j (a.length:Int) 0 ((replicate (j-i+1).toNat never).set (0:Int).toNat 0)=true:=by
   simp only[pre_dr1,andd,dec_iff];rw[hl];exact⟨i0,i1,Int.le_refl 0,trivial,h3,by omega,i2,h2,h4,init_ok⟩
  have kq:inb (j-i) (outF c.2.1 c.2.2 i a ((replicate (j-i+1).toNat never).set (0:Int).toNat 0)).length=true:=by
   rw[o2,hl];exact inb_ok (by omega) (by omega)
  rw[w2,w,kk,e1,kb,kp,kq];unfold ruleV
  cases decide (a=[])<;>rfl)
def c_impl_distances_rule:Con:=conT [(.ref TDs), .str,TI64,TI64] fun(c:Dists) (a:Str) (i:Int) (j:Int)=>(some (okIJ c.2.1 i j&&(decide (length c.2.1≤1000)&&(decide (length a≤1000)&&okDm c.2.2))), .d (ofD TI64 (ruleV c.2.1 c.2.2 a i j)))
theorem k_impl_distances_rule:ConOk Tryz.prog 95 c_impl_distances_rule:=conT_ok Tryz.call95 fun c hc a ha i hi j hj hqq=>s_impl_distances_rule c hc a ha i hi j hj (pre_of hqq)
def Γ78:GL:=(95,c_impl_distances_rule)::Γ77
theorem Γ78ok:GO Γ78 := .cons k_impl_distances_rule Γ77ok
def cb_far:Cx:=(cxOf Γ78 Tryz.f46.ntmps [(12,[1,2,5,6,7,8,32,33,34]),(9,[1,2,5,6,7,8]),(6,[1,2,5,6,7]),(3,[1,2,5,6])] [(0,[1,2,5]),(1,[1,2,5,6]),(2,[1,2,5,6]),(3,[1,2,5,6,7]),(4,[1,2,5,6,7]),(5,[1,2,5,6,7,8]),(6,[1,2,5,6,7,8]),(7,[1,2,5,6,7,8,32,33,34]),(1000000,[4])] [] [])
abbrev dsO (a:Str) (l:List Rule) (s:Str) (i:Nat):Option Obj:=some (.box 103 [.r (.v (.string (mk a))), .r (.li TRu l), .r (.v (.string (mk s))), .own i])
abbrev dsH (g:Gram) (a:Str) (l:List Rule) (s:Str) (m:DMap):Heap:=[(500000,some (boxD 25 TG g)),(500001,dsO a l s 500002),(500002,some (.map TP TI64 m))]
theorem x_impl_farFrom_3 (t s a:Str) (g:Gram) (l q:List Rule) (m:DMap) (b:Bool) (i j n k:Int) (R:St→Option Fin) (K:Cont):evC (cb_far.withLoops (look [])) (loopOf Tryz.f46 3) ⟨[(1,vS t),(2, kp0),(5, kp1),(6,vB b),(7,vI i),(8,vI j),(32, .d (ofD TRL l)),(33,vI n),(34,vI k)],[(500000,some (boxD 25 TG g)),(500001,dsO a q s 500002),(500002,some (.map TP TI64 m))]⟩ (onward (headAt (cb_far.withLoops (look [])) 12) R K)=(
branch (decide (k<n)) (
 need (inb k l.length) <|
 need (okIJ s i j&&(decide (s.length≤1000)&&(decide ((length (l.getD k.toNat d0).snd)≤1000)&&okDm m))) <|
 need (okIJ s i j&&decide (s.length≤1000)) <|
 branch (decide (ruleV s m (l.getD k.toNat d0).snd i j<dofV s m (l.getD k.toNat d0).fst i j)) ( R (.mk [(1,vS t),(2,kp0),(5,kp1),(6,vB true),(7,vI i),(8,vI j),(32,(.d (.one (.r (.li TRu l))))),(33,vI n),(34,vI (W64 (k+1)))] [(500000,some (boxD 25 TG g)),(500001,(.some (.box 103 [(.r (.v (Value.string (mk a)))),(.r (.li TRu q)),(.r (.v (Value.string (mk s)))),(.own 500002)]))),(500002,(.some (.map ty106 ty3 (mset ty106 ty3 ((l.getD k.toNat d0).fst,i,j) (ruleV s m (l.getD k.toNat d0).snd i j) m))))])) ( R (.mk [(1,vS t),(2,kp0),(5,kp1),(6,vB b),(7,vI i),(8,vI j),(32,(.d (.one (.r (.li TRu l))))),(33,vI n),(34,vI (W64 (k+1)))] [(500000,some (boxD 25 TG g)),(500001,(.some (.box 103 [(.r (.v (Value.string (mk a)))),(.r (.li TRu q)),(.r (.v (Value.string (mk s)))),(.own 500002)]))),(500002,(.some (.map TP TI64 m)))]))) ( K (.exit 6) (.mk [(1,vS t),(2,kp0),(5,kp1),(6,vB b),(7,vI i),(8,vI j)] [(500000,some (boxD 25 TG g)),(500001,(.some (.box 103 [(.r (.v (Value.string (mk a)))),(.r (.li TRu q)),(.r (.v (Value.string (mk s)))),(.own 500002)]))),(500002,(.some (.map TP TI64 m)))]))):=by kernel_rfl
def putD (q:Part) (v:Int) (m:DMap):DMap:=mset TP TI64 q v m
def stepRD (s:Str) (i j:Int) (r:Rule) (p:DMap×Bool):DMap×Bool:=bif decide (ruleV s p.1 r.2 i j<dofV s p.1 r.1 i j)then(putD (r.1,i,j) (ruleV s p.1 r.2 i j) p.1,true)else p
def rulesD (s:Str) (i j:Int):List Rule→DMap×Bool→DMap×Bool
 | [],p=>p
 |r::l,p=>rulesD s i j l (stepRD s i j r p)
def tosD (s:Str) (l:List Rule) (i:Int):Nat→Int→DMap×Bool→DMap×Bool
 |0,_,p=>p
 |n+1,j,p=>tosD s l i n (j+1) (rulesD s i j l p)
def fromsD (s:Str) (l:List Rule):Nat→DMap×Bool→DMap×Bool
 |0,p=>p
 |n+1,p=>fromsD s l n (tosD s l (n:Int) (s.length+1-n) (n:Int) p)
theorem rulesD_at {s:Str} {i j k:Int} {l:List Rule} {p:DMap×Bool} (h0:0≤k) (h1:k<(l.length:Int)):rulesD s i j (l.drop k.toNat) p=rulesD s i j (l.drop (k+1).toNat) (stepRD s i j (l.getD k.toNat d0) p):=by
 have hn:k.toNat<l.length:=by omega
 rw[drop_eq_getElem_cons hn,show (k+1).toNat=k.toNat+1 by omega,zG,zE hn];rfl
def stepVD (s:Str) (v:Vis) (p:DMap×Bool):DMap×Bool:=stepRD s v.1 v.2.1 v.2.2 p
theorem rulesD_vis {s:Str} {i j:Int}:∀ {l:List Rule} {p:DMap×Bool},rulesD s i j l p=foldG (stepVD s) (visR i j l) p
 | [],_=>rfl
 |r::l,p=>rulesD_vis (l:=l) (p:=stepRD s i j r p)
theorem tosD_vis {s:Str} {l:List Rule} {i:Int}:∀ {n:Nat} {j:Int} {p:DMap×Bool},tosD s l i n j p=foldG (stepVD s) (visT l i n j) p
 |0,_,_=>rfl
 |n+1,j,p=>by
  show tosD s l i n (j+1) (rulesD s i j l p)=foldG (stepVD s) (visR i j l++visT l i n (j+1)) p;rw[foldG_app,← rulesD_vis,tosD_vis]
theorem fromsD_vis {s:Str} {l:List Rule}:∀ {n:Nat} {p:DMap×Bool},fromsD s l n p=foldG (stepVD s) (visF s l n) p
 |0,_=>rfl
 |n+1,p=>by
  show fromsD s l n (tosD s l (n:Int) (s.length+1-n) (n:Int) p)=foldG (stepVD s) (visT l (n:Int) (s.length+1-n) (n:Int)++visF s l n) p;rw[foldG_app,← tosD_vis,fromsD_vis]
theorem okDm_set {q:Part} {v:Int} (hv:okV v=true):∀ {m:DMap},okDm m=true→okDm (putD q v m)=true
 | [],_=>by
  show(okV v&&true)=true;rw[hv];rfl
 | (a,u)::m,h=>by
  obtain⟨h1,h2⟩:=andd.1 (show (okV u&&okDm m)=true from h);show okDm (bif eqDen TP q a then(q,v)::m else(a,u)::putD q v m)=true
  cases eqDen TP q a
  ·exact andd.2 ⟨h1,okDm_set hv h2⟩
  ·exact andd.2 ⟨hv,h2⟩
theorem getD_cons {x a:Part} {u:Int} {m:DMap}:getD' ((a,u)::m) x=bif decide (x=a)then u else getD' m x:=by
 rw[← eqP_dec];show(bif eqDen TP x a then some u else mget TP TI64 x m).getD never=_
 cases eqDen TP x a<;>rfl
theorem getDm_set {q x:Part} {v:Int}:∀ {m:DMap},getD' (putD q v m) x=bif decide (x=q)then v else getD' m x
 | []=>getD_cons (m:=[])
 | (a,u)::m=>by
  have ih:=getDm_set (q:=q) (x:=x) (v:=v) (m:=m);show getD' (bif eqDen TP q a then(q,v)::m else(a,u)::putD q v m) x=_;rw[eqP_dec,getD_cons]
  by_cases h1:q=a
  ·subst h1;rw[zT rfl,cond_true,getD_cons]
   cases decide (x=q)<;>rfl
  ·rw[zF h1,cond_false];refine getD_cons.trans ?_
   by_cases h:x=a
   ·have hx:¬x=q:=fun e=>h1 (e.symm.trans h);rw[zF hx,zT h];rfl
   ·rw[zF h,cond_false,cond_false,ih]
theorem stepRD_ok {s:Str} {i j:Int} {r:Rule} {p:DMap×Bool} (hs:length s≤1000) (i0:0≤i) (i1:i≤j) (i2:j≤(length s:Int)) (hm:okDm p.1=true):okDm (stepRD s i j r p).1=true:=by
 unfold stepRD
 cases hc:decide (ruleV s p.1 r.2 i j<dofV s p.1 r.1 i j)
 ·exact hm
 ·have h1:=ruleV_ok (r:=r.2) hm hs i0 i1 i2;have h2:=dofV_ok (a:=r.1) hm i0 i1 i2 hs;have h3:=dec_iff.1 hc;exact okDm_set (okV_iff.2 ⟨h1,by omega⟩) hm
theorem rulesD_ok {s:Str} {i j:Int} (hs:length s≤1000) (i0:0≤i) (i1:i≤j) (i2:j≤(length s:Int)):∀ {l:List Rule} {p:DMap×Bool},okDm p.1=true→okDm (rulesD s i j l p).1=true
 | [],_,h=>h
 |r::l,p,h=>rulesD_ok (l:=l) (p:=stepRD s i j r p) hs i0 i1 i2 (stepRD_ok hs i0 i1 i2 h)
theorem tosD_ok {s:Str} {l:List Rule} {i:Int} (hs:length s≤1000) (i0:0≤i):∀ {n:Nat} {j:Int} {p:DMap×Bool},i≤j→j+n≤(length s:Int)+1→okDm p.1=true→okDm (tosD s l i n j p).1=true
 |0,_,_,_,_,h=>h
 |n+1,j,p,h1,h2,h=>tosD_ok (n:=n) (j:=j+1) (p:=rulesD s i j l p) hs i0 (by omega) (by omega) (rulesD_ok hs i0 h1 (by omega) h)
def okRd (l:List Rule):Bool:=decide (length l≤1000)&&List.all l (fun r=>decide (length r.2≤1000)&&bigS r.1)
theorem okRd_iff {l:List Rule}:okRd l=true↔l.length≤1000∧List.all l (fun r=>decide (length r.2≤1000)&&bigS r.1)=true:=by
 unfold okRd;rw[andd,dec_iff]
theorem okRd_at {l:List Rule} {r:Rule} (h:okRd l=true) (hr:r∈l):length r.2≤1000∧bigS r.1=true:=by
 obtain⟨h1,h2⟩:=andd.1 (all_eq_true.1 (okRd_iff.1 h).2 r hr);exact⟨dec_iff.1 h1,h2⟩
def ksD (v:Vis):List (Part×Int):=(List.range never.toNat).map fun(n:Nat)=>(keyV v,(n:Int))
def hasD (m:DMap) (x:Part×Int):Bool:=decide (getD' m x.1≤x.2)
def goodD (s:Str) (v:Vis):Prop:=0≤v.1∧v.1≤v.2.1∧v.2.1≤(length s:Int)∧bigS v.2.2.1=true
theorem stepVD_ok {s:Str} (hs:length s≤1000):StepOk (fun m=>okDm m=true) (goodD s) hasD ksD (stepVD s) where
 inv v p hG hI:=stepRD_ok hs hG.1 hG.2.1 hG.2.2.1 hI
 mono v p x hG hI h:=by
  obtain⟨g1,g2,g3,g4⟩:=hG;unfold stepVD stepRD
  cases hc:decide (ruleV s p.1 v.2.2.2 v.1 v.2.1<dofV s p.1 v.2.2.1 v.1 v.2.1)
  ·exact h
  ·show decide (getD' (putD (v.2.2.1,v.1,v.2.1) (ruleV s p.1 v.2.2.2 v.1 v.2.1) p.1) x.1≤x.2)=true;rw[getDm_set]
   by_cases he:x.1=(v.2.2.1,v.1,v.2.1)
   ·rw[zT he,cond_true];have h1:=dec_iff.1 hc;have h2:=dec_iff.1 h;unfold dofV at h1;rw[g4,cond_true,← he]at h1;exact zT (by omega)
   ·rw[zF he];exact h
 new v p hG hI h:=by
  obtain⟨g1,g2,g3,g4⟩:=hG;have h0:=ruleV_ok (r:=v.2.2.2) hI hs g1 g2 g3;have h2:=dofV_ok (a:=v.2.2.1) hI g1 g2 g3 hs;unfold stepVD stepRD at *
  cases hc:decide (ruleV s p.1 v.2.2.2 v.1 v.2.1<dofV s p.1 v.2.2.1 v.1 v.2.1)<;>rw[hc]at h
  ·exact .inl h
  ·have h1:=dec_iff.1 hc;refine .inr ⟨(keyV v,ruleV s p.1 v.2.2.2 v.1 v.2.1),List.mem_map.2 ⟨(ruleV s p.1 v.2.2.2 v.1 v.2.1).toNat,List.mem_range.2 ?_, ?_⟩, ?_, ?_⟩
   ·have:(never:Int)=1073741824:=rfl;omega
   ·rw[Int.toNat_of_nonneg h0]
   ·unfold dofV at h1;rw[g4,cond_true]at h1;exact zF (by show ¬getD' p.1 (v.2.2.1,v.1,v.2.1)≤_;omega)
   ·show decide (getD' (putD (v.2.2.1,v.1,v.2.1) (ruleV s p.1 v.2.2.2 v.1 v.2.1) p.1) (v.2.2.1,v.1,v.2.1)≤_)=true;rw[getDm_set,zT rfl,cond_true];exact zT (Int.le_refl _)
 quiet v p _ _ h:=by
  unfold stepVD stepRD at *
  cases hc:decide (ruleV s p.1 v.2.2.2 v.1 v.2.1<dofV s p.1 v.2.2.1 v.1 v.2.1)<;>rw[hc]at h
  ·exact ⟨h,rfl⟩
  ·cases h
def distM (s:Str) (l:List Rule):DMap:=runC hasD ksD (stepVD s) (visF s l (s.length+1)) []
theorem good_vis {s:Str} {l:List Rule} (h:okRd l=true):∀v∈visF s l (s.length+1),goodD s v:=fun v hv=>by
 obtain⟨v1,v2,v3,v4,v5⟩:=(mem_visF (Nat.le_refl _)).1 hv;exact⟨v1,v3,v4,(okRd_at h v5).2⟩
def cx0_d4:Cx:=(cb_far).withLoops (look [])
def sh_d4:Sh:=([(1, .d .str),(2, .ptr 500000 0),(5, .ptr 500001 0),(6, .d .bool),(7, .d TI64),(8, .d TI64),(32, .d TRL),(33, .d TI64),(34, .d TI64)],[(500000, .box 25 TG),(500001, .mix 103 [.d .str, .d TRL, .d .str, .own 500002]),(500002, .map TP TI64)])
abbrev st_d4 (t:Str) (b:Bool) (i j:Int) (l:List Rule) (n k:Int) (g:Gram) (a:Str) (q:List Rule) (s:Str) (m:List (Den TP×Den TI64)):St:=⟨[(1,vS t),(2, kp0),(5, kp1),(6,vB b),(7,vI i),(8,vI j),(32, .d (ofD TRL l)),(33,vI n),(34,vI k)],[(500000,some (boxD 25 TG g)),(500001,some (.box 103 ((cellsR .str a).map C.r++(cellsR TRL q).map C.r++(cellsR .str s).map C.r++[.own 500002]))),(500002,some (.map TP TI64 m))]⟩
def pre_d4 (_t:Str) (_b:Bool) (i j:Int) (l:List Rule) (n k:Int) (_g:Gram) (_a:Str) (_q:List Rule) (s:Str) (m:List (Den TP×Den TI64)):Bool:=decide (0≤k)&&(decide (n=(length l:Int))&&(okRd l&&(okIJ s i j&&(decide (length s≤1000)&&okDm m))))
def res_d4 (t:Str) (b:Bool) (i j:Int) (l:List Rule) (_n k:Int) (g:Gram) (a:Str) (q:List Rule) (s:Str) (m:List (Den TP×Den TI64)) (K:Cont):Option Fin:=K (.exit 6) ⟨[(1,vS t),(2, kp0),(5, kp1),(6,vB (rulesD s i j (List.drop k.toNat l) (m,b)).2),(7,vI i),(8,vI j)],dsH g a q s (rulesD s i j (List.drop k.toNat l) (m,b)).1⟩
def mu_d4 (_t:Str) (_b:Bool) (_i _j:Int) (l:List Rule) (_n k:Int) (_g:Gram) (_a:Str) (_q:List Rule) (_s:Str) (_m:List (Den TP×Den TI64)):Nat:=length l-k.toNat
theorem r_d4 (t:Str) (b:Bool) (i j:Int) (l:List Rule) (n k:Int) (g:Gram) (a:Str) (q:List Rule) (s:Str) (m:List (Den TP×Den TI64)) (K:Cont) (hI:pre_d4 t b i j l n k g a q s m=true):(∀R:St→Option Fin,evC cx0_d4 (loopOf Tryz.f46 3) (st_d4 t b i j l n k g a q s m) (onward (headAt cx0_d4 12) R K)=res_d4 t b i j l n k g a q s m K) ∨
  (∃(t':Str) (b':Bool) (i' j':Int) (l':List Rule) (n' k':Int) (g':Gram) (a':Str) (q':List Rule) (s':Str) (m':List (Den TP×Den TI64)),pre_d4 t' b' i' j' l' n' k' g' a' q' s' m'=true∧mu_d4 t' b' i' j' l' n' k' g' a' q' s' m'<mu_d4 t b i j l n k g a q s m∧res_d4 t' b' i' j' l' n' k' g' a' q' s' m' K=res_d4 t b i j l n k g a q s m K∧∀R:St→Option Fin,evC cx0_d4 (loopOf Tryz.f46 3) (st_d4 t b i j l n k g a q s m) (onward (headAt cx0_d4 12) R K)=R (st_d4 t' b' i' j' l' n' k' g' a' q' s' m')):=by
 have hx:=fun R=>x_impl_farFrom_3 t s a g l q m b i j n k R K;simp only[pre_d4,andd,dec_iff]at hI;obtain⟨h0,rfl,h2,h4,h5,h6⟩:=hI;obtain⟨i0,i1,i2⟩:=okIJ_iff.1 h4;have h3:=(okRd_iff.1 h2).1
 by_cases hk:k<(length l:Int)
 ·have w:W64 (k+1)=k+1:=wrap_small (by omega) (by omega);have hg:=rulesD_at (s:=s) (i:=i) (j:=j) (p:=(m,b)) h0 hk;have hmem:l.getD k.toNat d0∈l:=by
   have hn:k.toNat<length l:=by omega
   rw[getD_at hn];exact List.getElem_mem hn
  have hr:=(okRd_at h2 hmem).1;have k1:(okIJ s i j&&(decide (length s≤1000)&&(decide (length (l.getD k.toNat d0).2≤1000)&&okDm m)))=true:=andd.2 ⟨h4,andd.2 ⟨zT h5,andd.2 ⟨zT hr,h6⟩⟩⟩;have k2:(okIJ s i j&&decide (length s≤1000))=true:=andd.2 ⟨h4,zT h5⟩;have hok:=stepRD_ok (r:=l.getD k.toNat d0) (p:=(m,b)) h5 i0 i1 i2 h6;rw[zT hk,inb_ok h0 hk,w,k1,k2]at hx;change ∀R:St→Option Fin,_=branch (decide (ruleV s m (l.getD k.toNat d0).2 i j<dofV s m (l.getD k.toNat d0).1 i j)) _ _ at hx;have hst:stepRD s i j (l.getD k.toNat d0) (m,b)=bif decide (ruleV s m (l.getD k.toNat d0).2 i j<dofV s m (l.getD k.toNat d0).1 i j)then(putD ((l.getD k.toNat d0).1,i,j) (ruleV s m (l.getD k.toNat d0).2 i j) m,true)else(m,b):=rfl;right
  cases hc:decide (ruleV s m (l.getD k.toNat d0).2 i j<dofV s m (l.getD k.toNat d0).1 i j)
  ·rw[hc]at hx hst;rw[hst]at hg;refine⟨t,b,i,j,l,(length l:Int),k+1,g,a,q,s,m, ?_, ?_, ?_,fun R=>hx R⟩
   ·simp only[pre_d4,andd,dec_iff];exact⟨by omega,trivial,h2,h4,h5,h6⟩
   ·simp only[mu_d4];omega
   ·simp only[res_d4,hg];rfl
  ·rw[hc]at hx hst;rw[hst]at hg hok;refine⟨t,true,i,j,l,(length l:Int),k+1,g,a,q,s,putD ((l.getD k.toNat d0).1,i,j) (ruleV s m (l.getD k.toNat d0).2 i j) m, ?_, ?_, ?_,fun R=>hx R⟩
   ·simp only[pre_d4,andd,dec_iff];exact⟨by omega,trivial,h2,h4,h5,hok⟩
   ·simp only[mu_d4];omega
   ·simp only[res_d4,hg];rfl
 ·left;intro R;refine(hx R).trans ?_;rw[zF hk];have e:List.drop k.toNat l=[]:=drop_eq_nil_of_le (by omega);simp only[res_d4,e];rfl
def g_d4:St→Cont→Option Fin:=gP sh_d4 (fun v=>match v with | ((t,b,i,j,l,n,k,()),(g,(a,q,s,()),m,()))=>pre_d4 t b i j l n k g a q s m) (fun v K=>match v with | ((t,b,i,j,l,n,k,()),(g,(a,q,s,()),m,()))=>res_d4 t b i j l n k g a q s m K)
def L_d4:LpL:=(12,g_d4)::[]
theorem l_d4 {L:LpL} (n:Nat) (h1:L.drop n=[]) (h2:idsFree (L.take n) (loopOf Tryz.f46 3)=true):LoopsTo g_d4 (cb_far) (loopOf Tryz.f46 3) 12 L :=
 with_drop h1 h2 (gP_ok (fun v=>match v with | ((t,b,i,j,l,n,k,()),(g,(a,q,s,()),m,()))=>mu_d4 t b i j l n k g a q s m) fun v K hI=>by
  obtain⟨⟨t,b,i,j,l,n,k,⟨⟩⟩,⟨g,⟨a,q,s,⟨⟩⟩,m,⟨⟩⟩⟩:=v;exact(r_d4 t b i j l n k g a q s m K hI).imp id fun⟨t',b',i',j',l',n',k',g',a',q',s',m',h⟩=>⟨((t',b',i',j',l',n',k',()),(g',(a',q',s',()),m',())),h⟩)
theorem x_impl_farFrom_2 (t s a:Str) (g:Gram) (q:List Rule) (m:DMap) (b:Bool) (i j:Int) (R:St→Option Fin) (K:Cont):evC (cb_far.withLoops (look L_d4)) (loopOf Tryz.f46 2) ⟨[(1,vS t),(2, kp0),(5, kp1),(6,vB b),(7,vI i),(8,vI j)],[(500000,some (boxD 25 TG g)),(500001,dsO a q s 500002),(500002,some (.map TP TI64 m))]⟩ (onward (headAt (cb_far.withLoops (look L_d4)) 9) R K)=(
branch (decide (j≤(t.length:Int))) (
 need (pre_d4 t b i j g.snd ((length g.snd:Int)) 0 g a q s m) <| R (.mk [(1,vS t),(2,kp0),(5,kp1),(6,(vB (rulesD s i j g.snd (m,b)).snd)),(7,vI i),(8,vI (W64 (j+1)))] [(500000,some (boxD 25 TG g)),(500001,(.some (.box 103 [(.r (.v (Value.string (mk a)))),(.r (.li TRu q)),(.r (.v (Value.string (mk s)))),(.own 500002)]))),(500002,(.some (.map TP TI64 ((rulesD s i j g.snd (m,b)).fst))))])) ( K (.exit 4) (.mk [(1,vS t),(2,kp0),(5,kp1),(6,vB b),(7,vI i)] [(500000,some (boxD 25 TG g)),(500001,(.some (.box 103 [(.r (.v (Value.string (mk a)))),(.r (.li TRu q)),(.r (.v (Value.string (mk s)))),(.own 500002)]))),(500002,(.some (.map TP TI64 m)))]))):=by kernel_rfl
def cx0_d3:Cx:=(cb_far).withLoops (look L_d4)
def sh_d3:Sh:=([(1, .d .str),(2, .ptr 500000 0),(5, .ptr 500001 0),(6, .d .bool),(7, .d TI64),(8, .d TI64)],[(500000, .box 25 TG),(500001, .mix 103 [.d .str, .d TRL, .d .str, .own 500002]),(500002, .map TP TI64)])
abbrev st_d3 (t:Str) (b:Bool) (i j:Int) (g:Gram) (a:Str) (q:List Rule) (s:Str) (m:List (Den TP×Den TI64)):St:=⟨[(1,vS t),(2, kp0),(5, kp1),(6,vB b),(7,vI i),(8,vI j)],[(500000,some (boxD 25 TG g)),(500001,some (.box 103 ((cellsR .str a).map C.r++(cellsR TRL q).map C.r++(cellsR .str s).map C.r++[.own 500002]))),(500002,some (.map TP TI64 m))]⟩
def pre_d3 (t:Str) (_b:Bool) (i j:Int) (g:Gram) (_a:Str) (_q:List Rule) (s:Str) (m:List (Den TP×Den TI64)):Bool:=decide (0≤i)&&(decide (i≤j)&&(okRd g.2&&(decide (t=s)&&(decide (length s≤1000)&&(decide (j≤(length s:Int)+1)&&okDm m)))))
def res_d3 (t:Str) (b:Bool) (i j:Int) (g:Gram) (a:Str) (q:List Rule) (s:Str) (m:List (Den TP×Den TI64)) (K:Cont):Option Fin:=K (.exit 4) ⟨[(1,vS t),(2, kp0),(5, kp1),(6,vB (tosD s g.2 i ((s.length:Int)+1-j).toNat j (m,b)).2),(7,vI i)],dsH g a q s (tosD s g.2 i ((s.length:Int)+1-j).toNat j (m,b)).1⟩
def mu_d3 (_t:Str) (_b:Bool) (_i j:Int) (_g:Gram) (_a:Str) (_q:List Rule) (s:Str) (_m:List (Den TP×Den TI64)):Nat:=(length s+1)-j.toNat
theorem r_d3 (t:Str) (b:Bool) (i j:Int) (g:Gram) (a:Str) (q:List Rule) (s:Str) (m:List (Den TP×Den TI64)) (K:Cont) (hI:pre_d3 t b i j g a q s m=true):(∀R:St→Option Fin,evC cx0_d3 (loopOf Tryz.f46 2) (st_d3 t b i j g a q s m) (onward (headAt cx0_d3 9) R K)=res_d3 t b i j g a q s m K) ∨
  (∃(t':Str) (b':Bool) (i' j':Int) (g':Gram) (a':Str) (q':List Rule) (s':Str) (m':List (Den TP×Den TI64)),pre_d3 t' b' i' j' g' a' q' s' m'=true∧mu_d3 t' b' i' j' g' a' q' s' m'<mu_d3 t b i j g a q s m∧res_d3 t' b' i' j' g' a' q' s' m' K=res_d3 t b i j g a q s m K∧∀R:St→Option Fin,evC cx0_d3 (loopOf Tryz.f46 2) (st_d3 t b i j g a q s m) (onward (headAt cx0_d3 9) R K)=R (st_d3 t' b' i' j' g' a' q' s' m')):=by
 have hx:=fun R=>x_impl_farFrom_2 t s a g q m b i j R K;simp only[pre_d3,andd,dec_iff]at hI;obtain⟨h0,h1,h2,rfl,h4,h5,h6⟩:=hI
 by_cases hj:j≤(length t:Int)
 ·have w:W64 (j+1)=j+1:=wrap_small (by omega) (by omega);obtain⟨n,hn⟩:∃n,((length t:Int)+1-j).toNat=n+1:=⟨((length t:Int)+1-j).toNat-1,by omega⟩;have hn2:((length t:Int)+1-(j+1)).toNat=n:=by omega
  have hg:tosD t g.2 i (n+1) j (m,b)=tosD t g.2 i n (j+1) (rulesD t i j g.2 (m,b)):=rfl;have hok:=rulesD_ok (l:=g.2) (p:=(m,b)) h4 h0 h1 hj h6;have hp:pre_d4 t b i j g.2 ((length g.2:Int)) 0 g a q t m=true:=by
   simp only[pre_d4,andd,dec_iff];exact⟨by omega,trivial,h2,okIJ_iff.2 ⟨h0,h1,hj⟩,h4,h6⟩
  rw[zT hj,hp,w]at hx;right;refine⟨t,(rulesD t i j g.2 (m,b)).2,i,j+1,g,a,q,t,(rulesD t i j g.2 (m,b)).1, ?_, ?_, ?_,fun R=>hx R⟩
  ·simp only[pre_d3,andd,dec_iff];exact⟨by omega,by omega,h2,trivial,h4,by omega,hok⟩
  ·simp only[mu_d3];omega
  ·simp only[res_d3,hn,hn2,hg]
 ·left;intro R;refine(hx R).trans ?_;rw[zF hj];have e:((length t:Int)+1-j).toNat=0:=by omega
  simp only[res_d3,e];rfl
def g_d3:St→Cont→Option Fin:=gP sh_d3 (fun v=>match v with | ((t,b,i,j,()),(g,(a,q,s,()),m,()))=>pre_d3 t b i j g a q s m) (fun v K=>match v with | ((t,b,i,j,()),(g,(a,q,s,()),m,()))=>res_d3 t b i j g a q s m K)
def L_d3:LpL:=(9,g_d3)::L_d4
theorem l_d3 {L:LpL} (n:Nat) (h1:L.drop n=L_d4) (h2:idsFree (L.take n) (loopOf Tryz.f46 2)=true):LoopsTo g_d3 (cb_far) (loopOf Tryz.f46 2) 9 L :=
 with_drop h1 h2 (gP_ok (fun v=>match v with | ((t,b,i,j,()),(g,(a,q,s,()),m,()))=>mu_d3 t b i j g a q s m) fun v K hI=>by
  obtain⟨⟨t,b,i,j,⟨⟩⟩,⟨g,⟨a,q,s,⟨⟩⟩,m,⟨⟩⟩⟩:=v;exact(r_d3 t b i j g a q s m K hI).imp id fun⟨t',b',i',j',g',a',q',s',m',h⟩=>⟨((t',b',i',j',()),(g',(a',q',s',()),m',())),h⟩)
theorem x_impl_farFrom_1 (t s a:Str) (g:Gram) (q:List Rule) (m:DMap) (b:Bool) (i:Int) (R:St→Option Fin) (K:Cont):evC (cb_far.withLoops (look L_d3)) (loopOf Tryz.f46 1) ⟨[(1,vS t),(2, kp0),(5, kp1),(6,vB b),(7,vI i)],[(500000,some (boxD 25 TG g)),(500001,dsO a q s 500002),(500002,some (.map TP TI64 m))]⟩ (onward (headAt (cb_far.withLoops (look L_d3)) 6) R K)=(
branch (decide (0≤i)) (
 need (pre_d3 t b i i g a q s m) <| R (.mk [(1,vS t),(2,kp0),(5,kp1),(6,(vB (tosD s g.snd i ((s.length:Int)+1-i).toNat i (m,b)).snd)),(7,vI (W64 (i-1)))] [(500000,some (boxD 25 TG g)),(500001,(.some (.box 103 [(.r (.v (Value.string (mk a)))),(.r (.li TRu q)),(.r (.v (Value.string (mk s)))),(.own 500002)]))),(500002,(.some (.map TP TI64 ((tosD s g.snd i ((s.length:Int)+1-i).toNat i (m,b)).fst))))])) ( K (.exit 2) (.mk [(1,vS t),(2,kp0),(5,kp1),(6,vB b)] [(500000,some (boxD 25 TG g)),(500001,(.some (.box 103 [(.r (.v (Value.string (mk a)))),(.r (.li TRu q)),(.r (.v (Value.string (mk s)))),(.own 500002)]))),(500002,(.some (.map TP TI64 m)))]))):=by kernel_rfl
def cx0_d2:Cx:=(cb_far).withLoops (look L_d3)
def sh_d2:Sh:=([(1, .d .str),(2, .ptr 500000 0),(5, .ptr 500001 0),(6, .d .bool),(7, .d TI64)],[(500000, .box 25 TG),(500001, .mix 103 [.d .str, .d TRL, .d .str, .own 500002]),(500002, .map TP TI64)])
abbrev st_d2 (t:Str) (b:Bool) (i:Int) (g:Gram) (a:Str) (q:List Rule) (s:Str) (m:List (Den TP×Den TI64)):St:=⟨[(1,vS t),(2, kp0),(5, kp1),(6,vB b),(7,vI i)],[(500000,some (boxD 25 TG g)),(500001,some (.box 103 ((cellsR .str a).map C.r++(cellsR TRL q).map C.r++(cellsR .str s).map C.r++[.own 500002]))),(500002,some (.map TP TI64 m))]⟩
def pre_d2 (t:Str) (_b:Bool) (i:Int) (g:Gram) (_a:Str) (_q:List Rule) (s:Str) (m:List (Den TP×Den TI64)):Bool:=decide (-1≤i)&&(decide (i≤(length s:Int))&&(okRd g.2&&(decide (t=s)&&(decide (length s≤1000)&&okDm m))))
def res_d2 (t:Str) (b:Bool) (i:Int) (g:Gram) (a:Str) (q:List Rule) (s:Str) (m:List (Den TP×Den TI64)) (K:Cont):Option Fin:=K (.exit 2) ⟨[(1,vS t),(2, kp0),(5, kp1),(6,vB (fromsD s g.2 (i+1).toNat (m,b)).2)],dsH g a q s (fromsD s g.2 (i+1).toNat (m,b)).1⟩
def mu_d2 (_t:Str) (_b:Bool) (i:Int) (_g:Gram) (_a:Str) (_q:List Rule) (_s:Str) (_m:List (Den TP×Den TI64)):Nat:=(i+1).toNat
theorem r_d2 (t:Str) (b:Bool) (i:Int) (g:Gram) (a:Str) (q:List Rule) (s:Str) (m:List (Den TP×Den TI64)) (K:Cont) (hI:pre_d2 t b i g a q s m=true):(∀R:St→Option Fin,evC cx0_d2 (loopOf Tryz.f46 1) (st_d2 t b i g a q s m) (onward (headAt cx0_d2 6) R K)=res_d2 t b i g a q s m K) ∨
  (∃(t':Str) (b':Bool) (i':Int) (g':Gram) (a':Str) (q':List Rule) (s':Str) (m':List (Den TP×Den TI64)),pre_d2 t' b' i' g' a' q' s' m'=true∧mu_d2 t' b' i' g' a' q' s' m'<mu_d2 t b i g a q s m∧res_d2 t' b' i' g' a' q' s' m' K=res_d2 t b i g a q s m K∧∀R:St→Option Fin,evC cx0_d2 (loopOf Tryz.f46 1) (st_d2 t b i g a q s m) (onward (headAt cx0_d2 6) R K)=R (st_d2 t' b' i' g' a' q' s' m')):=by
 have hx:=fun R=>x_impl_farFrom_1 t s a g q m b i R K;simp only[pre_d2,andd,dec_iff]at hI;obtain⟨h0,h1,h2,rfl,h4,h6⟩:=hI
 by_cases hi:0≤i
 ·have w:W64 (i-1)=i-1:=wrap_small (by omega) (by omega);have hn:(i+1).toNat=i.toNat+1:=by omega
  have hn2:(i-1+1).toNat=i.toNat:=by omega
  have hg:fromsD t g.2 (i.toNat+1) (m,b)=fromsD t g.2 i.toNat (tosD t g.2 ((i.toNat:Nat):Int) (t.length+1-i.toNat) ((i.toNat:Nat):Int) (m,b)):=rfl;have e1:((i.toNat:Nat):Int)=i:=by omega
  have e2:((t.length:Int)+1-i).toNat=t.length+1-i.toNat:=by omega
  have hok:=tosD_ok (l:=g.2) (n:=t.length+1-i.toNat) (j:=i) (p:=(m,b)) h4 hi (Int.le_refl i) (by omega) h6;rw[e1]at hg;have hp:pre_d3 t b i i g a q t m=true:=by
   simp only[pre_d3,andd,dec_iff];exact⟨by omega,by omega,h2,trivial,h4,by omega,h6⟩
  rw[zT hi,hp,w,e2]at hx;right;refine⟨t,(tosD t g.2 i (t.length+1-i.toNat) i (m,b)).2,i-1,g,a,q,t,(tosD t g.2 i (t.length+1-i.toNat) i (m,b)).1, ?_, ?_, ?_,fun R=>hx R⟩
  ·simp only[pre_d2,andd,dec_iff];exact⟨by omega,by omega,h2,trivial,h4,hok⟩
  ·simp only[mu_d2];omega
  ·simp only[res_d2,hn,hn2,hg]
 ·left;intro R;refine(hx R).trans ?_;rw[zF hi];have e:(i+1).toNat=0:=by omega
  simp only[res_d2,e];rfl
def g_d2:St→Cont→Option Fin:=gP sh_d2 (fun v=>match v with | ((t,b,i,()),(g,(a,q,s,()),m,()))=>pre_d2 t b i g a q s m) (fun v K=>match v with | ((t,b,i,()),(g,(a,q,s,()),m,()))=>res_d2 t b i g a q s m K)
def L_d2:LpL:=(6,g_d2)::L_d3
theorem l_d2 {L:LpL} (n:Nat) (h1:L.drop n=L_d3) (h2:idsFree (L.take n) (loopOf Tryz.f46 1)=true):LoopsTo g_d2 (cb_far) (loopOf Tryz.f46 1) 6 L :=
 with_drop h1 h2 (gP_ok (fun v=>match v with | ((t,b,i,()),(g,(a,q,s,()),m,()))=>mu_d2 t b i g a q s m) fun v K hI=>by
  obtain⟨⟨t,b,i,⟨⟩⟩,⟨g,⟨a,q,s,⟨⟩⟩,m,⟨⟩⟩⟩:=v;exact(r_d2 t b i g a q s m K hI).imp id fun⟨t',b',i',g',a',q',s',m',h⟩=>⟨((t',b',i',()),(g',(a',q',s',()),m',())),h⟩)
theorem x_impl_farFrom (t s a:Str) (g:Gram) (q:List Rule) (m:DMap) (b:Bool) (R:St→Option Fin) (K:Cont):evC (cb_far.withLoops (look L_d2)) (loopOf Tryz.f46 0) ⟨[(1,vS t),(2, kp0),(5, kp1),(6,vB b)],[(500000,some (boxD 25 TG g)),(500001,dsO a q s 500002),(500002,some (.map TP TI64 m))]⟩ (onward (headAt (cb_far.withLoops (look L_d2)) 3) R K)=(
branch b (
 need (pre_d2 t false ((t.length:Int)) g a q s m) <| R (.mk [(1,vS t),(2,kp0),(5,kp1),(6,(vB (fromsD s g.snd ((t.length:Int)+1).toNat (m,false)).snd))] [(500000,some (boxD 25 TG g)),(500001,(.some (.box 103 [(.r (.v (Value.string (mk a)))),(.r (.li TRu q)),(.r (.v (Value.string (mk s)))),(.own 500002)]))),(500002,(.some (.map TP TI64 ((fromsD s g.snd ((t.length:Int)+1).toNat (m,false)).fst))))])) ( K (.exit 0) (.mk [(1,vS t),(2,kp0),(5,kp1)] [(500000,some (boxD 25 TG g)),(500001,(.some (.box 103 [(.r (.v (Value.string (mk a)))),(.r (.li TRu q)),(.r (.v (Value.string (mk s)))),(.own 500002)]))),(500002,(.some (.map TP TI64 m)))]))):=by kernel_rfl
def cx0_d1:Cx:=(cb_far).withLoops (look L_d2)
def sh_d1:Sh:=([(1, .d .str),(2, .ptr 500000 0),(5, .ptr 500001 0),(6, .d .bool)],[(500000, .box 25 TG),(500001, .mix 103 [.d .str, .d TRL, .d .str, .own 500002]),(500002, .map TP TI64)])
abbrev st_d1 (t:Str) (b:Bool) (g:Gram) (a:Str) (q:List Rule) (s:Str) (m:List (Den TP×Den TI64)):St:=⟨[(1,vS t),(2, kp0),(5, kp1),(6,vB b)],[(500000,some (boxD 25 TG g)),(500001,some (.box 103 ((cellsR .str a).map C.r++(cellsR TRL q).map C.r++(cellsR .str s).map C.r++[.own 500002]))),(500002,some (.map TP TI64 m))]⟩
def pre_d1 (t:Str) (_b:Bool) (g:Gram) (_a:Str) (_q:List Rule) (s:Str) (m:List (Den TP×Den TI64)):Bool:=okRd g.2&&(decide (t=s)&&(decide (length s≤1000)&&okDm m))
def res_d1 (t:Str) (b:Bool) (g:Gram) (a:Str) (q:List Rule) (s:Str) (m:List (Den TP×Den TI64)) (K:Cont):Option Fin:=K (.exit 0) ⟨[(1,vS t),(2, kp0),(5, kp1)],dsH g a q s (bif b then runC hasD ksD (stepVD s) (visF s g.2 (s.length+1)) m else m)⟩
def mu_d1 (_t:Str) (b:Bool) (g:Gram) (_a:Str) (_q:List Rule) (s:Str) (m:List (Den TP×Den TI64)):Nat:=2*missG hasD ((visF s g.2 (s.length+1)).flatMap ksD) m+(bif b then 1 else 0)
theorem r_d1 (t:Str) (b:Bool) (g:Gram) (a:Str) (q:List Rule) (s:Str) (m:List (Den TP×Den TI64)) (K:Cont) (hI:pre_d1 t b g a q s m=true):(∀R:St→Option Fin,evC cx0_d1 (loopOf Tryz.f46 0) (st_d1 t b g a q s m) (onward (headAt cx0_d1 3) R K)=res_d1 t b g a q s m K) ∨
  (∃(t':Str) (b':Bool) (g':Gram) (a':Str) (q':List Rule) (s':Str) (m':List (Den TP×Den TI64)),pre_d1 t' b' g' a' q' s' m'=true∧mu_d1 t' b' g' a' q' s' m'<mu_d1 t b g a q s m∧res_d1 t' b' g' a' q' s' m' K=res_d1 t b g a q s m K∧∀R:St→Option Fin,evC cx0_d1 (loopOf Tryz.f46 0) (st_d1 t b g a q s m) (onward (headAt cx0_d1 3) R K)=R (st_d1 t' b' g' a' q' s' m')):=by
 have hx:=fun R=>x_impl_farFrom t s a g q m b R K;simp only[pre_d1,andd,dec_iff]at hI;obtain⟨h2,rfl,h4,h6⟩:=hI;have hgood:=good_vis (s:=t) h2
 cases b
 ·left;intro R;refine(hx R).trans ?_;simp only[res_d1];rfl
 ·have hp:pre_d2 t false ((t.length:Int)) g a q t m=true:=by
   simp only[pre_d2,andd,dec_iff];exact⟨by omega,by omega,h2,trivial,h4,h6⟩
  have e:((t.length:Int)+1).toNat=t.length+1:=by omega
  rw[hp,e,fromsD_vis]at hx;have hg:=runC_at (stepVD_ok h4) (vs:=visF t g.2 (t.length+1)) (m:=m) hgood h6;have hok:=foldG_ok (stepVD_ok h4) (vs:=visF t g.2 (t.length+1)) (p:=(m,false)) hgood h6;right;refine⟨t,(foldG (stepVD t) (visF t g.2 (t.length+1)) (m,false)).2,g,a,q,t,(foldG (stepVD t) (visF t g.2 (t.length+1)) (m,false)).1, ?_, ?_, ?_,fun R=>hx R⟩
  ·simp only[pre_d1,andd,dec_iff];exact⟨h2,trivial,h4,hok⟩
  ·simp only[mu_d1]
   cases hc:(foldG (stepVD t) (visF t g.2 (t.length+1)) (m,false)).2
   ·obtain ⟨_,h5,_⟩:=foldG_quiet (stepVD_ok h4) hgood h6 hc;rw[h5,cond_true,cond_false];show 2*missG hasD _ m+0<2*missG hasD _ m+1;omega
   ·have:=miss_lt (stepVD_ok h4) hgood h6 hc;rw[cond_true];omega
  ·simp only[res_d1];exact congrArg (fun z:DMap=>K (.exit 0) ⟨[(1,vS t),(2, kp0),(5, kp1)],dsH g a q t z⟩) hg.symm
def g_d1:St→Cont→Option Fin:=gP sh_d1 (fun v=>match v with | ((t,b,()),(g,(a,q,s,()),m,()))=>pre_d1 t b g a q s m) (fun v K=>match v with | ((t,b,()),(g,(a,q,s,()),m,()))=>res_d1 t b g a q s m K)
def L_d1:LpL:=(3,g_d1)::L_d2
def cx_d1:Cx:=(cb_far).withLoops (look L_d1)
theorem l_d1 {L:LpL} (n:Nat) (h1:L.drop n=L_d2) (h2:idsFree (L.take n) (loopOf Tryz.f46 0)=true):LoopsTo g_d1 (cb_far) (loopOf Tryz.f46 0) 3 L :=
 with_drop h1 h2 (gP_ok (fun v=>match v with | ((t,b,()),(g,(a,q,s,()),m,()))=>mu_d1 t b g a q s m) fun v K hI=>by
  obtain⟨⟨t,b,⟨⟩⟩,⟨g,⟨a,q,s,⟨⟩⟩,m,⟨⟩⟩⟩:=v;exact(r_d1 t b g a q s m K hI).imp id fun⟨t',b',g',a',q',s',m',h⟩=>⟨((t',b',()),(g',(a',q',s',()),m',())),h⟩)
theorem y_impl_farFrom (g:Gram) (s:Str):evFn cx_d1 Tryz.f46 true [ofD TG g,ofD .str s] []=(
need (pre_d1 s true g g.fst g.snd s []) <|
need (okIJ s 0 (s.length:Int)&&decide (s.length≤1000)) <| some ((vI (dofV s (bif true then runC hasD ksD (stepVD s) (visF s g.snd (length s+1)) [] else []) g.fst 0 (s.length:Int))),[])):=by kernel_rfl
theorem s_impl_farFrom (g:Gram) (_hg:Fit TG g) (s:Str) (_hs:Fit .str s) (hpre:(okRd g.2&&decide (length s≤1000))=true):Sat Tryz.prog 46 [ofD TG g,ofD .str s] [] (.d (ofD TI64 (dofV s (distM s g.2) g.1 0 (s.length:Int)))) [] :=
 fn_sound (cx:=cx_d1) Tryz.func46 rfl ttOk Γ78ok mixed (fun c hc=>LoopsOk.all (l:=[(3,loopOf Tryz.f46 0),(6,loopOf Tryz.f46 1),(9,loopOf Tryz.f46 2),(12,loopOf Tryz.f46 3)]) (by cases hc;kernel_rfl) ⟨atLoop rfl (l_d1 1 rfl (by kernel_rfl)),atLoop rfl (l_d2 2 rfl (by kernel_rfl)),atLoop rfl (l_d3 3 rfl (by kernel_rfl)),atLoop rfl (l_d4 4 rfl (by kernel_rfl)),trivial⟩) (ro:=true) (by
  obtain⟨h1,h2⟩:=andd.1 hpre;have h3:=dec_iff.1 h2;have hp:pre_d1 s true g g.1 g.2 s []=true:=by
   simp only[pre_d1,andd,dec_iff];exact⟨h1,trivial,h3,rfl⟩
  have hk:(okIJ s 0 (s.length:Int)&&decide (s.length≤1000))=true:=andd.2 ⟨okIJ_iff.2 ⟨Int.le_refl 0,by omega,Int.le_refl _⟩,h2⟩;rw[y_impl_farFrom,hp,hk];rfl)
def c_impl_farFrom:Con:=conT [TG, .str] fun(g:Gram) (s:Str)=>(some (okRd g.2&&decide (length s≤1000)), .d (ofD TI64 (dofV s (distM s g.2) g.1 0 (s.length:Int))))
theorem k_impl_farFrom:ConOk Tryz.prog 46 c_impl_farFrom:=conT_ok Tryz.call46 fun g hg s hs hqq=>s_impl_farFrom g hg s hs (pre_of hqq)
def Γ79:GL:=(46,c_impl_farFrom)::Γ78
theorem Γ79ok:GO Γ79 := .cons k_impl_farFrom Γ78ok
def farV (g:Gram) (s:Str):Int:=dofV s (distM s g.2) g.1 0 (s.length:Int)
def mendV (g:Gram) (s:Str):Int:=bif both2 g s then bif decide ((1073741824:Int)≤farV g s)then -1 else farV g s else -1
theorem both2_iff {g:Gram} {s:Str}:both2 g s=true↔okG g=true∧areSm s 8=true:=by
 unfold both2
 cases okG g
 ·constructor
  ·intro h;cases h
  ·rintro ⟨h,_⟩;cases h
 ·exact ⟨fun h=>⟨rfl,h⟩,fun h=>h.2⟩
theorem okRd_G {g:Gram} (h:okG g=true):okRd g.2=true:=by
 obtain⟨_,h2,h3⟩:=okG_iff h;refine okRd_iff.2 ⟨by omega,all_eq_true.2 fun r hr => ?_⟩;obtain⟨h4,h5⟩:=h3 r hr;have:=(areS_iff h5).2;exact andd.2 ⟨zT (by omega),h4⟩
theorem y_impl_MendFar (g:Gram) (s:Str):evFn (cxOf Γ79 Tryz.f13.ntmps [] [] [] []) Tryz.f13 true [ofD TG g,ofD .str s] []=(
branch (!both2 g s) ( some ((vI (Int.neg 1)),[])) (
 need (okRd g.snd&&decide (s.length≤1000)) <|
 branch (decide (1073741824≤dofV s (distM s g.snd) g.fst 0 (s.length:Int))) ( some ((vI (Int.neg 1)),[])) ( some ((vI (dofV s (distM s g.snd) g.fst 0 (s.length:Int))),[])))):=by kernel_rfl
theorem s_impl_MendFar (g:Gram) (_hg:Fit TG g) (s:Str) (_hs:Fit .str s):Sat Tryz.prog 13 [ofD TG g,ofD .str s] [] (.d (ofD TI64 (mendV g s))) [] :=
 fn_sound (cx:=cxOf Γ79 Tryz.f13.ntmps [] [] [] []) Tryz.func13 rfl ttOk Γ79ok mixed (fun _ _=>LoopsOk.no fun _=>rfl) (ro:=true) (by
  rw[y_impl_MendFar];unfold mendV
  cases hb:both2 g s
  ·rfl
  ·obtain ⟨h1,h2⟩:=both2_iff.1 hb;have hk:(okRd g.2&&decide (s.length≤1000))=true:=by
    have:=(areSm_iff.1 h2).1;exact andd.2 ⟨okRd_G h1,zT (by omega)⟩
   rw[hk];show branch (decide ((1073741824:Int)≤farV g s)) _ _=(some (.d (ofD TI64 (bif decide ((1073741824:Int)≤farV g s)then(-1:Int)else farV g s)),[]):Option Fin)
   cases decide ((1073741824:Int)≤farV g s)<;>rfl)
def c_impl_MendFar:Con:=conT [TG, .str] fun(g:Gram) (s:Str)=>(none, .d (ofD TI64 (mendV g s)))
theorem k_impl_MendFar:ConOk Tryz.prog 13 c_impl_MendFar:=conT_ok Tryz.call13 fun g hg s hs _=>s_impl_MendFar g hg s hs
def Γ80:GL:=(13,c_impl_MendFar)::Γ79
theorem Γ80ok:GO Γ80 := .cons k_impl_MendFar Γ79ok
abbrev TI1:Ty := .list TI64
abbrev TI2:Ty := .list TI1
abbrev TI3:Ty := .list TI2
abbrev D3:Type:=List (List (List Int))
def atD (ch:D3) (k i j:Int):Int:=getD (getD (getD ch k.toNat []) i.toNat []) j.toNat 0
def okD5 (n:Nat) (ch:D3):Bool:=Nat.beq (length ch) 5&&List.all ch fun r=>Nat.beq (length r) n&&List.all r fun q=>Nat.beq (length q) n&&List.all q fun e=>decide (0≤e)&&decide (e≤100000)
def minI (a b:Int):Int:=bif decide (a<b)then a else b
theorem okD5_iff {n:Nat} {ch:D3}:okD5 n ch=true↔ch.length=5∧∀r∈ch,r.length=n∧∀q∈r,q.length=n∧∀e∈q,0≤e∧e≤100000:=by
 unfold okD5;rw[andd,all_eq_true]
 constructor
 ·rintro ⟨h1,h2⟩;refine⟨zB h1,fun r hr => ?_⟩;obtain⟨h3,h4⟩:=andd.1 (h2 r hr);refine⟨zB h3,fun q hq => ?_⟩;obtain⟨h5,h6⟩:=andd.1 (all_eq_true.1 h4 q hq);refine⟨zB h5,fun e he => ?_⟩;obtain⟨h7,h8⟩:=andd.1 (all_eq_true.1 h6 e he);exact⟨dec_iff.1 h7,dec_iff.1 h8⟩
 ·rintro ⟨h1,h2⟩;refine⟨by rw[h1];rfl,fun r hr => ?_⟩;obtain⟨h3,h4⟩:=h2 r hr;refine andd.2 ⟨by rw[h3];exact Nat.beq_refl n,all_eq_true.2 fun q hq => ?_⟩;obtain⟨h5,h6⟩:=h4 q hq;exact andd.2 ⟨by rw[h5];exact Nat.beq_refl n,all_eq_true.2 fun e he=>andd.2 ⟨zT (h6 e he).1,zT (h6 e he).2⟩⟩
theorem okD5_at {n:Nat} {ch:D3} (h:okD5 n ch=true) {k i:Int} (k0:0≤k) (k1:k<5) (i0:0≤i) (i1:i<(n:Int)):ch.length=5∧length (getD ch k.toNat [])=n∧length (getD (getD ch k.toNat []) i.toNat [])=n:=by
 obtain⟨h1,h2⟩:=okD5_iff.1 h;obtain⟨h3,h4⟩:=h2 (getD ch k.toNat []) (getD_mem (by omega));exact⟨h1,h3,(h4 _ (getD_mem (by omega))).1⟩
theorem atD_ok {n:Nat} {ch:D3} (h:okD5 n ch=true) {k i j:Int} (k0:0≤k) (k1:k<5) (i0:0≤i) (i1:i<(n:Int)) (j0:0≤j) (j1:j<(n:Int)):0≤atD ch k i j∧atD ch k i j≤100000:=by
 obtain⟨h1,h2⟩:=okD5_iff.1 h;obtain⟨h3,h4⟩:=h2 (getD ch k.toNat []) (getD_mem (by omega));obtain⟨h5,h6⟩:=h4 (getD (getD ch k.toNat []) i.toNat []) (getD_mem (by omega));exact h6 _ (getD_mem (by omega))
theorem y_spec_l8Min (a:Int) (b:Int):evFn (cxOf Γ80 Tryz.f154.ntmps [] [] [] []) Tryz.f154 true [ofD TI64 a,ofD TI64 b] []=(
branch (decide (a<b)) ( some ((vI a),[])) ( some ((vI b),[]))):=by kernel_rfl
theorem s_spec_l8Min (a:Int) (_ha:Fit TI64 a) (b:Int) (_hb:Fit TI64 b):Sat Tryz.prog 154 [ofD TI64 a,ofD TI64 b] [] (.d (ofD TI64 (minI a b))) [] :=
 fn_sound (cx:=cxOf Γ80 Tryz.f154.ntmps [] [] [] []) Tryz.func154 rfl ttOk Γ80ok mixed (fun _ _=>LoopsOk.no fun _=>rfl) (ro:=true) (by
  rw[y_spec_l8Min];unfold minI
  cases decide (a<b)<;>rfl)
def c_spec_l8Min:Con:=conT [TI64,TI64] fun(a:Int) (b:Int)=>(none, .d (ofD TI64 (minI a b)))
theorem k_spec_l8Min:ConOk Tryz.prog 154 c_spec_l8Min:=conT_ok Tryz.call154 fun a ha b hb _=>s_spec_l8Min a ha b hb
def Γ81:GL:=(154,c_spec_l8Min)::Γ80
theorem Γ81ok:GO Γ81 := .cons k_spec_l8Min Γ80ok
def smlD (s:Str) (c:Int) (i j:Int):Int:=bif decide (i=j)then 1 else bif inS (List.take (j.toNat-i.toNat) (List.drop i.toNat s)) c then j-i-1 else j-i
def ofS (s:Str) (ch:D3) (c i j:Int):Int:=bif smallI c then smlD s c i j else atD ch (c-65) i j
theorem y_spec_l8Small (s:Str) (c:Int) (i:Int) (j:Int):evFn (cxOf Γ81 Tryz.f172.ntmps [] [] [] []) Tryz.f172 true [ofD .str s,ofD (.int .u8) c,ofD TI64 i,ofD TI64 j] []=(
branch (decide (i=j)) ( some ((vI 1),[])) (
 need (inr i j s.length) <|
 branch (inS (List.take (j.toNat-i.toNat) (List.drop i.toNat s)) c) ( some ((vI (W64 (W64 (j-i)-1))),[])) ( some ((vI (W64 (j-i))),[])))):=by kernel_rfl
theorem s_spec_l8Small (s:Str) (_hs:Fit .str s) (c:Int) (_hc:Fit (.int .u8) c) (i:Int) (_hi:Fit TI64 i) (j:Int) (_hj:Fit TI64 j) (hpre:(okIJ s i j&&decide (length s≤1000))=true):Sat Tryz.prog 172 [ofD .str s,ofD (.int .u8) c,ofD TI64 i,ofD TI64 j] [] (.d (ofD TI64 (smlD s c i j))) [] :=
 fn_sound (cx:=cxOf Γ81 Tryz.f172.ntmps [] [] [] []) Tryz.func172 rfl ttOk Γ81ok mixed (fun _ _=>LoopsOk.no fun _=>rfl) (ro:=true) (by
  rw[andd,dec_iff]at hpre;obtain⟨h1,h2⟩:=hpre;obtain⟨i0,i1,i2⟩:=okIJ_iff.1 h1;rw[y_spec_l8Small];have w:W64 (j-i)=j-i:=wrap_small (by omega) (by omega);have w2:W64 (j-i-1)=j-i-1:=wrap_small (by omega) (by omega);rw[w,w2,inr_iff.2 ⟨i0,i1,i2⟩];unfold smlD
  cases decide (i=j)
  ·show branch (inS (List.take (j.toNat-i.toNat) (List.drop i.toNat s)) c) _ _=_
   cases inS (List.take (j.toNat-i.toNat) (List.drop i.toNat s)) c<;>rfl
  ·rfl)
def c_spec_l8Small:Con:=conT [.str,(.int .u8),TI64,TI64] fun(s:Str) (c:Int) (i:Int) (j:Int)=>(some (okIJ s i j&&decide (length s≤1000)), .d (ofD TI64 (smlD s c i j)))
theorem k_spec_l8Small:ConOk Tryz.prog 172 c_spec_l8Small:=conT_ok Tryz.call172 fun s hs c hc i hi j hj hqq=>s_spec_l8Small s hs c hc i hi j hj (pre_of hqq)
def Γ82:GL:=(172,c_spec_l8Small)::Γ81
theorem Γ82ok:GO Γ82 := .cons k_spec_l8Small Γ81ok
theorem y_spec_l8Of (ch:Den TI3) (s:Str) (c:Int) (i:Int) (j:Int):evFn (cxOf Γ82 Tryz.f155.ntmps [] [] [] []) Tryz.f155 true [ofD TI3 ch,ofD .str s,ofD (.int .u8) c,ofD TI64 i,ofD TI64 j] []=(
branch (smallI c) (
 need (okIJ s i j&&decide (s.length≤1000)) <| some ((vI (smlD s c i j)),[])) (
 need (inb (W64 (IntKind.u8.wrap (c-65))) ch.length) <|
 need (inb i (length (getD ch (W64 (IntKind.u8.wrap (c-65))).toNat (dflt TI2)))) <|
 need (inb j (length (getD (getD ch (W64 (IntKind.u8.wrap (c-65))).toNat (dflt TI2)) i.toNat (dflt TI1)))) <| some ((vI (getD (getD (getD ch (W64 (IntKind.u8.wrap (c-65))).toNat (dflt TI2)) i.toNat (dflt TI1)) j.toNat 0)),[]))):=by kernel_rfl
theorem s_l8Of (ch:D3) (s:Str) (c i j:Int) (hpre:(okD5 (length s+1) ch&&(signI c&&(okIJ s i j&&decide (length s≤1000))))=true):evFn (cxOf Γ82 Tryz.f155.ntmps [] [] [] []) Tryz.f155 true [ofD TI3 ch,ofD .str s,ofD (.int .u8) c,ofD TI64 i,ofD TI64 j] []=some (.d (ofD TI64 (ofS s ch c i j)),[]):=by
 simp only[andd,dec_iff]at hpre;obtain⟨h1,h2,h3,h4⟩:=hpre;obtain⟨i0,i1,i2⟩:=okIJ_iff.1 h3;refine(y_spec_l8Of ch s c i j).trans ?_;unfold ofS
 cases hsm:smallI c
 ·unfold signI at h2;rw[hsm,Bool.false_or,andd,dec_iff,dec_iff]at h2;have w2:W64 (IntKind.u8.wrap (c-65))=c-65:=by
   have e1:IntKind.u8.wrap (c-65)=c-65:=by
    show(c-65) % 256=_;exact Int.emod_eq_of_lt (by omega) (by omega)
   rw[e1];exact wrap_small (by omega) (by omega)
  obtain⟨l1,l2,l3⟩:=okD5_at h1 (k:=c-65) (i:=i) (by omega) (by omega) i0 (by omega);rw[w2];change need (inb (c-65) (length ch)) (need (inb i (length (getD ch (c-65).toNat []))) (need (inb j (length (getD (getD ch (c-65).toNat []) i.toNat []))) _))=_;rw[l1,l2,l3,inb_ok (by omega) (by omega),inb_ok (by omega) (by omega),inb_ok (by omega) (by omega)];rfl
 ·rw[andd.2 ⟨h3,zT h4⟩];rfl
theorem s_spec_l8Of (ch:Den TI3) (_hch:Fit TI3 ch) (s:Str) (_hs:Fit .str s) (c:Int) (_hc:Fit (.int .u8) c) (i:Int) (_hi:Fit TI64 i) (j:Int) (_hj:Fit TI64 j) (hpre:(okD5 (length s+1) ch&&(signI c&&(okIJ s i j&&decide (length s≤1000))))=true):Sat Tryz.prog 155 [ofD TI3 ch,ofD .str s,ofD (.int .u8) c,ofD TI64 i,ofD TI64 j] [] (.d (ofD TI64 (ofS s ch c i j))) [] :=
 fn_sound (cx:=cxOf Γ82 Tryz.f155.ntmps [] [] [] []) Tryz.func155 rfl ttOk Γ82ok mixed (fun _ _=>LoopsOk.no fun _=>rfl) (ro:=true) (by
  exact s_l8Of ch s c i j hpre)
def c_spec_l8Of:Con:=conT [TI3, .str,(.int .u8),TI64,TI64] fun(ch:Den TI3) (s:Str) (c:Int) (i:Int) (j:Int)=>(some (okD5 (length s+1) ch&&(signI c&&(okIJ s i j&&decide (length s≤1000)))), .d (ofD TI64 (ofS s ch c i j)))
theorem k_spec_l8Of:ConOk Tryz.prog 155 c_spec_l8Of:=conT_ok Tryz.call155 fun ch hch s hs c hc i hi j hj hqq=>s_spec_l8Of ch hch s hs c hc i hi j hj (pre_of hqq)
def Γ83:GL:=(155,c_spec_l8Of)::Γ82
theorem Γ83ok:GO Γ83 := .cons k_spec_l8Of Γ82ok
def cb_l8r:Cx:=cxOf Γ83 Tryz.f131.ntmps [(20,[0,1,2,3,9,10,12,13,14,15,16]),(16,[0,1,2,3,9,10,12,13,14]),(12,[0,1,2,3,9,10,12]),(4,[0,1,2,3,9,10,11])] [(3,[10]),(4,[0,1,2,3,9,10,12]),(5,[0,1,2,3,9,12,13]),(6,[0,1,2,3,9,10,12,13,14]),(7,[0,1,2,3,9,10,12,13,14,15]),(8,[0,1,2,3,9,10,12,13,14,15,16]),(0,[0,1,2,3,9,10]),(1,[0,1,2,3,9,10,11]),(2,[0,1,2,3,9,10,11]),(1000000,[8])] [] []
abbrev st_r4 (ch:Den TI3) (s a:Str) (i n k j b p:Int) (row nx:List (Int)):St:=⟨[(0, .d (ofD TI3 ch)),(1,vS s),(2,vS a),(3,vI i),(9,vI n),(10, ko0),(12,vI k),(13, ko1),(14,vI j),(15,vI b),(16,vI p)],[(500000,some (.lis 3 TI64 row)),(500001,some (.lis 3 TI64 nx))]⟩
theorem x_spec_l8Row_3 (ch:D3) (s a:Str) (i n k j b p:Int) (row nx:List Int) (R:St→Option Fin) (K:Cont):evC (cb_l8r.withLoops (look [])) (loopOf Tryz.f131 3) (st_r4 ch s a i n k j b p row nx) (onward (headAt (cb_l8r.withLoops (look [])) 20) R K)=(
branch (decide (p≤j)) (
 need (inb p row.length) <|
 need (inb k a.length) <|
 need (okD5 (length s+1) ch&&(signI (byteAt a k)&&(okIJ s p j&&decide (s.length≤1000)))) <| R (st_r4 ch s a i n k j (minI b (W64 (Int.add (row.getD p.toNat 0) (ofS s ch (byteAt a k) p j)))) (W64 (p+1)) row nx)) ( K (.exit 7) (.mk [(0,(.d (.one (.r (.li TI2 ch))))),(1,vS s),(2,vS a),(3,vI i),(9,vI n),(10,ko0),(12,vI k),(13,ko1),(14,vI j),(15,vI b)] [(500000,some (.lis 3 TI64 row)),(500001,some (.lis 3 TI64 nx))]))):=by kernel_rfl
theorem smlD_ok {s:Str} {c i j:Int} (h:okIJ s i j=true) (hs:length s≤1000):0≤smlD s c i j∧smlD s c i j≤100000:=by
 obtain⟨i0,i1,i2⟩:=okIJ_iff.1 h;unfold smlD
 by_cases hij:i=j
 ·rw[zT hij,cond_true];exact⟨by decide,by decide⟩
 ·rw[zF hij,cond_false]
  cases inS (List.take (j.toNat-i.toNat) (List.drop i.toNat s)) c
  ·rw[cond_false];omega
  ·rw[cond_true];omega
theorem ofS_ok {s:Str} {ch:D3} {c i j:Int} (h1:okD5 (length s+1) ch=true) (h2:signI c=true) (h3:okIJ s i j=true) (h4:length s≤1000):0≤ofS s ch c i j∧ofS s ch c i j≤100000:=by
 obtain⟨i0,i1,i2⟩:=okIJ_iff.1 h3;unfold ofS
 cases hsm:smallI c
 ·unfold signI at h2;rw[hsm,Bool.false_or,andd,dec_iff,dec_iff]at h2;exact atD_ok h1 (by omega) (by omega) i0 (by omega) (by omega) (by omega)
 ·exact smlD_ok h3 h4
theorem minI_ok {a b:Int} (h:0≤a∧a≤100000) (h2:0≤b):0≤minI a b∧minI a b≤100000:=by
 unfold minI
 cases hc:decide (a<b)
 ·rw[cond_false];have:=of_decide_eq_false hc;omega
 ·exact h
def bestF (f:Int→Int):Nat→Int→Int→Int
 |0,_,b=>b
 |n+1,p,b=>bestF f n (p+1) (minI b (f p))
theorem bestF_ok {f:Int→Int}:∀ {n:Nat} {p b:Int},(0≤b∧b≤100000)→(∀q,p≤q→q<p+n→0≤f q)→0≤bestF f n p b∧bestF f n p b≤100000
 |0,_,_,h,_=>h
 |n+1,p,b,h,hf=>bestF_ok (n:=n) (p:=p+1) (b:=minI b (f p)) (minI_ok h (hf p (Int.le_refl _) (by omega))) fun q q1 q2=>hf q (by omega) (by omega)
def okE (e:Int):Bool:=decide (0≤e)&&decide (e≤100000)
theorem okE_iff {e:Int}:okE e=true↔0≤e∧e≤100000:=by unfold okE;rw[andd,dec_iff,dec_iff]
def okL5 (l:List Int):Bool:=List.all l okE
theorem okL5_at {l:List Int} {i:Nat} (h:okL5 l=true) (hi:i<l.length):0≤l.getD i 0∧l.getD i 0≤100000:=okE_iff.1 (all_eq_true.1 h _ (getD_mem hi))
abbrev fRow (s:Str) (ch:D3) (row:List Int) (c j:Int):Int→Int:=fun p=>row.getD p.toNat 0+ofS s ch c p j
theorem byte_sign {a:Str} {k:Int} (h:List.all a sign=true) (k0:0≤k) (k1:k<(length a:Int)):signI (byteAt a k)=true:=sign_I (all_eq_true.1 h _ (getD_mem (by omega)))
abbrev rwH (row nx:List Int):Heap:=[(500000,some (.lis 3 TI64 row)),(500001,some (.lis 3 TI64 nx))]
def cx0_r4:Cx:=(cb_l8r).withLoops (look [])
def sh_r4:Sh:=([(0, .d TI3),(1, .d .str),(2, .d .str),(3, .d TI64),(9, .d TI64),(10, .own 500000),(12, .d TI64),(13, .own 500001),(14, .d TI64),(15, .d TI64),(16, .d TI64)],[(500000, .lis 3 TI64),(500001, .lis 3 TI64)])
def pre_r4 (ch:Den TI3) (s a:Str) (_i _n k j b p:Int) (row _nx:List (Int)):Bool:=decide (0≤p)&&(decide (j≤(length s:Int))&&(okD5 (length s+1) ch&&(List.all a sign&&(decide (0≤k)&&(decide (k<(length a:Int))&&(decide (length s≤1000)&&(decide (length row=length s+1)&&(okL5 row&&okE b))))))))
def res_r4 (ch:Den TI3) (s a:Str) (i n k j b p:Int) (row nx:List (Int)) (K:Cont):Option Fin:=K (.exit 7) ⟨[(0, .d (ofD TI3 ch)),(1,vS s),(2,vS a),(3,vI i),(9,vI n),(10, ko0),(12,vI k),(13, ko1),(14,vI j),(15,vI (bestF (fRow s ch row (byteAt a k) j) (j+1-p).toNat p b))],rwH row nx⟩
def mu_r4 (_ch:Den TI3) (_s _a:Str) (_i _n _k j _b p:Int) (_row _nx:List (Int)):Nat:=(j+1-p).toNat
theorem r_r4 (ch:Den TI3) (s a:Str) (i n k j b p:Int) (row nx:List (Int)) (K:Cont) (hI:pre_r4 ch s a i n k j b p row nx=true):(∀R:St→Option Fin,evC cx0_r4 (loopOf Tryz.f131 3) (st_r4 ch s a i n k j b p row nx) (onward (headAt cx0_r4 20) R K)=res_r4 ch s a i n k j b p row nx K) ∨
  (∃(ch':Den TI3) (s' a':Str) (i' n' k' j' b' p':Int) (row' nx':List (Int)),pre_r4 ch' s' a' i' n' k' j' b' p' row' nx'=true∧mu_r4 ch' s' a' i' n' k' j' b' p' row' nx'<mu_r4 ch s a i n k j b p row nx∧res_r4 ch' s' a' i' n' k' j' b' p' row' nx' K=res_r4 ch s a i n k j b p row nx K∧∀R:St→Option Fin,evC cx0_r4 (loopOf Tryz.f131 3) (st_r4 ch s a i n k j b p row nx) (onward (headAt cx0_r4 20) R K)=R (st_r4 ch' s' a' i' n' k' j' b' p' row' nx')):=by
 have hx:=fun R=>x_spec_l8Row_3 ch s a i n k j b p row nx R K;simp only[pre_r4,andd,dec_iff]at hI;obtain⟨h0,h1,h2,h3,h4,h5,h6,h7,h8,h9⟩:=hI
 by_cases hp:p≤j
 ·have w:W64 (p+1)=p+1:=wrap_small (by omega) (by omega);have kij:okIJ s p j=true:=okIJ_iff.2 ⟨h0,hp,h1⟩;have ksg:=byte_sign h3 h4 h5;have kk:(okD5 (length s+1) ch&&(signI (byteAt a k)&&(okIJ s p j&&decide (length s≤1000))))=true:=andd.2 ⟨h2,andd.2 ⟨ksg,andd.2 ⟨kij,zT h6⟩⟩⟩;obtain⟨r0,r1⟩:=okL5_at (i:=p.toNat) h8 (by omega);obtain⟨o0,o1⟩:=ofS_ok h2 ksg kij h6;have w2:W64 (Int.add (getD row p.toNat 0) (ofS s ch (byteAt a k) p j))=fRow s ch row (byteAt a k) j p:=wrap_small (n:=getD row p.toNat 0+ofS s ch (byteAt a k) p j) (by omega) (by omega);obtain⟨m,hm⟩:∃m,(j+1-p).toNat=m+1:=⟨(j+1-p).toNat-1,by omega⟩;have hm2:(j+1-(p+1)).toNat=m:=by omega
  have hmin:=minI_ok (okE_iff.1 h9) (show 0≤fRow s ch row (byteAt a k) j p by show 0≤getD row p.toNat 0+ofS s ch (byteAt a k) p j;omega);rw[zT hp,inb_ok h0 (by omega),inb_ok h4 h5,kk,w,w2]at hx;right;refine⟨ch,s,a,i,n,k,j,minI b (fRow s ch row (byteAt a k) j p),p+1,row,nx, ?_, ?_, ?_,fun R=>hx R⟩
  ·simp only[pre_r4,andd,dec_iff];exact⟨by omega,h1,h2,h3,h4,h5,h6,h7,h8,okE_iff.2 hmin⟩
  ·simp only[mu_r4];omega
  ·simp only[res_r4,hm,hm2];rfl
 ·left;intro R;refine(hx R).trans ?_;rw[zF hp];have e:(j+1-p).toNat=0:=by omega
  simp only[res_r4,e];rfl
def g_r4:St→Cont→Option Fin:=gP sh_r4 (fun v=>match v with | ((ch,s,a,i,n,k,j,b,p,()),(row,nx,()))=>pre_r4 ch s a i n k j b p row nx) (fun v K=>match v with | ((ch,s,a,i,n,k,j,b,p,()),(row,nx,()))=>res_r4 ch s a i n k j b p row nx K)
def L_r4:LpL:=(20,g_r4)::[]
theorem l_r4 {L:LpL} (n:Nat) (h1:L.drop n=[]) (h2:idsFree (L.take n) (loopOf Tryz.f131 3)=true):LoopsTo g_r4 (cb_l8r) (loopOf Tryz.f131 3) 20 L :=
 with_drop h1 h2 (gP_ok (fun v=>match v with | ((ch,s,a,i,n,k,j,b,p,()),(row,nx,()))=>mu_r4 ch s a i n k j b p row nx) fun v K hI=>by
  obtain⟨⟨ch,s,a,i,n,k,j,b,p,⟨⟩⟩,⟨row,nx,⟨⟩⟩⟩:=v;exact(r_r4 ch s a i n k j b p row nx K hI).imp id fun⟨ch',s',a',i',n',k',j',b',p',row',nx',h⟩=>⟨((ch',s',a',i',n',k',j',b',p',()),(row',nx',())),h⟩)
abbrev st_r3 (ch:Den TI3) (s a:Str) (i n k j:Int) (row nx:List (Int)):St:=⟨[(0, .d (ofD TI3 ch)),(1,vS s),(2,vS a),(3,vI i),(9,vI n),(10, ko0),(12,vI k),(13, ko1),(14,vI j)],[(500000,some (.lis 3 TI64 row)),(500001,some (.lis 3 TI64 nx))]⟩
theorem x_spec_l8Row_2 (ch:D3) (s a:Str) (i n k j:Int) (row nx:List Int) (R:St→Option Fin) (K:Cont):evC (cb_l8r.withLoops (look L_r4)) (loopOf Tryz.f131 2) (st_r3 ch s a i n k j row nx) (onward (headAt (cb_l8r.withLoops (look L_r4)) 16) R K)=(
branch (decide (j<n)) (
 need (pre_r4 ch s a i n k j 100000 i row nx) <|
 need (fits (nx.length+[bestF (fRow s ch row (byteAt a k) j) (j+1-i).toNat i 100000].length) Tryz.t3.bytes) <| R (st_r3 ch s a i n k (W64 (j+1)) row (nx.append [bestF (fRow s ch row (byteAt a k) j) (j+1-i).toNat i 100000]))) ( K (.exit 5) (.mk [(0,(.d (.one (.r (.li TI2 ch))))),(1,vS s),(2,vS a),(3,vI i),(9,vI n),(12,vI k),(13,ko0)] [(500000,some (.lis 3 TI64 nx))]))):=by kernel_rfl
def nextF (s:Str) (ch:D3) (row:List Int) (c i:Int):Nat→Int→List Int
 |0,_=>[]
 |n+1,j=>bestF (fRow s ch row c j) (j+1-i).toNat i 100000::nextF s ch row c i n (j+1)
theorem nextF_len {s:Str} {ch:D3} {row:List Int} {c i:Int}:∀ {n:Nat} {j:Int},(nextF s ch row c i n j).length=n
 |0,_=>rfl
 |n+1,j=>by
  unfold nextF;rw[length_cons,nextF_len]
theorem bestR_ok {s:Str} {ch:D3} {row:List Int} {c i j:Int} (h1:okD5 (length s+1) ch=true) (h2:signI c=true) (i0:0≤i) (j1:j≤(length s:Int)) (h4:length s≤1000) (hl:length row=length s+1) (hr:okL5 row=true):0≤bestF (fRow s ch row c j) (j+1-i).toNat i 100000∧bestF (fRow s ch row c j) (j+1-i).toNat i 100000≤100000:=by
 refine bestF_ok ⟨by decide,by decide⟩ fun q q0 q1 => ?_;have:=okL5_at (i:=q.toNat) hr (by omega);have:=ofS_ok (s:=s) (ch:=ch) (c:=c) (i:=q) (j:=j) h1 h2 (okIJ_iff.2 ⟨by omega,by omega,j1⟩) h4;show 0≤getD row q.toNat 0+ofS s ch c q j;omega
theorem nextF_ok {s:Str} {ch:D3} {row:List Int} {c i:Int} (h1:okD5 (length s+1) ch=true) (h2:signI c=true) (i0:0≤i) (h4:length s≤1000) (hl:length row=length s+1) (hr:okL5 row=true):∀ {n:Nat} {j:Int},j+n≤(length s:Int)+1→okL5 (nextF s ch row c i n j)=true
 |0,_,_=>rfl
 |n+1,j,hj=>by
  unfold nextF;exact andd.2 ⟨okE_iff.2 (bestR_ok h1 h2 i0 (by omega) h4 hl hr),nextF_ok h1 h2 i0 h4 hl hr (n:=n) (j:=j+1) (by omega)⟩
def cx0_r3:Cx:=(cb_l8r).withLoops (look L_r4)
def sh_r3:Sh:=([(0, .d TI3),(1, .d .str),(2, .d .str),(3, .d TI64),(9, .d TI64),(10, .own 500000),(12, .d TI64),(13, .own 500001),(14, .d TI64)],[(500000, .lis 3 TI64),(500001, .lis 3 TI64)])
def pre_r3 (ch:Den TI3) (s a:Str) (i n k j:Int) (row nx:List (Int)):Bool:=decide (0≤i)&&(decide (0≤j)&&(decide (n=(length s:Int)+1)&&(okD5 (length s+1) ch&&(List.all a sign&&(decide (0≤k)&&(decide (k<(length a:Int))&&(decide (length s≤1000)&&(decide (length row=length s+1)&&(okL5 row&&decide ((length nx:Int)=j))))))))))
def res_r3 (ch:Den TI3) (s a:Str) (i n k j:Int) (row nx:List (Int)) (K:Cont):Option Fin:=K (.exit 5) ⟨[(0, .d (ofD TI3 ch)),(1,vS s),(2,vS a),(3,vI i),(9,vI n),(12,vI k),(13, ko0)],[(500000,some (.lis 3 TI64 (nx++nextF s ch row (byteAt a k) i (n-j).toNat j)))]⟩
def mu_r3 (_ch:Den TI3) (_s _a:Str) (_i n _k j:Int) (_row _nx:List (Int)):Nat:=(n-j).toNat
theorem r_r3 (ch:Den TI3) (s a:Str) (i n k j:Int) (row nx:List (Int)) (K:Cont) (hI:pre_r3 ch s a i n k j row nx=true):(∀R:St→Option Fin,evC cx0_r3 (loopOf Tryz.f131 2) (st_r3 ch s a i n k j row nx) (onward (headAt cx0_r3 16) R K)=res_r3 ch s a i n k j row nx K) ∨
  (∃(ch':Den TI3) (s' a':Str) (i' n' k' j':Int) (row' nx':List (Int)),pre_r3 ch' s' a' i' n' k' j' row' nx'=true∧mu_r3 ch' s' a' i' n' k' j' row' nx'<mu_r3 ch s a i n k j row nx∧res_r3 ch' s' a' i' n' k' j' row' nx' K=res_r3 ch s a i n k j row nx K∧∀R:St→Option Fin,evC cx0_r3 (loopOf Tryz.f131 2) (st_r3 ch s a i n k j row nx) (onward (headAt cx0_r3 16) R K)=R (st_r3 ch' s' a' i' n' k' j' row' nx')):=by
 have hx:=fun R=>x_spec_l8Row_2 ch s a i n k j row nx R K;simp only[pre_r3,andd,dec_iff]at hI;obtain⟨h0,h1,hn,h2,h3,h4,h5,h6,h7,h8,h9⟩:=hI
 by_cases hj:j<n
 ·have w:W64 (j+1)=j+1:=wrap_small (by omega) (by omega);have hok:=bestR_ok (j:=j) h2 (byte_sign h3 h4 h5) h0 (by omega) h6 h7 h8;have hp:pre_r4 ch s a i n k j 100000 i row nx=true:=by
   simp only[pre_r4,andd,dec_iff];exact⟨h0,by omega,h2,h3,h4,h5,h6,h7,h8,rfl⟩
  have hf:fits (nx.length+[bestF (fRow s ch row (byteAt a k) j) (j+1-i).toNat i 100000].length) Tryz.t3.bytes=true:=fits_ok (by show nx.length+1≤_;omega) (by decide);obtain⟨m,hm⟩:∃m,(n-j).toNat=m+1:=⟨(n-j).toNat-1,by omega⟩;have hm2:(n-(j+1)).toNat=m:=by omega
  rw[zT hj,hp,hf,w]at hx;right;refine⟨ch,s,a,i,n,k,j+1,row,nx++[bestF (fRow s ch row (byteAt a k) j) (j+1-i).toNat i 100000], ?_, ?_, ?_,fun R=>hx R⟩
  ·simp only[pre_r3,andd,dec_iff];rw[length_append];exact⟨h0,by omega,hn,h2,h3,h4,h5,h6,h7,h8,by show((nx.length+1:Nat):Int)=_;omega⟩
  ·simp only[mu_r3];omega
  ·simp only[res_r3,hm,hm2,append_assoc];rfl
 ·left;intro R;refine(hx R).trans ?_;rw[zF hj];have e:(n-j).toNat=0:=by omega
  simp only[res_r3,e,nextF,List.append_nil];rfl
def g_r3:St→Cont→Option Fin:=gP sh_r3 (fun v=>match v with | ((ch,s,a,i,n,k,j,()),(row,nx,()))=>pre_r3 ch s a i n k j row nx) (fun v K=>match v with | ((ch,s,a,i,n,k,j,()),(row,nx,()))=>res_r3 ch s a i n k j row nx K)
def L_r3:LpL:=(16,g_r3)::L_r4
theorem l_r3 {L:LpL} (n:Nat) (h1:L.drop n=L_r4) (h2:idsFree (L.take n) (loopOf Tryz.f131 2)=true):LoopsTo g_r3 (cb_l8r) (loopOf Tryz.f131 2) 16 L :=
 with_drop h1 h2 (gP_ok (fun v=>match v with | ((ch,s,a,i,n,k,j,()),(row,nx,()))=>mu_r3 ch s a i n k j row nx) fun v K hI=>by
  obtain⟨⟨ch,s,a,i,n,k,j,⟨⟩⟩,⟨row,nx,⟨⟩⟩⟩:=v;exact(r_r3 ch s a i n k j row nx K hI).imp id fun⟨ch',s',a',i',n',k',j',row',nx',h⟩=>⟨((ch',s',a',i',n',k',j',()),(row',nx',())),h⟩)
abbrev st_r2 (ch:Den TI3) (s a:Str) (i n k:Int) (row:List (Int)):St:=⟨[(0, .d (ofD TI3 ch)),(1,vS s),(2,vS a),(3,vI i),(9,vI n),(10, ko0),(12,vI k)],[(500000,some (.lis 3 TI64 row))]⟩
theorem x_spec_l8Row_1 (ch:D3) (s a:Str) (i n k:Int) (row:List Int) (R:St→Option Fin) (K:Cont):evC (cb_l8r.withLoops (look L_r3)) (loopOf Tryz.f131 1) (st_r2 ch s a i n k row) (onward (headAt (cb_l8r.withLoops (look L_r3)) 12) R K)=(
branch (decide (k<(a.length:Int))) (
 need (pre_r3 ch s a i n k 0 row []) <| R (st_r2 ch s a i n (W64 (k+1)) (id (nextF s ch row (byteAt a k) i (n-0).toNat 0)))) ( K (.exit 3) (.mk [(10,ko0)] [(500000,some (.lis 3 TI64 row))]))):=by kernel_rfl
def rowsF (s:Str) (ch:D3) (i:Int):Str→List Int→List Int
 | [],row=>row
 |c::r,row=>rowsF s ch i r (nextF s ch row (c.toNat:Int) i (length s+1) 0)
theorem rowsF_ok {s:Str} {ch:D3} {i:Int} (h1:okD5 (length s+1) ch=true) (i0:0≤i) (h4:length s≤1000):∀ {r:Str} {row:List Int},List.all r sign=true→length row=length s+1→okL5 row=true→length (rowsF s ch i r row)=length s+1∧okL5 (rowsF s ch i r row)=true
 | [],_,_,hl,h=>⟨hl,h⟩
 |c::r,row,ha,hl,h=>by
  rw[List.all_cons,andd]at ha;unfold rowsF;exact rowsF_ok h1 i0 h4 (r:=r) ha.2 nextF_len (nextF_ok h1 (sign_I ha.1) i0 h4 hl h (by omega))
theorem rowsF_at {s:Str} {ch:D3} {i k:Int} {a:Str} {row:List Int} (k0:0≤k) (k1:k<(length a:Int)):rowsF s ch i (List.drop k.toNat a) row=rowsF s ch i (List.drop (k+1).toNat a) (nextF s ch row (byteAt a k) i (length s+1) 0):=by
 have hn:k.toNat<length a:=by omega
 have hb:byteAt a k=((a[k.toNat]).toNat:Int):=by
  unfold byteAt;rw[zG,zE hn];rfl
 rw[drop_eq_getElem_cons hn,show (k+1).toNat=k.toNat+1 by omega,hb];rfl
def cx0_r2:Cx:=(cb_l8r).withLoops (look L_r3)
def sh_r2:Sh:=([(0, .d TI3),(1, .d .str),(2, .d .str),(3, .d TI64),(9, .d TI64),(10, .own 500000),(12, .d TI64)],[(500000, .lis 3 TI64)])
def pre_r2 (ch:Den TI3) (s a:Str) (i n k:Int) (row:List (Int)):Bool:=decide (0≤i)&&(decide (0≤k)&&(decide (n=(length s:Int)+1)&&(okD5 (length s+1) ch&&(List.all a sign&&(decide (length a≤1000)&&(decide (length s≤1000)&&(decide (length row=length s+1)&&okL5 row)))))))
def res_r2 (ch:Den TI3) (s a:Str) (i _n k:Int) (row:List (Int)) (K:Cont):Option Fin:=K (.exit 3) ⟨[(10, ko0)],[(500000,some (.lis 3 TI64 (rowsF s ch i (List.drop k.toNat a) row)))]⟩
def mu_r2 (_ch:Den TI3) (_s a:Str) (_i _n k:Int) (_row:List (Int)):Nat:=length a-k.toNat
theorem r_r2 (ch:Den TI3) (s a:Str) (i n k:Int) (row:List (Int)) (K:Cont) (hI:pre_r2 ch s a i n k row=true):(∀R:St→Option Fin,evC cx0_r2 (loopOf Tryz.f131 1) (st_r2 ch s a i n k row) (onward (headAt cx0_r2 12) R K)=res_r2 ch s a i n k row K) ∨
  (∃(ch':Den TI3) (s' a':Str) (i' n' k':Int) (row':List (Int)),pre_r2 ch' s' a' i' n' k' row'=true∧mu_r2 ch' s' a' i' n' k' row'<mu_r2 ch s a i n k row∧res_r2 ch' s' a' i' n' k' row' K=res_r2 ch s a i n k row K∧∀R:St→Option Fin,evC cx0_r2 (loopOf Tryz.f131 1) (st_r2 ch s a i n k row) (onward (headAt cx0_r2 12) R K)=R (st_r2 ch' s' a' i' n' k' row')):=by
 have hx:=fun R=>x_spec_l8Row_1 ch s a i n k row R K;simp only[pre_r2,andd,dec_iff]at hI;obtain⟨h0,h1,hn,h2,h3,h4,h6,h7,h8⟩:=hI
 by_cases hk:k<(length a:Int)
 ·have w:W64 (k+1)=k+1:=wrap_small (by omega) (by omega);have hp:pre_r3 ch s a i n k 0 row []=true:=by
   simp only[pre_r3,andd,dec_iff];exact⟨h0,Int.le_refl 0,hn,h2,h3,h1,hk,h6,h7,h8,rfl⟩
  have hm:(n-0).toNat=length s+1:=by omega
  have hg:=rowsF_at (s:=s) (ch:=ch) (i:=i) (row:=row) h1 hk;have hok:=nextF_ok (n:=length s+1) (j:=0) h2 (byte_sign h3 h1 hk) h0 h6 h7 h8 (by omega);rw[zT hk,hp,w,hm]at hx;right;refine⟨ch,s,a,i,n,k+1,nextF s ch row (byteAt a k) i (length s+1) 0, ?_, ?_, ?_,fun R=>hx R⟩
  ·simp only[pre_r2,andd,dec_iff];exact⟨h0,by omega,hn,h2,h3,h4,h6,nextF_len,hok⟩
  ·simp only[mu_r2];omega
  ·simp only[res_r2,hg]
 ·left;intro R;refine(hx R).trans ?_;rw[zF hk];have e:List.drop k.toNat a=[]:=drop_eq_nil_of_le (by omega);simp only[res_r2,e];rfl
def g_r2:St→Cont→Option Fin:=gP sh_r2 (fun v=>match v with | ((ch,s,a,i,n,k,()),(row,()))=>pre_r2 ch s a i n k row) (fun v K=>match v with | ((ch,s,a,i,n,k,()),(row,()))=>res_r2 ch s a i n k row K)
def L_r2:LpL:=(12,g_r2)::L_r3
theorem l_r2 {L:LpL} (n:Nat) (h1:L.drop n=L_r3) (h2:idsFree (L.take n) (loopOf Tryz.f131 1)=true):LoopsTo g_r2 (cb_l8r) (loopOf Tryz.f131 1) 12 L :=
 with_drop h1 h2 (gP_ok (fun v=>match v with | ((ch,s,a,i,n,k,()),(row,()))=>mu_r2 ch s a i n k row) fun v K hI=>by
  obtain⟨⟨ch,s,a,i,n,k,⟨⟩⟩,⟨row,⟨⟩⟩⟩:=v;exact(r_r2 ch s a i n k row K hI).imp id fun⟨ch',s',a',i',n',k',row',h⟩=>⟨((ch',s',a',i',n',k',()),(row',())),h⟩)
abbrev st_r1 (ch:Den TI3) (s a:Str) (i n j:Int) (row:List (Int)):St:=⟨[(0, .d (ofD TI3 ch)),(1,vS s),(2,vS a),(3,vI i),(9,vI n),(10, ko0),(11,vI j)],[(500000,some (.lis 3 TI64 row))]⟩
theorem x_spec_l8Row (ch:D3) (s a:Str) (i n j:Int) (row:List Int) (R:St→Option Fin) (K:Cont):evC (cb_l8r.withLoops (look L_r2)) (loopOf Tryz.f131 0) (st_r1 ch s a i n j row) (onward (headAt (cb_l8r.withLoops (look L_r2)) 4) R K)=(
branch (decide (j<n)) (
 branch (bif decide (a=[])then decide (i≤j)else false) (
 need (fits (row.length+[W64 (j-i)].length) Tryz.t3.bytes) <| R (st_r1 ch s a i n (W64 (j+1)) (row.append [W64 (j-i)]))) (
 branch (decide (j=i)) (
  need (fits (row.length+[0].length) Tryz.t3.bytes) <| R (st_r1 ch s a i n (W64 (j+1)) (row.append [0]))) (
  need (fits (row.length+[100000].length) Tryz.t3.bytes) <| R (st_r1 ch s a i n (W64 (j+1)) (row.append [100000]))))) ( K (.exit 0) (.mk [(0,(.d (.one (.r (.li TI2 ch))))),(1,vS s),(2,vS a),(3,vI i),(9,vI n),(10,ko0)] [(500000,some (.lis 3 TI64 row))]))):=by kernel_rfl
def e0 (a:Str) (i j:Int):Int:=bif (bif decide (a=[])then decide (i≤j)else false)then j-i else bif decide (j=i)then 0 else 100000
def initF (a:Str) (i:Int):Nat→Int→List Int
 |0,_=>[]
 |n+1,j=>e0 a i j::initF a i n (j+1)
theorem initF_len {a:Str} {i:Int}:∀ {n:Nat} {j:Int},(initF a i n j).length=n
 |0,_=>rfl
 |n+1,j=>by
  unfold initF;rw[length_cons,initF_len]
theorem e0_ok {a:Str} {i j:Int} (i0:0≤i) (j1:j≤1000):0≤e0 a i j∧e0 a i j≤100000:=by
 unfold e0
 cases hc:(bif decide (a=[])then decide (i≤j)else false)
 ·rw[cond_false]
  cases decide (j=i)
  ·exact ⟨by decide,by decide⟩
  ·exact ⟨by decide,by decide⟩
 ·rw[cond_true]
  cases ha:decide (a=[])
  ·rw[ha]at hc;cases hc
  ·rw[ha,cond_true,dec_iff]at hc;omega
theorem initF_ok {a:Str} {i:Int} (i0:0≤i):∀ {n:Nat} {j:Int},j+n≤1001→okL5 (initF a i n j)=true
 |0,_,_=>rfl
 |n+1,j,h=>by
  unfold initF;exact andd.2 ⟨okE_iff.2 (e0_ok i0 (by omega)),initF_ok i0 (n:=n) (j:=j+1) (by omega)⟩
def cx0_r1:Cx:=(cb_l8r).withLoops (look L_r2)
def sh_r1:Sh:=([(0, .d TI3),(1, .d .str),(2, .d .str),(3, .d TI64),(9, .d TI64),(10, .own 500000),(11, .d TI64)],[(500000, .lis 3 TI64)])
def pre_r1 (_ch:Den TI3) (_s _a:Str) (i n j:Int) (row:List (Int)):Bool:=decide (0≤i)&&(decide (0≤j)&&(decide (n≤1001)&&decide ((length row:Int)=j)))
def res_r1 (ch:Den TI3) (s a:Str) (i n j:Int) (row:List (Int)) (K:Cont):Option Fin:=K (.exit 0) ⟨[(0, .d (ofD TI3 ch)),(1,vS s),(2,vS a),(3,vI i),(9,vI n),(10, ko0)],[(500000,some (.lis 3 TI64 (row++initF a i (n-j).toNat j)))]⟩
def mu_r1 (_ch:Den TI3) (_s _a:Str) (_i n j:Int) (_row:List (Int)):Nat:=(n-j).toNat
theorem r_r1 (ch:Den TI3) (s a:Str) (i n j:Int) (row:List (Int)) (K:Cont) (hI:pre_r1 ch s a i n j row=true):(∀R:St→Option Fin,evC cx0_r1 (loopOf Tryz.f131 0) (st_r1 ch s a i n j row) (onward (headAt cx0_r1 4) R K)=res_r1 ch s a i n j row K) ∨
  (∃(ch':Den TI3) (s' a':Str) (i' n' j':Int) (row':List (Int)),pre_r1 ch' s' a' i' n' j' row'=true∧mu_r1 ch' s' a' i' n' j' row'<mu_r1 ch s a i n j row∧res_r1 ch' s' a' i' n' j' row' K=res_r1 ch s a i n j row K∧∀R:St→Option Fin,evC cx0_r1 (loopOf Tryz.f131 0) (st_r1 ch s a i n j row) (onward (headAt cx0_r1 4) R K)=R (st_r1 ch' s' a' i' n' j' row')):=by
 have hx:=fun R=>x_spec_l8Row ch s a i n j row R K;simp only[pre_r1,andd,dec_iff]at hI;obtain⟨h0,h1,h2,h3⟩:=hI
 by_cases hj:j<n
 ·have w:W64 (j+1)=j+1:=wrap_small (by omega) (by omega);have w2:W64 (j-i)=j-i∨¬i≤j:=by
   by_cases hij:i≤j
   ·exact .inl (wrap_small (by omega) (by omega))
   ·exact .inr hij
  have hf:fits (row.length+1) Tryz.t3.bytes=true:=fits_ok (by omega) (by decide);obtain⟨m,hm⟩:∃m,(n-j).toNat=m+1:=⟨(n-j).toNat-1,by omega⟩;have hm2:(n-(j+1)).toNat=m:=by omega
  change ∀R:St→Option Fin,_=branch (decide (j<n)) (branch (bif decide (a=[])then decide (i≤j)else false) (need (fits (row.length+1) Tryz.t3.bytes) _) (branch (decide (j=i)) (need (fits (row.length+1) Tryz.t3.bytes) _) (need (fits (row.length+1) Tryz.t3.bytes) _))) _ at hx;rw[zT hj,hf,w]at hx;right;refine⟨ch,s,a,i,n,j+1,row++[e0 a i j], ?_, ?_, ?_,fun R=>(hx R).trans ?_⟩
  ·simp only[pre_r1,andd,dec_iff];rw[length_append];exact⟨h0,by omega,h2,by show((row.length+1:Nat):Int)=_;omega⟩
  ·simp only[mu_r1];omega
  ·simp only[res_r1,hm,hm2,append_assoc];rfl
  ·unfold e0
   cases hc:(bif decide (a=[])then decide (i≤j)else false)
   ·cases decide (j=i)<;>rfl
   ·rcases w2 with w2 | w2
    ·rw[w2];rfl
    ·rw[zF w2]at hc
     cases ha:decide (a=[])<;>rw[ha]at hc<;>cases hc
 ·left;intro R;refine(hx R).trans ?_;rw[zF hj];have e:(n-j).toNat=0:=by omega
  simp only[res_r1,e,initF,List.append_nil];rfl
def g_r1:St→Cont→Option Fin:=gP sh_r1 (fun v=>match v with | ((ch,s,a,i,n,j,()),(row,()))=>pre_r1 ch s a i n j row) (fun v K=>match v with | ((ch,s,a,i,n,j,()),(row,()))=>res_r1 ch s a i n j row K)
def L_r1:LpL:=(4,g_r1)::L_r2
def cx_r1:Cx:=(cb_l8r).withLoops (look L_r1)
theorem l_r1 {L:LpL} (n:Nat) (h1:L.drop n=L_r2) (h2:idsFree (L.take n) (loopOf Tryz.f131 0)=true):LoopsTo g_r1 (cb_l8r) (loopOf Tryz.f131 0) 4 L :=
 with_drop h1 h2 (gP_ok (fun v=>match v with | ((ch,s,a,i,n,j,()),(row,()))=>mu_r1 ch s a i n j row) fun v K hI=>by
  obtain⟨⟨ch,s,a,i,n,j,⟨⟩⟩,⟨row,⟨⟩⟩⟩:=v;exact(r_r1 ch s a i n j row K hI).imp id fun⟨ch',s',a',i',n',j',row',h⟩=>⟨((ch',s',a',i',n',j',()),(row',())),h⟩)
def rowV (s:Str) (ch:D3) (a:Str) (i:Int):List Int:=rowsF s ch i a (initF a i (length s+1) 0)
theorem y_spec_l8Row (ch:Den TI3) (s:Str) (a:Str) (i:Int):evFn cx_r1 Tryz.f131 false [ofD TI3 ch,ofD .str s,ofD .str a,ofD TI64 i] []=(
need (pre_r1 ch s a i (W64 ((s.length:Int)+1)) 0 []) <|
need (pre_r2 ch s a i (W64 ((s.length:Int)+1)) 0 (id (initF a i (W64 ((s.length:Int)+1)-0).toNat 0))) <| some ((.d (.one (.own 1000))),[(1000,(.some (.lis 3 TI64 (rowsF s ch i a (id (initF a i (W64 ((s.length:Int)+1)-0).toNat 0))))))])):=by kernel_rfl
theorem s_spec_l8Row (ch:Den TI3) (_hch:Fit TI3 ch) (s:Str) (_hs:Fit .str s) (a:Str) (_ha:Fit .str a) (i:Int) (_hi:Fit TI64 i) (hpre:(decide (0≤i)&&(okD5 (length s+1) ch&&(List.all a sign&&(decide (length a≤1000)&&decide (length s≤1000)))))=true):Sat Tryz.prog 131 [ofD TI3 ch,ofD .str s,ofD .str a,ofD TI64 i] [] (.d (.one (.own 1000))) ([(1000,some (.lis 3 TI64 (rowV s ch a i)))]) :=
 fn_sound (cx:=cx_r1) Tryz.func131 rfl ttOk Γ83ok mixed (fun c hc=>LoopsOk.all (l:=[(4,loopOf Tryz.f131 0),(12,loopOf Tryz.f131 1),(16,loopOf Tryz.f131 2),(20,loopOf Tryz.f131 3)]) (by cases hc;kernel_rfl) ⟨atLoop rfl (l_r1 1 rfl (by kernel_rfl)),atLoop rfl (l_r2 2 rfl (by kernel_rfl)),atLoop rfl (l_r3 3 rfl (by kernel_rfl)),atLoop rfl (l_r4 4 rfl (by kernel_rfl)),trivial⟩) (ro:=false) (by
  simp only[andd,dec_iff]at hpre;obtain⟨h0,h1,h2,h3,h4⟩:=hpre;have w:W64 ((length s:Int)+1)=(length s:Int)+1:=wrap_small (by omega) (by omega);have e1:((length s:Int)+1-0).toNat=length s+1:=by omega
  have p1:pre_r1 ch s a i ((length s:Int)+1) 0 []=true:=by
   simp only[pre_r1,andd,dec_iff];exact⟨h0,Int.le_refl 0,by omega,rfl⟩
  have p2:pre_r2 ch s a i ((length s:Int)+1) 0 (initF a i (length s+1) 0)=true:=by
   simp only[pre_r2,andd,dec_iff];exact⟨h0,Int.le_refl 0,trivial,h1,h2,h3,h4,initF_len,initF_ok h0 (by omega)⟩
  rw[y_spec_l8Row,w,e1];change need (pre_r1 ch s a i ((length s:Int)+1) 0 []) (need (pre_r2 ch s a i ((length s:Int)+1) 0 (initF a i (length s+1) 0)) _)=_;rw[p1,p2];rfl)
def c_spec_l8Row:Con:=conN [TI3, .str, .str,TI64] fun(ch:Den TI3) (s:Str) (a:Str) (i:Int)=>(some (decide (0≤i)&&(okD5 (length s+1) ch&&(List.all a sign&&(decide (length a≤1000)&&decide (length s≤1000))))), .d (.one (.own 1000)),[(1000,some (.lis 3 TI64 (rowV s ch a i)))])
theorem k_spec_l8Row:ConOk Tryz.prog 131 c_spec_l8Row:=conN_ok Tryz.call131 fun ch hch s hs a ha i hi hqq=>s_spec_l8Row ch hch s hs a ha i hi (pre_of hqq)
def Γ84:GL:=(131,c_spec_l8Row)::Γ83
theorem Γ84ok:GO Γ84 := .cons k_spec_l8Row Γ83ok
theorem rowV_ok {s:Str} {ch:D3} {a:Str} {i:Int} (h0:0≤i) (h1:okD5 (length s+1) ch=true) (h2:List.all a sign=true) (h4:length s≤1000):length (rowV s ch a i)=length s+1∧okL5 (rowV s ch a i)=true:=rowsF_ok h1 h0 h4 h2 initF_len (initF_ok h0 (by omega))
abbrev us3:List Nat:=[107,68,3]
abbrev us2:List Nat:=[68,3]
def cb_l8c:Cx:=cxOf Γ84 Tryz.f99.ntmps [(29,[1,2,5,6,12,13,14,15,16,17]),(25,[1,2,5,6,12,13,14,15]),(21,[1,2,5,6,12,13]),(18,[1,2,5,6,12]),(12,[1,2,5,6,7,8,9,10,11]),(8,[1,2,5,6,7,8,9]),(4,[1,2,5,6,7])] [(6,[6]),(7,[1,2,5,6,12]),(8,[1,2,5,6,12]),(9,[1,2,5,6,12,13]),(10,[1,2,5,6,12,13]),(11,[1,2,5,6,12,13,14,15]),(12,[1,2,5,6,12,13,14,15]),(13,[1,2,5,6,12,13,14,15,16,17]),(0,[1,2,5,6]),(1,[1,2,5,6,7]),(2,[1,2,5,6,7,8]),(3,[1,2,5,6,7,8,9]),(4,[1,2,5,6,7,8,9,10]),(5,[1,2,5,6,7,8,9,10,11]),(1000000,[4])] [] []
abbrev l8H (g:Gram) (ch:D3):Heap:=[(500000,some (boxD 25 TG g)),(500001,some (.deep us3 TI2 ch))]
theorem x_spec_l8Costs_6 (g:Gram) (ch:D3) (s:Str) (n ri k i j:Int) (b:Bool) (row:List Int) (R:St→Option Fin) (K:Cont):evC (cb_l8c.withLoops (look [])) (loopOf Tryz.f99 6) ⟨[(1,vS s),(2, kp0),(5,vI n),(6, .d (.one (.dsl 500001 []))),(12,vB b),(13,vI ri),(14,vI k),(15,vI i),(16, ko2),(17,vI j)],l8H g ch++[(500002,some (.lis 3 TI64 row))]⟩ (onward (headAt (cb_l8c.withLoops (look [])) 29) R K)=(
branch (decide (j<n)) (
 need (inb j row.length) <|
 need (inb k ch.length) <|
 need (inb i (getD ch k.toNat []).length) <|
 need (inb j ((getD ch k.toNat []).getD i.toNat []).length) <|
 branch (decide ((row.getD j.toNat 0)<(((getD ch k.toNat []).getD i.toNat []).getD j.toNat 0))) (
 need (inb k ch.length) <|
 need (inb i (getD ch k.toNat []).length) <|
 need (inb j row.length) <|
 need (inb j ((getD ch k.toNat []).getD i.toNat []).length) <| R (.mk [(1,vS s),(2,kp0),(5,vI n),(6,(.d (.one (.dsl 500001 ([]))))),(12,vB true),(13,vI ri),(14,vI k),(15,vI i),(16,ko2),(17,vI (W64 (j+1)))] [(500000,some (boxD 25 TG g)),(500001,(.some (.deep us3 TI2 (List.set ch k.toNat ((getD ch k.toNat []).set i.toNat (((getD ch k.toNat []).getD i.toNat []).set j.toNat (row.getD j.toNat 0))))))),(500002,some (.lis 3 TI64 row))])) ( R (.mk [(1,vS s),(2,kp0),(5,vI n),(6,(.d (.one (.dsl 500001 ([]))))),(12,vB b),(13,vI ri),(14,vI k),(15,vI i),(16,ko2),(17,vI (W64 (j+1)))] [(500000,some (boxD 25 TG g)),(500001,(.some (.deep us3 TI2 ch))),(500002,some (.lis 3 TI64 row))]))) ( K (.exit 12) (.mk [(1,vS s),(2,kp0),(5,vI n),(6,(.d (.one (.dsl 500001 ([]))))),(12,vB b),(13,vI ri),(14,vI k),(15,vI i)] [(500000,some (boxD 25 TG g)),(500001,(.some (.deep us3 TI2 ch)))]))):=by kernel_rfl
def setD (ch:D3) (k i j v:Int):D3:=List.set ch k.toNat (List.set (getD ch k.toNat []) i.toNat (List.set (getD (getD ch k.toNat []) i.toNat []) j.toNat v))
def atM (ch:D3) (a b c:Nat):Int:=getD (getD (getD ch a []) b []) c 0
theorem okD5_set {n:Nat} {ch:D3} (h:okD5 n ch=true) {k i j v:Int} (k0:0≤k) (k1:k<5) (i0:0≤i) (i1:i<(n:Int)) (hv:0≤v∧v≤100000):okD5 n (setD ch k i j v)=true:=by
 obtain⟨l1,l2,l3⟩:=okD5_at h k0 k1 i0 i1;obtain⟨h1,h2⟩:=okD5_iff.1 h;have h3:=h2 (getD ch k.toNat []) (getD_mem (by omega));refine okD5_iff.2 ⟨by unfold setD;rw[length_set];exact h1,fun r hr => ?_⟩;unfold setD at hr;rcases List.mem_or_eq_of_mem_set hr with hr | rfl
 ·exact h2 r hr
 ·refine ⟨by rw[length_set];exact l2,fun q hq => ?_⟩;rcases List.mem_or_eq_of_mem_set hq with hq | rfl
  ·exact h3.2 q hq
  ·refine ⟨by rw[length_set];exact l3,fun e he => ?_⟩;rcases List.mem_or_eq_of_mem_set he with he | rfl
   ·exact (h3.2 (getD (getD ch k.toNat []) i.toNat []) (getD_mem (by omega))).2 e he
   ·exact hv
theorem atM_set {n:Nat} {ch:D3} (h:okD5 n ch=true) {k i j v:Int} (k0:0≤k) (k1:k<5) (i0:0≤i) (i1:i<(n:Int)) (j0:0≤j) (j1:j<(n:Int)) {a b c:Nat}:atM (setD ch k i j v) a b c=if a=k.toNat∧b=i.toNat∧c=j.toNat then v else atM ch a b c:=by
 obtain⟨l1,l2,l3⟩:=okD5_at h k0 k1 i0 i1;unfold atM setD;rw[getD_set (by omega)]
 by_cases e1:k.toNat=a
 ·rw[if_pos e1,getD_set (by omega)]
  by_cases e2:i.toNat=b
  ·rw[if_pos e2,getD_set (by omega)]
   by_cases e3:j.toNat=c
   ·rw[if_pos e3,if_pos ⟨e1.symm,e2.symm,e3.symm⟩]
   ·rw[if_neg e3,if_neg (fun q=>e3 q.2.2.symm),e1,e2]
  ·rw[if_neg e2,if_neg (fun q=>e2 q.2.1.symm),e1]
 ·rw[if_neg e1,if_neg (fun q=>e1 q.1.symm)]
def minsL (k i:Int) (row:List Int):Nat→Int→D3×Bool→D3×Bool
 |0,_,p=>p
 |n+1,j,p=>minsL k i row n (j+1) (bif decide (row.getD j.toNat 0<atD p.1 k i j)then(setD p.1 k i j (row.getD j.toNat 0),true)else p)
abbrev MinsOk (n:Nat) (k i:Int) (row:List Int) (m:Nat) (j:Int) (p:D3×Bool):Prop :=
  okD5 n (minsL k i row m j p).1=true∧(∀a b c,atM (minsL k i row m j p).1 a b c≤atM p.1 a b c) ∧
  ((minsL k i row m j p).2=true→p.2=true∨∃c:Nat,c<n∧atM (minsL k i row m j p).1 k.toNat i.toNat c<atM p.1 k.toNat i.toNat c) ∧
  ((minsL k i row m j p).2=false→p.2=false∧minsL k i row m j p=p∧∀q,j≤q→q<j+m→atD p.1 k i q≤row.getD q.toNat 0) ∧
  (∀a b c,atM (minsL k i row m j p).1 a b c=atM p.1 a b c∨(a=k.toNat∧b=i.toNat∧(j≤(c:Int)∧(c:Int)<j+m)∧atM (minsL k i row m j p).1 a b c=row.getD c 0))
theorem mins_step {n:Nat} {k i:Int} {row:List Int} (k0:0≤k) (k1:k<5) (i0:0≤i) (i1:i<(n:Int)) (hr:okL5 row=true) (hl:row.length=n):∀ {m:Nat} {j:Int} {p:D3×Bool},0≤j→j+m≤(n:Int)→okD5 n p.1=true →
  MinsOk n k i row m j p
 |0,j,p,_,_,h=>⟨h,fun _ _ _=>Int.le_refl _,fun h => .inl h,fun h=>⟨h,rfl,fun q q0 q1=>by omega⟩,fun _ _ _ => .inl rfl⟩
 |m+1,j,p,j0,j1,h=>by
  unfold MinsOk minsL
  cases hc:decide (row.getD j.toNat 0<atD p.1 k i j)
  ·rw[cond_false];obtain⟨a1,a2,a3,a4,a5⟩:=mins_step k0 k1 i0 i1 hr hl (m:=m) (j:=j+1) (p:=p) (by omega) (by omega) h;refine⟨a1,a2,a3,fun hf => ?_,fun a b c => ?_⟩
   ·obtain ⟨b1,b2,b3⟩:=a4 hf;refine⟨b1,b2,fun q q0 q1 => ?_⟩
    by_cases hq:q=j
    ·have:=of_decide_eq_false hc;rw[hq];omega
    ·exact b3 q (by omega) (by omega)
   ·rcases a5 a b c with e | ⟨e1,e2,e3,e4⟩
    ·exact .inl e
    ·exact .inr ⟨e1,e2,⟨by omega,by omega⟩,e4⟩
  ·rw[cond_true];have hlt:=dec_iff.1 hc;have hv:=okL5_at (i:=j.toNat) hr (by omega);have hs:∀a b c,atM (setD p.1 k i j (row.getD j.toNat 0)) a b c=if a=k.toNat∧b=i.toNat∧c=j.toNat then row.getD j.toNat 0 else atM p.1 a b c:=fun a b c=>atM_set h k0 k1 i0 i1 j0 (by omega);obtain⟨a1,a2,a3,a4,a5⟩:=mins_step k0 k1 i0 i1 hr hl (m:=m) (j:=j+1) (p:=(setD p.1 k i j (row.getD j.toNat 0),true)) (by omega) (by omega) (okD5_set h k0 k1 i0 i1 hv);have hlt:row.getD j.toNat 0<atM p.1 k.toNat i.toNat j.toNat:=hlt;refine⟨a1,fun a b c=>Int.le_trans (a2 a b c) ?_,fun _ => .inr ⟨j.toNat,by omega,Int.lt_of_le_of_lt (a2 _ _ _) ?_⟩,fun hf => ?_,fun a b c => ?_⟩
   ·show atM (setD p.1 k i j (row.getD j.toNat 0)) a b c≤_;rw[hs]
    split
    ·rename_i hq;rw[hq.1,hq.2.1,hq.2.2];exact Int.le_of_lt hlt
    ·exact Int.le_refl _
   ·show atM (setD p.1 k i j (row.getD j.toNat 0)) _ _ _<_;rw[hs,if_pos ⟨rfl,rfl,rfl⟩];exact hlt
   ·cases (a4 hf).1
   ·rcases a5 a b c with e | ⟨e1,e2,e3,e4⟩
    ·rw[show (setD p.1 k i j (row.getD j.toNat 0),true).1=setD p.1 k i j (row.getD j.toNat 0)from rfl,hs]at e
     split at e
     ·rename_i hq;exact .inr ⟨hq.1,hq.2.1,⟨by omega,by omega⟩,by rw[e,hq.2.2]⟩
     ·exact .inl e
    ·exact .inr ⟨e1,e2,⟨by omega,by omega⟩,e4⟩
def stepF (s:Str) (v:VisE) (p:D3×Bool):D3×Bool:=minsL (keyK v.2) v.1 (rowV s p.1 v.2.2 v.1) ((length s:Int)+1-v.1).toNat v.1 p
def hasE (ch:D3) (x:Nat×Nat×Nat×Nat):Bool:=decide (atM ch x.1 x.2.1 x.2.2.1≤(x.2.2.2:Int))
def farN:Nat:=100001
def keysF (n:Nat) (v:VisE):List (Nat×Nat×Nat×Nat):=(List.range n).flatMap fun c=>(List.range farN).map fun(e:Nat)=>((keyK v.2).toNat,v.1.toNat,c,e)
theorem stepF_at {s:Str} {v:VisE} {p:D3×Bool} (hs:length s≤1000) (hv:goodE s v) (hp:okD5 (length s+1) p.1=true):MinsOk (length s+1) (keyK v.2) v.1 (rowV s p.1 v.2.2 v.1) ((length s:Int)+1-v.1).toNat v.1 p :=
 mins_step (n:=length s+1) (k:=keyK v.2) (i:=v.1) (row:=rowV s p.1 v.2.2 v.1) (keyK_in hv.2.2.1).1 (keyK_in hv.2.2.1).2.1 hv.1 (by have:=hv.2.1;omega) (rowV_ok hv.1 hp hv.2.2.2.2 hs).2 (rowV_ok hv.1 hp hv.2.2.2.2 hs).1 (m:=((length s:Int)+1-v.1).toNat) (j:=v.1) (p:=p) hv.1 (by have:=hv.2.1;omega) hp
theorem stepF_ok {s:Str} (hs:length s≤1000):StepOk (fun ch=>okD5 (s.length+1) ch=true) (goodE s) hasE (keysF (s.length+1)) (stepF s) where
 inv v p hv hp:=(stepF_at hs hv hp).1
 mono v p x hv hp h:=by
  have:=(stepF_at hs hv hp).2.1 x.1 x.2.1 x.2.2.1;exact zT (Int.le_trans this (dec_iff.1 h))
 new v p hv hp h:=by
  obtain⟨a1,a2,a3,a4,a5⟩:=stepF_at hs hv hp;rcases a3 h with h | ⟨c,hc,hlt⟩
  ·exact .inl h
  ·obtain ⟨k0,k1,_⟩:=keyK_in hv.2.2.1;have hb:=atD_ok (k:=keyK v.2) (i:=v.1) (j:=(c:Int)) a1 k0 k1 hv.1 (by have:=hv.2.1;omega) (by omega) (by omega);have hb:0≤atM (stepF s v p).1 (keyK v.2).toNat v.1.toNat c∧atM (stepF s v p).1 (keyK v.2).toNat v.1.toNat c≤100000:=hb;have hlt:atM (stepF s v p).1 (keyK v.2).toNat v.1.toNat c<atM p.1 (keyK v.2).toNat v.1.toNat c:=hlt;refine .inr ⟨((keyK v.2).toNat,v.1.toNat,c,(atM (stepF s v p).1 (keyK v.2).toNat v.1.toNat c).toNat),List.mem_flatMap.2 ⟨c,List.mem_range.2 hc,List.mem_map.2 ⟨_,List.mem_range.2 ?_,rfl⟩⟩,zF ?_,zT ?_⟩
   ·have:farN=100001:=rfl;omega
   ·show ¬atM p.1 (keyK v.2).toNat v.1.toNat c≤(((atM (stepF s v p).1 (keyK v.2).toNat v.1.toNat c).toNat:Nat):Int);omega
   ·show atM (stepF s v p).1 (keyK v.2).toNat v.1.toNat c≤(((atM (stepF s v p).1 (keyK v.2).toNat v.1.toNat c).toNat:Nat):Int);omega
 quiet v p hv hp h:=by
  obtain⟨b1,b2,_⟩:=(stepF_at hs hv hp).2.2.2.1 h;exact⟨b1,b2⟩
def cx0_j6:Cx:=(cb_l8c).withLoops (look [])
def sh_j6:Sh:=([(1, .d .str),(2, .ptr 500000 0),(5, .d TI64),(6, .deep 500001),(12, .d .bool),(13, .d TI64),(14, .d TI64),(15, .d TI64),(16, .own 500002),(17, .d TI64)],[(500000, .box 25 TG),(500001, .deep us3 TI2),(500002, .lis 3 TI64)])
abbrev st_j6 (s:Str) (n:Int) (b:Bool) (ri k i j:Int) (g:Gram) (ch:List (Den TI2)) (row:List (Int)):St:=⟨[(1,vS s),(2, kp0),(5,vI n),(6, .d (.one (.dsl 500001 []))),(12,vB b),(13,vI ri),(14,vI k),(15,vI i),(16, ko2),(17,vI j)],[(500000,some (boxD 25 TG g)),(500001,some (.deep us3 TI2 ch)),(500002,some (.lis 3 TI64 row))]⟩
def pre_j6 (s:Str) (n:Int) (_b:Bool) (_ri k i j:Int) (_g:Gram) (ch:List (Den TI2)) (row:List (Int)):Bool:=decide (0≤j)&&(decide (n=(length s:Int)+1)&&(decide (length s≤1000)&&(okD5 (length s+1) ch&&(decide (0≤k)&&(decide (k<5)&&(decide (0≤i)&&(decide (i≤(length s:Int))&&(decide (length row=length s+1)&&okL5 row))))))))
def res_j6 (s:Str) (n:Int) (b:Bool) (ri k i j:Int) (g:Gram) (ch:List (Den TI2)) (row:List (Int)) (K:Cont):Option Fin:=K (.exit 12) ⟨[(1,vS s),(2, kp0),(5,vI n),(6, .d (.one (.dsl 500001 []))),(12,vB (minsL k i row (n-j).toNat j (ch,b)).2),(13,vI ri),(14,vI k),(15,vI i)],l8H g (minsL k i row (n-j).toNat j (ch,b)).1⟩
def mu_j6 (_s:Str) (n:Int) (_b:Bool) (_ri _k _i j:Int) (_g:Gram) (_ch:List (Den TI2)) (_row:List (Int)):Nat:=(n-j).toNat
theorem r_j6 (s:Str) (n:Int) (b:Bool) (ri k i j:Int) (g:Gram) (ch:List (Den TI2)) (row:List (Int)) (K:Cont) (hI:pre_j6 s n b ri k i j g ch row=true):(∀R:St→Option Fin,evC cx0_j6 (loopOf Tryz.f99 6) (st_j6 s n b ri k i j g ch row) (onward (headAt cx0_j6 29) R K)=res_j6 s n b ri k i j g ch row K) ∨
  (∃(s':Str) (n':Int) (b':Bool) (ri' k' i' j':Int) (g':Gram) (ch':List (Den TI2)) (row':List (Int)),pre_j6 s' n' b' ri' k' i' j' g' ch' row'=true∧mu_j6 s' n' b' ri' k' i' j' g' ch' row'<mu_j6 s n b ri k i j g ch row∧res_j6 s' n' b' ri' k' i' j' g' ch' row' K=res_j6 s n b ri k i j g ch row K∧∀R:St→Option Fin,evC cx0_j6 (loopOf Tryz.f99 6) (st_j6 s n b ri k i j g ch row) (onward (headAt cx0_j6 29) R K)=R (st_j6 s' n' b' ri' k' i' j' g' ch' row')):=by
 have hx:=fun R=>x_spec_l8Costs_6 g ch s n ri k i j b row R K;simp only[pre_j6,andd,dec_iff]at hI;obtain⟨h0,rfl,hs,h1,k0,k1,i0,i1,h2,h3⟩:=hI
 by_cases hj:j<(length s:Int)+1
 ·have w:W64 (j+1)=j+1:=wrap_small (by omega) (by omega);obtain⟨l1,l2,l3⟩:=okD5_at h1 k0 k1 i0 (by omega);have hv:=okL5_at (i:=j.toNat) h3 (by omega);obtain⟨m,hm⟩:∃m,((length s:Int)+1-j).toNat=m+1:=⟨((length s:Int)+1-j).toNat-1,by omega⟩;have hm2:((length s:Int)+1-(j+1)).toNat=m:=by omega
  have hg:minsL k i row (m+1) j (ch,b)=minsL k i row m (j+1) (bif decide (row.getD j.toNat 0<atD ch k i j)then(setD ch k i j (row.getD j.toNat 0),true)else(ch,b)):=rfl;rw[zT hj,l1,l2,l3,h2,inb_ok h0 (by omega),inb_ok k0 (by omega),inb_ok i0 (by omega),w]at hx;change ∀R:St→Option Fin,_=branch (decide (row.getD j.toNat 0<atD ch k i j)) _ _ at hx;right
  cases hc:decide (row.getD j.toNat 0<atD ch k i j)
  ·rw[hc]at hx hg;refine⟨s,(length s:Int)+1,b,ri,k,i,j+1,g,ch,row, ?_, ?_, ?_,fun R=>hx R⟩
   ·simp only[pre_j6,andd,dec_iff];exact⟨by omega,trivial,hs,h1,k0,k1,i0,i1,h2,h3⟩
   ·simp only[mu_j6];omega
   ·simp only[res_j6,hm,hm2,hg];rfl
  ·rw[hc]at hx hg;refine⟨s,(length s:Int)+1,true,ri,k,i,j+1,g,setD ch k i j (row.getD j.toNat 0),row, ?_, ?_, ?_,fun R=>hx R⟩
   ·simp only[pre_j6,andd,dec_iff];exact⟨by omega,trivial,hs,okD5_set h1 k0 k1 i0 (by omega) hv,k0,k1,i0,i1,h2,h3⟩
   ·simp only[mu_j6];omega
   ·simp only[res_j6,hm,hm2,hg];rfl
 ·left;intro R;refine(hx R).trans ?_;rw[zF hj];have e:((length s:Int)+1-j).toNat=0:=by omega
  simp only[res_j6,e];rfl
def g_j6:St→Cont→Option Fin:=gP sh_j6 (fun v=>match v with | ((s,n,b,ri,k,i,j,()),(g,ch,row,()))=>pre_j6 s n b ri k i j g ch row) (fun v K=>match v with | ((s,n,b,ri,k,i,j,()),(g,ch,row,()))=>res_j6 s n b ri k i j g ch row K)
def L_j6:LpL:=(29,g_j6)::[]
theorem l_j6 {L:LpL} (n:Nat) (h1:L.drop n=[]) (h2:idsFree (L.take n) (loopOf Tryz.f99 6)=true):LoopsTo g_j6 (cb_l8c) (loopOf Tryz.f99 6) 29 L :=
 with_drop h1 h2 (gP_ok (fun v=>match v with | ((s,n,b,ri,k,i,j,()),(g,ch,row,()))=>mu_j6 s n b ri k i j g ch row) fun v K hI=>by
  obtain⟨⟨s,n,b,ri,k,i,j,⟨⟩⟩,⟨g,ch,row,⟨⟩⟩⟩:=v;exact(r_j6 s n b ri k i j g ch row K hI).imp id fun⟨s',n',b',ri',k',i',j',g',ch',row',h⟩=>⟨((s',n',b',ri',k',i',j',()),(g',ch',row',())),h⟩)
theorem x_spec_l8Costs_5 (g:Gram) (ch:D3) (s:Str) (n ri k i:Int) (b:Bool) (R:St→Option Fin) (K:Cont):evC (cb_l8c.withLoops (look L_j6)) (loopOf Tryz.f99 5) ⟨[(1,vS s),(2, kp0),(5,vI n),(6, .d (.one (.dsl 500001 []))),(12,vB b),(13,vI ri),(14,vI k),(15,vI i)],l8H g ch⟩ (onward (headAt (cb_l8c.withLoops (look L_j6)) 25) R K)=(
branch (decide (i<n)) (
 need (inb ri (length g.snd)) <|
 need (decide (0≤i)&&(okD5 (length s+1) ch&&(List.all (getD g.snd ri.toNat d0).snd sign&&(decide ((length (getD g.snd ri.toNat d0).snd)≤1000)&&decide (s.length≤1000))))) <|
 need (pre_j6 s n b ri k i i g ch (rowV s ch (getD g.snd ri.toNat d0).snd i)) <| R (.mk [(1,vS s),(2,kp0),(5,vI n),(6,(.d (.one (.dsl 500001 ([]))))),(12,(vB (minsL k i (rowV s ch (getD g.snd ri.toNat d0).snd i) (n-i).toNat i (ch,b)).snd)),(13,vI ri),(14,vI k),(15,vI (W64 (i+1)))] [(500000,some (boxD 25 TG g)),(500001,(.some (.deep us3 TI2 ((minsL k i (rowV s ch (getD g.snd ri.toNat d0).snd i) (n-i).toNat i (ch,b)).fst))))])) ( K (.exit 10) (.mk [(1,vS s),(2,kp0),(5,vI n),(6,(.d (.one (.dsl 500001 ([]))))),(12,vB b),(13,vI ri)] [(500000,some (boxD 25 TG g)),(500001,(.some (.deep us3 TI2 ch)))]))):=by kernel_rfl
def cx0_j5:Cx:=(cb_l8c).withLoops (look L_j6)
def sh_j5:Sh:=([(1, .d .str),(2, .ptr 500000 0),(5, .d TI64),(6, .deep 500001),(12, .d .bool),(13, .d TI64),(14, .d TI64),(15, .d TI64)],[(500000, .box 25 TG),(500001, .deep us3 TI2)])
abbrev st_j5 (s:Str) (n:Int) (b:Bool) (ri k i:Int) (g:Gram) (ch:List (Den TI2)):St:=⟨[(1,vS s),(2, kp0),(5,vI n),(6, .d (.one (.dsl 500001 []))),(12,vB b),(13,vI ri),(14,vI k),(15,vI i)],[(500000,some (boxD 25 TG g)),(500001,some (.deep us3 TI2 ch))]⟩
def pre_j5 (s:Str) (n:Int) (_b:Bool) (ri k i:Int) (g:Gram) (ch:List (Den TI2)):Bool:=decide (0≤i)&&(decide (i≤n)&&(decide (n=(length s:Int)+1)&&(okD5 (length s+1) ch&&(okRp g.2&&(decide (0≤ri)&&(decide (ri<(length g.2:Int))&&(decide (k=keyK (getD g.2 ri.toNat d0))&&decide (length s≤1000))))))))
def res_j5 (s:Str) (n:Int) (b:Bool) (ri _k i:Int) (g:Gram) (ch:List (Den TI2)) (K:Cont):Option Fin:=K (.exit 10) ⟨[(1,vS s),(2, kp0),(5,vI n),(6, .d (.one (.dsl 500001 []))),(12,vB (foldG (stepF s) (fromsE (getD g.2 ri.toNat d0) (n-i).toNat i) (ch,b)).2),(13,vI ri)],l8H g (foldG (stepF s) (fromsE (getD g.2 ri.toNat d0) (n-i).toNat i) (ch,b)).1⟩
def mu_j5 (_s:Str) (n:Int) (_b:Bool) (_ri _k i:Int) (_g:Gram) (_ch:List (Den TI2)):Nat:=(n-i).toNat
theorem r_j5 (s:Str) (n:Int) (b:Bool) (ri k i:Int) (g:Gram) (ch:List (Den TI2)) (K:Cont) (hI:pre_j5 s n b ri k i g ch=true):(∀R:St→Option Fin,evC cx0_j5 (loopOf Tryz.f99 5) (st_j5 s n b ri k i g ch) (onward (headAt cx0_j5 25) R K)=res_j5 s n b ri k i g ch K) ∨
  (∃(s':Str) (n':Int) (b':Bool) (ri' k' i':Int) (g':Gram) (ch':List (Den TI2)),pre_j5 s' n' b' ri' k' i' g' ch'=true∧mu_j5 s' n' b' ri' k' i' g' ch'<mu_j5 s n b ri k i g ch∧res_j5 s' n' b' ri' k' i' g' ch' K=res_j5 s n b ri k i g ch K∧∀R:St→Option Fin,evC cx0_j5 (loopOf Tryz.f99 5) (st_j5 s n b ri k i g ch) (onward (headAt cx0_j5 25) R K)=R (st_j5 s' n' b' ri' k' i' g' ch')):=by
 have hx:=fun R=>x_spec_l8Costs_5 g ch s n ri k i b R K;simp only[pre_j5,andd,dec_iff]at hI;obtain⟨h0,h1,rfl,h3,h4,h5,h6,rfl,h8⟩:=hI
 by_cases hi:i<(length s:Int)+1
 ·have w:W64 (i+1)=i+1:=wrap_small (by omega) (by omega);obtain⟨q1,q2,q3⟩:=(okRp_iff.1 h4).2 _ (getD_mem (d:=d0) (by omega:ri.toNat<length g.2));obtain⟨k0,k1,_⟩:=keyK_in q1;have hrow:=rowV_ok (i:=i) h0 h3 q3 h8;have kk:(decide (0≤i)&&(okD5 (length s+1) ch&&(List.all (getD g.2 ri.toNat d0).2 sign&&(decide ((length (getD g.2 ri.toNat d0).2)≤1000)&&decide (s.length≤1000)))))=true:=andd.2 ⟨zT h0,andd.2 ⟨h3,andd.2 ⟨q3,andd.2 ⟨zT (by omega),zT h8⟩⟩⟩⟩;have kp:pre_j6 s ((length s:Int)+1) b ri (keyK (getD g.2 ri.toNat d0)) i i g ch (rowV s ch (getD g.2 ri.toNat d0).2 i)=true:=by
   simp only[pre_j6,andd,dec_iff];exact⟨h0,trivial,h8,h3,k0,k1,h0,by omega,hrow.1,hrow.2⟩
  obtain⟨m,hm⟩:∃m,((length s:Int)+1-i).toNat=m+1:=⟨((length s:Int)+1-i).toNat-1,by omega⟩;have hm2:((length s:Int)+1-(i+1)).toNat=m:=by omega
  have hg:foldG (stepF s) (fromsE (getD g.2 ri.toNat d0) (m+1) i) (ch,b)=foldG (stepF s) (fromsE (getD g.2 ri.toNat d0) m (i+1)) (stepF s (i,getD g.2 ri.toNat d0) (ch,b)):=rfl;rw[zT hi,inb_ok h5 h6,kk,kp,w]at hx;right;refine⟨s,(length s:Int)+1,(stepF s (i,getD g.2 ri.toNat d0) (ch,b)).2,ri,keyK (getD g.2 ri.toNat d0),i+1,g,(stepF s (i,getD g.2 ri.toNat d0) (ch,b)).1, ?_, ?_, ?_,fun R=>hx R⟩
  ·simp only[pre_j5,andd,dec_iff];exact⟨by omega,by omega,trivial,(stepF_ok h8).inv (i,getD g.2 ri.toNat d0) (ch,b) ⟨h0,by show i≤_;omega,q1,q2,q3⟩ h3,h4,h5,h6,trivial,h8⟩
  ·simp only[mu_j5];omega
  ·simp only[res_j5,hm,hm2,hg]
 ·left;intro R;refine(hx R).trans ?_;rw[zF hi];have e:((length s:Int)+1-i).toNat=0:=by omega
  simp only[res_j5,e];rfl
def g_j5:St→Cont→Option Fin:=gP sh_j5 (fun v=>match v with | ((s,n,b,ri,k,i,()),(g,ch,()))=>pre_j5 s n b ri k i g ch) (fun v K=>match v with | ((s,n,b,ri,k,i,()),(g,ch,()))=>res_j5 s n b ri k i g ch K)
def L_j5:LpL:=(25,g_j5)::L_j6
theorem l_j5 {L:LpL} (n:Nat) (h1:L.drop n=L_j6) (h2:idsFree (L.take n) (loopOf Tryz.f99 5)=true):LoopsTo g_j5 (cb_l8c) (loopOf Tryz.f99 5) 25 L :=
 with_drop h1 h2 (gP_ok (fun v=>match v with | ((s,n,b,ri,k,i,()),(g,ch,()))=>mu_j5 s n b ri k i g ch) fun v K hI=>by
  obtain⟨⟨s,n,b,ri,k,i,⟨⟩⟩,⟨g,ch,⟨⟩⟩⟩:=v;exact(r_j5 s n b ri k i g ch K hI).imp id fun⟨s',n',b',ri',k',i',g',ch',h⟩=>⟨((s',n',b',ri',k',i',()),(g',ch',())),h⟩)
theorem x_spec_l8Costs_4 (g:Gram) (ch:D3) (s:Str) (n ri:Int) (b:Bool) (R:St→Option Fin) (K:Cont):evC (cb_l8c.withLoops (look L_j5)) (loopOf Tryz.f99 4) ⟨[(1,vS s),(2, kp0),(5,vI n),(6, .d (.one (.dsl 500001 []))),(12,vB b),(13,vI ri)],l8H g ch⟩ (onward (headAt (cb_l8c.withLoops (look L_j5)) 21) R K)=(
branch (decide (ri<(length g.snd:Int))) (
 need (inb ri (length g.snd)) <|
 need (inb 0 (length (getD g.snd ri.toNat d0).fst)) <|
 need (pre_j5 s n b ri (W64 (IntKind.u8.wrap (byteAt (getD g.snd ri.toNat d0).fst 0-65))) 0 g ch) <| R (.mk [(1,vS s),(2,kp0),(5,vI n),(6,(.d (.one (.dsl 500001 ([]))))),(12,(vB (foldG (stepF s) (fromsE (g.snd.getD ri.toNat d0) (n-0).toNat 0) (ch,b)).snd)),(13,vI (W64 (ri+1)))] [(500000,some (boxD 25 TG g)),(500001,(.some (.deep us3 TI2 ((foldG (stepF s) (fromsE (g.snd.getD ri.toNat d0) (n-0).toNat 0) (ch,b)).fst))))])) ( K (.exit 8) (.mk [(1,vS s),(2,kp0),(5,vI n),(6,(.d (.one (.dsl 500001 ([]))))),(12,vB b)] [(500000,some (boxD 25 TG g)),(500001,(.some (.deep us3 TI2 ch)))]))):=by kernel_rfl
def cx0_j4:Cx:=(cb_l8c).withLoops (look L_j5)
def sh_j4:Sh:=([(1, .d .str),(2, .ptr 500000 0),(5, .d TI64),(6, .deep 500001),(12, .d .bool),(13, .d TI64)],[(500000, .box 25 TG),(500001, .deep us3 TI2)])
abbrev st_j4 (s:Str) (n:Int) (b:Bool) (ri:Int) (g:Gram) (ch:List (Den TI2)):St:=⟨[(1,vS s),(2, kp0),(5,vI n),(6, .d (.one (.dsl 500001 []))),(12,vB b),(13,vI ri)],[(500000,some (boxD 25 TG g)),(500001,some (.deep us3 TI2 ch))]⟩
def pre_j4 (s:Str) (n:Int) (_b:Bool) (ri:Int) (g:Gram) (ch:List (Den TI2)):Bool:=decide (0≤ri)&&(decide (n=(length s:Int)+1)&&(okD5 (length s+1) ch&&(okRp g.2&&decide (length s≤1000))))
def res_j4 (s:Str) (n:Int) (b:Bool) (ri:Int) (g:Gram) (ch:List (Den TI2)) (K:Cont):Option Fin:=K (.exit 8) ⟨[(1,vS s),(2, kp0),(5,vI n),(6, .d (.one (.dsl 500001 []))),(12,vB (foldG (stepF s) (visE (length s+1) (List.drop ri.toNat g.2)) (ch,b)).2)],l8H g (foldG (stepF s) (visE (length s+1) (List.drop ri.toNat g.2)) (ch,b)).1⟩
def mu_j4 (_s:Str) (_n:Int) (_b:Bool) (ri:Int) (g:Gram) (_ch:List (Den TI2)):Nat:=length g.2-ri.toNat
theorem r_j4 (s:Str) (n:Int) (b:Bool) (ri:Int) (g:Gram) (ch:List (Den TI2)) (K:Cont) (hI:pre_j4 s n b ri g ch=true):(∀R:St→Option Fin,evC cx0_j4 (loopOf Tryz.f99 4) (st_j4 s n b ri g ch) (onward (headAt cx0_j4 21) R K)=res_j4 s n b ri g ch K) ∨
  (∃(s':Str) (n':Int) (b':Bool) (ri':Int) (g':Gram) (ch':List (Den TI2)),pre_j4 s' n' b' ri' g' ch'=true∧mu_j4 s' n' b' ri' g' ch'<mu_j4 s n b ri g ch∧res_j4 s' n' b' ri' g' ch' K=res_j4 s n b ri g ch K∧∀R:St→Option Fin,evC cx0_j4 (loopOf Tryz.f99 4) (st_j4 s n b ri g ch) (onward (headAt cx0_j4 21) R K)=R (st_j4 s' n' b' ri' g' ch')):=by
 have hx:=fun R=>x_spec_l8Costs_4 g ch s n ri b R K;simp only[pre_j4,andd,dec_iff]at hI;obtain⟨h0,rfl,h3,h4,h8⟩:=hI;obtain⟨g1,g2⟩:=okRp_iff.1 h4
 by_cases hi:ri<(length g.2:Int)
 ·have w:W64 (ri+1)=ri+1:=wrap_small (by omega) (by omega);obtain⟨q1,q2,q3⟩:=g2 _ (getD_mem (d:=d0) (by omega:ri.toNat<length g.2));have hl:inb 0 (length (getD g.2 ri.toNat d0).1)=true:=by
   obtain⟨c,e,_⟩:=bigS_one q1;rw[e];rfl
  have kp:pre_j5 s ((length s:Int)+1) b ri (keyK (getD g.2 ri.toNat d0)) 0 g ch=true:=by
   simp only[pre_j5,andd,dec_iff];exact⟨Int.le_refl 0,by omega,trivial,h3,h4,h0,hi,trivial,h8⟩
  have e0:((length s:Int)+1-0).toNat=length s+1:=by omega
  have hg:=visE_at (n:=length s+1) h0 hi;rw[zT hi,inb_ok h0 hi,hl,key_wrap q1,kp,w,e0]at hx;right;refine⟨s,(length s:Int)+1,(foldG (stepF s) (fromsE (getD g.2 ri.toNat d0) (length s+1) 0) (ch,b)).2,ri+1,g,(foldG (stepF s) (fromsE (getD g.2 ri.toNat d0) (length s+1) 0) (ch,b)).1, ?_, ?_, ?_,fun R=>hx R⟩
  ·simp only[pre_j4,andd,dec_iff];refine⟨by omega,trivial,foldG_ok (stepF_ok h8) (p:=(ch,b)) (fun v hv => ?_) h3,h4,h8⟩;obtain⟨e1,e2,e3⟩:=mem_fromsE.1 hv;exact⟨e2,by omega,by rw[e1];exact q1,by rw[e1];exact q2,by rw[e1];exact q3⟩
  ·simp only[mu_j4];omega
  ·simp only[res_j4,hg,foldG_app]
 ·left;intro R;refine(hx R).trans ?_;rw[zF hi];have e:List.drop ri.toNat g.2=[]:=drop_eq_nil_of_le (by omega);simp only[res_j4,e];rfl
def g_j4:St→Cont→Option Fin:=gP sh_j4 (fun v=>match v with | ((s,n,b,ri,()),(g,ch,()))=>pre_j4 s n b ri g ch) (fun v K=>match v with | ((s,n,b,ri,()),(g,ch,()))=>res_j4 s n b ri g ch K)
def L_j4:LpL:=(21,g_j4)::L_j5
theorem l_j4 {L:LpL} (n:Nat) (h1:L.drop n=L_j5) (h2:idsFree (L.take n) (loopOf Tryz.f99 4)=true):LoopsTo g_j4 (cb_l8c) (loopOf Tryz.f99 4) 21 L :=
 with_drop h1 h2 (gP_ok (fun v=>match v with | ((s,n,b,ri,()),(g,ch,()))=>mu_j4 s n b ri g ch) fun v K hI=>by
  obtain⟨⟨s,n,b,ri,⟨⟩⟩,⟨g,ch,⟨⟩⟩⟩:=v;exact(r_j4 s n b ri g ch K hI).imp id fun⟨s',n',b',ri',g',ch',h⟩=>⟨((s',n',b',ri',()),(g',ch',())),h⟩)
theorem x_spec_l8Costs_3 (g:Gram) (ch:D3) (s:Str) (n:Int) (b:Bool) (R:St→Option Fin) (K:Cont):evC (cb_l8c.withLoops (look L_j4)) (loopOf Tryz.f99 3) ⟨[(1,vS s),(2, kp0),(5,vI n),(6, .d (.one (.dsl 500001 []))),(12,vB b)],l8H g ch⟩ (onward (headAt (cb_l8c.withLoops (look L_j4)) 18) R K)=(
branch b (
 need (pre_j4 s n false 0 g ch) <| R (.mk [(1,vS s),(2,kp0),(5,vI n),(6,(.d (.one (.dsl 500001 ([]))))),(12,(vB (foldG (stepF s) (visE (length s+1) g.snd) (ch,false)).snd))] [(500000,some (boxD 25 TG g)),(500001,(.some (.deep us3 TI2 ((foldG (stepF s) (visE (length s+1) g.snd) (ch,false)).fst))))])) ( K (.exit 6) (.mk [(6,(.d (.one (.dsl 500000 ([])))))] [(500000,(.some (.deep us3 TI2 ch)))]))):=by kernel_rfl
def cx0_j3:Cx:=(cb_l8c).withLoops (look L_j4)
def sh_j3:Sh:=([(1, .d .str),(2, .ptr 500000 0),(5, .d TI64),(6, .deep 500001),(12, .d .bool)],[(500000, .box 25 TG),(500001, .deep us3 TI2)])
abbrev st_j3 (s:Str) (n:Int) (b:Bool) (g:Gram) (ch:List (Den TI2)):St:=⟨[(1,vS s),(2, kp0),(5,vI n),(6, .d (.one (.dsl 500001 []))),(12,vB b)],[(500000,some (boxD 25 TG g)),(500001,some (.deep us3 TI2 ch))]⟩
def pre_j3 (s:Str) (n:Int) (_b:Bool) (g:Gram) (ch:List (Den TI2)):Bool:=decide (n=(length s:Int)+1)&&(okD5 (length s+1) ch&&(okRp g.2&&decide (length s≤1000)))
def res_j3 (s:Str) (_n:Int) (b:Bool) (g:Gram) (ch:List (Den TI2)) (K:Cont):Option Fin:=K (.exit 6) ⟨[(6, .d (.one (.dsl 500000 [])))],[(500000,some (.deep us3 TI2 (bif b then runC hasE (keysF (length s+1)) (stepF s) (visE (length s+1) g.2) ch else ch)))]⟩
def mu_j3 (s:Str) (_n:Int) (b:Bool) (g:Gram) (ch:List (Den TI2)):Nat:=2*missG hasE ((visE (length s+1) g.2).flatMap (keysF (length s+1))) ch+(bif b then 1 else 0)
theorem r_j3 (s:Str) (n:Int) (b:Bool) (g:Gram) (ch:List (Den TI2)) (K:Cont) (hI:pre_j3 s n b g ch=true):(∀R:St→Option Fin,evC cx0_j3 (loopOf Tryz.f99 3) (st_j3 s n b g ch) (onward (headAt cx0_j3 18) R K)=res_j3 s n b g ch K) ∨
  (∃(s':Str) (n':Int) (b':Bool) (g':Gram) (ch':List (Den TI2)),pre_j3 s' n' b' g' ch'=true∧mu_j3 s' n' b' g' ch'<mu_j3 s n b g ch∧res_j3 s' n' b' g' ch' K=res_j3 s n b g ch K∧∀R:St→Option Fin,evC cx0_j3 (loopOf Tryz.f99 3) (st_j3 s n b g ch) (onward (headAt cx0_j3 18) R K)=R (st_j3 s' n' b' g' ch')):=by
 have hx:=fun R=>x_spec_l8Costs_3 g ch s n b R K;simp only[pre_j3,andd,dec_iff]at hI;obtain⟨rfl,h3,h4,h8⟩:=hI
 cases b
 ·left;intro R;refine(hx R).trans ?_;simp only[res_j3];rfl
 ·have hv:=good_visE (s:=s) h4;have hp:pre_j4 s ((length s:Int)+1) false 0 g ch=true:=by
   simp only[pre_j4,andd,dec_iff];exact⟨Int.le_refl 0,trivial,h3,h4,h8⟩
  rw[hp]at hx;have hg:=runC_at (stepF_ok h8) (vs:=visE (length s+1) g.2) (m:=ch) hv h3;right;refine⟨s,(length s:Int)+1,(foldG (stepF s) (visE (length s+1) g.2) (ch,false)).2,g,(foldG (stepF s) (visE (length s+1) g.2) (ch,false)).1, ?_, ?_, ?_,fun R=>hx R⟩
  ·simp only[pre_j3,andd,dec_iff];exact⟨trivial,foldG_ok (stepF_ok h8) (p:=(ch,false)) hv h3,h4,h8⟩
  ·simp only[mu_j3]
   cases hc:(foldG (stepF s) (visE (length s+1) g.2) (ch,false)).2
   ·obtain ⟨_,h5,_⟩:=foldG_quiet (stepF_ok h8) (p:=(ch,false)) hv h3 hc;rw[h5,cond_true,cond_false];show 2*missG hasE _ ch+0<2*missG hasE _ ch+1;omega
   ·have:=miss_lt (stepF_ok h8) hv h3 hc;rw[cond_true];omega
  ·simp only[res_j3];exact congrArg (fun z:D3=>K (.exit 6) ⟨[(6, .d (.one (.dsl 500000 [])))],[(500000,some (.deep us3 TI2 z))]⟩) hg.symm
def g_j3:St→Cont→Option Fin:=gP sh_j3 (fun v=>match v with | ((s,n,b,()),(g,ch,()))=>pre_j3 s n b g ch) (fun v K=>match v with | ((s,n,b,()),(g,ch,()))=>res_j3 s n b g ch K)
def L_j3:LpL:=(18,g_j3)::L_j4
theorem l_j3 {L:LpL} (n:Nat) (h1:L.drop n=L_j4) (h2:idsFree (L.take n) (loopOf Tryz.f99 3)=true):LoopsTo g_j3 (cb_l8c) (loopOf Tryz.f99 3) 18 L :=
 with_drop h1 h2 (gP_ok (fun v=>match v with | ((s,n,b,()),(g,ch,()))=>mu_j3 s n b g ch) fun v K hI=>by
  obtain⟨⟨s,n,b,⟨⟩⟩,⟨g,ch,⟨⟩⟩⟩:=v;exact(r_j3 s n b g ch K hI).imp id fun⟨s',n',b',g',ch',h⟩=>⟨((s',n',b',()),(g',ch',())),h⟩)
theorem x_spec_l8Costs_2 (g:Gram) (ch:D3) (rs:List (List Int)) (s:Str) (n i k j:Int) (row:List Int) (R:St→Option Fin) (K:Cont):evC (cb_l8c.withLoops (look L_j3)) (loopOf Tryz.f99 2) ⟨[(1,vS s),(2, kp0),(5,vI n),(6, .d (.one (.dsl 500001 []))),(7,vI i),(8, .d (.one (.dsl 500002 []))),(9,vI k),(10, ko3),(11,vI j)],l8H g ch++[(500002,some (.deep us2 TI1 rs)),(500003,some (.lis 3 TI64 row))]⟩ (onward (headAt (cb_l8c.withLoops (look L_j3)) 12) R K)=(
branch (decide (j<n)) (
 need (inb j row.length) <| R (.mk [(1,vS s),(2,kp0),(5,vI n),(6,(.d (.one (.dsl 500001 ([]))))),(7,vI i),(8,(.d (.one (.dsl 500002 ([]))))),(9,vI k),(10,ko3),(11,vI (W64 (j+1)))] [(500000,some (boxD 25 TG g)),(500001,(.some (.deep us3 TI2 ch))),(500002,(.some (.deep us2 TI1 rs))),(500003,(.some (.lis 3 TI64 (row.set j.toNat 100000))))])) ( K (.exit 4) (.mk [(1,vS s),(2,kp0),(5,vI n),(6,(.d (.one (.dsl 500001 ([]))))),(7,vI i),(8,(.d (.one (.dsl 500002 ([]))))),(9,vI k),(10,ko3)] [(500000,some (boxD 25 TG g)),(500001,(.some (.deep us3 TI2 ch))),(500002,(.some (.deep us2 TI1 rs))),(500003,some (.lis 3 TI64 row))]))):=by kernel_rfl
def fillF:Nat→Int→List Int→List Int
 |0,_,l=>l
 |n+1,j,l=>fillF n (j+1) (l.set j.toNat 100000)
theorem fillF_eq:∀ {n:Nat} {j:Nat} {l:List Int},l.length=j+n→fillF n (j:Int) l=l.take j++replicate n 100000
 |0,j,l,h=>by
  unfold fillF;rw[List.take_of_length_le (by omega),List.replicate_zero,List.append_nil]
 |n+1,j,l,h=>by
  unfold fillF;have e:((j:Int)+1)=((j+1:Nat):Int):=by omega
  rw[e,fillF_eq (by rw[length_set];omega),Int.toNat_natCast,List.replicate_succ];have h2:(l.set j 100000).take (j+1)=l.take j++[100000]:=by
   apply List.ext_getElem?
   intro q;rw[List.getElem?_append,getElem?_take,List.getElem?_set,length_take]
   by_cases q1:q<j
   ·rw[if_pos (by omega),if_neg (by omega),if_pos (by omega),getElem?_take,if_pos q1]
   ·by_cases q2:q=j
    ·rw[if_pos (by omega),if_pos q2.symm,if_pos (by omega),if_neg (by omega),q2,show j-min j l.length=0 by omega];rfl
    ·rw[if_neg (by omega),if_neg (by omega),show q-min j l.length=(q-j-1)+1 by omega];rfl
  rw[h2,append_assoc];rfl
theorem fill_all {n:Nat}:fillF n 0 (replicate n 0)=replicate n 100000:=by
 have:=fillF_eq (n:=n) (j:=0) (l:=replicate n 0) (by rw[length_replicate];omega);rw[List.take_zero,List.nil_append]at this;exact this
def cx0_j2:Cx:=(cb_l8c).withLoops (look L_j3)
def sh_j2:Sh:=([(1, .d .str),(2, .ptr 500000 0),(5, .d TI64),(6, .deep 500001),(7, .d TI64),(8, .deep 500002),(9, .d TI64),(10, .own 500003),(11, .d TI64)],[(500000, .box 25 TG),(500001, .deep us3 TI2),(500002, .deep us2 TI1),(500003, .lis 3 TI64)])
abbrev st_j2 (s:Str) (n i k j:Int) (g:Gram) (ch:List (Den TI2)) (rs:List (Den TI1)) (row:List (Int)):St:=⟨[(1,vS s),(2, kp0),(5,vI n),(6, .d (.one (.dsl 500001 []))),(7,vI i),(8, .d (.one (.dsl 500002 []))),(9,vI k),(10, ko3),(11,vI j)],[(500000,some (boxD 25 TG g)),(500001,some (.deep us3 TI2 ch)),(500002,some (.deep us2 TI1 rs)),(500003,some (.lis 3 TI64 row))]⟩
def pre_j2 (_s:Str) (n _i _k j:Int) (_g:Gram) (_ch:List (Den TI2)) (_rs:List (Den TI1)) (row:List (Int)):Bool:=decide (0≤j)&&(decide (n≤1001)&&decide ((length row:Int)=n))
def res_j2 (s:Str) (n i k j:Int) (g:Gram) (ch:List (Den TI2)) (rs:List (Den TI1)) (row:List (Int)) (K:Cont):Option Fin:=K (.exit 4) ⟨[(1,vS s),(2, kp0),(5,vI n),(6, .d (.one (.dsl 500001 []))),(7,vI i),(8, .d (.one (.dsl 500002 []))),(9,vI k),(10, ko3)],l8H g ch++[(500002,some (.deep us2 TI1 rs)),(500003,some (.lis 3 TI64 (fillF (n-j).toNat j row)))]⟩
def mu_j2 (_s:Str) (n _i _k j:Int) (_g:Gram) (_ch:List (Den TI2)) (_rs:List (Den TI1)) (_row:List (Int)):Nat:=(n-j).toNat
theorem r_j2 (s:Str) (n i k j:Int) (g:Gram) (ch:List (Den TI2)) (rs:List (Den TI1)) (row:List (Int)) (K:Cont) (hI:pre_j2 s n i k j g ch rs row=true):(∀R:St→Option Fin,evC cx0_j2 (loopOf Tryz.f99 2) (st_j2 s n i k j g ch rs row) (onward (headAt cx0_j2 12) R K)=res_j2 s n i k j g ch rs row K) ∨
  (∃(s':Str) (n' i' k' j':Int) (g':Gram) (ch':List (Den TI2)) (rs':List (Den TI1)) (row':List (Int)),pre_j2 s' n' i' k' j' g' ch' rs' row'=true∧mu_j2 s' n' i' k' j' g' ch' rs' row'<mu_j2 s n i k j g ch rs row∧res_j2 s' n' i' k' j' g' ch' rs' row' K=res_j2 s n i k j g ch rs row K∧∀R:St→Option Fin,evC cx0_j2 (loopOf Tryz.f99 2) (st_j2 s n i k j g ch rs row) (onward (headAt cx0_j2 12) R K)=R (st_j2 s' n' i' k' j' g' ch' rs' row')):=by
 have hx:=fun R=>x_spec_l8Costs_2 g ch rs s n i k j row R K;simp only[pre_j2,andd,dec_iff]at hI;obtain⟨h0,h1,h2⟩:=hI
 by_cases hj:j<n
 ·have w:W64 (j+1)=j+1:=wrap_small (by omega) (by omega);obtain⟨m,hm⟩:∃m,(n-j).toNat=m+1:=⟨(n-j).toNat-1,by omega⟩;have hm2:(n-(j+1)).toNat=m:=by omega
  rw[zT hj,inb_ok h0 (by omega),w]at hx;right;refine⟨s,n,i,k,j+1,g,ch,rs,row.set j.toNat 100000, ?_, ?_, ?_,fun R=>hx R⟩
  ·simp only[pre_j2,andd,dec_iff];rw[length_set];exact⟨by omega,h1,h2⟩
  ·simp only[mu_j2];omega
  ·simp only[res_j2,hm,hm2,fillF]
 ·left;intro R;refine(hx R).trans ?_;rw[zF hj];have e:(n-j).toNat=0:=by omega
  simp only[res_j2,e,fillF];rfl
def g_j2:St→Cont→Option Fin:=gP sh_j2 (fun v=>match v with | ((s,n,i,k,j,()),(g,ch,rs,row,()))=>pre_j2 s n i k j g ch rs row) (fun v K=>match v with | ((s,n,i,k,j,()),(g,ch,rs,row,()))=>res_j2 s n i k j g ch rs row K)
def L_j2:LpL:=(12,g_j2)::L_j3
theorem l_j2 {L:LpL} (n:Nat) (h1:L.drop n=L_j3) (h2:idsFree (L.take n) (loopOf Tryz.f99 2)=true):LoopsTo g_j2 (cb_l8c) (loopOf Tryz.f99 2) 12 L :=
 with_drop h1 h2 (gP_ok (fun v=>match v with | ((s,n,i,k,j,()),(g,ch,rs,row,()))=>mu_j2 s n i k j g ch rs row) fun v K hI=>by
  obtain⟨⟨s,n,i,k,j,⟨⟩⟩,⟨g,ch,rs,row,⟨⟩⟩⟩:=v;exact(r_j2 s n i k j g ch rs row K hI).imp id fun⟨s',n',i',k',j',g',ch',rs',row',h⟩=>⟨((s',n',i',k',j',()),(g',ch',rs',row',())),h⟩)
theorem x_spec_l8Costs_1 (g:Gram) (ch:D3) (rs:List (List Int)) (s:Str) (n i k:Int) (R:St→Option Fin) (K:Cont):evC (cb_l8c.withLoops (look L_j2)) (loopOf Tryz.f99 1) ⟨[(1,vS s),(2, kp0),(5,vI n),(6, .d (.one (.dsl 500001 []))),(7,vI i),(8, .d (.one (.dsl 500002 []))),(9,vI k)],l8H g ch++[(500002,some (.deep us2 TI1 rs))]⟩ (onward (headAt (cb_l8c.withLoops (look L_j2)) 8) R K)=(
branch (decide (k<n)) (
 need (decide (0≤n∧n≤n∧n*(Tryz.t3.bytes:Int)≤140737488355328∧n≤9223372036854775807)) <|
 need (pre_j2 s n i k 0 g ch rs (replicate n.toNat 0)) <|
 need (fits (rs.length+[fillF (n-0).toNat 0 (replicate n.toNat 0)].length) Tryz.t68.bytes) <| R (.mk [(1,vS s),(2,kp0),(5,vI n),(6,(.d (.one (.dsl 500001 ([]))))),(7,vI i),(8,(.d (.one (.dsl 500002 ([]))))),(9,vI (W64 (k+1)))] [(500000,some (boxD 25 TG g)),(500001,(.some (.deep us3 TI2 ch))),(500002,(.some (.deep us2 TI1 (rs.append [fillF (n-0).toNat 0 (replicate n.toNat 0)]))))])) ( K (.exit 2) (.mk [(1,vS s),(2,kp0),(5,vI n),(6,(.d (.one (.dsl 500001 ([]))))),(7,vI i),(8,(.d (.one (.dsl 500002 ([])))))] [(500000,some (boxD 25 TG g)),(500001,(.some (.deep us3 TI2 ch))),(500002,(.some (.deep us2 TI1 rs)))]))):=by kernel_rfl
def appL (α:Type) (a b:List α):List α:=a++b
theorem appL_len (α:Type) (a b:List α):(appL α a b).length=a.length+b.length:=length_append
theorem appL_assoc (α:Type) (a b c:List α):appL α (appL α a b) c=appL α a (appL α b c):=append_assoc a b c
theorem appL_nil (α:Type) (a:List α):appL α a []=a:=List.append_nil a
theorem intsBytes:Tryz.t68.bytes=24:=by kernel_rfl
theorem intssBytes:Tryz.t107.bytes=24:=by kernel_rfl
def cx0_j1:Cx:=(cb_l8c).withLoops (look L_j2)
def sh_j1:Sh:=([(1, .d .str),(2, .ptr 500000 0),(5, .d TI64),(6, .deep 500001),(7, .d TI64),(8, .deep 500002),(9, .d TI64)],[(500000, .box 25 TG),(500001, .deep us3 TI2),(500002, .deep us2 TI1)])
abbrev st_j1 (s:Str) (n i k:Int) (g:Gram) (ch:List (Den TI2)) (rs:List (Den TI1)):St:=⟨[(1,vS s),(2, kp0),(5,vI n),(6, .d (.one (.dsl 500001 []))),(7,vI i),(8, .d (.one (.dsl 500002 []))),(9,vI k)],[(500000,some (boxD 25 TG g)),(500001,some (.deep us3 TI2 ch)),(500002,some (.deep us2 TI1 rs))]⟩
def pre_j1 (_s:Str) (n _i k:Int) (_g:Gram) (_ch:List (Den TI2)) (rs:List (Den TI1)):Bool:=decide (0≤k)&&(decide (k≤n)&&(decide (n≤1001)&&decide (length rs=k.toNat)))
def res_j1 (s:Str) (n i k:Int) (g:Gram) (ch:List (Den TI2)) (rs:List (Den TI1)) (K:Cont):Option Fin:=K (.exit 2) ⟨[(1,vS s),(2, kp0),(5,vI n),(6, .d (.one (.dsl 500001 []))),(7,vI i),(8, .d (.one (.dsl 500002 [])))],l8H g ch++[(500002,some (.deep us2 TI1 (appL (List Int) rs (replicate (n-k).toNat (replicate n.toNat 100000)))))]⟩
def mu_j1 (_s:Str) (n _i k:Int) (_g:Gram) (_ch:List (Den TI2)) (_rs:List (Den TI1)):Nat:=(n-k).toNat
theorem r_j1 (s:Str) (n i k:Int) (g:Gram) (ch:List (Den TI2)) (rs:List (Den TI1)) (K:Cont) (hI:pre_j1 s n i k g ch rs=true):(∀R:St→Option Fin,evC cx0_j1 (loopOf Tryz.f99 1) (st_j1 s n i k g ch rs) (onward (headAt cx0_j1 8) R K)=res_j1 s n i k g ch rs K) ∨
  (∃(s':Str) (n' i' k':Int) (g':Gram) (ch':List (Den TI2)) (rs':List (Den TI1)),pre_j1 s' n' i' k' g' ch' rs'=true∧mu_j1 s' n' i' k' g' ch' rs'<mu_j1 s n i k g ch rs∧res_j1 s' n' i' k' g' ch' rs' K=res_j1 s n i k g ch rs K∧∀R:St→Option Fin,evC cx0_j1 (loopOf Tryz.f99 1) (st_j1 s n i k g ch rs) (onward (headAt cx0_j1 8) R K)=R (st_j1 s' n' i' k' g' ch' rs')):=by
 have hx:=fun R=>x_spec_l8Costs_1 g ch rs s n i k R K;simp only[pre_j1,andd,dec_iff]at hI;obtain⟨h0,h1,h2,h3⟩:=hI
 by_cases hk:k<n
 ·have w:W64 (k+1)=k+1:=wrap_small (by omega) (by omega);have k1:decide (0≤n∧n≤n∧n*(Tryz.t3.bytes:Int)≤140737488355328∧n≤9223372036854775807)=true:=by
   rw[intBytes];exact zT ⟨by omega,Int.le_refl _,by omega,by omega⟩
  have kp:pre_j2 s n i k 0 g ch rs (replicate n.toNat 0)=true:=by
   simp only[pre_j2,andd,dec_iff];rw[length_replicate];exact⟨Int.le_refl 0,h2,by omega⟩
  have k2:fits (length rs+[replicate n.toNat (100000:Int)].length) Tryz.t68.bytes=true:=by
   rw[intsBytes];exact zT (by rw[length_singleton];omega)
  obtain⟨m,hm⟩:∃m,(n-k).toNat=m+1:=⟨(n-k).toNat-1,by omega⟩;have hm2:(n-(k+1)).toNat=m:=by omega
  have e0:(n-0).toNat=n.toNat:=by omega
  rw[zT hk,k1,kp,w,e0,fill_all]at hx;change ∀R:St→Option Fin,_=branch true (need true (need true (need (fits (length rs+[replicate n.toNat (100000:Int)].length) Tryz.t68.bytes) _))) _ at hx;rw[k2]at hx;right;refine⟨s,n,i,k+1,g,ch,appL (List Int) rs [replicate n.toNat 100000], ?_, ?_, ?_,fun R=>hx R⟩
  ·simp only[pre_j1,andd,dec_iff];refine⟨by omega,by omega,h2,(appL_len (List Int) rs _).trans ?_⟩;show length (α:=List Int) rs+1=_;have h3:length (α:=List Int) rs=k.toNat:=h3;omega
  ·simp only[mu_j1];omega
  ·simp only[res_j1,hm,hm2];exact congrArg (fun z:List (List Int)=>K (.exit 2) ⟨[(1,vS s),(2, kp0),(5,vI n),(6, .d (.one (.dsl 500001 []))),(7,vI i),(8, .d (.one (.dsl 500002 [])))],l8H g ch++[(500002,some (.deep us2 TI1 z))]⟩) (appL_assoc (List Int) rs [replicate n.toNat 100000] (replicate m (replicate n.toNat 100000)))
 ·left;intro R;refine(hx R).trans ?_;rw[zF hk];have e:(n-k).toNat=0:=by omega
  simp only[res_j1,e];exact congrArg (fun z:List (List Int)=>K (.exit 2) ⟨[(1,vS s),(2, kp0),(5,vI n),(6, .d (.one (.dsl 500001 []))),(7,vI i),(8, .d (.one (.dsl 500002 [])))],l8H g ch++[(500002,some (.deep us2 TI1 z))]⟩) (appL_nil (List Int) rs).symm
def g_j1:St→Cont→Option Fin:=gP sh_j1 (fun v=>match v with | ((s,n,i,k,()),(g,ch,rs,()))=>pre_j1 s n i k g ch rs) (fun v K=>match v with | ((s,n,i,k,()),(g,ch,rs,()))=>res_j1 s n i k g ch rs K)
def L_j1:LpL:=(8,g_j1)::L_j2
theorem l_j1 {L:LpL} (n:Nat) (h1:L.drop n=L_j2) (h2:idsFree (L.take n) (loopOf Tryz.f99 1)=true):LoopsTo g_j1 (cb_l8c) (loopOf Tryz.f99 1) 8 L :=
 with_drop h1 h2 (gP_ok (fun v=>match v with | ((s,n,i,k,()),(g,ch,rs,()))=>mu_j1 s n i k g ch rs) fun v K hI=>by
  obtain⟨⟨s,n,i,k,⟨⟩⟩,⟨g,ch,rs,⟨⟩⟩⟩:=v;exact(r_j1 s n i k g ch rs K hI).imp id fun⟨s',n',i',k',g',ch',rs',h⟩=>⟨((s',n',i',k',()),(g',ch',rs',())),h⟩)
theorem x_spec_l8Costs (g:Gram) (ch:D3) (s:Str) (n i:Int) (R:St→Option Fin) (K:Cont):evC (cb_l8c.withLoops (look L_j1)) (loopOf Tryz.f99 0) ⟨[(1,vS s),(2, kp0),(5,vI n),(6, .d (.one (.dsl 500001 []))),(7,vI i)],l8H g ch⟩ (onward (headAt (cb_l8c.withLoops (look L_j1)) 4) R K)=(
branch (decide (i<5)) (
 need (pre_j1 s n i 0 g ch []) <|
 need (fits (length ch+[appL (List Int) [] (replicate (n-0).toNat (replicate n.toNat 100000))].length) Tryz.t107.bytes) <| R (.mk [(1,vS s),(2,kp0),(5,vI n),(6,(.d (.one (.dsl 500001 ([]))))),(7,vI (W64 (i+1)))] [(500000,some (boxD 25 TG g)),(500001,(.some (.deep us3 TI2 (List.append ch [appL (List Int) [] (replicate (n-0).toNat (replicate n.toNat 100000))]))))])) ( K (.exit 0) (.mk [(1,vS s),(2,kp0),(5,vI n),(6,(.d (.one (.dsl 500001 ([])))))] [(500000,some (boxD 25 TG g)),(500001,(.some (.deep us3 TI2 ch)))]))):=by kernel_rfl
def cx0_j0:Cx:=(cb_l8c).withLoops (look L_j1)
def sh_j0:Sh:=([(1, .d .str),(2, .ptr 500000 0),(5, .d TI64),(6, .deep 500001),(7, .d TI64)],[(500000, .box 25 TG),(500001, .deep us3 TI2)])
abbrev st_j0 (s:Str) (n i:Int) (g:Gram) (ch:List (Den TI2)):St:=⟨[(1,vS s),(2, kp0),(5,vI n),(6, .d (.one (.dsl 500001 []))),(7,vI i)],[(500000,some (boxD 25 TG g)),(500001,some (.deep us3 TI2 ch))]⟩
def pre_j0 (_s:Str) (n i:Int) (_g:Gram) (ch:List (Den TI2)):Bool:=decide (0≤i)&&(decide (i≤5)&&(decide (0≤n)&&(decide (n≤1001)&&decide (length ch=i.toNat))))
def res_j0 (s:Str) (n i:Int) (g:Gram) (ch:List (Den TI2)) (K:Cont):Option Fin:=K (.exit 0) ⟨[(1,vS s),(2, kp0),(5,vI n),(6, .d (.one (.dsl 500001 [])))],l8H g (appL (List (List Int)) ch (replicate (5-i).toNat (replicate n.toNat (replicate n.toNat 100000))))⟩
def mu_j0 (_s:Str) (_n i:Int) (_g:Gram) (_ch:List (Den TI2)):Nat:=(5-i).toNat
theorem r_j0 (s:Str) (n i:Int) (g:Gram) (ch:List (Den TI2)) (K:Cont) (hI:pre_j0 s n i g ch=true):(∀R:St→Option Fin,evC cx0_j0 (loopOf Tryz.f99 0) (st_j0 s n i g ch) (onward (headAt cx0_j0 4) R K)=res_j0 s n i g ch K) ∨
  (∃(s':Str) (n' i':Int) (g':Gram) (ch':List (Den TI2)),pre_j0 s' n' i' g' ch'=true∧mu_j0 s' n' i' g' ch'<mu_j0 s n i g ch∧res_j0 s' n' i' g' ch' K=res_j0 s n i g ch K∧∀R:St→Option Fin,evC cx0_j0 (loopOf Tryz.f99 0) (st_j0 s n i g ch) (onward (headAt cx0_j0 4) R K)=R (st_j0 s' n' i' g' ch')):=by
 have hx:=fun R=>x_spec_l8Costs g ch s n i R K;simp only[pre_j0,andd,dec_iff]at hI;obtain⟨h0,h1,h2,h3,h4⟩:=hI
 by_cases hk:i<5
 ·have w:W64 (i+1)=i+1:=wrap_small (by omega) (by omega);have kp:pre_j1 s n i 0 g ch []=true:=by
   simp only[pre_j1,andd,dec_iff];exact⟨Int.le_refl 0,h2,h3,rfl⟩
  have k2:fits (length ch+[replicate n.toNat (replicate n.toNat (100000:Int))].length) Tryz.t107.bytes=true:=by
   rw[intssBytes];exact zT (by rw[length_singleton];omega)
  obtain⟨m,hm⟩:∃m,(5-i).toNat=m+1:=⟨(5-i).toNat-1,by omega⟩;have hm2:(5-(i+1)).toNat=m:=by omega
  have e0:(n-0).toNat=n.toNat:=by omega
  rw[zT hk,kp,w,e0]at hx;change ∀R:St→Option Fin,_=branch true (need true (need (fits (length ch+[replicate n.toNat (replicate n.toNat (100000:Int))].length) Tryz.t107.bytes) _)) _ at hx;rw[k2]at hx;right;refine⟨s,n,i+1,g,appL (List (List Int)) ch [replicate n.toNat (replicate n.toNat 100000)], ?_, ?_, ?_,fun R=>hx R⟩
  ·simp only[pre_j0,andd,dec_iff];refine⟨by omega,by omega,h2,h3,(appL_len (List (List Int)) ch _).trans ?_⟩;show length (α:=List (List Int)) ch+1=_;have h4:length (α:=List (List Int)) ch=i.toNat:=h4;omega
  ·simp only[mu_j0];omega
  ·simp only[res_j0,hm,hm2];exact congrArg (fun z:D3=>K (.exit 0) ⟨[(1,vS s),(2, kp0),(5,vI n),(6, .d (.one (.dsl 500001 [])))],l8H g z⟩) (appL_assoc (List (List Int)) ch [replicate n.toNat (replicate n.toNat 100000)] (replicate m (replicate n.toNat (replicate n.toNat 100000))))
 ·left;intro R;refine(hx R).trans ?_;rw[zF hk];have e:(5-i).toNat=0:=by omega
  simp only[res_j0,e];exact congrArg (fun z:D3=>K (.exit 0) ⟨[(1,vS s),(2, kp0),(5,vI n),(6, .d (.one (.dsl 500001 [])))],l8H g z⟩) (appL_nil (List (List Int)) ch).symm
def g_j0:St→Cont→Option Fin:=gP sh_j0 (fun v=>match v with | ((s,n,i,()),(g,ch,()))=>pre_j0 s n i g ch) (fun v K=>match v with | ((s,n,i,()),(g,ch,()))=>res_j0 s n i g ch K)
def L_j0:LpL:=(4,g_j0)::L_j1
def cx_j0:Cx:=(cb_l8c).withLoops (look L_j0)
theorem l_j0 {L:LpL} (n:Nat) (h1:L.drop n=L_j1) (h2:idsFree (L.take n) (loopOf Tryz.f99 0)=true):LoopsTo g_j0 (cb_l8c) (loopOf Tryz.f99 0) 4 L :=
 with_drop h1 h2 (gP_ok (fun v=>match v with | ((s,n,i,()),(g,ch,()))=>mu_j0 s n i g ch) fun v K hI=>by
  obtain⟨⟨s,n,i,⟨⟩⟩,⟨g,ch,⟨⟩⟩⟩:=v;exact(r_j0 s n i g ch K hI).imp id fun⟨s',n',i',g',ch',h⟩=>⟨((s',n',i',()),(g',ch',())),h⟩)
def farC (n:Nat):D3:=replicate 5 (replicate n (replicate n 100000))
theorem far_ok {n:Nat}:okD5 n (farC n)=true:=okD5_iff.2 ⟨length_replicate,fun r hr=>by
 obtain rfl:=List.eq_of_mem_replicate hr;refine⟨length_replicate,fun q hq => ?_⟩;obtain rfl:=List.eq_of_mem_replicate hq;refine⟨length_replicate,fun e he => ?_⟩;obtain rfl:=List.eq_of_mem_replicate he;exact⟨by decide,by decide⟩⟩
def costC (s:Str) (l:List Rule):D3:=runC hasE (keysF (s.length+1)) (stepF s) (visE (s.length+1) l) (farC (s.length+1))
theorem y_spec_l8Costs (g:Gram) (s:Str):evFn cx_j0 Tryz.f99 false [ofD TG g,ofD .str s] []=(
need (pre_j0 s (W64 ((s.length:Int)+1)) 0 g []) <|
need (pre_j3 s (W64 ((s.length:Int)+1)) true g (appL (List (List Int)) [] (replicate ((5:Int)-0).toNat (replicate (W64 ((s.length:Int)+1)).toNat (replicate (W64 ((s.length:Int)+1)).toNat 100000))))) <| some ((.d (.one (.dsl 1000 ([])))),[(1000,(.some (.deep us3 TI2 (bif true then runC hasE (keysF (length s+1)) (stepF s) (visE (length s+1) g.snd) (appL (List (List Int)) [] (replicate ((5:Int)-0).toNat (replicate (W64 ((s.length:Int)+1)).toNat (replicate (W64 ((s.length:Int)+1)).toNat 100000))))else appL (List (List Int)) [] (replicate ((5:Int)-0).toNat (replicate (W64 ((s.length:Int)+1)).toNat (replicate (W64 ((s.length:Int)+1)).toNat 100000)))))))])):=by kernel_rfl
theorem s_spec_l8Costs (g:Gram) (_hg:Fit TG g) (s:Str) (_hs:Fit .str s) (hpre:(okRp g.2&&decide (length s≤1000))=true):Sat Tryz.prog 99 [ofD TG g,ofD .str s] [] (.d (.one (.dsl 1000 []))) ([(1000,some (.deep us3 TI2 (costC s g.2)))]) :=
 fn_sound (cx:=cx_j0) Tryz.func99 rfl ttOk Γ84ok mixed (fun c hc=>LoopsOk.all (l:=[(4,loopOf Tryz.f99 0),(8,loopOf Tryz.f99 1),(12,loopOf Tryz.f99 2),(18,loopOf Tryz.f99 3),(21,loopOf Tryz.f99 4),(25,loopOf Tryz.f99 5),(29,loopOf Tryz.f99 6)]) (by cases hc;kernel_rfl) ⟨atLoop rfl (l_j0 1 rfl (by kernel_rfl)),atLoop rfl (l_j1 2 rfl (by kernel_rfl)),atLoop rfl (l_j2 3 rfl (by kernel_rfl)),atLoop rfl (l_j3 4 rfl (by kernel_rfl)),atLoop rfl (l_j4 5 rfl (by kernel_rfl)),atLoop rfl (l_j5 6 rfl (by kernel_rfl)),atLoop rfl (l_j6 7 rfl (by kernel_rfl)),trivial⟩) (ro:=false) (by
  obtain⟨h1,h2⟩:=andd.1 hpre;have h2:=dec_iff.1 h2;have w:W64 ((length s:Int)+1)=(length s:Int)+1:=wrap_small (by omega) (by omega);have e1:((length s:Int)+1).toNat=length s+1:=by omega
  have e2:((5:Int)-0).toNat=5:=rfl;have p0:pre_j0 s ((length s:Int)+1) 0 g []=true:=by
   simp only[pre_j0,andd,dec_iff];exact⟨Int.le_refl 0,by omega,by omega,by omega,rfl⟩
  have p2:pre_j3 s ((length s:Int)+1) true g (farC (length s+1))=true:=by
   simp only[pre_j3,andd,dec_iff];exact⟨trivial,far_ok,h1,h2⟩
  rw[y_spec_l8Costs,w,e1,e2];change need (pre_j0 s ((length s:Int)+1) 0 g []) (need (pre_j3 s ((length s:Int)+1) true g (farC (length s+1))) _)=_;rw[p0,p2];rfl)
def c_spec_l8Costs:Con:=conN [TG, .str] fun(g:Gram) (s:Str)=>(some (okRp g.2&&decide (length s≤1000)), .d (.one (.dsl 1000 [])),[(1000,some (.deep us3 TI2 (costC s g.2)))])
theorem k_spec_l8Costs:ConOk Tryz.prog 99 c_spec_l8Costs:=conN_ok Tryz.call99 fun g hg s hs hqq=>s_spec_l8Costs g hg s hs (pre_of hqq)
def Γ85:GL:=(99,c_spec_l8Costs)::Γ84
theorem Γ85ok:GO Γ85 := .cons k_spec_l8Costs Γ84ok
theorem costC_ok {s:Str} {l:List Rule} (h:okRp l=true) (hs:length s≤1000):okD5 (length s+1) (costC s l)=true:=(runC_end (stepF_ok hs) (J:=fun _=>True) (good_visE (s:=s) h) (fun _ _ _ _=>trivial) (m:=farC (length s+1)) far_ok trivial).1
def startC (g:Gram) (s:Str):Int:=atD (costC s g.2) (byteAt g.1 0-65) 0 (s.length:Int)
theorem y_spec_l8Start (g:Gram) (s:Str):evFn (cxOf Γ85 Tryz.f48.ntmps [] [] [] []) Tryz.f48 true [ofD TG g,ofD .str s] []=(
need (okRp g.snd&&decide (s.length≤1000)) <|
need (inb 0 (length g.fst)) <|
need (inb (W64 (IntKind.u8.wrap (byteAt g.fst 0-65))) (length (costC s g.snd))) <|
need (inb 0 (getD (costC s g.snd) (W64 (IntKind.u8.wrap (byteAt g.fst 0-65))).toNat []).length) <|
need (inb ((s.length:Int)) ((getD (costC s g.snd) (W64 (IntKind.u8.wrap (byteAt g.fst 0-65))).toNat []).getD ((0:Int).toNat) []).length) <| some ((vI (((getD (costC s g.snd) (W64 (IntKind.u8.wrap (byteAt g.fst 0-65))).toNat []).getD ((0:Int).toNat) []).getD ((s.length:Int)).toNat 0)),[])):=by kernel_rfl
theorem s_spec_l8Start (g:Gram) (_hg:Fit TG g) (s:Str) (_hs:Fit .str s) (hpre:(okG g&&decide (length s≤1000))=true):Sat Tryz.prog 48 [ofD TG g,ofD .str s] [] (.d (ofD TI64 (startC g s))) [] :=
 fn_sound (cx:=cxOf Γ85 Tryz.f48.ntmps [] [] [] []) Tryz.func48 rfl ttOk Γ85ok mixed (fun _ _=>LoopsOk.no fun _=>rfl) (ro:=true) (by
  obtain⟨h1,h2⟩:=andd.1 hpre;have h3:=dec_iff.1 h2;obtain⟨c,hc,hb⟩:=bigS_one (okG_big h1);have hk:=key_wrap (r:=(g.1,[])) (okG_big h1);have hk:W64 (IntKind.u8.wrap (byteAt g.1 0-65))=byteAt g.1 0-65:=hk;obtain⟨k0,k1,_⟩:=keyK_in (r:=(g.1,[])) (okG_big h1);have k0:0≤byteAt g.1 0-65:=k0;have k1:byteAt g.1 0-65<5:=k1;obtain⟨l1,l2,l3⟩:=okD5_at (costC_ok (s:=s) (ok_rp h1) h3) (k:=byteAt g.1 0-65) (i:=0) k0 k1 (Int.le_refl 0) (by omega);have hl:inb 0 (length g.1)=true:=by rw[hc];rfl
  have kk:(okRp g.2&&decide (length s≤1000))=true:=andd.2 ⟨ok_rp h1,h2⟩;rw[y_spec_l8Start,kk,hl,hk,l1,l2,l3,inb_ok k0 (by omega),inb_ok (Int.le_refl 0) (by omega),inb_ok (by omega) (by omega)];rfl)
def c_spec_l8Start:Con:=conT [TG, .str] fun(g:Gram) (s:Str)=>(some (okG g&&decide (length s≤1000)), .d (ofD TI64 (startC g s)))
theorem k_spec_l8Start:ConOk Tryz.prog 48 c_spec_l8Start:=conT_ok Tryz.call48 fun g hg s hs hqq=>s_spec_l8Start g hg s hs (pre_of hqq)
def Γ86:GL:=(48,c_spec_l8Start)::Γ85
theorem Γ86ok:GO Γ86 := .cons k_spec_l8Start Γ85ok
inductive Ed:Str→Str→Nat→Prop
 | nil:Ed [] [] 0
 | keep {c:UInt8} {u w:Str} {n:Nat} (h:Ed u w n):Ed (c::u) (c::w) n
 | turn {c d:UInt8} {u w:Str} {n:Nat} (hne:c≠d) (h:Ed u w n):Ed (c::u) (d::w) (n+1)
 | out {c:UInt8} {u w:Str} {n:Nat} (h:Ed u w n):Ed (c::u) w (n+1)
 | ins {c:UInt8} {u w:Str} {n:Nat} (h:Ed u w n):Ed u (c::w) (n+1)
theorem Ed.refl:∀ {u:Str},Ed u u 0
 | [] => .nil
 |_::_ => .keep Ed.refl
theorem Ed.zero {u w:Str} (h:Ed u w 0):u=w:=by
 generalize hn:0=n at h
 induction h with
 |nil=>rfl
 |keep _ ih=>rw[ih hn]
 |turn=>omega
 |out=>omega
 |ins=>omega
theorem Ed.app {u w u' w':Str} {n m:Nat} (h:Ed u w n) (h':Ed u' w' m):Ed (u++u') (w++w') (n+m):=by
 induction h with
 |nil=>rw[Nat.zero_add];exact h'
 |keep _ ih=>exact .keep ih
 |turn hne _ ih=>rw[Nat.add_right_comm];exact .turn hne ih
 |out _ ih=>rw[Nat.add_right_comm];exact .out ih
 |ins _ ih=>rw[Nat.add_right_comm];exact .ins ih
theorem Ed.outs:∀ {u:Str},Ed u [] u.length
 | [] => .nil
 |_::_ => .out Ed.outs
theorem Ed.to_nil {u w:Str} {n:Nat} (h:Ed u w n) (hw:w=[]):n=u.length:=by
 induction h with
 |nil=>rfl
 |keep=>cases hw
 |turn=>cases hw
 |out _ ih=>rw[ih hw];rfl
 |ins=>cases hw
theorem Ed.split {u w:Str} {n:Nat} (h:Ed u w n):∀ {w1 w2:Str},w=w1++w2→∃u1 u2 n1 n2,u=u1++u2∧n=n1+n2∧Ed u1 w1 n1∧Ed u2 w2 n2:=by
 induction h with
 |nil =>
  intro w1 w2 e;obtain⟨rfl,rfl⟩:=List.append_eq_nil_iff.1 e.symm;exact⟨[],[],0,0,rfl,rfl, .nil, .nil⟩
 | @keep c u w n h ih =>
  intro w1 w2 e
  cases w1 with
  |nil =>
   have e:c::w=w2:=e;exact⟨[],c::u,0,n,rfl,by omega, .nil,by rw[← e];exact .keep h⟩
  |cons d w1 =>
   have e:c::w=d::(w1++w2):=e
   cases e
   obtain⟨u1,u2,n1,n2,rfl,rfl,h1,h2⟩:=ih rfl;exact⟨c::u1,u2,n1,n2,rfl,rfl, .keep h1,h2⟩
 | @turn c d u w n hne h ih =>
  intro w1 w2 e
  cases w1 with
  |nil =>
   have e:d::w=w2:=e;exact⟨[],c::u,0,n+1,rfl,by omega, .nil,by rw[← e];exact .turn hne h⟩
  |cons d' w1 =>
   have e:d::w=d'::(w1++w2):=e
   cases e
   obtain⟨u1,u2,n1,n2,rfl,rfl,h1,h2⟩:=ih rfl;exact⟨c::u1,u2,n1+1,n2,rfl,by omega, .turn hne h1,h2⟩
 | @out c u w n h ih =>
  intro w1 w2 e;obtain⟨u1,u2,n1,n2,rfl,rfl,h1,h2⟩:=ih e;exact⟨c::u1,u2,n1+1,n2,rfl,by omega, .out h1,h2⟩
 | @ins c u w n h ih =>
  intro w1 w2 e
  cases w1 with
  |nil =>
   have e:c::w=w2:=e;exact⟨[],u,0,n+1,rfl,by omega, .nil,by rw[← e];exact .ins h⟩
  |cons d w1 =>
   have e:c::w=d::(w1++w2):=e
   cases e
   obtain⟨u1,u2,n1,n2,rfl,rfl,h1,h2⟩:=ih rfl;exact⟨u1,u2,n1+1,n2,rfl,by omega, .ins h1,h2⟩
theorem Ed.tri {b c:Str} {n:Nat} (h:Ed b c n):∀ {a:Str} {m:Nat},Ed a b m→∃k,k≤m+n∧Ed a c k:=by
 induction h with
 |nil=>intro a m h;exact ⟨m,by omega,h⟩
 | @keep x u w n h ih =>
  intro a m h'
  generalize hb:x::u=b at h'
  induction h' with
  |nil=>cases hb
  |keep g _=>cases hb;obtain ⟨k,k1,k2⟩:=ih g;exact ⟨k,k1, .keep k2⟩
  |turn hne g _=>cases hb;obtain ⟨k,k1,k2⟩:=ih g;exact ⟨k+1,by omega, .turn hne k2⟩
  |out _ ih2=>obtain ⟨k,k1,k2⟩:=ih2 hb;exact ⟨k+1,by omega, .out k2⟩
  |ins g _=>cases hb;obtain ⟨k,k1,k2⟩:=ih g;exact ⟨k+1,by omega, .ins k2⟩
 | @turn x y u w n hne h ih =>
  intro a m h'
  generalize hb:x::u=b at h'
  induction h' with
  |nil=>cases hb
  |keep g _=>cases hb;obtain ⟨k,k1,k2⟩:=ih g;exact ⟨k+1,by omega, .turn hne k2⟩
  | @turn z d u' w' n' hne' g _ =>
   cases hb;obtain ⟨k,k1,k2⟩:=ih g
   by_cases e:z=y
   ·subst e;exact ⟨k,by omega, .keep k2⟩
   ·exact ⟨k+1,by omega, .turn e k2⟩
  |out _ ih2=>obtain ⟨k,k1,k2⟩:=ih2 hb;exact ⟨k+1,by omega, .out k2⟩
  |ins g _=>cases hb;obtain ⟨k,k1,k2⟩:=ih g;exact ⟨k+1,by omega, .ins k2⟩
 | @out x u w n h ih =>
  intro a m h'
  generalize hb:x::u=b at h'
  induction h' with
  |nil=>cases hb
  |keep g _=>cases hb;obtain ⟨k,k1,k2⟩:=ih g;exact ⟨k+1,by omega, .out k2⟩
  |turn _ g _=>cases hb;obtain ⟨k,k1,k2⟩:=ih g;exact ⟨k+1,by omega, .out k2⟩
  |out _ ih2=>obtain ⟨k,k1,k2⟩:=ih2 hb;exact ⟨k+1,by omega, .out k2⟩
  |ins g _=>cases hb;obtain ⟨k,k1,k2⟩:=ih g;exact ⟨k,by omega,k2⟩
 |ins _ ih =>
  intro a m h';obtain⟨k,k1,k2⟩:=ih h';exact⟨k+1,by omega, .ins k2⟩
inductive OneEd:Str→Str→Prop
 | out {u v:Str} {c:UInt8}:OneEd (u++c::v) (u++v)
 | turn {u v:Str} {c d:UInt8} (hne:c≠d):OneEd (u++c::v) (u++d::v)
 | ins {u v:Str} {c:UInt8}:OneEd (u++v) (u++c::v)
theorem OneEd.ed {s x:Str} (h:OneEd s x):Ed s x 1:=by
 cases h with
 |out=>exact (Ed.refl.app (.out Ed.refl):Ed _ _ (0+1))
 |turn hne=>exact (Ed.refl.app (.turn hne Ed.refl):Ed _ _ (0+1))
 |ins=>exact (Ed.refl.app (.ins Ed.refl):Ed _ _ (0+1))
theorem OneEd.de {s x:Str} (h:OneEd s x):Ed x s 1:=by
 cases h with
 |out=>exact (Ed.refl.app (.ins Ed.refl):Ed _ _ (0+1))
 |turn hne=>exact (Ed.refl.app (.turn (Ne.symm hne) Ed.refl):Ed _ _ (0+1))
 |ins=>exact (Ed.refl.app (.out Ed.refl):Ed _ _ (0+1))
inductive OneIn (w:Str):Str→Str→Prop
 | out {u v:Str} {c:UInt8}:OneIn w (u++c::v) (u++v)
 | turn {u v:Str} {c d:UInt8} (hne:c≠d) (hd:d∈w):OneIn w (u++c::v) (u++d::v)
 | ins {u v:Str} {c:UInt8} (hc:c∈w):OneIn w (u++v) (u++c::v)
theorem OneIn.cons {w s x:Str} {c d:UInt8} (h:OneIn w s x):OneIn (d::w) (c::s) (c::x):=by
 cases h with
 | @out u v e=>exact .out (u:=c::u) (v:=v) (c:=e)
 | @turn u v e f hne hd=>exact .turn (u:=c::u) (v:=v) hne (mem_cons_of_mem _ hd)
 | @ins u v e hc=>exact .ins (u:=c::u) (v:=v) (mem_cons_of_mem _ hc)
theorem Ed.first {s w:Str} {n:Nat} (h:Ed s w n):∀ {m:Nat},n=m+1→∃x,OneIn w s x∧Ed x w m:=by
 induction h with
 |nil=>intro m e;cases e
 | @keep c u w n h ih =>
  intro m e;obtain⟨x,h1,h2⟩:=ih e;exact⟨c::x,h1.cons, .keep h2⟩
 | @turn c d u w n hne h ih =>
  intro m e
  cases e
  exact⟨d::u, .turn (u:=[]) hne mem_cons_self, .keep h⟩
 | @out c u w n h ih =>
  intro m e
  cases e
  exact⟨u, .out (u:=[]),h⟩
 | @ins c u w n h ih =>
  intro m e
  cases e
  exact⟨c::u, .ins (u:=[]) mem_cons_self, .keep h⟩
theorem Ed.len {s w:Str} {n:Nat} (h:Ed s w n):w.length≤s.length+n∧s.length≤w.length+n:=by
 induction h with
 |nil=>exact ⟨Nat.le_refl _,Nat.le_refl _⟩
 |keep _ ih=>simp only[length_cons];omega
 |turn _ _ ih=>simp only[length_cons];omega
 |out _ ih=>simp only[length_cons];omega
 |ins _ ih=>simp only[length_cons];omega
def costN (u:Str) (c:UInt8):Nat:=if u=[] then 1 else if c∈u then u.length-1 else u.length
theorem costN_ed {u:Str} {c:UInt8}:Ed u [c] (costN u c):=by
 unfold costN
 split
 ·rename_i h;rw[h];exact .ins .nil
 ·split
  ·rename_i h;obtain⟨a,b,rfl⟩:=List.append_of_mem h;have:=(Ed.outs (u:=a)).app (Ed.keep (c:=c) (Ed.outs (u:=b)));rw[show (a++c::b).length-1=a.length+b.length by rw[length_append,length_cons];omega];exact this
  ·rename_i h0 h
   cases u with
   |nil=>exact absurd rfl h0
   |cons d u =>
    have hne:d≠c:=fun e=>h (by rw[e];exact mem_cons_self);exact .turn hne Ed.outs
theorem costN_le {u w:Str} {n:Nat} (h:Ed u w n):∀ {c:UInt8},w=[c]→costN u c≤n:=by
 induction h with
 |nil=>intro c e;cases e
 | @keep x u w n h ih =>
  intro c e
  cases e
  have:=h.to_nil rfl;unfold costN;rw[if_neg (by simp),if_pos mem_cons_self,length_cons];omega
 | @turn x d u w n hne h ih =>
  intro c e
  cases e
  have:=h.to_nil rfl;unfold costN;rw[if_neg (by simp)]
  split<;>(rw[length_cons];omega)
 | @out x u w n h ih =>
  intro c e;have:=ih e;unfold costN at *;rw[if_neg (by simp)]
  by_cases h0:u=[]
  ·subst h0;rw[if_pos rfl]at this
   split<;>(simp only[length_cons,List.length_nil];omega)
  ·rw[if_neg h0]at this;have hl:0<u.length:=List.length_pos_iff.2 h0
   by_cases hc:c∈u
   ·rw[if_pos hc]at this;rw[if_pos (mem_cons_of_mem _ hc),length_cons];omega
   ·rw[if_neg hc]at this
    split<;>(rw[length_cons];omega)
 | @ins x u w n h ih =>
  intro c e
  cases e
  have:=h.to_nil rfl;unfold costN
  split
  ·omega
  ·split<;>omega
def dstP (s:Str) (P:Str→Int→Int→Nat→Prop) (a:Str) (i j:Int) (n:Nat):Prop:=if smallS a then n=costN (subS s i j) (a.headD 0)else P a i j n
def splD (s:Str) (P:Str→Int→Int→Nat→Prop):Str→Int→Int→Nat→Prop
 | [],i,j,n=>i=j∧n=0
 |c::r,i,j,n=>∃k n1 n2,i≤k∧k≤j∧n=n1+n2∧dstP s P [c] i k n1∧splD s P r k j n2
def rhsD (s:Str) (P:Str→Int→Int→Nat→Prop) (r:Str) (i j:Int) (n:Nat):Prop:=if r=[] then n=(j-i).toNat else splD s P r i j n
def ClosedD (s:Str) (l:List Rule) (P:Str→Int→Int→Nat→Prop):Prop:=∀r∈l,∀i j n,0≤i→i≤j→j≤(s.length:Int)→rhsD s P r.2 i j n→P r.1 i j n
def DistG (s:Str) (l:List Rule) (a:Str) (i j:Int) (n:Nat):Prop:=∀P,ClosedD s l P→P a i j n
def wdP (Q:Str→Str→Prop) (a w:Str):Prop:=if smallS a then w=a else Q a w
def spW (Q:Str→Str→Prop):Str→Str→Prop
 | [],w=>w=[]
 |c::r,w=>∃w1 w2,w=w1++w2∧wdP Q [c] w1∧spW Q r w2
def ClosedW (l:List Rule) (Q:Str→Str→Prop):Prop:=∀r∈l,∀w,spW Q r.2 w→Q r.1 w
def WordG (l:List Rule) (a w:Str):Prop:=∀Q,ClosedW l Q→Q a w
theorem spW_mono {Q R:Str→Str→Prop} (h:∀a w,Q a w→R a w):∀ {r w:Str},spW Q r w→spW R r w
 | [],_,g=>g
 |c::r,w,⟨w1,w2,e,g1,g2⟩=>by
  refine⟨w1,w2,e, ?_,spW_mono h g2⟩;unfold wdP at g1 ⊢
  split
  ·rename_i hs;rw[if_pos hs]at g1;exact g1
  ·rename_i hs;rw[if_neg hs]at g1;exact h _ _ g1
theorem Word_closed {l:List Rule}:ClosedW l (WordG l):=fun r hr w h Q hQ=>hQ r hr w (spW_mono (fun _ _ g=>g Q hQ) h)
theorem splD_mono {s:Str} {P Q:Str→Int→Int→Nat→Prop} (h:∀a i j n,0≤i→i≤j→j≤(s.length:Int)→P a i j n→Q a i j n):∀ {r:Str} {i j:Int} {n:Nat},0≤i→j≤(s.length:Int)→splD s P r i j n→splD s Q r i j n
 | [],_,_,_,_,_,g=>g
 |c::r,i,j,n,h0,h1,⟨k,n1,n2,k1,k2,e,g1,g2⟩=>by
  refine⟨k,n1,n2,k1,k2,e, ?_,splD_mono h (by omega) h1 g2⟩;unfold dstP at g1 ⊢
  split
  ·rename_i hs;rw[if_pos hs]at g1;exact g1
  ·rename_i hs;rw[if_neg hs]at g1;exact h _ _ _ _ h0 k1 (by omega) g1
theorem rhsD_mono {s:Str} {P Q:Str→Int→Int→Nat→Prop} (h:∀a i j n,0≤i→i≤j→j≤(s.length:Int)→P a i j n→Q a i j n) {r:Str} {i j:Int} {n:Nat} (h0:0≤i) (h1:j≤(s.length:Int)) (g:rhsD s P r i j n):rhsD s Q r i j n:=by
 unfold rhsD at g ⊢
 split
 ·rename_i hs;rw[if_pos hs]at g;exact g
 ·rename_i hs;rw[if_neg hs]at g;exact splD_mono h h0 h1 g
theorem Dist_closed {s:Str} {l:List Rule}:ClosedD s l (DistG s l):=fun r hr i j n h0 h1 h2 h P hP=>hP r hr i j n h0 h1 h2 (rhsD_mono (fun _ _ _ _ _ _ _ g=>g P hP) h0 h2 h)
theorem sub_app {s:Str} {i k j:Int} (_h0:0≤i) (h1:i≤k) (h2:k≤j) (_h3:j≤(s.length:Int)):subS s i j=subS s i k++subS s k j:=by
 unfold subS;rw[show j.toNat-i.toNat=(k.toNat-i.toNat)+(j.toNat-k.toNat)by omega,List.take_add,List.drop_drop,show i.toNat+(k.toNat-i.toNat)=k.toNat by omega]
theorem sub_nil {s:Str} {i:Int}:subS s i i=[]:=by
 unfold subS;rw[Nat.sub_self];rfl
theorem sub_all {s:Str}:subS s 0 (s.length:Int)=s:=by
 unfold subS;rw[show ((s.length:Int)).toNat-(0:Int).toNat=s.length by omega];show List.take s.length s=s;exact List.take_length
theorem sub_split {s u1 u2:Str} {i j:Int} (h0:0≤i) (h1:i≤j) (h2:j≤(s.length:Int)) (h:subS s i j=u1++u2):∃k,i≤k∧k≤j∧u1=subS s i k∧u2=subS s k j:=by
 have hl:=sub_len h0 h1 h2;rw[h,length_append]at hl;have h3:=sub_app (s:=s) (i:=i) (k:=i+u1.length) (j:=j) h0 (by omega) (by omega) h2;have h4:=sub_len (s:=s) (i:=i) (j:=i+u1.length) h0 (by omega) (by omega);rw[h]at h3;have h5:=List.append_inj h3 (by omega);exact⟨i+u1.length,by omega,by omega,h5.1,h5.2⟩
theorem dist_word {s:Str} {l:List Rule} {a:Str} {i j:Int} {n:Nat} (h:DistG s l a i j n):0≤i→i≤j→j≤(s.length:Int)→∃w m,m≤n∧WordG l a w∧Ed (subS s i j) w m:=by
 refine h (fun a i j n=>0≤i→i≤j→j≤(s.length:Int)→∃w m,m≤n∧WordG l a w∧Ed (subS s i j) w m) ?_;intro r hr i j n h0 h1 h2 g _ _ _
 suffices hs:∃w m,m≤n∧spW (WordG l) r.2 w∧Ed (subS s i j) w m by
  obtain⟨w,m,hm,hw,he⟩:=hs;exact⟨w,m,hm,Word_closed r hr w hw,he⟩
 unfold rhsD at g
 by_cases hr0:r.2=[]
 ·rw[if_pos hr0]at g;have hl:=sub_len h0 h1 h2;refine⟨[],(subS s i j).length,by omega,by rw[hr0];exact rfl,Ed.outs⟩
 ·rw[if_neg hr0]at g;clear hr hr0
  generalize r.2=q at g
  induction q generalizing i n with
  |nil =>
   obtain⟨rfl,rfl⟩:=g;exact⟨[],0,Nat.le_refl _,rfl,by rw[sub_nil];exact .nil⟩
  |cons c q ih =>
   obtain⟨k,n1,n2,k1,k2,rfl,g1,g2⟩:=g;obtain⟨w2,m2,e1,e2,e3⟩:=ih k n2 (by omega) k2 (by omega) k2 g2;have h3:∃w1 m1,m1≤n1∧wdP (WordG l) [c] w1∧Ed (subS s i k) w1 m1:=by
    unfold dstP at g1
    split at g1
    ·rename_i hs;exact⟨[c],n1,Nat.le_refl _,by unfold wdP;rw[if_pos hs],by rw[g1];exact costN_ed⟩
    ·rename_i hs;obtain⟨w,m,d1,d2,d3⟩:=g1 h0 k1 (by omega);exact⟨w,m,d1,by unfold wdP;rw[if_neg hs];exact d2,d3⟩
   obtain⟨w1,m1,d1,d2,d3⟩:=h3;exact⟨w1++w2,m1+m2,by omega,⟨w1,w2,rfl,d2,e2⟩,by rw[sub_app h0 k1 k2 h2];exact d3.app e3⟩
theorem word_dist {s:Str} {l:List Rule} {a w:Str} (h:WordG l a w):∀ {i j:Int} {m:Nat},0≤i→i≤j→j≤(s.length:Int)→Ed (subS s i j) w m→∃n,n≤m∧DistG s l a i j n:=by
 refine h (fun a w=>∀ {i j:Int} {m:Nat},0≤i→i≤j→j≤(s.length:Int)→Ed (subS s i j) w m→∃n,n≤m∧DistG s l a i j n) ?_;intro r hr w g i j m h0 h1 h2 he
 suffices hs:∃n,n≤m∧rhsD s (DistG s l) r.2 i j n by
  obtain⟨n,hn,hd⟩:=hs;exact⟨n,hn,Dist_closed r hr i j n h0 h1 h2 hd⟩
 clear hr
 generalize r.2=q at g
 by_cases hq:q=[]
 ·subst hq;have hw:w=[]:=g;have hl:=sub_len h0 h1 h2;have:=he.to_nil hw;exact⟨(j-i).toNat,by omega,by unfold rhsD;rw[if_pos rfl]⟩
 ·suffices hs:∃n,n≤m∧splD s (DistG s l) q i j n by
   obtain⟨n,hn,hd⟩:=hs;exact⟨n,hn,by unfold rhsD;rw[if_neg hq];exact hd⟩
  have one:∀ {c:UInt8} {w:Str} {i j:Int} {m:Nat},0≤i→i≤j→j≤(s.length:Int)→wdP (fun a w=>∀ {i j:Int} {m:Nat},0≤i→i≤j→j≤(s.length:Int)→Ed (subS s i j) w m→∃n,n≤m∧DistG s l a i j n) [c] w→Ed (subS s i j) w m→∃n,n≤m∧dstP s (DistG s l) [c] i j n:=by
   intro c w i j m h0 h1 h2 g he;unfold wdP at g
   split at g
   ·rename_i hs;exact⟨_,costN_le he g,by unfold dstP;rw[if_pos hs];rfl⟩
   ·rename_i hs;obtain⟨n,hn,hd⟩:=g h0 h1 h2 he;exact⟨n,hn,by unfold dstP;rw[if_neg hs];exact hd⟩
  induction q generalizing i w m with
  |nil=>exact absurd rfl hq
  |cons c q ih =>
   obtain⟨w1,w2,rfl,g1,g2⟩:=g
   by_cases hq0:q=[]
   ·subst hq0;have hw:w2=[]:=g2;subst hw;rw[List.append_nil]at he;obtain⟨n,hn,hd⟩:=one h0 h1 h2 g1 he;exact⟨n,hn,j,n,0,h1,Int.le_refl _,rfl,hd,rfl,rfl⟩
   ·obtain ⟨u1,u2,m1,m2,e,rfl,e1,e2⟩:=he.split rfl;obtain⟨k,k1,k2,rfl,rfl⟩:=sub_split h0 h1 h2 e;obtain⟨n1,hn1,hd1⟩:=one h0 k1 (by omega) g1 e1;obtain⟨n2,hn2,hd2⟩:=ih w2 (by omega) k2 e2 g2 hq0;exact⟨n1+n2,by omega,k,n1,n2,k1,k2,rfl,hd1,hd2⟩
theorem word_der {l:List Rule} {a w:Str}:WordG l a w↔DerG w l a 0 (w.length:Int):=by
 constructor
 ·intro h;refine h (fun a w=>DerG w l a 0 (w.length:Int)) ?_;intro r hr w g;refine Der_closed r hr 0 _ (Int.le_refl _) (by omega) (Int.le_refl _) ?_;have key:∀ {q u:Str} {i:Int},0≤i→i≤(w.length:Int)→spW (fun a w=>DerG w l a 0 (w.length:Int)) q u→u=subS w i (w.length:Int)→splP w (DerG w l) q i (w.length:Int):=by
   intro q
   induction q with
   |nil =>
    intro u i h0 h1 g e;have g:u=[]:=g;have hl:=sub_len h0 h1 (Int.le_refl _);rw[← e,g]at hl;show i=_;simp only[List.length_nil]at hl;omega
   |cons c q ih =>
    intro u i h0 h1 g e;obtain⟨w1,w2,rfl,g1,g2⟩:=g;obtain⟨k,k1,k2,rfl,rfl⟩:=sub_split h0 h1 (Int.le_refl _) e.symm;refine⟨k,k1,k2, ?_,ih (by omega) k2 g2 rfl⟩;have hl:=sub_len h0 k1 k2;unfold wdP at g1;unfold derP
    split
    ·rename_i hs;rw[if_pos hs]at g1;rw[g1]at hl;simp only[length_cons,List.length_nil]at hl;have hk:k=i+1:=by omega
     refine⟨hk, ?_⟩;have:=sub_at (s:=w) (i:=i) (j:=k) (k:=0) h0 k2 (Int.le_refl _) (by omega);rw[g1,show (0:Int)+i=i by omega]at this;rw[← this];rfl
    ·rename_i hs;rw[if_neg hs]at g1;rw[hl]at g1;exact(Der_sub h0 k1 k2).1 g1
  exact key (Int.le_refl _) (by omega) g sub_all.symm
 ·intro h;have:=h (fun a i j=>0≤i→i≤j→j≤(w.length:Int)→WordG l a (subS w i j)) ?_ (Int.le_refl _) (by omega) (Int.le_refl _)
  ·rw[sub_all]at this;exact this
  ·intro r hr i j h0 h1 h2 g _ _ _;refine Word_closed r hr _ ?_
   generalize r.2=q at g
   clear hr
   induction q generalizing i with
   |nil =>
    have:i=j:=g;subst this;exact sub_nil
   |cons c q ih =>
    obtain⟨k,k1,k2,g1,g2⟩:=g;refine⟨subS w i k,subS w k j,sub_app h0 k1 k2 h2, ?_,ih k (by omega) k2 (by omega) k2 g2⟩;unfold derP at g1;unfold wdP
    split
    ·rename_i hs;rw[if_pos hs]at g1;obtain⟨rfl,e⟩:=g1;rw[← e];exact slice_one h0 (by omega)
    ·rename_i hs;rw[if_neg hs]at g1;exact g1 h0 k1 (by omega)
theorem relN_at {f:Int→Int}:∀ {n:Nat} {z:Int} {l:List Int} {y:Nat},0≤z→z+n≤(l.length:Int)→y<l.length →
  ((relN f n z l).getD y 0≤l.getD y 0∧(z≤(y:Int)→(y:Int)<z+n→(relN f n z l).getD y 0≤f y))∧((relN f n z l).getD y 0=l.getD y 0∨(z≤(y:Int)∧(y:Int)<z+n∧(relN f n z l).getD y 0=f y))
 |0,z,l,y,_,_,_=>⟨⟨Int.le_refl _,fun h1 h2=>by omega⟩, .inl rfl⟩
 |n+1,z,l,y,h0,h1,hy=>by
  unfold relN;obtain⟨w,hw⟩:∃w,w=(if f z<l.getD z.toNat 0 then f z else l.getD z.toNat 0):=⟨_,rfl⟩;rw[← hw];have w1:w≤l.getD z.toNat 0∧w≤f z∧(w=l.getD z.toNat 0∨w=f z):=by
   rw[hw]
   split<;>exact ⟨by omega,by omega,by simp⟩
  obtain⟨⟨a1,a2⟩,a3⟩:=relN_at (f:=f) (n:=n) (z:=z+1) (l:=l.set z.toNat w) (y:=y) (by omega) (by rw[length_set];omega) (by rw[length_set];exact hy);rw[getD_set (by omega)]at a1 a3
  by_cases hz:z.toNat=y
  ·have e:z=(y:Int):=by omega
   rw[if_pos hz]at a1 a3;rw[← hz];rw[← hz]at a1 a3;refine⟨⟨by omega,fun _ _=>by rw[show ((z.toNat:Nat):Int)=z by omega];omega⟩, ?_⟩;rw[show ((z.toNat:Nat):Int)=z by omega];rcases a3 with h | ⟨h,_⟩
   ·rcases w1.2.2 with g | g
    ·exact .inl (h.trans g)
    ·exact .inr ⟨Int.le_refl _,by omega,h.trans g⟩
   ·omega
  ·rw[if_neg hz]at a1 a3;refine⟨⟨a1,fun q1 q2=>a2 (by omega) (by omega)⟩, ?_⟩;rcases a3 with h | ⟨q1,q2,h⟩
   ·exact .inl h
   ·exact .inr ⟨by omega,by omega,h⟩
theorem midF_at {s:Str} {m:DMap} {c:Str} {i:Int} {be:List Int}:∀ {n:Nat} {x:Int} {nx:List Int} {y:Nat},0≤x→x+n≤(nx.length:Int)→y<nx.length →
  ((midF s m c i be n x nx).getD y 0≤nx.getD y 0∧(∀q:Nat,x≤(q:Int)→(q:Int)<x+n→q≤y→be.getD q 0≠1073741824→(midF s m c i be n x nx).getD y 0≤be.getD q 0+dofV s m c (i+q) (i+y))) ∧
  ((midF s m c i be n x nx).getD y 0=nx.getD y 0∨∃q:Nat,q≤y∧be.getD q 0≠1073741824∧(midF s m c i be n x nx).getD y 0=be.getD q 0+dofV s m c (i+q) (i+y))
 |0,x,nx,y,_,_,_=>⟨⟨Int.le_refl _,fun q h1 h2=>by omega⟩, .inl rfl⟩
 |n+1,x,nx,y,h0,h1,hy=>by
  unfold midF;obtain⟨⟨a1,a2⟩,a3⟩:=midF_at (s:=s) (m:=m) (c:=c) (i:=i) (be:=be) (n:=n) (x:=x+1) (nx:=stepM s m c i be x nx) (y:=y) (by omega) (by rw[stepM_len];omega) (by rw[stepM_len];exact hy);have hst:((stepM s m c i be x nx).getD y 0≤nx.getD y 0∧(x.toNat≤y→be.getD x.toNat 0≠1073741824→(stepM s m c i be x nx).getD y 0≤be.getD x.toNat 0+dofV s m c (i+x) (i+y)))∧((stepM s m c i be x nx).getD y 0=nx.getD y 0∨(x.toNat≤y∧be.getD x.toNat 0≠1073741824∧(stepM s m c i be x nx).getD y 0=be.getD x.toNat 0+dofV s m c (i+x) (i+y))):=by
   unfold stepM
   by_cases hb:be.getD x.toNat 0=1073741824
   ·rw[zT hb,cond_true];exact⟨⟨Int.le_refl _,fun _ h=>absurd hb h⟩, .inl rfl⟩
   ·rw[zF hb,cond_false];obtain⟨⟨b1,b2⟩,b3⟩:=relN_at (f:=drF s m c i x (be.getD x.toNat 0)) (n:=nx.length-x.toNat) (z:=x) (l:=nx) (y:=y) h0 (by omega) hy;refine⟨⟨b1,fun q _=>b2 (by omega) (by omega)⟩, ?_⟩;rcases b3 with h | ⟨q1,q2,h⟩
    ·exact .inl h
    ·exact .inr ⟨by omega,hb,h⟩
  obtain⟨⟨c1,c2⟩,c3⟩:=hst;refine⟨⟨Int.le_trans a1 c1,fun q q1 q2 q3 q4 => ?_⟩, ?_⟩
  ·by_cases hq:(q:Int)=x
   ·have e:x.toNat=q:=by omega
    rw[e]at c2;have:=c2 q3 q4;rw[← hq]at this;exact Int.le_trans (by rw[← hq]at a1;rw[← hq];exact a1) this
   ·exact a2 q (by omega) (by omega) q3 q4
  ·rcases a3 with h | ⟨q,q1,q2,h⟩
   ·rcases c3 with g | ⟨g1,g2,g3⟩
    ·exact .inl (h.trans g)
    ·refine .inr ⟨x.toNat,g1,g2,h.trans ?_⟩;rw[g3,show ((x.toNat:Nat):Int)=x by omega]
   ·exact .inr ⟨q,q1,q2,h⟩
theorem hasI_iff {s:Str} {c:UInt8} {i j:Int} (i0:0≤i) (j1:j≤(s.length:Int)):hasI s [c] i j=true↔c∈subS s i j:=by
 unfold hasI subS;rw[anyI_iff]
 constructor
 ·rintro ⟨k,h1,h2,h3⟩;have h3:=(List.cons.inj (dec_iff.1 h3)).1;have hk:k.toNat<s.length:=by omega
  refine List.mem_iff_getElem?.2 ⟨k.toNat-i.toNat, ?_⟩;rw[getElem?_take,if_pos (by omega),List.getElem?_drop,show i.toNat+(k.toNat-i.toNat)=k.toNat by omega,zE hk];rw[zG,zE hk]at h3;exact congrArg some h3
 ·intro h;obtain⟨q,hq⟩:=List.mem_iff_getElem?.1 h;rw[getElem?_take]at hq
  split at hq
  ·rename_i hlt;rw[List.getElem?_drop]at hq;refine⟨(i.toNat+q:Nat),by omega,by omega,zT ?_⟩;rw[Int.toNat_natCast,zG,hq];rfl
  ·cases hq
theorem costZ_N {s:Str} {c:UInt8} {i j:Int} (i0:0≤i) (i1:i≤j) (j1:j≤(s.length:Int)):costZ s [c] i j=(costN (subS s i j) c:Int):=by
 have hl:=sub_len i0 i1 j1;have hh:=hasI_iff (s:=s) (c:=c) i0 j1;unfold costZ costN
 by_cases hn:subS s i j=[]
 ·rw[if_pos hn];rw[hn]at hl;have hl:((0:Nat):Int)=j-i:=hl;have:hasI s [c] i j=false:=by
   cases h:hasI s [c] i j
   ·rfl
   ·rw[h,hn]at hh
    cases hh.1 rfl
  rw[this,cond_false,if_neg (by omega)];rfl
 ·rw[if_neg hn];have hpos:=List.length_pos_iff.2 hn
  by_cases hc:c∈subS s i j
  ·rw[if_pos hc,hh.2 hc,cond_true];omega
  ·have:hasI s [c] i j=false:=by
    cases h:hasI s [c] i j
    ·rfl
    ·exact absurd (hh.1 h) hc
   rw[if_neg hc,this,cond_false]
   split<;>omega
def tabD (m:DMap) (a:Str) (i j:Int) (n:Nat):Prop:=getD' m (a,i,j)=(n:Int)∧n<1073741824
def leD (m:DMap) (a:Str) (i j:Int) (n:Nat):Prop:=getD' m (a,i,j)≤(n:Int)
theorem dofV_tab {s:Str} {m:DMap} {c:UInt8} {i j:Int} {n:Nat} (hc:sign c=true) (i0:0≤i) (i1:i≤j) (j1:j≤(s.length:Int)) (h:dofV s m [c] i j=(n:Int)) (hn:n<1073741824):dstP s (tabD m) [c] i j n:=by
 unfold dstP;unfold dofV at h
 cases hb:bigS [c]
 ·rw[hb,cond_false,costZ_N i0 i1 j1]at h;have hs:smallS [c]=true:=by
   have hb:bigc c=false:=hb;unfold sign at hc;rw[hb,Bool.false_or]at hc;exact hc
  rw[if_pos hs];exact(Int.ofNat_inj.1 h).symm
 ·rw[hb,cond_true]at h;rw[if_neg (by rw[big_not_small hb];simp)];exact⟨h,hn⟩
theorem dofV_le {s:Str} {m:DMap} {c:UInt8} {i j:Int} {n:Nat} (hc:sign c=true) (i0:0≤i) (i1:i≤j) (j1:j≤(s.length:Int)) (h:dstP s (leD m) [c] i j n):dofV s m [c] i j≤(n:Int):=by
 unfold dstP at h;unfold dofV
 cases hb:bigS [c]
 ·rw[cond_false,costZ_N i0 i1 j1];have hs:smallS [c]=true:=by
   have hb:bigc c=false:=hb;unfold sign at hc;rw[hb,Bool.false_or]at hc;exact hc
  rw[if_pos hs]at h;rw[h];exact Int.le_refl _
 ·rw[cond_true];rw[if_neg (by rw[big_not_small hb];simp)]at h;exact h
theorem rep_never {n y:Nat} (h:y<n):(replicate n never).getD y 0=1073741824:=by
 rw[zG,List.getElem?_replicate,if_pos h];rfl
theorem mid_one {s:Str} {m:DMap} {c:Str} {i:Int} {be:List Int} {y:Nat} (hy:y<be.length) :
  (∀q:Nat,q≤y→be.getD q 0≠1073741824→(midF s m c i be be.length 0 (replicate be.length never)).getD y 0≤be.getD q 0+dofV s m c (i+q) (i+y)) ∧
  ((midF s m c i be be.length 0 (replicate be.length never)).getD y 0=1073741824∨∃q:Nat,q≤y∧be.getD q 0≠1073741824∧(midF s m c i be be.length 0 (replicate be.length never)).getD y 0=be.getD q 0+dofV s m c (i+q) (i+y)):=by
 obtain⟨⟨_,a2⟩,a3⟩:=midF_at (s:=s) (m:=m) (c:=c) (i:=i) (be:=be) (n:=be.length) (x:=0) (nx:=replicate be.length never) (y:=y) (Int.le_refl 0) (by rw[length_replicate];omega) (by rw[length_replicate];exact hy);rw[rep_never hy]at a3;exact⟨fun q q1 q2=>a2 q (by omega) (by omega) q1 q2,a3⟩
theorem mid_all {s:Str} {m:DMap} {c:Str} {i:Int} {be:List Int} (hm:okDm m=true) (hs:length s≤1000) (i0:0≤i) (hl:i+be.length≤(length s:Int)+1) (hb:okLs be=true):okLs (midF s m c i be be.length 0 (replicate be.length never))=true∧(midF s m c i be be.length 0 (replicate be.length never)).length=be.length :=
 ⟨midF_ok hm hs i0 hb (by rw[length_replicate];exact hl) (Int.le_refl 0) (by rw[length_replicate];omega) (by rw[length_replicate]) okLs_rep,by rw[midF_len,length_replicate]⟩
theorem outF_sound {s:Str} {m:DMap} {i:Int} (hm:okDm m=true) (hs:length s≤1000) (i0:0≤i):∀ {r:Str} {be:List Int} {y:Nat},List.all r sign=true→i+be.length≤(length s:Int)+1→okLs be=true→y<be.length→(outF s m i r be).getD y 0<1073741824 →
  ∃x:Nat,x≤y∧be.getD x 0<1073741824∧∃n:Nat,splD s (tabD m) r (i+x) (i+y) n∧(outF s m i r be).getD y 0=be.getD x 0+n
 | [],be,y,_,_,_,_,h=>⟨y,Nat.le_refl _,h,0,⟨rfl,rfl⟩,by show be.getD y 0=be.getD y 0+((0:Nat):Int);omega⟩
 |c::r,be,y,ha,hl,hb,hy,h=>by
  rw[List.all_cons,andd]at ha;unfold outF at h ⊢;obtain⟨m1,m2⟩:=mid_all (c:=[c]) hm hs i0 hl hb;obtain⟨x,x1,x2,n,x3,x4⟩:=outF_sound hm hs i0 (r:=r) (y:=y) ha.2 (by rw[m2];exact hl) m1 (by rw[m2];exact hy) h;rcases(mid_one (s:=s) (m:=m) (c:=[c]) (i:=i) (be:=be) (y:=x) (by omega)).2 with e | ⟨q,q1,q2,q3⟩
  ·omega
  ·have hq:=okLs_at (i:=q) hb (by omega);obtain⟨d0,d1⟩:=dofV_ok (s:=s) (a:=[c]) (m:=m) (i:=i+q) (j:=i+x) hm (by omega) (by omega) (by omega) hs;refine⟨q,by omega,by omega,(dofV s m [c] (i+q) (i+x)).toNat+n,⟨i+x,(dofV s m [c] (i+q) (i+x)).toNat,n,by omega,by omega,rfl,dofV_tab ha.1 (by omega) (by omega) (by omega) (by omega) (by omega),x3⟩, ?_⟩;rw[x4,q3];omega
theorem outF_least {s:Str} {m:DMap} {i:Int} (hm:okDm m=true) (hs:length s≤1000) (i0:0≤i):∀ {r:Str} {be:List Int} {x y n:Nat},List.all r sign=true→i+be.length≤(length s:Int)+1→okLs be=true→x≤y→y<be.length→splD s (leD m) r (i+x) (i+y) n→be.getD x 0+n<1073741824 →
  (outF s m i r be).getD y 0≤be.getD x 0+n
 | [],be,x,y,n,_,_,_,_,_,h,_=>by
  obtain⟨h1,h2⟩:=h;have e:x=y:=by omega
  subst e;show be.getD x 0≤_;omega
 |c::r,be,x,y,n,ha,hl,hb,hxy,hy,h,hn=>by
  rw[List.all_cons,andd]at ha;obtain⟨k,n1,n2,k1,k2,rfl,g1,g2⟩:=h;obtain⟨q,hq⟩:∃q:Nat,k=i+q:=⟨(k-i).toNat,by omega⟩;subst hq;unfold outF;obtain⟨m1,m2⟩:=mid_all (c:=[c]) hm hs i0 hl hb;have hd:=dofV_le ha.1 (by omega) (by omega) (by omega) g1;have h1:=(mid_one (s:=s) (m:=m) (c:=[c]) (i:=i) (be:=be) (y:=q) (by omega)).1 x (by omega) (by omega);have h2:=outF_least hm hs i0 (r:=r) (be:=midF s m [c] i be be.length 0 (replicate be.length never)) (x:=q) (y:=y) (n:=n2) ha.2 (by rw[m2];exact hl) m1 (by omega) (by rw[m2];exact hy) g2 (by omega);omega
theorem init_at {n x:Nat} (h:x<n):(List.set (replicate n never) 0 0).getD x 0=if x=0 then 0 else 1073741824:=by
 rw[getD_set (by rw[length_replicate];omega)]
 by_cases e:0=x
 ·rw[if_pos e,if_pos e.symm]
 ·rw[if_neg e,if_neg (fun q=>e q.symm),rep_never h]
theorem ruleV_sound {s:Str} {m:DMap} {r:Str} {i j:Int} (hm:okDm m=true) (hs:length s≤1000) (i0:0≤i) (i1:i≤j) (j1:j≤(length s:Int)) (ha:List.all r sign=true) (h:ruleV s m r i j<1073741824):rhsD s (tabD m) r i j (ruleV s m r i j).toNat:=by
 unfold ruleV at h ⊢;unfold rhsD
 by_cases hr:r=[]
 ·rw[zT hr,cond_true,if_pos hr]
 ·rw[zF hr,cond_false]at h ⊢;rw[if_neg hr];have hl:(List.set (replicate (j-i+1).toNat never) 0 0).length=(j-i+1).toNat:=by rw[length_set,length_replicate]
  obtain⟨x,x1,x2,n,x3,x4⟩:=outF_sound hm hs i0 (r:=r) (be:=List.set (replicate (j-i+1).toNat never) 0 0) (y:=(j-i).toNat) ha (by rw[hl];omega) init_ok (by rw[hl];omega) h;rw[init_at (by omega)]at x2 x4
  by_cases hx:x=0
  ·rw[if_pos hx]at x4;subst hx;rw[x4];rw[show (0+(n:Int)).toNat=n by omega];rw[show i+(((j-i).toNat:Nat):Int)=j by omega,show i+((0:Nat):Int)=i by omega]at x3;exact x3
  ·rw[if_neg hx]at x2;omega
theorem ruleV_least {s:Str} {m:DMap} {r:Str} {i j:Int} {n:Nat} (hm:okDm m=true) (hs:length s≤1000) (i0:0≤i) (i1:i≤j) (j1:j≤(length s:Int)) (ha:List.all r sign=true) (h:rhsD s (leD m) r i j n) (hn:n<1073741824):ruleV s m r i j≤(n:Int):=by
 unfold ruleV;unfold rhsD at h
 by_cases hr:r=[]
 ·rw[zT hr,cond_true];rw[if_pos hr]at h;omega
 ·rw[zF hr,cond_false];rw[if_neg hr]at h;have hl:(List.set (replicate (j-i+1).toNat never) 0 0).length=(j-i+1).toNat:=by rw[length_set,length_replicate]
  have h0:(List.set (replicate (j-i+1).toNat never) 0 0).getD 0 0=0:=by rw[init_at (by omega),if_pos rfl]
  have:=outF_least hm hs i0 (r:=r) (be:=List.set (replicate (j-i+1).toNat never) 0 0) (x:=0) (y:=(j-i).toNat) (n:=n) ha (by rw[hl];omega) init_ok (by omega) (by rw[hl];omega) (by rw[show i+(((j-i).toNat:Nat):Int)=j by omega,show i+((0:Nat):Int)=i by omega];exact h) (by rw[h0];omega);rw[h0]at this;omega
def okRq (l:List Rule):Bool:=okRd l&&List.all l fun r=>List.all r.2 sign
theorem distM_ok {s:Str} {l:List Rule} (hs:length s≤1000) (h:okRq l=true):okDm (distM s l)=true :=
 (runC_end (stepVD_ok hs) (J:=fun _=>True) (good_vis (s:=s) (andd.1 h).1) (fun _ _ _ _=>trivial) (m:=([]:DMap)) rfl trivial).1
theorem distM_sound {s:Str} {l:List Rule} (hs:length s≤1000) (h:okRq l=true) {a:Str} {i j:Int} {n:Nat} (ht:tabD (distM s l) a i j n):DistG s l a i j n:=by
 obtain⟨h1,h2⟩:=andd.1 h;refine(runC_end (stepVD_ok hs) (J:=fun m=>∀a i j n,tabD m a i j n→DistG s l a i j n) (good_vis (s:=s) h1) (fun v hv p hp a i j n ht => ?_) (m:=([]:DMap)) rfl (fun a i j n ht => ?_)).2.1 a i j n ht
 ·obtain ⟨v1,v2,v3,v4,v5⟩:=(mem_visF (Nat.le_refl _)).1 hv;unfold stepVD stepRD at ht
  cases hc:decide (ruleV s p.1 v.2.2.2 v.1 v.2.1<dofV s p.1 v.2.2.1 v.1 v.2.1)<;>rw[hc]at ht
  ·exact hp.2 a i j n ht
  ·rw[cond_true]at ht;obtain⟨t1,t2⟩:=ht;rw[getDm_set]at t1
   by_cases he:(a,i,j)=(v.2.2.1,v.1,v.2.1)
   ·rw[zT he,cond_true]at t1
    cases he
    have hr:=ruleV_sound hp.1 hs v1 v3 v4 (all_eq_true.1 h2 v.2.2 v5) (by omega);rw[t1]at hr;exact Dist_closed v.2.2 v5 v.1 v.2.1 n v1 v3 v4 (rhsD_mono (fun a i j n _ _ _ g=>hp.2 a i j n g) v1 v4 hr)
   ·rw[zF he,cond_false]at t1;exact hp.2 a i j n ⟨t1,t2⟩
 ·obtain ⟨t1,t2⟩:=ht;have t1:(1073741824:Int)=n:=t1;omega
theorem distM_least {s:Str} {l:List Rule} (hs:length s≤1000) (h:okRq l=true) {a:Str} {i j:Int} {n:Nat} (i0:0≤i) (i1:i≤j) (j1:j≤(length s:Int)) (hd:DistG s l a i j n):getD' (distM s l) (a,i,j)≤(n:Int):=by
 obtain⟨h1,h2⟩:=andd.1 h;have hok:=distM_ok hs h;refine hd (fun a i j n=>0≤i→i≤j→j≤(length s:Int)→leD (distM s l) a i j n) (fun r hr i j n i0 i1 j1 g _ _ _ => ?_) i0 i1 j1;show getD' (distM s l) (r.1,i,j)≤(n:Int)
 by_cases hn:n<1073741824
 ·have hq:=(runC_end (stepVD_ok hs) (J:=fun _=>True) (good_vis (s:=s) h1) (fun _ _ _ _=>trivial) (m:=([]:DMap)) rfl trivial).2.2 (i,j,r) ((mem_visF (Nat.le_refl _)).2 ⟨i0,by show i<_;omega,i1,j1,hr⟩);change stepRD s i j r (distM s l,false)=(distM s l,false)at hq;have hv:=ruleV_least hok hs i0 i1 j1 (all_eq_true.1 h2 r hr) (rhsD_mono (fun a i j n a0 a1 a2 g=>g a0 a1 a2) i0 j1 g) hn;unfold stepRD at hq
  cases hc:decide (ruleV s (distM s l) r.2 i j<dofV s (distM s l) r.1 i j)
  ·have:=of_decide_eq_false hc;unfold dofV at this;rw[(okRd_at h1 hr).2,cond_true]at this;omega
  ·rw[hc]at hq
   cases congrArg Prod.snd hq
 ·have:=(getD_ok (x:=(r.1,i,j)) hok).2;omega
theorem bestF_at {f:Int→Int}:∀ {n:Nat} {p b:Int},bestF f n p b≤b∧(∀q,p≤q→q<p+n→bestF f n p b≤f q)∧(bestF f n p b=b∨∃q,p≤q∧q<p+n∧bestF f n p b=f q)
 |0,_,_=>⟨Int.le_refl _,fun q h1 h2=>by omega, .inl rfl⟩
 |n+1,p,b=>by
  unfold bestF;obtain⟨a1,a2,a3⟩:=bestF_at (f:=f) (n:=n) (p:=p+1) (b:=minI b (f p));have hm:minI b (f p)≤b∧minI b (f p)≤f p∧(minI b (f p)=b∨minI b (f p)=f p):=by
   unfold minI
   cases hc:decide (b<f p)
   ·have:=of_decide_eq_false hc;rw[cond_false];exact⟨by omega,by omega, .inr rfl⟩
   ·have:=dec_iff.1 hc;rw[cond_true];exact⟨by omega,by omega, .inl rfl⟩
  refine⟨by omega,fun q q0 q1 => ?_, ?_⟩
  ·by_cases hq:q=p
   ·rw[hq];omega
   ·exact a2 q (by omega) (by omega)
  ·rcases a3 with e | ⟨q,q0,q1,q2⟩
   ·rcases hm.2.2 with g | g
    ·exact .inl (e.trans g)
    ·exact .inr ⟨p,by omega,by omega,e.trans g⟩
   ·exact .inr ⟨q,by omega,by omega,q2⟩
theorem nextF_at {s:Str} {ch:D3} {row:List Int} {c i:Int}:∀ {n y:Nat} {j:Int},y<n→(nextF s ch row c i n j).getD y 0=bestF (fRow s ch row c (j+y)) (j+y+1-i).toNat i 100000
 |0,_,_,h=>absurd h (Nat.not_lt_zero _)
 |n+1,0,j,_=>by
  unfold nextF;rw[show j+((0:Nat):Int)=j by omega];rfl
 |n+1,y+1,j,h=>by
  unfold nextF;rw[show j+((y+1:Nat):Int)=j+1+(y:Int)by omega];exact nextF_at (n:=n) (y:=y) (j:=j+1) (by omega)
theorem initF_at {a:Str} {i:Int}:∀ {n y:Nat} {j:Int},y<n→(initF a i n j).getD y 0=e0 a i (j+y)
 |0,_,_,h=>absurd h (Nat.not_lt_zero _)
 |n+1,0,j,_=>by
  unfold initF;rw[show j+((0:Nat):Int)=j by omega];rfl
 |n+1,y+1,j,h=>by
  unfold initF;rw[show j+((y+1:Nat):Int)=j+1+(y:Int)by omega];exact initF_at (n:=n) (y:=y) (j:=j+1) (by omega)
theorem smlD_N {s:Str} {c:UInt8} {i j:Int} (i0:0≤i) (i1:i≤j) (j1:j≤(s.length:Int)):smlD s (c.toNat:Int) i j=(costN (subS s i j) c:Int):=by
 have hl:=sub_len (s:=s) i0 i1 j1;have hh:=inS_mem (s:=subS s i j) (c:=c);unfold smlD costN;change(bif decide (i=j)then 1 else bif inS (subS s i j) (c.toNat:Int)then j-i-1 else j-i)=_
 by_cases hij:i=j
 ·have hn:subS s i j=[]:=List.eq_nil_of_length_eq_zero (by omega);rw[zT hij,cond_true,if_pos hn];rfl
 ·have hn:¬subS s i j=[]:=fun e=>by
   rw[e]at hl;have hl:((0:Nat):Int)=j-i:=hl;omega
  rw[zF hij,cond_false,if_neg hn]
  by_cases hc:c∈subS s i j
  ·rw[if_pos hc,hh.2 hc,cond_true];have:=List.length_pos_iff.2 hn;omega
  ·have:inS (subS s i j) (c.toNat:Int)=false:=by
    cases h:inS (subS s i j) (c.toNat:Int)
    ·rfl
    ·exact absurd (hh.1 h) hc
   rw[if_neg hc,this,cond_false];omega
def tabE (ch:D3) (a:Str) (i j:Int) (n:Nat):Prop:=bigS a=true∧0≤i∧0≤j∧atD ch (byteAt a 0-65) i j=(n:Int)∧n<100000
def leE (ch:D3) (a:Str) (i j:Int) (n:Nat):Prop:=atD ch (byteAt a 0-65) i j≤(n:Int)
theorem ofS_tab {s:Str} {ch:D3} {c:UInt8} {i j:Int} {n:Nat} (hc:sign c=true) (i0:0≤i) (i1:i≤j) (j1:j≤(s.length:Int)) (h:ofS s ch (c.toNat:Int) i j=(n:Int)) (hn:n<100000):dstP s (tabE ch) [c] i j n:=by
 unfold dstP;unfold ofS at h;rw[smallI_nat]at h;rw[show smallS [c]=small c from rfl]
 cases hs:small c
 ·rw[hs,cond_false]at h;rw[if_neg (by simp)];have hb:bigc c=true:=by
   unfold sign at hc;rw[hs,Bool.or_false]at hc;exact hc
  exact⟨hb,i0,by omega,h,hn⟩
 ·rw[hs,cond_true,smlD_N i0 i1 j1]at h;rw[if_pos rfl];exact(Int.ofNat_inj.1 h).symm
theorem ofS_le {s:Str} {ch:D3} {c:UInt8} {i j:Int} {n:Nat} (i0:0≤i) (i1:i≤j) (j1:j≤(s.length:Int)) (h:dstP s (leE ch) [c] i j n):ofS s ch (c.toNat:Int) i j≤(n:Int):=by
 unfold dstP at h;unfold ofS;rw[smallI_nat];rw[show smallS [c]=small c from rfl]at h
 cases hs:small c
 ·rw[hs,if_neg (by simp)]at h;exact h
 ·rw[hs,if_pos rfl]at h;rw[cond_true,smlD_N i0 i1 j1,h];exact Int.le_refl _
theorem rowsF_sound {s:Str} {ch:D3} {i:Nat} (h1:okD5 (length s+1) ch=true) (h4:length s≤1000):∀ {r:Str} {row:List Int} {y:Nat},List.all r sign=true→length row=length s+1→okL5 row=true→i≤y→y<length s+1→(rowsF s ch i r row).getD y 0<100000 →
  ∃x:Nat,i≤x∧x≤y∧row.getD x 0<100000∧∃n:Nat,splD s (tabE ch) r x y n∧(rowsF s ch i r row).getD y 0=row.getD x 0+n
 | [],row,y,_,_,_,hi,_,h=>⟨y,hi,Nat.le_refl _,h,0,⟨rfl,rfl⟩,by show row.getD y 0=row.getD y 0+((0:Nat):Int);omega⟩
 |c::r,row,y,ha,hl,hr,hi,hy,h=>by
  rw[List.all_cons,andd]at ha;unfold rowsF at h ⊢;have hn:=nextF_ok (n:=length s+1) (j:=0) h1 (sign_I ha.1) (by omega:0≤(i:Int)) h4 hl hr (by omega);obtain⟨x,x0,x1,x2,n,x3,x4⟩:=rowsF_sound h1 h4 (r:=r) (y:=y) ha.2 nextF_len hn hi hy h;rw[nextF_at (by omega)]at x2 x4;rw[show (0:Int)+(x:Int)=x by omega]at x2 x4;rcases(bestF_at (f:=fRow s ch row (c.toNat:Int) x) (n:=((x:Int)+1-i).toNat) (p:=i) (b:=100000)).2.2 with e | ⟨q,q0,q1,q2⟩
  ·omega
  ·have hq:=okL5_at (i:=q.toNat) hr (by omega);have ho:=ofS_ok (i:=q) (j:=(x:Int)) h1 (sign_I ha.1) (okIJ_iff.2 ⟨by omega,by omega,by omega⟩) h4;have q2:_=row.getD q.toNat 0+ofS s ch (c.toNat:Int) q x:=q2;refine⟨q.toNat,by omega,by omega,by omega,(ofS s ch (c.toNat:Int) q x).toNat+n,⟨x,(ofS s ch (c.toNat:Int) q x).toNat,n,by omega,by omega,rfl,ofS_tab ha.1 (by omega) (by omega) (by omega) (by rw[show ((q.toNat:Nat):Int)=q by omega];omega) (by omega),x3⟩, ?_⟩;rw[x4,q2];omega
theorem rowsF_least {s:Str} {ch:D3} {i:Nat} (h1:okD5 (length s+1) ch=true) (h4:length s≤1000):∀ {r:Str} {row:List Int} {x y n:Nat},List.all r sign=true→length row=length s+1→okL5 row=true→i≤x→x≤y→y<length s+1→splD s (leE ch) r x y n→(rowsF s ch i r row).getD y 0≤row.getD x 0+n
 | [],row,x,y,n,_,_,_,_,_,_,h=>by
  obtain⟨g1,g2⟩:=h;have e:x=y:=by omega
  subst e;show row.getD x 0≤_;omega
 |c::r,row,x,y,n,ha,hl,hr,hi,hxy,hy,h=>by
  rw[List.all_cons,andd]at ha;obtain⟨k,n1,n2,k1,k2,rfl,g1,g2⟩:=h;obtain⟨q,hq⟩:∃q:Nat,k=(q:Int):=⟨k.toNat,by omega⟩;subst hq;unfold rowsF;have hn:=nextF_ok (n:=length s+1) (j:=0) h1 (sign_I ha.1) (by omega:0≤(i:Int)) h4 hl hr (by omega);have hd:=ofS_le (s:=s) (ch:=ch) (c:=c) (by omega) (by omega) (by omega) g1;have hxq:x≤q:=by omega
  have hqy:q≤y:=by omega
  have h2:=rowsF_least h1 h4 (r:=r) (row:=nextF s ch row (c.toNat:Int) i (length s+1) 0) (x:=q) (y:=y) (n:=n2) ha.2 nextF_len hn (Nat.le_trans hi hxq) hqy hy g2;rw[nextF_at (by omega),show (0:Int)+(q:Int)=q by omega]at h2;have h3:=(bestF_at (f:=fRow s ch row (c.toNat:Int) q) (n:=((q:Int)+1-i).toNat) (p:=i) (b:=100000)).2.1 x (by omega) (by omega);have h3:_≤row.getD ((x:Int)).toNat 0+ofS s ch (c.toNat:Int) x q:=h3;rw[Int.toNat_natCast]at h3;omega
theorem rowV_sound {s:Str} {ch:D3} {a:Str} {i y:Nat} (h1:okD5 (length s+1) ch=true) (h4:length s≤1000) (ha:List.all a sign=true) (hi:i≤y) (hy:y<length s+1) (h:(rowV s ch a i).getD y 0<100000):rhsD s (tabE ch) a i y ((rowV s ch a i).getD y 0).toNat:=by
 unfold rowV at h ⊢;unfold rhsD
 cases a with
 |nil =>
  rw[if_pos rfl];show((initF [] i (length s+1) 0).getD y 0).toNat=_;rw[initF_at hy];unfold e0;rw[zT rfl,cond_true,zT (by omega),cond_true];omega
 |cons c r =>
  rw[if_neg (by simp)];obtain⟨x,x0,x1,x2,n,x3,x4⟩:=rowsF_sound h1 h4 (r:=c::r) (row:=initF (c::r) i (length s+1) 0) (y:=y) ha initF_len (initF_ok (by omega) (by omega)) hi hy h;have he:(initF (c::r) i (length s+1) 0).getD x 0=bif decide ((x:Int)=i)then 0 else 100000:=by
   rw[initF_at (by omega)];unfold e0;rw[show decide ((c::r)=[])=false from rfl,cond_false,cond_false,show (0:Int)+(x:Int)=x by omega]
  by_cases hx:(x:Int)=i
  ·rw[zT hx,cond_true]at he;rw[he]at x4;rw[x4,show (0+(n:Int)).toNat=n by omega];rw[hx]at x3;exact x3
  ·rw[zF hx,cond_false]at he;omega
theorem rowV_least {s:Str} {ch:D3} {a:Str} {i y n:Nat} (h1:okD5 (length s+1) ch=true) (h4:length s≤1000) (ha:List.all a sign=true) (hi:i≤y) (hy:y<length s+1) (h:rhsD s (leE ch) a i y n):(rowV s ch a i).getD y 0≤n:=by
 unfold rowV;unfold rhsD at h
 cases a with
 |nil =>
  rw[if_pos rfl]at h;show(initF [] i (length s+1) 0).getD y 0≤_;rw[initF_at hy];unfold e0;rw[zT rfl,cond_true,zT (by omega),cond_true];omega
 |cons c r =>
  rw[if_neg (by simp)]at h;have:=rowsF_least h1 h4 (r:=c::r) (row:=initF (c::r) i (length s+1) 0) (x:=i) (y:=y) (n:=n) ha initF_len (initF_ok (by omega) (by omega)) (Nat.le_refl _) hi hy h;rw[initF_at (by omega)]at this;unfold e0 at this;rw[show decide ((c::r)=[])=false from rfl,cond_false,cond_false,zT (by omega),cond_true]at this;omega
theorem big_same {a b:Str} (ha:bigS a=true) (hb:bigS b=true) (h:byteAt a 0=byteAt b 0):a=b:=by
 obtain⟨c,rfl,_⟩:=bigS_one ha;obtain⟨d,rfl,_⟩:=bigS_one hb;have h:(c.toNat:Int)=d.toNat:=h;rw[show c=d from UInt8.toNat_inj.1 (by omega)]
theorem far_at {n a b c:Nat} (ha:a<5) (hb:b<n) (hc:c<n):atM (farC n) a b c=100000:=by
 unfold atM farC;simp only[zG,List.getElem?_replicate,if_pos ha,if_pos hb,if_pos hc,Option.getD_some]
theorem costC_sound {s:Str} {l:List Rule} (hs:length s≤1000) (h:okRp l=true) {a:Str} {i j:Int} {n:Nat} (i1:i≤(length s:Int)) (j1:j≤(length s:Int)) (ht:tabE (costC s l) a i j n):DistG s l a i j n:=by
 refine(runC_end (stepF_ok hs) (J:=fun ch=>∀a i j n,i≤(length s:Int)→j≤(length s:Int)→tabE ch a i j n→DistG s l a i j n) (good_visE (s:=s) h) (fun v hv p hp a i j n i1 j1 ht => ?_) (m:=farC (length s+1)) far_ok (fun a i j n i1 j1 ht => ?_)).2.1 a i j n i1 j1 ht
 ·obtain ⟨t1,t2,t3,t4,t5⟩:=ht;have hg:=good_visE (s:=s) h v hv;obtain⟨a1,a2,a3,a4,a5⟩:=stepF_at hs hg hp.1;obtain⟨k0,k1,_⟩:=keyK_in (r:=(a,[])) t1;have k0:0≤byteAt a 0-65:=k0;rcases a5 (byteAt a 0-65).toNat i.toNat j.toNat with e | ⟨e1,e2,⟨e3,e4⟩,e5⟩
  ·exact hp.2 a i j n i1 j1 ⟨t1,t2,t3,e.symm.trans t4,t5⟩
  ·obtain ⟨q0,q1,_⟩:=keyK_in hg.2.2.1;have hk:keyK v.2=byteAt v.2.1 0-65:=rfl;have ea:a=v.2.1:=big_same t1 hg.2.2.1 (by omega);have g1:=hg.1;have ei:i=v.1:=by omega
   subst ei;obtain⟨iN,hiN⟩:∃q:Nat,v.1=(q:Int):=⟨v.1.toNat,by omega⟩;have t4:atM (stepF s v p).1 (byteAt a 0-65).toNat v.1.toNat j.toNat=n:=t4;have e5:atM (stepF s v p).1 (byteAt a 0-65).toNat v.1.toNat j.toNat=(rowV s p.1 v.2.2 v.1).getD j.toNat 0:=e5;rw[e5]at t4;rw[hiN]at t4;have hr:=rowV_sound (a:=v.2.2) (i:=iN) (y:=j.toNat) hp.1 hs hg.2.2.2.2 (by omega) (by omega) (by omega);rw[t4,Int.toNat_natCast,show ((j.toNat:Nat):Int)=j by omega,← hiN]at hr;rw[ea];exact Dist_closed v.2 (mem_visE.1 hv).1 v.1 j n g1 (by omega) j1 (rhsD_mono (fun a i j n _ b1 b2 g=>hp.2 a i j n (by omega) b2 g) g1 j1 hr)
 ·obtain ⟨t1,t2,t3,t4,t5⟩:=ht;obtain⟨k0,k1,_⟩:=keyK_in (r:=(a,[])) t1;have k0:0≤byteAt a 0-65:=k0;have k1:byteAt a 0-65<5:=k1;have t4:atM (farC (length s+1)) (byteAt a 0-65).toNat i.toNat j.toNat=n:=t4;rw[far_at (by omega) (by omega) (by omega)]at t4;omega
theorem costC_least {s:Str} {l:List Rule} (hs:length s≤1000) (h:okRp l=true) {a:Str} {i j:Int} {n:Nat} (i0:0≤i) (i1:i≤j) (j1:j≤(length s:Int)) (hd:DistG s l a i j n):atD (costC s l) (byteAt a 0-65) i j≤(n:Int):=by
 refine hd (fun a i j n=>0≤i→i≤j→j≤(length s:Int)→leE (costC s l) a i j n) (fun r hr i j n i0 i1 j1 g _ _ _ => ?_) i0 i1 j1;have hv:(i,r)∈visE (length s+1) l:=mem_visE.2 ⟨hr,i0,by show i<_;omega⟩;have hg:=good_visE (s:=s) h (i,r) hv;have hok:=costC_ok (s:=s) h hs;have hq:=(runC_end (stepF_ok hs) (J:=fun _=>True) (good_visE (s:=s) h) (fun _ _ _ _=>trivial) (m:=farC (length s+1)) far_ok trivial).2.2 (i,r) hv;change stepF s (i,r) (costC s l,false)=(costC s l,false)at hq;have h4:=((stepF_at (p:=(costC s l,false)) hs hg hok).2.2.2.1 (congrArg Prod.snd hq)).2.2 j i1 (by show j<i+_;omega);obtain⟨iN,hiN⟩:∃q:Nat,i=(q:Int):=⟨i.toNat,by omega⟩;subst hiN;have hm:=rhsD_mono (fun a i j n a0 a1 a2 g=>g a0 a1 a2) i0 j1 g;have hl:=rowV_least (a:=r.2) (i:=iN) (y:=j.toNat) (n:=n) hok hs hg.2.2.2.2 (by omega) (by omega) (by rw[show ((j.toNat:Nat):Int)=j by omega];exact hm);exact Int.le_trans h4 hl
theorem farV_eq {g:Gram} {s:Str} (h:okG g=true):farV g s=getD' (distM s g.2) (g.1,0,(s.length:Int)):=by
 unfold farV dofV;rw[okG_big h,cond_true]
theorem okRq_G {g:Gram} (h:okG g=true):okRq g.2=true:=by
 refine andd.2 ⟨okRd_G h,all_eq_true.2 fun r hr => ?_⟩;obtain⟨r3,_⟩:=areS_iff ((okG_iff h).2.2 r hr).2;exact all_eq_true.2 r3
theorem far_start {g:Gram} {s:Str} {n:Nat} (h:okG g=true) (hs:length s≤1000) (hd:DistG s g.2 g.1 0 (s.length:Int) n) (hn:n<100000):farV g s=startC g s∧0≤farV g s∧farV g s≤n∧DistG s g.2 g.1 0 (s.length:Int) (farV g s).toNat:=by
 have hok:=distM_ok (s:=s) hs (okRq_G h);have hb:=okG_big h;obtain⟨k0,k1,_⟩:=keyK_in (r:=(g.1,[])) hb;have k0:0≤byteAt g.1 0-65:=k0;have k1:byteAt g.1 0-65<5:=k1;have h1:=distM_least hs (okRq_G h) (Int.le_refl 0) (by omega) (Int.le_refl _) hd;have h2:=costC_least hs (ok_rp h) (Int.le_refl 0) (by omega) (Int.le_refl _) hd;have h3:=(getD_ok (x:=(g.1,0,(s.length:Int))) hok).1;have h4:=(atD_ok (costC_ok (s:=s) (ok_rp h) hs) (k:=byteAt g.1 0-65) (i:=0) (j:=(s.length:Int)) k0 k1 (Int.le_refl 0) (by omega) (by omega) (by omega)).1;rw[farV_eq h];unfold startC;have d1:DistG s g.2 g.1 0 (s.length:Int) (getD' (distM s g.2) (g.1,0,(s.length:Int))).toNat:=distM_sound hs (okRq_G h) ⟨by omega,by omega⟩;have d2:DistG s g.2 g.1 0 (s.length:Int) (atD (costC s g.2) (byteAt g.1 0-65) 0 (s.length:Int)).toNat:=costC_sound hs (ok_rp h) (by omega) (Int.le_refl _) ⟨hb,Int.le_refl 0,by omega,by omega,by omega⟩;have h5:=distM_least hs (okRq_G h) (Int.le_refl 0) (by omega) (Int.le_refl _) d2;have h6:=costC_least hs (ok_rp h) (Int.le_refl 0) (by omega) (Int.le_refl _) d1;exact⟨by omega,h3,h1,d1⟩
theorem far_none {g:Gram} {s:Str} (h:okG g=true) (hs:length s≤1000) (hd:∀n,¬DistG s g.2 g.1 0 (s.length:Int) n):farV g s=1073741824:=by
 have hok:=distM_ok (s:=s) hs (okRq_G h);rw[farV_eq h];obtain⟨h1,h2⟩:=getD_ok (x:=(g.1,0,(s.length:Int))) hok
 by_cases hlt:getD' (distM s g.2) (g.1,0,(s.length:Int))<1073741824
 ·exact absurd (distM_sound hs (okRq_G h) ⟨by omega,by omega⟩) (hd (getD' (distM s g.2) (g.1,0,(s.length:Int))).toNat)
 ·omega
theorem Ed.inss:∀ {w:Str},Ed [] w w.length
 | [] => .nil
 |_::_ => .ins Ed.inss
theorem Ed.any {s w:Str}:Ed s w (s.length+w.length):=by
 have:=(Ed.outs (u:=s)).app (Ed.inss (w:=w));rw[List.append_nil,List.nil_append]at this;exact this
def RkW (l:List Rule) (k:Nat) (a:Str):Prop:=∃w,WordG l a w∧w.length≤4 ^ k
theorem RkW_up {l:List Rule} {k:Nat} {a:Str} (h:RkW l k a):RkW l (k+1) a:=by
 obtain⟨w,h1,h2⟩:=h;exact⟨w,h1,Nat.le_trans h2 (Nat.pow_le_pow_right (by omega) (by omega))⟩
theorem sp_R {l:List Rule} {k:Nat}:∀ {r w:Str},spW (fun a _=>RkW l k a) r w→∃w',spW (WordG l) r w'∧w'.length≤r.length*4 ^ k
 | [],_,_=>⟨[],rfl,Nat.zero_le _⟩
 |c::r,w,h=>by
  obtain⟨u,v,e,h1,h2⟩:=h;obtain⟨v',g1,g2⟩:=sp_R (r:=r) h2;have hp:1≤4 ^ k:=Nat.one_le_pow _ _ (by omega);have hu:∃u',wdP (WordG l) [c] u'∧u'.length≤4 ^ k:=by
   unfold wdP at h1 ⊢
   split at h1
   ·rename_i hs;exact⟨[c],by rw[if_pos hs],hp⟩
   ·rename_i hs;obtain⟨u',q1,q2⟩:=h1;exact⟨u',by rw[if_neg hs];exact q1,q2⟩
  obtain⟨u',q1,q2⟩:=hu;refine⟨u'++v',⟨u',v',rfl,q1,g1⟩, ?_⟩;rw[length_append,length_cons,Nat.succ_mul];omega
theorem RkW_rule {l:List Rule} {k:Nat} {r:Rule} {w:Str} (hr:r∈l) (h4:length r.2≤4) (h:spW (fun a _=>RkW l k a) r.2 w):RkW l (k+1) r.1:=by
 obtain⟨w',h1,h2⟩:=sp_R h;refine⟨w',Word_closed r hr w' h1,Nat.le_trans h2 ?_⟩;rw[Nat.pow_succ,Nat.mul_comm];exact Nat.mul_le_mul_left _ h4
theorem RkW_closed {l:List Rule} {k:Nat} (h4:∀r∈l,length r.2≤4) (hk:∀r∈l,RkW l (k+1) r.1→RkW l k r.1) {a w:Str} (h:WordG l a w):RkW l k a :=
 h (fun a _=>RkW l k a) fun r hr _ hw=>hk r hr (RkW_rule hr (h4 r hr) hw)
theorem cntB_len {α:Type} {f:α→Bool}:∀ {l:List α},cntB f l≤l.length
 | []=>Nat.le_refl _
 |a::l=>by
  have:=cntB_len (f:=f) (l:=l);unfold cntB;rw[length_cons]
  cases f a
  ·rw[cond_false];omega
  ·rw[cond_true];omega
theorem short_word {l:List Rule} (h4:∀r∈l,length r.2≤4) (h8:l.length≤8) {a w:Str} (h:WordG l a w):∃w',WordG l a w'∧w'.length≤65536:=by
 have hc:∃k,k≤8∧∀r∈l,RkW l (k+1) r.1→RkW l k r.1:=by
  refine Classical.byContradiction fun hno => ?_;have hstep:∀k,k≤8→∃r∈l,¬RkW l k r.1∧RkW l (k+1) r.1:=fun k hk=>by
   refine Classical.byContradiction fun h0=>hno ⟨k,hk,fun r hr h1 => ?_⟩;refine Classical.byContradiction fun h2=>h0 ⟨r,hr,h2,h1⟩
  have hf:∀k,∃f:Rule→Bool,∀r,f r=true↔RkW l k r.1:=fun k=>⟨fun r=>@decide _ (Classical.propDecidable (RkW l k r.1)),fun r=>by rw[@decide_eq_true_iff _ (Classical.propDecidable _)]⟩;have hcnt:∀k,k≤9→∃f:Rule→Bool,(∀r,f r=true↔RkW l k r.1)∧k≤cntB f l:=by
   intro k
   induction k with
   |zero =>
    intro _;obtain⟨f,hf⟩:=hf 0;exact⟨f,hf,Nat.zero_le _⟩
   |succ k ih =>
    intro hk;obtain⟨f,hf1,hf2⟩:=ih (by omega);obtain⟨g,hg⟩:=hf (k+1);obtain⟨r,hr,r1,r2⟩:=hstep k (by omega);have:=cnt_lt (f:=f) (g:=g) (l:=l) (fun q _ hq=>(hg q).2 (RkW_up ((hf1 q).1 hq))) ⟨r,hr,by
     cases hfr:f r
     ·rfl
     ·exact absurd ((hf1 r).1 hfr) r1,(hg r).2 r2⟩
    exact⟨g,hg,by omega⟩
  obtain⟨f,_,hf2⟩:=hcnt 9 (Nat.le_refl _);have:=cntB_len (f:=f) (l:=l);omega
 obtain⟨k,hk,hcl⟩:=hc;obtain⟨w',h1,h2⟩:=RkW_closed h4 hcl h;exact⟨w',h1,Nat.le_trans h2 (Nat.le_trans (Nat.pow_le_pow_right (by omega) hk) (by decide))⟩
def prodG (g:Gram):Prop:=∃w,WordG g.2 g.1 w
theorem dist_some {g:Gram} {s:Str} (h:okG g=true) (hs:length s≤1000) (hp:prodG g):∃n,n<100000∧DistG s g.2 g.1 0 (s.length:Int) n:=by
 obtain⟨w,hw⟩:=hp;obtain⟨_,h8,h3⟩:=okG_iff h;obtain⟨w',h1,h2⟩:=short_word (fun r hr=>by
  have:=(areS_iff (h3 r hr).2).2;omega) h8 hw
 obtain⟨n,n1,n2⟩:=word_dist (s:=s) h1 (i:=0) (j:=(s.length:Int)) (m:=s.length+w'.length) (Int.le_refl 0) (by omega) (Int.le_refl _) (by
  rw[sub_all];exact Ed.any)
 exact⟨n,by omega,n2⟩
theorem dist_prod {g:Gram} {s:Str} {n:Nat} (hd:DistG s g.2 g.1 0 (s.length:Int) n):prodG g:=by
 obtain⟨w,_,_,hw,_⟩:=dist_word hd (Int.le_refl 0) (by omega) (Int.le_refl _);exact⟨w,hw⟩
theorem far_both {g:Gram} {s:Str} (h:okG g=true) (hs:length s≤1000) (hp:prodG g):farV g s=startC g s∧0≤farV g s∧farV g s<100000∧(∃w,WordG g.2 g.1 w∧∃m:Nat,(m:Int)≤farV g s∧Ed s w m)∧∀w m,WordG g.2 g.1 w→Ed s w m→farV g s≤(m:Int):=by
 obtain⟨n,n1,n2⟩:=dist_some h hs hp;obtain⟨a1,a2,a3,a4⟩:=far_start h hs n2 n1;refine⟨a1,a2,by omega, ?_,fun w m hw hm => ?_⟩
 ·obtain ⟨w,m,m1,m2,m3⟩:=dist_word a4 (Int.le_refl 0) (by omega) (Int.le_refl _);rw[sub_all]at m3;exact⟨w,m2,m,by omega,m3⟩
 ·obtain ⟨k,k1,k2⟩:=word_dist (s:=s) hw (i:=0) (j:=(s.length:Int)) (m:=m) (Int.le_refl 0) (by omega) (Int.le_refl _) (by rw[sub_all];exact hm);have hl:=distM_least hs (okRq_G h) (Int.le_refl 0) (by omega) (Int.le_refl _) k2;rw[farV_eq h];omega
theorem far_step {g:Gram} {s x:Str} (h:okG g=true) (hs:length s≤1000) (hx:length x≤1000) (hp:prodG g) (he:Ed s x 1) (hb:Ed x s 1):farV g x≤farV g s+1∧farV g s≤farV g x+1:=by
 obtain⟨_,s0,_,⟨w,w1,m,m1,m2⟩,s2⟩:=far_both h hs hp;obtain⟨_,x0,_,⟨v,v1,q,q1,q2⟩,x2⟩:=far_both h hx hp;obtain⟨k,k1,k2⟩:=Ed.tri m2 hb;obtain⟨k',k1',k2'⟩:=Ed.tri q2 he;have h1:=x2 w k w1 k2;have h2:=s2 v k' v1 k2';exact⟨by omega,by omega⟩
def cb_l2a:Cx:=cxOf Γ86 Tryz.f113.ntmps [(2,[0,1,2,7])] [(0,[]),(1,[0,1,2,7]),(1000000,[6])] [] []
abbrev st_l2a (s t:Str) (b:Bool) (i:Int):St:=⟨[(0,vS s),(1,vS t),(2,vB b),(7,vI i)],[]⟩
theorem x_spec_l2All (s t:Str) (b:Bool) (i:Int) (R:St→Option Fin) (K:Cont):evC (cb_l2a.withLoops (look [])) (loopOf Tryz.f113 0) (st_l2a s t b i) (onward (headAt (cb_l2a.withLoops (look [])) 2) R K)=(
branch (decide (i<(s.length:Int))) (
 need (inb i s.length) <|
 need (bif decide ((!inS t (byteAt s i))=true)&&decide (b=true)then inb i s.length else true) <|
 branch (bif !inS t (byteAt s i)then !bif b then smallI (byteAt s i)else false else false) ( K (.ret) (.mk [(6,vB false)] [])) ( R (st_l2a s t b (W64 (i+1))))) ( K (.exit 0) (.mk [] []))):=by kernel_rfl
def okIn (t:Str) (b:Bool) (c:UInt8):Bool:=inS t (c.toNat:Int)||(b&&small c)
def allOf (t:Str) (b:Bool) (s:Str):Bool:=s.all (okIn t b)
theorem allOf_at {t s:Str} {b:Bool} {i:Int} (h0:0≤i) (h1:i<(s.length:Int)):allOf t b (s.drop i.toNat)=((inS t (byteAt s i)||(b&&smallI (byteAt s i)))&&allOf t b (s.drop (i+1).toNat)):=by
 have hn:i.toNat<s.length:=by omega
 have hb:byteAt s i=((s[i.toNat]).toNat:Int):=by
  unfold byteAt;rw[zG,zE hn];rfl
 unfold allOf;rw[drop_eq_getElem_cons hn,List.all_cons,show (i+1).toNat=i.toNat+1 by omega,hb,smallI_nat];rfl
def cx0_l2a:Cx:=(cb_l2a).withLoops (look [])
def sh_l2a:Sh:=([(0, .d .str),(1, .d .str),(2, .d .bool),(7, .d TI64)],[])
def pre_l2a (s _t:Str) (_b:Bool) (i:Int):Bool:=decide (0≤i)&&Nat.ble s.length big
def res_l2a (s t:Str) (b:Bool) (i:Int) (K:Cont):Option Fin:=branch (allOf t b (s.drop i.toNat)) (K (.exit 0) ⟨[],[]⟩) (K .ret ⟨[(6,vB false)],[]⟩)
def mu_l2a (s _t:Str) (_b:Bool) (i:Int):Nat:=s.length-i.toNat
theorem r_l2a (s t:Str) (b:Bool) (i:Int) (K:Cont) (hI:pre_l2a s t b i=true):(∀R:St→Option Fin,evC cx0_l2a (loopOf Tryz.f113 0) (st_l2a s t b i) (onward (headAt cx0_l2a 2) R K)=res_l2a s t b i K) ∨
  (∃(s' t':Str) (b':Bool) (i':Int),pre_l2a s' t' b' i'=true∧mu_l2a s' t' b' i'<mu_l2a s t b i∧res_l2a s' t' b' i' K=res_l2a s t b i K∧∀R:St→Option Fin,evC cx0_l2a (loopOf Tryz.f113 0) (st_l2a s t b i) (onward (headAt cx0_l2a 2) R K)=R (st_l2a s' t' b' i')):=by
 have hx:=fun R=>x_spec_l2All s t b i R K;simp only[pre_l2a,andd,dec_iff,ble_iff]at hI;obtain⟨h0,h1⟩:=hI
 by_cases hi:i<(s.length:Int)
 ·have hg:=allOf_at (t:=t) (b:=b) h0 hi;rw[zT hi,inb_ok h0 hi,W1 h0 hi h1,Bool.cond_self]at hx;have hh:(bif !inS t (byteAt s i)then !bif b then smallI (byteAt s i)else false else false) = !(inS t (byteAt s i)||(b&&smallI (byteAt s i))):=by
   cases inS t (byteAt s i)<;>cases b<;>cases smallI (byteAt s i)<;>rfl
  rw[hh]at hx
  cases hc:(inS t (byteAt s i)||(b&&smallI (byteAt s i)))
  ·left;intro R;rw[hc]at hg;refine(hx R).trans ?_;rw[hc];simp only[res_l2a,hg];rfl
  ·right;rw[hc]at hg;refine⟨s,t,b,i+1, ?_, ?_, ?_,fun R=>(hx R).trans ?_⟩
   ·exact andd.2 ⟨dec_iff.2 (by omega),ble_iff.2 h1⟩
   ·simp only[mu_l2a];omega
   ·simp only[res_l2a,hg];rfl
   ·rw[hc];rfl
 ·left;intro R;refine(hx R).trans ?_;rw[zF hi];simp only[res_l2a];rw[drop_eq_nil_of_le (by omega)];rfl
def g_l2a:St→Cont→Option Fin:=gP sh_l2a (fun v=>match v with | ((s,t,b,i,()),())=>pre_l2a s t b i) (fun v K=>match v with | ((s,t,b,i,()),())=>res_l2a s t b i K)
def L_l2a:LpL:=(2,g_l2a)::[]
def cx_l2a:Cx:=(cb_l2a).withLoops (look L_l2a)
theorem l_l2a {L:LpL} (n:Nat) (h1:L.drop n=[]) (h2:idsFree (L.take n) (loopOf Tryz.f113 0)=true):LoopsTo g_l2a (cb_l2a) (loopOf Tryz.f113 0) 2 L :=
 with_drop h1 h2 (gP_ok (fun v=>match v with | ((s,t,b,i,()),())=>mu_l2a s t b i) fun v K hI=>by
  obtain⟨⟨s,t,b,i,⟨⟩⟩,⟨⟩⟩:=v;exact(r_l2a s t b i K hI).imp id fun⟨s',t',b',i',h⟩=>⟨((s',t',b',i',()),()),h⟩)
theorem y_spec_l2All (s:Str) (t:Str) (b:Bool):evFn cx_l2a Tryz.f113 true [ofD .str s,ofD .str t,ofD .bool b] []=(
need (pre_l2a s t b 0) <|
branch (allOf t b s) ( some ((vB true),[])) ( some ((vB false),[]))):=by kernel_rfl
theorem s_spec_l2All (s:Str) (hs:Fit .str s) (t:Str) (_ht:Fit .str t) (b:Bool) (_hb:Fit .bool b):Sat Tryz.prog 113 [ofD .str s,ofD .str t,ofD .bool b] [] (.d (ofD .bool (allOf t b s))) [] :=
 fn_sound (cx:=cx_l2a) Tryz.func113 rfl ttOk Γ86ok mixed (fun c hc=>LoopsOk.all (l:=[(2,loopOf Tryz.f113 0)]) (by cases hc;kernel_rfl) ⟨atLoop rfl (l_l2a 1 rfl (by kernel_rfl)),trivial⟩) (ro:=true) (by
  have h:pre_l2a s t b 0=true:=andd.2 ⟨rfl,ble_iff.2 hs⟩;rw[y_spec_l2All,h];show branch (allOf t b s) _ _=_
  cases allOf t b s<;>rfl)
def c_spec_l2All:Con:=conT [.str, .str, .bool] fun(s:Str) (t:Str) (b:Bool)=>(none, .d (ofD .bool (allOf t b s)))
theorem k_spec_l2All:ConOk Tryz.prog 113 c_spec_l2All:=conT_ok Tryz.call113 fun s hs t ht b hb _=>s_spec_l2All s hs t ht b hb
def Γ87:GL:=(113,c_spec_l2All)::Γ86
theorem Γ87ok:GO Γ87 := .cons k_spec_l2All Γ86ok
def cb_l2g:Cx:=cxOf Γ87 Tryz.f98.ntmps [(3,[1,2,5,6])] [(0,[5]),(1,[1,2,5,6]),(1000000,[4])] [] []
abbrev st_l2g (b:Bool) (o:Str) (i:Int) (g:Gram):St:=⟨[(1,vB b),(2, kp0),(5,vS o),(6,vI i)],[(500000,some (boxD 25 TG g))]⟩
theorem x_spec_l2Grow (g:Gram) (o:Str) (b:Bool) (i:Int) (R:St→Option Fin) (K:Cont):evC (cb_l2g.withLoops (look [])) (loopOf Tryz.f98 0) (st_l2g b o i g) (onward (headAt (cb_l2g.withLoops (look [])) 3) R K)=(
branch (decide (i<(length g.snd:Int))) (
 need (inb i (length g.snd)) <|
 need (inb 0 (length (getD g.snd i.toNat d0).fst)) <|
 branch (bif !inS o (byteAt (getD g.snd i.toNat d0).fst 0)then allOf o b (getD g.snd i.toNat d0).snd else false) (
 need (inb 0 (length (getD g.snd i.toNat d0).fst)) <|
 need (o.length.ble 1000000) <| R (st_l2g b (addS (UInt8.ofNat (byteAt (getD g.snd i.toNat d0).fst 0).toNat) o) (W64 (Int.neg 1+1)) g)) ( R (st_l2g b o (W64 (i+1)) g))) ( K (.exit 0) (.mk [(5,vS o)] []))):=by kernel_rfl
theorem cnt_lenB {α:Type} {f:α→Bool}:∀ {l:List α},cntB f l≤l.length
 | []=>Nat.le_refl _
 |a::l=>by
  have:=cnt_lenB (f:=f) (l:=l);unfold cntB;rw[length_cons]
  cases f a
  ·rw[cond_false];omega
  ·rw[cond_true];omega
def newR (o:Str) (b:Bool) (r:Rule):Bool := !inS o (byteAt r.1 0)&&allOf o b r.2
def signR (r:Rule):UInt8:=UInt8.ofNat (byteAt r.1 0).toNat
def growN (l:List Rule) (b:Bool):Nat→Int→Str→Str
 |0,_,o=>o
 |n+1,i,o=>bif decide (i<(l.length:Int))then(bif newR o b (l.getD i.toNat d0)then growN l b n 0 (addS (signR (l.getD i.toNat d0)) o)else growN l b n (i+1) o)else o
def missL (l:List Rule) (o:Str):Nat:=cntB (fun r => !inS o (byteAt r.1 0)) l
def muG (l:List Rule) (i:Int) (o:Str):Nat:=missL l o*(l.length+1)+(l.length-i.toNat)
theorem inS_any {s:Str} {c:Int}:inS s c=true↔∃x∈s,(x.toNat:Int)=c:=by
 unfold inS;rw[List.any_eq_true]
 constructor
 ·rintro ⟨x,hx,h⟩;exact ⟨x,hx,dec_iff.1 h⟩
 ·rintro ⟨x,hx,h⟩;exact ⟨x,hx,zT h⟩
theorem signR_nat {r:Rule}:((signR r).toNat:Int)=byteAt r.1 0:=by
 have:signR r=r.1.getD 0 0:=by
  unfold signR byteAt;show UInt8.ofNat (((r.1.getD 0 0).toNat:Int)).toNat=_;rw[Int.toNat_natCast,UInt8.ofNat_toNat]
 rw[this];rfl
theorem miss_add {l:List Rule} {o:Str} {r:Rule} {b:Bool} (hr:r∈l) (h:newR o b r=true):missL l (addS (signR r) o)<missL l o:=by
 obtain⟨h1,_⟩:=andd.1 h;refine cnt_lt (fun q _ hq => ?_) ⟨r,hr, ?_,h1⟩
 ·cases hc:inS o (byteAt q.1 0)
  ·rfl
  ·obtain ⟨x,hx,e⟩:=inS_any.1 hc;rw[inS_any.2 ⟨x,addS_mem.2 (.inr hx),e⟩]at hq
   cases hq
 ·rw[inS_any.2 ⟨signR r,addS_mem.2 (.inl rfl),signR_nat⟩];rfl
theorem mu_add {l:List Rule} {o:Str} {b:Bool} {i:Int} (h0:0≤i) (h1:i<(l.length:Int)) (h:newR o b (l.getD i.toNat d0)=true):muG l 0 (addS (signR (l.getD i.toNat d0)) o)<muG l i o:=by
 have:=miss_add (getD_mem (d:=d0) (by omega:i.toNat<l.length)) h;unfold muG;have h2:(missL l (addS (signR (l.getD i.toNat d0)) o)+1)*(l.length+1)≤missL l o*(l.length+1):=Nat.mul_le_mul_right _ this;rw[Nat.succ_mul]at h2;have:(0:Int).toNat=0:=rfl;omega
theorem mu_next {l:List Rule} {o:Str} {i:Int} (h0:0≤i) (h1:i<(l.length:Int)):muG l (i+1) o<muG l i o:=by
 unfold muG;omega
theorem grow_fuel {l:List Rule} {b:Bool}:∀ {n n':Nat} {i:Int} {o:Str},0≤i→muG l i o<n→muG l i o<n'→growN l b n i o=growN l b n' i o
 |0,_,_,_,_,h,_=>absurd h (Nat.not_lt_zero _)
 |_+1,0,_,_,_,_,h=>absurd h (Nat.not_lt_zero _)
 |n+1,n'+1,i,o,h0,h1,h2=>by
  unfold growN
  by_cases hi:i<(l.length:Int)
  ·rw[zT hi,cond_true,cond_true]
   cases hc:newR o b (l.getD i.toNat d0)
   ·have:=mu_next (o:=o) h0 hi;exact grow_fuel (by omega) (by omega) (by omega)
   ·have:=mu_add h0 hi hc;exact grow_fuel (Int.le_refl 0) (by omega) (by omega)
  ·rw[zF hi];rfl
def growV (l:List Rule) (b:Bool) (i:Int) (o:Str):Str:=growN l b (muG l i o+1) i o
theorem growV_at {l:List Rule} {b:Bool} {i:Int} {o:Str} (h0:0≤i):growV l b i o=bif decide (i<(l.length:Int))then(bif newR o b (l.getD i.toNat d0)then growV l b 0 (addS (signR (l.getD i.toNat d0)) o)else growV l b (i+1) o)else o:=by
 unfold growV
 conv=>lhs;unfold growN
 by_cases hi:i<(l.length:Int)
 ·rw[zT hi,cond_true,cond_true]
  cases hc:newR o b (l.getD i.toNat d0)
  ·have:=mu_next (o:=o) h0 hi;exact grow_fuel (by omega) (by omega) (by omega)
  ·have:=mu_add h0 hi hc;exact grow_fuel (Int.le_refl 0) (by omega) (by omega)
 ·rw[zF hi];rfl
def okLf (l:List Rule):Bool:=decide (length l≤1000)&&List.all l fun r=>bigS r.1
def cx0_l2g:Cx:=(cb_l2g).withLoops (look [])
def sh_l2g:Sh:=([(1, .d .bool),(2, .ptr 500000 0),(5, .d .str),(6, .d TI64)],[(500000, .box 25 TG)])
def pre_l2g (_b:Bool) (o:Str) (i:Int) (g:Gram):Bool:=decide (0≤i)&&(okLf g.2&&decide (missL g.2 o+length o≤1000))
def res_l2g (b:Bool) (o:Str) (i:Int) (g:Gram) (K:Cont):Option Fin:=K (.exit 0) ⟨[(5,vS (growV g.2 b i o))],[]⟩
def mu_l2g (_b:Bool) (o:Str) (i:Int) (g:Gram):Nat:=muG g.2 i o
theorem r_l2g (b:Bool) (o:Str) (i:Int) (g:Gram) (K:Cont) (hI:pre_l2g b o i g=true):(∀R:St→Option Fin,evC cx0_l2g (loopOf Tryz.f98 0) (st_l2g b o i g) (onward (headAt cx0_l2g 3) R K)=res_l2g b o i g K) ∨
  (∃(b':Bool) (o':Str) (i':Int) (g':Gram),pre_l2g b' o' i' g'=true∧mu_l2g b' o' i' g'<mu_l2g b o i g∧res_l2g b' o' i' g' K=res_l2g b o i g K∧∀R:St→Option Fin,evC cx0_l2g (loopOf Tryz.f98 0) (st_l2g b o i g) (onward (headAt cx0_l2g 3) R K)=R (st_l2g b' o' i' g')):=by
 have hx:=fun R=>x_spec_l2Grow g o b i R K;simp only[pre_l2g,andd,dec_iff]at hI;obtain⟨h0,h1,h2⟩:=hI;obtain⟨l1,l2⟩:=andd.1 h1;have l1:=dec_iff.1 l1;have hg:=growV_at (l:=g.2) (b:=b) (o:=o) h0
 by_cases hi:i<(length g.2:Int)
 ·have w:W64 (i+1)=i+1:=wrap_small (by omega) (by omega);have w2:W64 (Int.neg 1+1)=0:=by decide
  have hmem:=getD_mem (d:=d0) (by omega:i.toNat<length g.2);have hl:inb 0 (length (getD g.2 i.toNat d0).1)=true:=by
   obtain⟨c,e,_⟩:=bigS_one (all_eq_true.1 l2 _ hmem);rw[e];rfl
  have hh:(bif !inS o (byteAt (getD g.2 i.toNat d0).1 0)then allOf o b (getD g.2 i.toNat d0).2 else false)=newR o b (getD g.2 i.toNat d0):=by
   unfold newR
   cases inS o (byteAt (getD g.2 i.toNat d0).1 0)<;>rfl
  rw[zT hi,inb_ok h0 hi,hl,hh,ble_iff.2 (by omega:length o≤1000000),w,w2]at hx;rw[zT hi,cond_true]at hg;right
  cases hc:newR o b (getD g.2 i.toNat d0)
  ·rw[hc]at hx hg;refine⟨b,o,i+1,g, ?_, ?_, ?_,fun R=>hx R⟩
   ·simp only[pre_l2g,andd,dec_iff];exact⟨by omega,h1,h2⟩
   ·simp only[mu_l2g];exact mu_next h0 hi
   ·simp only[res_l2g,hg];rfl
  ·rw[hc]at hx hg;refine⟨b,addS (signR (getD g.2 i.toNat d0)) o,0,g, ?_, ?_, ?_,fun R=>hx R⟩
   ·simp only[pre_l2g,andd,dec_iff];have:=miss_add hmem hc;have:=addS_len (c:=signR (getD g.2 i.toNat d0)) (s:=o);exact⟨Int.le_refl 0,h1,by omega⟩
   ·simp only[mu_l2g];exact mu_add h0 hi hc
   ·simp only[res_l2g,hg];rfl
 ·left;intro R;refine(hx R).trans ?_;rw[zF hi]at hg ⊢;simp only[res_l2g,hg];rfl
def g_l2g:St→Cont→Option Fin:=gP sh_l2g (fun v=>match v with | ((b,o,i,()),(g,()))=>pre_l2g b o i g) (fun v K=>match v with | ((b,o,i,()),(g,()))=>res_l2g b o i g K)
def L_l2g:LpL:=(3,g_l2g)::[]
def cx_l2g:Cx:=(cb_l2g).withLoops (look L_l2g)
theorem l_l2g {L:LpL} (n:Nat) (h1:L.drop n=[]) (h2:idsFree (L.take n) (loopOf Tryz.f98 0)=true):LoopsTo g_l2g (cb_l2g) (loopOf Tryz.f98 0) 3 L :=
 with_drop h1 h2 (gP_ok (fun v=>match v with | ((b,o,i,()),(g,()))=>mu_l2g b o i g) fun v K hI=>by
  obtain⟨⟨b,o,i,⟨⟩⟩,⟨g,⟨⟩⟩⟩:=v;exact(r_l2g b o i g K hI).imp id fun⟨b',o',i',g',h⟩=>⟨((b',o',i',()),(g',())),h⟩)
theorem y_spec_l2Grow (g:Gram) (b:Bool):evFn cx_l2g Tryz.f98 true [ofD TG g,ofD .bool b] []=(
need (pre_l2g b ([]:Str) 0 g) <| some ((vS (growV g.snd b 0 ([]:Str))),[])):=by kernel_rfl
theorem s_spec_l2Grow (g:Gram) (_hg:Fit TG g) (b:Bool) (_hb:Fit .bool b) (hpre:(okLf g.2)=true):Sat Tryz.prog 98 [ofD TG g,ofD .bool b] [] (.d (ofD .str (growV g.2 b 0 []))) [] :=
 fn_sound (cx:=cx_l2g) Tryz.func98 rfl ttOk Γ87ok mixed (fun c hc=>LoopsOk.all (l:=[(3,loopOf Tryz.f98 0)]) (by cases hc;kernel_rfl) ⟨atLoop rfl (l_l2g 1 rfl (by kernel_rfl)),trivial⟩) (ro:=true) (by
  have hm:missL g.2 []≤length g.2:=cnt_lenB;have hl:=dec_iff.1 (andd.1 hpre).1;have h:pre_l2g b ([]:Str) 0 g=true:=by
   simp only[pre_l2g,andd,dec_iff];refine⟨Int.le_refl 0,hpre, ?_⟩;show missL g.2 []+0≤1000;omega
  rw[y_spec_l2Grow,h];rfl)
def c_spec_l2Grow:Con:=conT [TG, .bool] fun(g:Gram) (b:Bool)=>(some (okLf g.2), .d (ofD .str (growV g.2 b 0 [])))
theorem k_spec_l2Grow:ConOk Tryz.prog 98 c_spec_l2Grow:=conT_ok Tryz.call98 fun g hg b hb hqq=>s_spec_l2Grow g hg b hb (pre_of hqq)
def Γ88:GL:=(98,c_spec_l2Grow)::Γ87
theorem Γ88ok:GO Γ88 := .cons k_spec_l2Grow Γ87ok
theorem okLf_G {g:Gram} (h:okG g=true):okLf g.2=true:=by
 obtain⟨_,h2,h3⟩:=okG_iff h;exact andd.2 ⟨zT (by omega),all_eq_true.2 fun r hr=>(h3 r hr).1⟩
def canB (g:Gram) (s:Str):Bool:=bif both2 g s then inS (growV g.2 true 0 []) (byteAt g.1 0)else false
theorem y_spec_l8Can (g:Gram) (s:Str):evFn (cxOf Γ88 Tryz.f47.ntmps [] [] [] []) Tryz.f47 true [ofD TG g,ofD .str s] []=(
need (bif decide ((bif okG g then areSm s 8 else false)=true)then okLf g.snd else true) <|
need (bif decide ((bif okG g then areSm s 8 else false)=true)then inb 0 (length g.fst)else true) <| some ((vB (bif bif okG g then areSm s 8 else false then inS (growV g.snd true 0 []) (byteAt g.fst 0)else false)),[])):=by kernel_rfl
theorem s_spec_l8Can (g:Gram) (_hg:Fit TG g) (s:Str) (_hs:Fit .str s):Sat Tryz.prog 47 [ofD TG g,ofD .str s] [] (.d (ofD .bool (canB g s))) [] :=
 fn_sound (cx:=cxOf Γ88 Tryz.f47.ntmps [] [] [] []) Tryz.func47 rfl ttOk Γ88ok mixed (fun _ _=>LoopsOk.no fun _=>rfl) (ro:=true) (by
  rw[y_spec_l8Can];change need (bif decide (both2 g s=true)then okLf g.2 else true) (need (bif decide (both2 g s=true)then inb 0 (length g.1)else true) (some (vB (canB g s),[])))=_
  cases hb:both2 g s
  ·rfl
  ·obtain ⟨h1,_⟩:=both2_iff.1 hb;obtain⟨c,e,_⟩:=bigS_one (okG_big h1);have hl:inb 0 (length g.1)=true:=by rw[e];rfl
   rw[okLf_G h1,hl];rfl)
def c_spec_l8Can:Con:=conT [TG, .str] fun(g:Gram) (s:Str)=>(none, .d (ofD .bool (canB g s)))
theorem k_spec_l8Can:ConOk Tryz.prog 47 c_spec_l8Can:=conT_ok Tryz.call47 fun g hg s hs _=>s_spec_l8Can g hg s hs
def Γ89:GL:=(47,c_spec_l8Can)::Γ88
theorem Γ89ok:GO Γ89 := .cons k_spec_l8Can Γ88ok
def sMendV (g:Gram) (s:Str):Int:=bif canB g s then startC g s else -1
theorem grow_inv {l:List Rule} {b:Bool} {J:Str→Prop} (hJ:∀o,∀r∈l,J o→newR o b r=true→J (addS (signR r) o)):∀ {n:Nat} {i:Int} {o:Str},0≤i→J o→J (growN l b n i o)
 |0,_,_,_,h=>h
 |n+1,i,o,h0,h=>by
  unfold growN
  by_cases hi:i<(l.length:Int)
  ·rw[zT hi,cond_true]
   cases hc:newR o b (l.getD i.toNat d0)
   ·exact grow_inv hJ (by omega) h
   ·exact grow_inv hJ (Int.le_refl 0) (hJ o _ (getD_mem (by omega)) h hc)
  ·rw[zF hi];exact h
theorem grow_end {l:List Rule} {b:Bool}:∀ {n:Nat} {i:Int} {o:Str},0≤i→muG l i o<n→(∀q:Nat,(q:Int)<i→q<l.length→newR o b (l.getD q d0)=false)→∀r∈l,newR (growN l b n i o) b r=false
 |0,_,_,_,h,_=>absurd h (Nat.not_lt_zero _)
 |n+1,i,o,h0,h,hq=>by
  unfold growN
  by_cases hi:i<(l.length:Int)
  ·rw[zT hi,cond_true]
   cases hc:newR o b (l.getD i.toNat d0)
   ·have:=mu_next (o:=o) h0 hi;refine grow_end (by omega) (by omega) fun q q1 q2 => ?_
    by_cases e:(q:Int)=i
    ·rw[show q=i.toNat by omega];exact hc
    ·exact hq q (by omega) q2
   ·have:=mu_add h0 hi hc;exact grow_end (Int.le_refl 0) (by omega) fun q q1 _=>by omega
  ·rw[zF hi,cond_false];intro r hr;obtain⟨q,h1,rfl⟩:=List.getElem_of_mem hr;have:=hq q (by omega) h1;rw[getD_at h1]at this;exact this
theorem all_words {l:List Rule} {o:Str} (ho:∀x∈o,∃w,WordG l [x] w):∀ {r:Str},allOf o true r=true→∃w,spW (WordG l) r w
 | [],_=>⟨[],rfl⟩
 |c::r,h=>by
  obtain⟨h1,h2⟩:=andd.1 (show (okIn o true c&&allOf o true r)=true from h);obtain⟨v,hv⟩:=all_words ho (r:=r) h2;have hu:∃u,wdP (WordG l) [c] u:=by
   unfold wdP
   cases hs:smallS [c]
   ·have hs:small c=false:=hs;unfold okIn at h1;rw[hs,Bool.and_false,Bool.or_false]at h1;obtain⟨w,hw⟩:=ho c (inS_mem.1 h1);exact⟨w,by rw[if_neg (by simp)];exact hw⟩
   ·exact ⟨[c],by rw[if_pos rfl]⟩
  obtain⟨u,hu⟩:=hu;exact⟨u++v,u,v,rfl,hu,hv⟩
theorem wordsAll {o:Str}:∀ {r w:Str},spW (fun a _=>inS o (byteAt a 0)=true) r w→allOf o true r=true
 | [],_,_=>rfl
 |c::r,w,h=>by
  obtain⟨u,v,_,h1,h2⟩:=h;refine andd.2 ⟨?_,wordsAll h2⟩;unfold wdP at h1;unfold okIn
  split at h1
  ·rename_i hs;have hs:small c=true:=hs;rw[hs];simp
  ·have h1:inS o (c.toNat:Int)=true:=h1;rw[h1];rfl
theorem grow_prod {l:List Rule} (hl:List.all l (fun r=>bigS r.1)=true) {c:UInt8}:inS (growV l true 0 []) (c.toNat:Int)=true↔∃w,WordG l [c] w:=by
 constructor
 ·intro h;refine grow_inv (l:=l) (b:=true) (J:=fun o=>∀x∈o,∃w,WordG l [x] w) (fun o r hr ho hn x hx => ?_) (Int.le_refl 0) (fun x hx=>by cases hx) c (inS_mem.1 h);rcases addS_mem.1 hx with rfl | hx
  ·obtain ⟨w,hw⟩:=all_words ho (andd.1 hn).2;obtain⟨d,e,_⟩:=bigS_one (all_eq_true.1 hl r hr);have hs:[signR r]=r.1:=by
    have h1:=signR_nat (r:=r);rw[e]at h1;have h1:((signR r).toNat:Int)=(d.toNat:Int):=h1;rw[e,show signR r=d from UInt8.toNat_inj.1 (by omega)]
   rw[hs];exact⟨w,Word_closed r hr w hw⟩
  ·exact ho x hx
 ·rintro ⟨w,hw⟩;have hend:=grow_end (l:=l) (b:=true) (n:=muG l 0 []+1) (i:=0) (o:=[]) (Int.le_refl 0) (Nat.lt_succ_self _) (fun q q1 _=>by omega);have:=hw (fun a _=>inS (growV l true 0 []) (byteAt a 0)=true) (fun r hr w h => ?_)
  ·exact this
  ·have h1:=hend r hr;have h2:=wordsAll h;unfold newR at h1;change(!inS (growV l true 0 []) (byteAt r.1 0)&&allOf (growV l true 0 []) true r.2)=false at h1;rw[h2,Bool.and_true]at h1;show inS (growV l true 0 []) (byteAt r.1 0)=true
   cases hc:inS (growV l true 0 []) (byteAt r.1 0)
   ·rw[hc]at h1;cases h1
   ·rfl
theorem canB_iff {g:Gram} {s:Str}:canB g s=true↔both2 g s=true∧prodG g:=by
 unfold canB
 cases hb:both2 g s
 ·exact ⟨fun h=>(by cases h),fun h=>(by cases h.1)⟩
 ·rw[cond_true];obtain⟨h1,_⟩:=both2_iff.1 hb;obtain⟨c,e,_⟩:=bigS_one (okG_big h1);have:=grow_prod (l:=g.2) (andd.1 (okLf_G h1)).2 (c:=c);rw[show byteAt g.1 0=(c.toNat:Int)by rw[e];rfl,this];unfold prodG;rw[e];exact⟨fun h=>⟨rfl,h⟩,fun h=>h.2⟩
theorem mend_same {g:Gram} {s:Str}:mendV g s=sMendV g s:=by
 unfold mendV sMendV
 cases hb:both2 g s
 ·have:canB g s=false:=by
   unfold canB;rw[hb];rfl
  rw[this];rfl
 ·obtain ⟨h1,h2⟩:=both2_iff.1 hb;have hs:length s≤1000:=by
   have:=(areSm_iff.1 h2).1;omega
  rw[cond_true]
  cases hc:canB g s
  ·have hn:∀n,¬DistG s g.2 g.1 0 (s.length:Int) n:=fun n hd=>by
    have:=canB_iff.2 ⟨hb,dist_prod hd⟩;rw[hc]at this;cases this
   rw[far_none h1 hs hn];rfl
  ·obtain ⟨a1,a2,a3,_⟩:=far_both h1 hs (canB_iff.1 hc).2;rw[zF (by omega),cond_false,cond_true,a1]
abbrev TE:Ty:=ty35
abbrev Edit:Type:=Int×Int×Str
abbrev ed0:Edit:=(0,0,[])
def longOk (s:Str):Bool:=s.all small&&Nat.ble s.length 20
def edit1 (t:Str) (e:Edit):Str:=t.take e.2.1.toNat++(e.2.2++t.drop e.2.1.toNat)
def edit2 (t:Str) (e:Edit):Str:=t.take e.2.1.toNat++(e.2.2++t.drop (e.2.1.toNat+1))
def signAt (t:Str) (i:Int):Str:=(t.drop i.toNat).take 1
def editOk (t:Str) (e:Edit):Bool :=
 bif decide (e.1=1)then decide (0≤e.2.1)&&(decide (e.2.1≤(t.length:Int))&&smallS e.2.2)else
 bif decide (e.1=2)then decide (0≤e.2.1)&&(decide (e.2.1<(t.length:Int))&&decide (e.2.2=[]))else
 bif decide (e.1=3)then decide (0≤e.2.1)&&(decide (e.2.1<(t.length:Int))&&(smallS e.2.2 && !decide (signAt t e.2.1=e.2.2)))else false
def doE (t:Str) (e:Edit):Str:=bif decide (e.1=1)then edit1 t e else edit2 t e
def EdDo (t:Str) (e:Edit):Str×Bool:=bif longOk t&&(editOk t e&&longOk (doE t e))then(doE t e,true)else([],false)
theorem EdDo_true {t:Str} {e:Edit} (h:(EdDo t e).2=true):longOk t=true∧editOk t e=true∧longOk (doE t e)=true∧(EdDo t e).1=doE t e:=by
 unfold EdDo at h ⊢
 cases hb:longOk t&&(editOk t e&&longOk (doE t e))
 ·rw[hb]at h;cases h
 ·simp only[Bool.and_eq_true]at hb;exact⟨hb.1,hb.2.1,hb.2.2,rfl⟩
theorem EdDo_mk {t:Str} {e:Edit} (h1:longOk t=true) (h2:editOk t e=true) (h3:longOk (doE t e)=true):EdDo t e=(doE t e,true):=by
 unfold EdDo;rw[h1,h2,h3];rfl
theorem longOk_iff {s:Str}:longOk s=true↔(∀c∈s,small c=true)∧s.length≤20:=by
 unfold longOk;rw[Bool.and_eq_true,all_eq_true,Nat.ble_eq]
def G_l8Long (s:Str) (i:Int) (K:Cont):Option Fin:=need (decide (0≤i)&&Nat.ble s.length 9223372036854775807)
 (branch ((s.drop i.toNat).all small) (K (.exit 0) ⟨[(0,vS s)],[]⟩) (K .ret ⟨[(2,vB false)],[]⟩))
def g_l8Long:St→Cont→Option Fin:=orc ([(0, .d .str),(3, .d TI64)],[]) fun v=>G_l8Long v.1.1 v.1.2.1
def cx_l8Long:Cx:=cxOf Γ89 Tryz.f137.ntmps [(2,[0,3])] [(0,[0]),(1,[0,3]),(1000000,[2])] [] [(2,g_l8Long)]
theorem x_spec_l8Long (s:Str) (i:Int) (R:St→Option Fin) (K:Cont):evC cx_l8Long (loopOf Tryz.f137 0) ⟨[(0,vS s),(3,vI i)],[]⟩ (onward (headAt cx_l8Long 2) R K) =
 branch (decide (i<(s.length:Int))) (need (inb i s.length) (branch (!smallI (byteAt s i)) (K .ret ⟨[(2,vB false)],[]⟩) (R ⟨[(0,vS s),(3,vI (W64 (i+1)))],[]⟩))) (K (.exit 0) ⟨[(0,vS s)],[]⟩):=by kernel_rfl
theorem l_spec_l8Long:∀st K r,g_l8Long st K=some r→∃N,iter (evC cx_l8Long (loopOf Tryz.f137 0)) (headAt cx_l8Long 2) N st K=some r:=by
 refine orc_ok (loop_rule (fun v=>length v.1.1-Int.toNat v.1.2.1) ?_);rintro⟨⟨(s:Str),(i:Int),⟨⟩⟩,⟨⟩⟩ K r hg R hR;refine(x_spec_l8Long s i R K).trans ?_;replace hg:G_l8Long s i K=some r:=hg;replace hR:∀(s':Str) (i':Int),s'.length-i'.toNat<s.length-i.toNat→G_l8Long s' i' K=some r→R ⟨[(0,vS s'),(3,vI i')],[]⟩=some r:=fun s' i'=>hR ((s',i',()),());unfold G_l8Long at hg hR;obtain⟨hp,hg⟩:=need_some.1 hg;simp only[Bool.and_eq_true,decide_eq_true_eq]at hp;obtain⟨h0,h1⟩:=hp;have h1:length s≤9223372036854775807:=Nat.le_of_ble_eq_true h1
 by_cases hi:i<(s.length:Int)
 ·have hn:i.toNat<s.length:=by omega
  rw[zT hi,branch_true,inb_ok h0 hi,byteAt_get h0 hn,smallI_nat];simp only[need,branch_true];rw[drop_eq_getElem_cons hn,List.all_cons]at hg
  cases hc:small s[i.toNat]
  ·rw[hc]at hg;exact hg
  ·rw[hc,Bool.true_and]at hg;have e:W64 (i+1)=i+1:=wrap_small (by omega) (by omega);rw[Bool.not_true,branch_false,e];refine hR s (i+1) (by omega) (need_some.2 ⟨?_, ?_⟩)
   ·simp only[Bool.and_eq_true,decide_eq_true_eq];exact⟨by omega,Nat.ble_eq_true_of_le h1⟩
   ·rw[show (i+1).toNat=i.toNat+1 by omega];exact hg
 ·rw[zF hi,branch_false];rw[drop_eq_nil_of_le (by omega)]at hg;exact hg
theorem y_spec_l8Long (s:Str):evFn cx_l8Long Tryz.f137 true [ofD .str s] []=need (true&&Nat.ble s.length 9223372036854775807) (branch (s.all small) (some (vB (decide ((s.length:Int)≤20)),[])) (some (vB false,[]))):=by kernel_rfl
theorem s_spec_l8Long (s:Str) (hs:Fit .str s):Sat Tryz.prog 137 [ofD .str s] [] (.d (ofD .bool (longOk s))) [] :=
 fn_sound (cx:=cx_l8Long) Tryz.func137 rfl ttOk Γ89ok mixed (fun c hc=>LoopsOk.one (b:=loopOf Tryz.f137 0) (id:=2) (g:=g_l8Long) (by cases hc;kernel_rfl) rfl l_spec_l8Long) (ro:=true) (by
  rw[y_spec_l8Long,Nat.ble_eq_true_of_le (show s.length≤9223372036854775807 from hs)];unfold longOk;have:decide ((s.length:Int)≤20)=Nat.ble s.length 20:=by
   by_cases h:s.length≤20
   ·rw[Nat.ble_eq_true_of_le h,zT (by omega)]
   ·rw[zF (by omega)]
    cases hb:Nat.ble s.length 20
    ·rfl
    ·exact absurd (Nat.le_of_ble_eq_true hb) h
  rw[this]
  cases s.all small<;>rfl)
def c_spec_l8Long:Con:=conT [.str] fun(s:Str)=>(none, .d (ofD .bool (longOk s)))
theorem k_spec_l8Long:ConOk Tryz.prog 137 c_spec_l8Long:=conT_ok Tryz.call137 fun s hs _=>s_spec_l8Long s hs
def Γ90:GL:=(137,c_spec_l8Long)::Γ89
theorem Γ90ok:GO Γ90 := .cons k_spec_l8Long Γ89ok
theorem and3 (x y z:Bool):(bif (bif x then y else false)then z else false)=(x&&(y&&z)):=by cases x<;>cases y<;>cases z<;>rfl
theorem and2 (x y:Bool):(bif x then y else false)=(x&&y):=by cases x<;>rfl
theorem y_spec_l8Edit (s:Str) (e:Edit):evFn (cxOf Γ90 Tryz.f138.ntmps [] [(0,[]),(1000000,[4])] [] []) Tryz.f138 true [ofD .str s,ofD TE e] [] =
branch (decide (e.1=1)) (some (vB (bif bif decide (0≤e.2.1)then decide (e.2.1≤(s.length:Int))else false then smallS e.2.2 else false),[])) (
 branch (decide (e.1=2)) (some (vB (bif bif decide (0≤e.2.1)then decide (e.2.1<(s.length:Int))else false then decide (e.2.2=[])else false),[])) (
 branch (decide (e.1=3)) (
  need (bif decide ((bif bif decide (0≤e.2.1)then decide (e.2.1<(s.length:Int))else false then smallS e.2.2 else false)=true)then inr e.2.1 (W64 (e.2.1+1)) s.length else true) (
  some (vB (bif bif bif decide (0≤e.2.1)then decide (e.2.1<(s.length:Int))else false then smallS e.2.2 else false then !decide ((s.drop e.2.1.toNat).take ((W64 (e.2.1+1)).toNat-e.2.1.toNat)=e.2.2)else false),[])))
  (some (vB false,[])))):=by kernel_rfl
theorem s_spec_l8Edit (s:Str) (hs:Fit .str s) (e:Edit) (_he:Fit TE e):Sat Tryz.prog 138 [ofD .str s,ofD TE e] [] (.d (ofD .bool (editOk s e))) [] :=
 fn_sound (cx:=cxOf Γ90 Tryz.f138.ntmps [] [(0,[]),(1000000,[4])] [] []) Tryz.func138 rfl ttOk Γ90ok mixed (fun _ _=>LoopsOk.no fun _=>rfl) (ro:=true) (by
  rw[y_spec_l8Edit];obtain⟨k,a,g⟩:=e;have hs:s.length≤9223372036854775807:=hs;unfold editOk
  by_cases k1:k=1
  ·rw[zT k1,and3];rfl
  rw[zF k1,branch_false,cond_false]
  by_cases k2:k=2
  ·rw[zT k2,and3];rfl
  rw[zF k2,branch_false,cond_false]
  by_cases k3:k=3
  ·rw[zT k3,and3,branch_true,cond_true]
   by_cases h0:0≤a
   ·by_cases h1:a<(s.length:Int)
    ·have e1:W64 (a+1)=a+1:=wrap_small (by omega) (by omega);have e2:inr a (a+1) s.length=true:=zT ⟨h0,by omega,by omega⟩;have e3:(a+1).toNat-a.toNat=1:=by omega
     rw[zT h0,zT h1,e1,e2,e3]
     cases smallS g<;>rfl
    ·rw[zT h0,zF h1];rfl
   ·rw[zF h0];rfl
  ·rw[zF k3];rfl)
def c_spec_l8Edit:Con:=conT [.str,TE] fun(s:Str) (e:Edit)=>(none, .d (ofD .bool (editOk s e)))
theorem k_spec_l8Edit:ConOk Tryz.prog 138 c_spec_l8Edit:=conT_ok Tryz.call138 fun s hs e he _=>s_spec_l8Edit s hs e he
def Γ91:GL:=(138,c_spec_l8Edit)::Γ90
theorem Γ91ok:GO Γ91 := .cons k_spec_l8Edit Γ90ok
theorem y_spec_l8Do (s:Str) (e:Edit):evFn (cxOf Γ91 Tryz.f57.ntmps [] [] [] []) Tryz.f57 true [ofD .str s,ofD TE e] [] =
branch (decide (e.1=1)) (
 need (inr 0 e.2.1 s.length) (need (decide ((s.take e.2.1.toNat).length+e.2.2.length≤9223372036854775807)) (need (inr e.2.1 (s.length:Int) s.length)
  (need (decide ((s.take e.2.1.toNat++e.2.2).length+((s.drop e.2.1.toNat).take (s.length-e.2.1.toNat)).length≤9223372036854775807)) (some (vS ((s.take e.2.1.toNat++e.2.2)++(s.drop e.2.1.toNat).take (s.length-e.2.1.toNat)),[]))))))
 (need (inr 0 e.2.1 s.length) (need (decide ((s.take e.2.1.toNat).length+e.2.2.length≤9223372036854775807)) (need (inr (W64 (e.2.1+1)) (s.length:Int) s.length)
  (need (decide ((s.take e.2.1.toNat++e.2.2).length+((s.drop (W64 (e.2.1+1)).toNat).take (s.length-(W64 (e.2.1+1)).toNat)).length≤9223372036854775807)) (some (vS ((s.take e.2.1.toNat++e.2.2)++(s.drop (W64 (e.2.1+1)).toNat).take (s.length-(W64 (e.2.1+1)).toNat)),[])))))):=by kernel_rfl
theorem editOk_range {s:Str} {e:Edit} (h:editOk s e=true):0≤e.2.1∧e.2.1≤(s.length:Int)∧(e.1≠1→e.2.1<(s.length:Int))∧e.2.2.length≤1:=by
 obtain⟨k,a,g⟩:=e;unfold editOk at h
 by_cases k1:k=1
 ·rw[zT k1,cond_true]at h;simp only[Bool.and_eq_true,decide_eq_true_eq]at h;obtain⟨c,h3,_⟩:=smallS_one h.2.2;exact⟨h.1,h.2.1,fun h'=>absurd k1 h',by rw[h3];simp⟩
 rw[zF k1,cond_false]at h
 by_cases k2:k=2
 ·rw[zT k2,cond_true]at h;simp only[Bool.and_eq_true,decide_eq_true_eq]at h;exact⟨h.1,Int.le_of_lt h.2.1,fun _=>h.2.1,by rw[h.2.2];simp⟩
 rw[zF k2,cond_false]at h
 by_cases k3:k=3
 ·rw[zT k3,cond_true]at h;simp only[Bool.and_eq_true,decide_eq_true_eq]at h;obtain⟨c,h3,_⟩:=smallS_one h.2.2.1;exact⟨h.1,Int.le_of_lt h.2.1,fun _=>h.2.1,by rw[h3];simp⟩
 ·rw[zF k3]at h;cases h
theorem take_all {s:Str} {n:Nat}:(s.drop n).take (s.length-n)=s.drop n:=List.take_of_length_le (by simp)
theorem s_spec_l8Do (s:Str) (_hs:Fit .str s) (e:Edit) (_he:Fit TE e) (hpre:(longOk s&&editOk s e)=true):Sat Tryz.prog 57 [ofD .str s,ofD TE e] [] (.d (ofD .str (doE s e))) [] :=
 fn_sound (cx:=cxOf Γ91 Tryz.f57.ntmps [] [] [] []) Tryz.func57 rfl ttOk Γ91ok mixed (fun _ _=>LoopsOk.no fun _=>rfl) (ro:=true) (by
  rw[y_spec_l8Do];rw[Bool.and_eq_true]at hpre;obtain⟨h1,h2⟩:=hpre;have hl:=(longOk_iff.1 h1).2;obtain⟨k,a,g⟩:=e;obtain⟨r1,r2,r3,r4⟩:0≤a∧a≤(s.length:Int)∧(k≠1→a<(s.length:Int))∧g.length≤1:=editOk_range h2;have i1:inr 0 a s.length=true:=zT ⟨by omega,r1,r2⟩;have n1:(s.take a.toNat).length+g.length≤9223372036854775807:=by rw[length_take];omega
  unfold doE
  by_cases k1:k=1
  ·have i2:inr a (s.length:Int) s.length=true:=zT ⟨r1,r2,by omega⟩;have n2:(s.take a.toNat++g).length+(s.drop a.toNat).length≤9223372036854775807:=by rw[length_append,length_take,length_drop];omega
   rw[zT k1,branch_true,cond_true,i1,zT n1,i2,take_all,zT n2,append_assoc];rfl
  ·have:=r3 k1;have e1:W64 (a+1)=a+1:=wrap_small (by omega) (by omega);have i2:inr (a+1) (s.length:Int) s.length=true:=zT ⟨by omega,by omega,by omega⟩;have n2:(s.take a.toNat++g).length+(s.drop (a+1).toNat).length≤9223372036854775807:=by rw[length_append,length_take,length_drop];omega
   rw[zF k1,branch_false,cond_false,e1,i1,zT n1,i2,take_all,zT n2,append_assoc];show some (vS (s.take a.toNat++(g++s.drop (a+1).toNat)),[])=some (vS (s.take a.toNat++(g++s.drop (a.toNat+1))),[]);rw[show (a+1).toNat=a.toNat+1 by omega])
def c_spec_l8Do:Con:=conT [.str,TE] fun(s:Str) (e:Edit)=>(some (longOk s&&editOk s e), .d (ofD .str (doE s e)))
theorem k_spec_l8Do:ConOk Tryz.prog 57 c_spec_l8Do:=conT_ok Tryz.call57 fun s hs e he hqq=>s_spec_l8Do s hs e he (pre_of hqq)
def Γ92:GL:=(57,c_spec_l8Do)::Γ91
theorem Γ92ok:GO Γ92 := .cons k_spec_l8Do Γ91ok
def editR (x:Str×Bool):T := .tup [ofD .str x.1,ofD .bool x.2]
theorem y_spec_EditDo (s:Str) (e:Edit):evFn (cxOf Γ92 Tryz.f104.ntmps [] [] [] []) Tryz.f104 true [ofD .str s,ofD TE e] [] =
need (bif decide ((bif !longOk s then true else !editOk s e)=false)then longOk s&&editOk s e else true) (
 branch (bif bif !longOk s then true else !editOk s e then true else !longOk (doE s e)) (some (editR ([],false),[])) (need (longOk s&&editOk s e) (some (editR (doE s e,true),[])))):=by kernel_rfl
theorem s_spec_EditDo (s:Str) (_hs:Fit .str s) (e:Edit) (_he:Fit TE e):Sat Tryz.prog 104 [ofD .str s,ofD TE e] [] (editR (EdDo s e)) [] :=
 fn_sound (cx:=cxOf Γ92 Tryz.f104.ntmps [] [] [] []) Tryz.func104 rfl ttOk Γ92ok mixed (fun _ _=>LoopsOk.no fun _=>rfl) (ro:=true) (by
  rw[y_spec_EditDo];unfold EdDo
  cases longOk s
  ·rfl
  ·cases editOk s e
   ·rfl
   ·cases longOk (doE s e)<;>rfl)
def c_spec_EditDo:Con:=conT [.str,TE] fun(s:Str) (e:Edit)=>(none,editR (EdDo s e))
theorem k_spec_EditDo:ConOk Tryz.prog 104 c_spec_EditDo:=conT_ok Tryz.call104 fun s hs e he _=>s_spec_EditDo s hs e he
def Γ93:GL:=(104,c_spec_EditDo)::Γ92
theorem Γ93ok:GO Γ93 := .cons k_spec_EditDo Γ92ok
theorem areSm_20 (s:Str):areSm s 20=longOk s:=by
 unfold areSm longOk;have:decide ((s.length:Int)≤20)=Nat.ble s.length 20:=by
  by_cases h:s.length≤20
  ·rw[Nat.ble_eq_true_of_le h,zT (by omega)]
  ·rw[zF (by omega)]
   cases hb:Nat.ble s.length 20
   ·rfl
   ·exact absurd (Nat.le_of_ble_eq_true hb) h
 rw[this,and2,Bool.and_comm]
theorem long_edit1 {s:Str} {a:Int} {c:UInt8} (h:longOk s=true) (hc:small c=true) (ha:a.toNat≤s.length):longOk (s.take a.toNat++([c]++s.drop a.toNat))=decide (s.length<20):=by
 have hl:=longOk_iff.1 h;have hn:(s.take a.toNat++([c]++s.drop a.toNat)).length=s.length+1:=by simp only[length_append,length_take,length_drop,length_singleton];omega
 by_cases g:s.length<20
 ·rw[zT g];refine longOk_iff.2 ⟨fun x hx => ?_,by omega⟩;simp only[mem_append,mem_singleton]at hx;rcases hx with hx | rfl | hx
  ·exact hl.1 x (List.mem_of_mem_take hx)
  ·exact hc
  ·exact hl.1 x (List.mem_of_mem_drop hx)
 ·rw[zF g]
  cases hq:longOk (s.take a.toNat++([c]++s.drop a.toNat))
  ·rfl
  ·have:=(longOk_iff.1 hq).2;omega
theorem long_edit2 {s g:Str} {a:Int} (h:longOk s=true) (hc:∀x∈g,small x=true) (hg:g.length≤1) (ha:a.toNat<s.length):longOk (s.take a.toNat++(g++s.drop (a.toNat+1)))=true:=by
 have hl:=longOk_iff.1 h;refine longOk_iff.2 ⟨fun x hx => ?_,by simp only[length_append,length_take,length_drop];omega⟩;simp only[mem_append]at hx;rcases hx with hx | hx | hx
 ·exact hl.1 x (List.mem_of_mem_take hx)
 ·exact hc x hx
 ·exact hl.1 x (List.mem_of_mem_drop hx)
theorem y_impl_EditDo (s:Str) (e:Edit):evFn (cxOf Γ93 Tryz.f21.ntmps [] [(0,[]),(1000000,[4,5])] [] []) Tryz.f21 true [ofD .str s,ofD TE e] [] =
branch (bif bif bif !areSm s 20 then true else decide (e.2.1<0)then true else decide ((s.length:Int)<e.2.1)then true else bif !decide (e.1=1)then decide (e.2.1=(s.length:Int))else false) (some (editR ([],false),[])) (
 branch (bif bif decide (e.1=1)then smallS e.2.2 else false then decide ((s.length:Int)<20)else false) (
 need (inr 0 e.2.1 s.length) (need (decide ((s.take e.2.1.toNat).length+e.2.2.length≤9223372036854775807)) (need (inr e.2.1 (s.length:Int) s.length)
  (need (decide ((s.take e.2.1.toNat++e.2.2).length+((s.drop e.2.1.toNat).take (s.length-e.2.1.toNat)).length≤9223372036854775807)) (
  some (editR ((s.take e.2.1.toNat++e.2.2)++(s.drop e.2.1.toNat).take (s.length-e.2.1.toNat),true),[]))))))
 (branch (bif decide (e.1=2)then decide (e.2.2=[])else false) (
  need (inr 0 e.2.1 s.length) (need (inr (W64 (e.2.1+1)) (s.length:Int) s.length)
  (need (decide ((s.take e.2.1.toNat).length+((s.drop (W64 (e.2.1+1)).toNat).take (s.length-(W64 (e.2.1+1)).toNat)).length≤9223372036854775807)) (
   some (editR (s.take e.2.1.toNat++(s.drop (W64 (e.2.1+1)).toNat).take (s.length-(W64 (e.2.1+1)).toNat),true),[])))))
  (need (bif decide ((bif decide (e.1=3)then smallS e.2.2 else false)=true)then inr e.2.1 (W64 (e.2.1+1)) s.length else true) (
  branch (bif bif decide (e.1=3)then smallS e.2.2 else false then !decide ((s.drop e.2.1.toNat).take ((W64 (e.2.1+1)).toNat-e.2.1.toNat)=e.2.2)else false) (
   need (inr 0 e.2.1 s.length) (need (decide ((s.take e.2.1.toNat).length+e.2.2.length≤9223372036854775807)) (need (inr (W64 (e.2.1+1)) (s.length:Int) s.length)
  (need (decide ((s.take e.2.1.toNat++e.2.2).length+((s.drop (W64 (e.2.1+1)).toNat).take (s.length-(W64 (e.2.1+1)).toNat)).length≤9223372036854775807)) (
  some (editR ((s.take e.2.1.toNat++e.2.2)++(s.drop (W64 (e.2.1+1)).toNat).take (s.length-(W64 (e.2.1+1)).toNat),true),[]))))))
   (some (editR ([],false),[])))))):=by kernel_rfl
theorem s_impl_EditDo (s:Str) (_hs:Fit .str s) (e:Edit) (he:Fit TE e):Sat Tryz.prog 21 [ofD .str s,ofD TE e] [] (editR (EdDo s e)) [] :=
 fn_sound (cx:=cxOf Γ93 Tryz.f21.ntmps [] [(0,[]),(1000000,[4,5])] [] []) Tryz.func21 rfl ttOk Γ93ok mixed (fun _ _=>LoopsOk.no fun _=>rfl) (ro:=true) (by
  rw[y_impl_EditDo,areSm_20];obtain⟨k,a,g⟩:=e
  cases hlo:longOk s
  ·have:EdDo s (k,a,g)=([],false):=by unfold EdDo;rw[hlo];rfl
   rw[this];rfl
  have hl:=(longOk_iff.1 hlo).2;have bad:editOk s (k,a,g)=false→EdDo s (k,a,g)=([],false):=fun h=>by unfold EdDo;rw[h,hlo];rfl
  dsimp only
  by_cases ha:a<0
  ·rw[zT ha,bad (by unfold editOk;simp only;rw[zF (by omega:¬ 0≤a)];cases decide (k=1)<;>cases decide (k=2)<;>cases decide (k=3)<;>rfl)];rfl
  rw[zF ha]
  by_cases hb:(s.length:Int)<a
  ·rw[zT hb,bad (by unfold editOk;simp only;rw[zF (by omega:¬a≤(s.length:Int)),zF (by omega:¬a<(s.length:Int))];cases decide (0≤a)<;>cases decide (k=1)<;>cases decide (k=2)<;>cases decide (k=3)<;>rfl)];rfl
  rw[zF hb];have i1:inr 0 a s.length=true:=zT ⟨by omega,by omega,by omega⟩;have l0:(s.take a.toNat).length≤20:=by rw[length_take];omega
  by_cases k1:k=1
  ·subst k1;have i2:inr a (s.length:Int) s.length=true:=zT ⟨by omega,by omega,by omega⟩
   cases hg:smallS g
   ·rw[bad (by unfold editOk;simp only;rw[hg];cases decide (0≤a)<;>cases decide (a≤(s.length:Int))<;>rfl)];rfl
   ·obtain ⟨c,rfl,hc⟩:=smallS_one hg;have he:=long_edit1 (a:=a) hlo hc (by omega);have ho:editOk s (1,a,[c])=true:=by
     unfold editOk;simp only;rw[hg,zT (by omega:0≤a),zT (by omega:a≤(s.length:Int))];rfl
    by_cases hn:s.length<20
    ·have:EdDo s (1,a,[c])=(s.take a.toNat++([c]++s.drop a.toNat),true):=EdDo_mk hlo ho (he.trans (zT hn));rw[this];have n1:(s.take a.toNat).length+[c].length≤9223372036854775807:=by simp only[length_singleton];omega
     have n2:(s.take a.toNat++[c]).length+(s.drop a.toNat).length≤9223372036854775807:=by simp only[length_append,length_singleton,length_drop];omega
     rw[zT (by omega:(s.length:Int)<20),i1,zT n1,i2,take_all,zT n2,append_assoc];rfl
    ·have:EdDo s (1,a,[c])=([],false):=by
      unfold EdDo;rw[show longOk (doE s (1,a,[c]))=false from he.trans (zF hn),hlo,ho];rfl
     rw[this,zF (by omega:¬(s.length:Int)<20)];rfl
  ·rw[zF k1]
   by_cases hq:a=(s.length:Int)
   ·rw[zT hq,bad (by unfold editOk;simp only;rw[zF k1,zF (by omega:¬a<(s.length:Int))];cases decide (0≤a)<;>cases decide (k=2)<;>cases decide (k=3)<;>rfl)];rfl
   ·have hlt:a<(s.length:Int):=by omega
    have e1:W64 (a+1)=a+1:=wrap_small (by omega) (by omega);have e4:(a+1).toNat=a.toNat+1:=by omega
    have i2:inr (a+1) (s.length:Int) s.length=true:=zT ⟨by omega,by omega,by omega⟩;have i3:inr a (a+1) s.length=true:=zT ⟨by omega,by omega,by omega⟩;have l1:(s.drop (a.toNat+1)).length≤20:=by rw[length_drop];omega
    rw[zF hq,e1,e4,i1,i2,i3,take_all (n:=a.toNat+1)]
    by_cases k2:k=2
    ·subst k2
     by_cases hg:g=[]
     ·subst hg;have he:longOk (doE s (2,a,[]))=true:=long_edit2 (g:=[]) (a:=a) hlo (fun x hx=>by cases hx) (by simp) (by omega);have ho:editOk s (2,a,[])=true:=by unfold editOk;simp only;rw[zT (by omega:0≤a),zT hlt];rfl
      rw[EdDo_mk hlo ho he,zT (by omega:(s.take a.toNat).length+(s.drop (a.toNat+1)).length≤9223372036854775807)];rfl
     ·rw[bad (by unfold editOk;simp only;rw[zF hg];cases decide (0≤a)<;>cases decide (a<(s.length:Int))<;>rfl),zF hg];rfl
    ·rw[zF k2]
     by_cases k3:k=3
     ·subst k3
      cases hg:smallS g
      ·rw[bad (by unfold editOk;simp only;rw[hg];cases decide (0≤a)<;>cases decide (a<(s.length:Int))<;>rfl)];rfl
      ·obtain ⟨c,rfl,hc⟩:=smallS_one hg;have e5:(s.drop a.toNat).take (a.toNat+1-a.toNat)=signAt s a:=by rw[show a.toNat+1-a.toNat=1 by omega];rfl
       rw[e5]
       by_cases hsg:signAt s a=[c]
       ·rw[bad (by unfold editOk;simp only;rw[zT hsg];cases decide (0≤a)<;>cases decide (a<(s.length:Int))<;>cases smallS [c]<;>rfl),zT hsg];rfl
       ·have he:longOk (doE s (3,a,[c]))=true:=long_edit2 (g:=[c]) (a:=a) hlo (fun x hx=>by rw[mem_singleton.1 hx];exact hc) (by simp) (by omega);have ho:editOk s (3,a,[c])=true:=by unfold editOk;simp only;rw[zT (by omega:0≤a),zT hlt,hg,zF hsg];rfl
        have n1:(s.take a.toNat).length+[c].length≤9223372036854775807:=by simp only[length_singleton];omega
        have n2:(s.take a.toNat++[c]).length+(s.drop (a.toNat+1)).length≤9223372036854775807:=by simp only[length_append,length_singleton];omega
        rw[EdDo_mk hlo ho he,zF hsg,zT n1,zT n2,append_assoc (s.take a.toNat) [c] (s.drop (a.toNat+1))];rfl
     ·rw[bad (by unfold editOk;simp only;rw[zF k1,zF k2,zF k3];rfl),zF k3];rfl)
def c_impl_EditDo:Con:=conT [.str,TE] fun(s:Str) (e:Edit)=>(none,editR (EdDo s e))
theorem k_impl_EditDo:ConOk Tryz.prog 21 c_impl_EditDo:=conT_ok Tryz.call21 fun s hs e he _=>s_impl_EditDo s hs e he
def Γ94:GL:=(21,c_impl_EditDo)::Γ93
theorem Γ94ok:GO Γ94 := .cons k_impl_EditDo Γ93ok
theorem mend_cases {g:Gram} {s:Str}:(mendV g s = -1∧canB g s=false)∨(canB g s=true∧mendV g s=farV g s∧0≤farV g s∧both2 g s=true∧okG g=true∧length s≤8∧prodG g):=by
 cases hc:canB g s
 ·refine .inl ⟨?_,rfl⟩;rw[mend_same];unfold sMendV;rw[hc];rfl
 ·obtain ⟨h1,h2⟩:=canB_iff.1 hc;obtain⟨h3,h4⟩:=both2_iff.1 h1;have hl:=(areSm_iff.1 h4).1;obtain⟨a1,a2,_⟩:=far_both h3 (by omega:length s≤1000) h2;refine .inr ⟨rfl, ?_,a2,h1,h3,by omega,h2⟩;rw[mend_same];unfold sMendV;rw[hc,cond_true,a1]
theorem isD_word {g:Gram} {s:Str} (h:okG g=true):isD g s=true↔WordG g.2 g.1 s:=(isD_iff (okG_big h)).trans word_der.symm
theorem far_zero {g:Gram} {s:Str} (h:okG g=true) (hs:length s≤1000) (hp:prodG g):farV g s=0↔WordG g.2 g.1 s:=by
 obtain⟨_,a2,_,⟨w,w1,m,m1,m2⟩,a4⟩:=far_both h hs hp
 constructor
 ·intro e;have:m=0:=by omega
  subst this;rw[m2.zero];exact w1
 ·intro hw;have:=a4 s 0 hw Ed.refl;omega
theorem mend_is {g:Gram} {s:Str} (h:canB g s=true):decide (mendV g s=0)=(both2 g s&&isD g s):=by
 rcases mend_cases (g:=g) (s:=s)with⟨_,h2⟩ | ⟨_,h2,h3,h4,h5,h6,h7⟩
 ·rw[h]at h2;cases h2
 ·have e:mendV g s=0↔isD g s=true:=by rw[h2,far_zero h5 (by omega) h7,isD_word h5]
  rw[h4,Bool.true_and]
  cases hd:isD g s
  ·exact zF fun hz=>by rw[e.1 hz]at hd;cases hd
  ·exact zT (e.2 hd)
theorem mend_not {g:Gram} {s:Str} (h:canB g s=false):(both2 g s&&isD g s)=false:=by
 cases hb:both2 g s
 ·rfl
 ·cases hd:isD g s
  ·rfl
  ·have:=canB_iff.2 ⟨hb,s,(isD_word (both2_iff.1 hb).1).1 hd⟩;rw[h]at this;cases this
theorem EdDo_short {s:Str} {e:Edit} (h:(EdDo s e).2=true):longOk (EdDo s e).1=true∧length (EdDo s e).1≤20:=by
 obtain⟨_,_,h3,h4⟩:=EdDo_true h;rw[h4];exact⟨h3,(longOk_iff.1 h3).2⟩
theorem edit_one {s:Str} {e:Edit} (h:(EdDo s e).2=true):OneEd s (EdDo s e).1:=by
 obtain⟨h1,h2,h3,h4⟩:=EdDo_true h;rw[h4];obtain⟨k,a,t⟩:=e;unfold editOk at h2
 by_cases k1:k=1
 ·subst k1;simp only[decide_true,cond_true,andd,dec_iff]at h2;obtain⟨g1,g2,g3⟩:=h2;obtain⟨c,rfl,_⟩:=smallS_one g3;have:=OneEd.ins (u:=s.take a.toNat) (v:=s.drop a.toNat) (c:=c);rw[List.take_append_drop]at this;exact this
 ·rw[zF k1,cond_false]at h2;have hd:∀ {n:Nat} (hn:n<s.length),s=s.take n++s[n]::s.drop (n+1):=fun hn=>by rw[← drop_eq_getElem_cons hn,List.take_append_drop]
  by_cases k2:k=2
  ·subst k2;simp only[decide_true,cond_true,andd,dec_iff]at h2;obtain⟨g1,g2,rfl⟩:=h2;have hn:a.toNat<s.length:=by omega
   have:=OneEd.out (u:=s.take a.toNat) (v:=s.drop (a.toNat+1)) (c:=s[a.toNat]);rw[← hd hn]at this;exact this
  ·rw[zF k2,cond_false]at h2
   by_cases k3:k=3
   ·subst k3;simp only[decide_true,cond_true,andd,dec_iff,Bool.not_eq_true',decide_eq_false_iff_not]at h2;obtain⟨g1,g2,g3,g4⟩:=h2;obtain⟨c,rfl,_⟩:=smallS_one g3;have hn:a.toNat<s.length:=by omega
    have hne:s[a.toNat]≠c:=fun e=>g4 (by unfold signAt;rw[drop_eq_getElem_cons hn,e];rfl);have:=OneEd.turn (u:=s.take a.toNat) (v:=s.drop (a.toNat+1)) hne;rw[← hd hn]at this;exact this
   ·rw[zF k3]at h2;cases h2
def cb_nr:Cx:=cxOf Γ94 Tryz.f53.ntmps [(16,[1,2,3,6,9,23,24,54,55,56]),(10,[1,2,3,6,9,10,11,13,23,24,30,31,32,37,38]),(7,[1,2,3,6,9,10,11,23,24,30,31,32]),(3,[1,2,3,6,9,23,24])] [(0,[6]),(1,[1,2,3,6,9,23,24]),(6,[1,2,3,6,9,23,24]),(7,[1,2,3,6,9,23,24,54,55,56]),(2,[1,2,3,6,9,11,23,24]),(3,[1,2,3,6,9,10,11,23,24,30,31,32]),(4,[1,2,3,6,9,10,11,23,24,30,31,32]),(5,[1,2,3,6,9,10,11,13,23,24,30,31,32,37,38]),(1000000,[6,7,8])] [] []
abbrev st_nr3 (s:Str) (f:Int) (c:Str) (n i m k:Int) (g:Gram) (q:Edit) (l:List (Edit)):St:=⟨[(1,vS s),(2,vI f),(3, kp0),(6, kp1),(9,vS c),(23,vI n),(24,vI i),(54, ko2),(55,vI m),(56,vI k)],[(500000,some (boxD 25 TG g)),(500001,some (boxD 35 TE q)),(500002,some (.lis 35 TE l))]⟩
theorem x_impl_nearer_3 (g:Gram) (s c:Str) (f n i m k:Int) (q:Edit) (l:List Edit) (R:St→Option Fin) (K:Cont):evC (cb_nr.withLoops (look [])) (loopOf Tryz.f53 3) (st_nr3 s f c n i m k g q l) (onward (headAt (cb_nr.withLoops (look [])) 16) R K)=(
branch (decide (k<m)) (
 need (inb k l.length) <|
 need (bif decide ((EdDo s (l.getD k.toNat ed0)).snd=true)then okRd g.snd&&decide ((length (EdDo s (l.getD k.toNat ed0)).fst)≤1000)else true) <|
 branch (bif (EdDo s (l.getD k.toNat ed0)).snd then decide (dofV (EdDo s (l.getD k.toNat ed0)).fst (distM (EdDo s (l.getD k.toNat ed0)).fst g.snd) g.fst 0 (length (EdDo s (l.getD k.toNat ed0)).fst:Int)<f)else false) ( K (.ret) (.mk [(6,kp0),(7,(vS (EdDo s (l.getD k.toNat ed0)).fst)),(8,vB true)] [(500000,(.some (.box 35 [(.r (.v (Value.int IntKind.i64 (l.getD k.toNat ed0).fst))),(.r (.v (Value.int IntKind.i64 (l.getD k.toNat ed0).snd.fst))),(.r (.v (Value.string (mk (l.getD k.toNat ed0).snd.snd))))])))])) ( R (st_nr3 s f c n i m (W64 (k+1)) g q l))) ( K (.exit 6) (.mk [(1,vS s),(2,vI f),(3,kp0),(6,kp1),(9,vS c),(23,vI n),(24,vI i)] [(500000,some (boxD 25 TG g)),(500001,some (boxD 35 TE q))]))):=by kernel_rfl
def okN (F:Str→Int) (s:Str) (f:Int) (e:Edit):Bool:=bif (EdDo s e).2 then decide (F (EdDo s e).1<f)else false
def fstE (p:Edit→Bool):List Edit→Option Edit
 | []=>none
 |e::l=>bif p e then some e else fstE p l
theorem dropE_at {l:List Edit} {k:Int} (h0:0≤k) (h1:k<(length l:Int)):List.drop k.toNat l=getD l k.toNat ed0::List.drop (k+1).toNat l:=by
 have hn:k.toNat<length l:=by omega
 rw[drop_eq_getElem_cons hn,show (k+1).toNat=k.toNat+1 by omega,zG,zE hn];rfl
def nrR (g:Gram) (s c:Str) (f n i:Int) (q:Edit) (K:Cont) (o:Option Edit):Option Fin:=branch o.isSome
 (K .ret ⟨[(6, kp0),(7,vS (EdDo s (o.getD ed0)).1),(8,vB true)],[(500000,some (boxD 35 TE (o.getD ed0)))]⟩)
 (K (.exit 6) ⟨[(1,vS s),(2,vI f),(3, kp0),(6, kp1),(9,vS c),(23,vI n),(24,vI i)],[(500000,some (boxD 25 TG g)),(500001,some (boxD 35 TE q))]⟩)
def cx0_nr3:Cx:=(cb_nr).withLoops (look [])
def sh_nr3:Sh:=([(1, .d .str),(2, .d TI64),(3, .ptr 500000 0),(6, .ptr 500001 0),(9, .d .str),(23, .d TI64),(24, .d TI64),(54, .own 500002),(55, .d TI64),(56, .d TI64)],[(500000, .box 25 TG),(500001, .box 35 TE),(500002, .lis 35 TE)])
def pre_nr3 (_s:Str) (_f:Int) (_c:Str) (_n _i m k:Int) (g:Gram) (_q:Edit) (l:List (Edit)):Bool:=decide (0≤k)&&(decide (m=(length l:Int))&&(okRd g.2&&decide (length l≤1000)))
def res_nr3 (s:Str) (f:Int) (c:Str) (n i _m k:Int) (g:Gram) (q:Edit) (l:List (Edit)) (K:Cont):Option Fin:=nrR g s c f n i q K (fstE (okN (farV g) s f) (List.drop k.toNat l))
def mu_nr3 (_s:Str) (_f:Int) (_c:Str) (_n _i _m k:Int) (_g:Gram) (_q:Edit) (l:List (Edit)):Nat:=length l-k.toNat
theorem r_nr3 (s:Str) (f:Int) (c:Str) (n i m k:Int) (g:Gram) (q:Edit) (l:List (Edit)) (K:Cont) (hI:pre_nr3 s f c n i m k g q l=true):(∀R:St→Option Fin,evC cx0_nr3 (loopOf Tryz.f53 3) (st_nr3 s f c n i m k g q l) (onward (headAt cx0_nr3 16) R K)=res_nr3 s f c n i m k g q l K) ∨
  (∃(s':Str) (f':Int) (c':Str) (n' i' m' k':Int) (g':Gram) (q':Edit) (l':List (Edit)),pre_nr3 s' f' c' n' i' m' k' g' q' l'=true∧mu_nr3 s' f' c' n' i' m' k' g' q' l'<mu_nr3 s f c n i m k g q l∧res_nr3 s' f' c' n' i' m' k' g' q' l' K=res_nr3 s f c n i m k g q l K∧∀R:St→Option Fin,evC cx0_nr3 (loopOf Tryz.f53 3) (st_nr3 s f c n i m k g q l) (onward (headAt cx0_nr3 16) R K)=R (st_nr3 s' f' c' n' i' m' k' g' q' l')):=by
 have hx:=fun R=>x_impl_nearer_3 g s c f n i m k q l R K;simp only[pre_nr3,andd,dec_iff]at hI;obtain⟨h0,rfl,h2,h3⟩:=hI
 by_cases hk:k<(length l:Int)
 ·have w:W64 (k+1)=k+1:=wrap_small (by omega) (by omega);have hd:=dropE_at h0 hk;have kk:(bif decide ((EdDo s (getD l k.toNat ed0)).2=true)then okRd g.2&&decide ((length (EdDo s (getD l k.toNat ed0)).1)≤1000)else true)=true:=by
   cases hb:(EdDo s (getD l k.toNat ed0)).2
   ·rfl
   ·have:=(EdDo_short hb).2;exact andd.2 ⟨h2,zT (by omega)⟩
  rw[zT hk,inb_ok h0 hk,kk,w]at hx;change ∀R:St→Option Fin,_=branch (okN (farV g) s f (getD l k.toNat ed0)) _ _ at hx;have hf:fstE (okN (farV g) s f) (List.drop k.toNat l)=bif okN (farV g) s f (getD l k.toNat ed0)then some (getD l k.toNat ed0)else fstE (okN (farV g) s f) (List.drop (k+1).toNat l):=by rw[hd];rfl
  cases hc:okN (farV g) s f (getD l k.toNat ed0)
  ·rw[hc]at hx hf;right;refine⟨s,f,c,n,i,(length l:Int),k+1,g,q,l, ?_, ?_, ?_,fun R=>hx R⟩
   ·simp only[pre_nr3,andd,dec_iff];exact⟨by omega,trivial,h2,h3⟩
   ·simp only[mu_nr3];omega
   ·simp only[res_nr3,hf];rfl
  ·rw[hc]at hx hf;left;intro R;refine(hx R).trans ?_;simp only[res_nr3,hf];rfl
 ·left;intro R;refine(hx R).trans ?_;rw[zF hk];have e:List.drop k.toNat l=[]:=drop_eq_nil_of_le (by omega);simp only[res_nr3,e];rfl
def g_nr3:St→Cont→Option Fin:=gP sh_nr3 (fun v=>match v with | ((s,f,c,n,i,m,k,()),(g,q,l,()))=>pre_nr3 s f c n i m k g q l) (fun v K=>match v with | ((s,f,c,n,i,m,k,()),(g,q,l,()))=>res_nr3 s f c n i m k g q l K)
def L_nr3:LpL:=(16,g_nr3)::[]
theorem l_nr3 {L:LpL} (n:Nat) (h1:L.drop n=[]) (h2:idsFree (L.take n) (loopOf Tryz.f53 3)=true):LoopsTo g_nr3 (cb_nr) (loopOf Tryz.f53 3) 16 L :=
 with_drop h1 h2 (gP_ok (fun v=>match v with | ((s,f,c,n,i,m,k,()),(g,q,l,()))=>mu_nr3 s f c n i m k g q l) fun v K hI=>by
  obtain⟨⟨s,f,c,n,i,m,k,⟨⟩⟩,⟨g,q,l,⟨⟩⟩⟩:=v;exact(r_nr3 s f c n i m k g q l K hI).imp id fun⟨s',f',c',n',i',m',k',g',q',l',h⟩=>⟨((s',f',c',n',i',m',k',()),(g',q',l',())),h⟩)
abbrev st_nr2 (s:Str) (f:Int) (c:Str) (a d n i x y m k:Int) (g:Gram) (q:Edit) (l:List (Edit)) (z:List (Int)):St:=⟨[(1,vS s),(2,vI f),(3, kp0),(6, kp1),(9,vS c),(10,vI a),(11, ko2),(13,vI d),(23,vI n),(24,vI i),(30, ko3),(31,vI x),(32,vI y),(37,vI m),(38,vI k)],[(500000,some (boxD 25 TG g)),(500001,some (boxD 35 TE q)),(500002,some (.lis 35 TE l)),(500003,some (.lis 3 TI64 z))]⟩
theorem x_impl_nearer_2 (g:Gram) (s c:Str) (f a d n i x y m k:Int) (q:Edit) (l:List Edit) (z:List Int) (R:St→Option Fin) (K:Cont):evC (cb_nr.withLoops (look L_nr3)) (loopOf Tryz.f53 2) (st_nr2 s f c a d n i x y m k g q l z) (onward (headAt (cb_nr.withLoops (look L_nr3)) 10) R K)=(
branch (decide (k<m)) (
 need (inr k (W64 (k+1)) c.length) <|
 need (fits (l.length+[(d,a,List.take ((W64 (k+1)).toNat-k.toNat) (List.drop k.toNat c))].length) Tryz.t35.bytes) <| R (st_nr2 s f c a d n i x y m (W64 (k+1)) g q (l.append [(d,a,List.take ((W64 (k+1)).toNat-k.toNat) (List.drop k.toNat c))]) z)) ( K (.exit 4) (.mk [(1,vS s),(2,vI f),(3,kp0),(6,kp1),(9,vS c),(10,vI a),(11,ko2),(23,vI n),(24,vI i),(30,ko3),(31,vI x),(32,vI y)] [(500000,some (boxD 25 TG g)),(500001,some (boxD 35 TE q)),(500002,some (.lis 35 TE l)),(500003,some (.lis 3 TI64 z))]))):=by kernel_rfl
def addE (a:Int) (c:Str) (d:Int):List Edit:=List.map (fun x=>((d,a,[x]):Edit)) c
theorem editFits {n m:Nat} (h:n+m≤100000):fits (n+m) Tryz.t35.bytes=true:=fits_ok h (by decide)
theorem dropC_at {s:Str} {i:Int} (h0:0≤i) (h1:i<(s.length:Int)):s.drop i.toNat=s.getD i.toNat 0::s.drop (i+1).toNat:=by
 have hn:i.toNat<s.length:=by omega
 rw[drop_eq_getElem_cons hn,show (i+1).toNat=i.toNat+1 by omega,zG,zE hn];rfl
def cx0_nr2:Cx:=(cb_nr).withLoops (look L_nr3)
def sh_nr2:Sh:=([(1, .d .str),(2, .d TI64),(3, .ptr 500000 0),(6, .ptr 500001 0),(9, .d .str),(10, .d TI64),(11, .own 500002),(13, .d TI64),(23, .d TI64),(24, .d TI64),(30, .own 500003),(31, .d TI64),(32, .d TI64),(37, .d TI64),(38, .d TI64)],[(500000, .box 25 TG),(500001, .box 35 TE),(500002, .lis 35 TE),(500003, .lis 3 TI64)])
def pre_nr2 (_s:Str) (_f:Int) (c:Str) (_a _d _n _i _x _y m k:Int) (_g:Gram) (_q:Edit) (l:List (Edit)) (_z:List (Int)):Bool:=decide (0≤k)&&(decide (m=(length c:Int))&&(decide (length c≤10)&&decide ((length l:Int)+m-k≤1000)))
def res_nr2 (s:Str) (f:Int) (c:Str) (a d n i x y _m k:Int) (g:Gram) (q:Edit) (l:List (Edit)) (z:List (Int)) (K:Cont):Option Fin:=K (.exit 4) ⟨[(1,vS s),(2,vI f),(3, kp0),(6, kp1),(9,vS c),(10,vI a),(11, ko2),(23,vI n),(24,vI i),(30, ko3),(31,vI x),(32,vI y)],[(500000,some (boxD 25 TG g)),(500001,some (boxD 35 TE q)),(500002,some (.lis 35 TE (l++addE a (List.drop k.toNat c) d))),(500003,some (.lis 3 TI64 z))]⟩
def mu_nr2 (_s:Str) (_f:Int) (c:Str) (_a _d _n _i _x _y _m k:Int) (_g:Gram) (_q:Edit) (_l:List (Edit)) (_z:List (Int)):Nat:=length c-k.toNat
theorem r_nr2 (s:Str) (f:Int) (c:Str) (a d n i x y m k:Int) (g:Gram) (q:Edit) (l:List (Edit)) (z:List (Int)) (K:Cont) (hI:pre_nr2 s f c a d n i x y m k g q l z=true):(∀R:St→Option Fin,evC cx0_nr2 (loopOf Tryz.f53 2) (st_nr2 s f c a d n i x y m k g q l z) (onward (headAt cx0_nr2 10) R K)=res_nr2 s f c a d n i x y m k g q l z K) ∨
  (∃(s':Str) (f':Int) (c':Str) (a' d' n' i' x' y' m' k':Int) (g':Gram) (q':Edit) (l':List (Edit)) (z':List (Int)),pre_nr2 s' f' c' a' d' n' i' x' y' m' k' g' q' l' z'=true∧mu_nr2 s' f' c' a' d' n' i' x' y' m' k' g' q' l' z'<mu_nr2 s f c a d n i x y m k g q l z∧res_nr2 s' f' c' a' d' n' i' x' y' m' k' g' q' l' z' K=res_nr2 s f c a d n i x y m k g q l z K∧∀R:St→Option Fin,evC cx0_nr2 (loopOf Tryz.f53 2) (st_nr2 s f c a d n i x y m k g q l z) (onward (headAt cx0_nr2 10) R K)=R (st_nr2 s' f' c' a' d' n' i' x' y' m' k' g' q' l' z')):=by
 have hx:=fun R=>x_impl_nearer_2 g s c f a d n i x y m k q l z R K;simp only[pre_nr2,andd,dec_iff]at hI;obtain⟨h0,rfl,h2,h3⟩:=hI
 by_cases hk:k<(length c:Int)
 ·have w:W64 (k+1)=k+1:=wrap_small (by omega) (by omega);have hd:l++addE a (List.drop k.toNat c) d=(l++[(d,a,[getD c k.toNat 0])])++addE a (List.drop (k+1).toNat c) d:=by
   rw[dropC_at h0 hk,append_assoc];rfl
  rw[zT hk,w,inr_iff.2 (by omega:0≤k∧k≤k+1∧k+1≤(length c:Int)),slice_one h0 hk,editFits (by rw[length_singleton];omega)]at hx;right;refine⟨s,f,c,a,d,n,i,x,y,(length c:Int),k+1,g,q,l++[(d,a,[getD c k.toNat 0])],z, ?_, ?_, ?_,fun R=>hx R⟩
  ·simp only[pre_nr2,andd,dec_iff];rw[length_append,length_singleton];exact⟨by omega,trivial,h2,by omega⟩
  ·simp only[mu_nr2];omega
  ·simp only[res_nr2,hd]
 ·left;intro R;refine(hx R).trans ?_;rw[zF hk];have e:l++addE a (List.drop k.toNat c) d=l:=by
   rw[drop_eq_nil_of_le (by omega)];exact List.append_nil l
  simp only[res_nr2,e];rfl
def g_nr2:St→Cont→Option Fin:=gP sh_nr2 (fun v=>match v with | ((s,f,c,a,d,n,i,x,y,m,k,()),(g,q,l,z,()))=>pre_nr2 s f c a d n i x y m k g q l z) (fun v K=>match v with | ((s,f,c,a,d,n,i,x,y,m,k,()),(g,q,l,z,()))=>res_nr2 s f c a d n i x y m k g q l z K)
def L_nr2:LpL:=(10,g_nr2)::L_nr3
theorem l_nr2 {L:LpL} (n:Nat) (h1:L.drop n=L_nr3) (h2:idsFree (L.take n) (loopOf Tryz.f53 2)=true):LoopsTo g_nr2 (cb_nr) (loopOf Tryz.f53 2) 10 L :=
 with_drop h1 h2 (gP_ok (fun v=>match v with | ((s,f,c,a,d,n,i,x,y,m,k,()),(g,q,l,z,()))=>mu_nr2 s f c a d n i x y m k g q l z) fun v K hI=>by
  obtain⟨⟨s,f,c,a,d,n,i,x,y,m,k,⟨⟩⟩,⟨g,q,l,z,⟨⟩⟩⟩:=v;exact(r_nr2 s f c a d n i x y m k g q l z K hI).imp id fun⟨s',f',c',a',d',n',i',x',y',m',k',g',q',l',z',h⟩=>⟨((s',f',c',a',d',n',i',x',y',m',k',()),(g',q',l',z',())),h⟩)
abbrev st_nr1 (s:Str) (f:Int) (c:Str) (a n i x y:Int) (g:Gram) (q:Edit) (l:List (Edit)) (z:List (Int)):St:=⟨[(1,vS s),(2,vI f),(3, kp0),(6, kp1),(9,vS c),(10,vI a),(11, ko2),(23,vI n),(24,vI i),(30, ko3),(31,vI x),(32,vI y)],[(500000,some (boxD 25 TG g)),(500001,some (boxD 35 TE q)),(500002,some (.lis 35 TE l)),(500003,some (.lis 3 TI64 z))]⟩
theorem x_impl_nearer_1 (g:Gram) (s c:Str) (f a n i x y:Int) (q:Edit) (l:List Edit) (z:List Int) (R:St→Option Fin) (K:Cont):evC (cb_nr.withLoops (look L_nr2)) (loopOf Tryz.f53 1) (st_nr1 s f c a n i x y g q l z) (onward (headAt (cb_nr.withLoops (look L_nr2)) 7) R K)=(
branch (decide (y<x)) (
 need (inb y z.length) <|
 need (pre_nr2 s f c a (z.getD y.toNat 0) n i x y ((c.length:Int)) 0 g q l z) <| R (st_nr1 s f c a n i x (W64 (y+1)) g q (l.append (addE a c (z.getD y.toNat 0))) z)) ( K (.exit 2) (.mk [(1,vS s),(2,vI f),(3,kp0),(6,kp1),(9,vS c),(11,ko2),(23,vI n),(24,vI i)] [(500000,some (boxD 25 TG g)),(500001,some (boxD 35 TE q)),(500002,some (.lis 35 TE l))]))):=by kernel_rfl
def kindsE (a:Int) (c:Str) (z:List Int):List Edit:=List.flatMap (addE a c) z
theorem dropI_at {l:List Int} {i:Int} (h0:0≤i) (h1:i<(l.length:Int)):l.drop i.toNat=l.getD i.toNat 0::l.drop (i+1).toNat:=by
 have hn:i.toNat<l.length:=by omega
 rw[drop_eq_getElem_cons hn,show (i+1).toNat=i.toNat+1 by omega,zG,zE hn];rfl
theorem addE_len {a d:Int} {c:Str}:(addE a c d).length=c.length:=List.length_map ..
def cx0_nr1:Cx:=(cb_nr).withLoops (look L_nr2)
def sh_nr1:Sh:=([(1, .d .str),(2, .d TI64),(3, .ptr 500000 0),(6, .ptr 500001 0),(9, .d .str),(10, .d TI64),(11, .own 500002),(23, .d TI64),(24, .d TI64),(30, .own 500003),(31, .d TI64),(32, .d TI64)],[(500000, .box 25 TG),(500001, .box 35 TE),(500002, .lis 35 TE),(500003, .lis 3 TI64)])
def pre_nr1 (_s:Str) (_f:Int) (c:Str) (_a _n _i x y:Int) (_g:Gram) (_q:Edit) (l:List (Edit)) (z:List (Int)):Bool:=decide (0≤y)&&(decide (x=(length z:Int))&&(decide (length z≤2)&&(decide (length c≤10)&&decide ((length l:Int)+10*(x-y)≤1000))))
def res_nr1 (s:Str) (f:Int) (c:Str) (a n i _x y:Int) (g:Gram) (q:Edit) (l:List (Edit)) (z:List (Int)) (K:Cont):Option Fin:=K (.exit 2) ⟨[(1,vS s),(2,vI f),(3, kp0),(6, kp1),(9,vS c),(11, ko2),(23,vI n),(24,vI i)],[(500000,some (boxD 25 TG g)),(500001,some (boxD 35 TE q)),(500002,some (.lis 35 TE (l++kindsE a c (List.drop y.toNat z))))]⟩
def mu_nr1 (_s:Str) (_f:Int) (_c:Str) (_a _n _i _x y:Int) (_g:Gram) (_q:Edit) (_l:List (Edit)) (z:List (Int)):Nat:=length z-y.toNat
theorem r_nr1 (s:Str) (f:Int) (c:Str) (a n i x y:Int) (g:Gram) (q:Edit) (l:List (Edit)) (z:List (Int)) (K:Cont) (hI:pre_nr1 s f c a n i x y g q l z=true):(∀R:St→Option Fin,evC cx0_nr1 (loopOf Tryz.f53 1) (st_nr1 s f c a n i x y g q l z) (onward (headAt cx0_nr1 7) R K)=res_nr1 s f c a n i x y g q l z K) ∨
  (∃(s':Str) (f':Int) (c':Str) (a' n' i' x' y':Int) (g':Gram) (q':Edit) (l':List (Edit)) (z':List (Int)),pre_nr1 s' f' c' a' n' i' x' y' g' q' l' z'=true∧mu_nr1 s' f' c' a' n' i' x' y' g' q' l' z'<mu_nr1 s f c a n i x y g q l z∧res_nr1 s' f' c' a' n' i' x' y' g' q' l' z' K=res_nr1 s f c a n i x y g q l z K∧∀R:St→Option Fin,evC cx0_nr1 (loopOf Tryz.f53 1) (st_nr1 s f c a n i x y g q l z) (onward (headAt cx0_nr1 7) R K)=R (st_nr1 s' f' c' a' n' i' x' y' g' q' l' z')):=by
 have hx:=fun R=>x_impl_nearer_1 g s c f a n i x y q l z R K;simp only[pre_nr1,andd,dec_iff]at hI;obtain⟨h0,rfl,h1,h2,h3⟩:=hI
 by_cases hk:y<(length z:Int)
 ·have w:W64 (y+1)=y+1:=wrap_small (by omega) (by omega);have hd:l++kindsE a c (List.drop y.toNat z)=(l++addE a c (getD z y.toNat 0))++kindsE a c (List.drop (y+1).toNat z):=by
   rw[dropI_at h0 hk,append_assoc];rfl
  have hp:pre_nr2 s f c a (getD z y.toNat 0) n i (length z:Int) y (length c:Int) 0 g q l z=true:=by
   simp only[pre_nr2,andd,dec_iff];exact⟨Int.le_refl 0,trivial,h2,by omega⟩
  rw[zT hk,inb_ok h0 hk,hp,w]at hx;right;refine⟨s,f,c,a,n,i,(length z:Int),y+1,g,q,l++addE a c (getD z y.toNat 0),z, ?_, ?_, ?_,fun R=>hx R⟩
  ·simp only[pre_nr1,andd,dec_iff];rw[length_append,addE_len];exact⟨by omega,trivial,h1,h2,by omega⟩
  ·simp only[mu_nr1];omega
  ·simp only[res_nr1,hd]
 ·left;intro R;refine(hx R).trans ?_;rw[zF hk];have e:l++kindsE a c (List.drop y.toNat z)=l:=by
   rw[drop_eq_nil_of_le (by omega)];exact List.append_nil l
  simp only[res_nr1,e];rfl
def g_nr1:St→Cont→Option Fin:=gP sh_nr1 (fun v=>match v with | ((s,f,c,a,n,i,x,y,()),(g,q,l,z,()))=>pre_nr1 s f c a n i x y g q l z) (fun v K=>match v with | ((s,f,c,a,n,i,x,y,()),(g,q,l,z,()))=>res_nr1 s f c a n i x y g q l z K)
def L_nr1:LpL:=(7,g_nr1)::L_nr2
theorem l_nr1 {L:LpL} (n:Nat) (h1:L.drop n=L_nr2) (h2:idsFree (L.take n) (loopOf Tryz.f53 1)=true):LoopsTo g_nr1 (cb_nr) (loopOf Tryz.f53 1) 7 L :=
 with_drop h1 h2 (gP_ok (fun v=>match v with | ((s,f,c,a,n,i,x,y,()),(g,q,l,z,()))=>mu_nr1 s f c a n i x y g q l z) fun v K hI=>by
  obtain⟨⟨s,f,c,a,n,i,x,y,⟨⟩⟩,⟨g,q,l,z,⟨⟩⟩⟩:=v;exact(r_nr1 s f c a n i x y g q l z K hI).imp id fun⟨s',f',c',a',n',i',x',y',g',q',l',z',h⟩=>⟨((s',f',c',a',n',i',x',y',()),(g',q',l',z',())),h⟩)
def editsE (i:Int) (c:Str):List Edit:=((2,i,[]):Edit)::kindsE i c [3,1]
abbrev st_nr0 (s:Str) (f:Int) (c:Str) (n i:Int) (g:Gram) (q:Edit):St:=⟨[(1,vS s),(2,vI f),(3, kp0),(6, kp1),(9,vS c),(23,vI n),(24,vI i)],[(500000,some (boxD 25 TG g)),(500001,some (boxD 35 TE q))]⟩
theorem x_impl_nearer (g:Gram) (s c:Str) (f n i:Int) (q:Edit) (R:St→Option Fin) (K:Cont):evC (cb_nr.withLoops (look L_nr1)) (loopOf Tryz.f53 0) (st_nr0 s f c n i g q) (onward (headAt (cb_nr.withLoops (look L_nr1)) 3) R K)=(
branch (decide (i<n)) (
 need (pre_nr1 s f c i n i 2 0 g q [(2,i,([]:Str))] [3,1]) <|
 need (pre_nr3 s f c n i (length (editsE i c):Int) 0 g q (editsE i c)) <|
 branch ((fstE (okN (farV g) s f) (editsE i c)).isSome) (K .ret ⟨[(6, kp0),(7,vS (EdDo s ((fstE (okN (farV g) s f) (editsE i c)).getD ed0)).1),(8,vB true)],[(500000,some (boxD 35 TE ((fstE (okN (farV g) s f) (editsE i c)).getD ed0)))]⟩) (R (st_nr0 s f c n (W64 (i+1)) g q))) (K (.exit 0) ⟨[(6, kp0)],[(500000,some (boxD 35 TE q))]⟩)):=by kernel_rfl
def nearN (p:Edit→Bool) (c:Str):Nat→Int→Option Edit
 |0,_=>none
 |m+1,i=>bif (fstE p (editsE i c)).isSome then fstE p (editsE i c)else nearN p c m (i+1)
theorem editsE_len {i:Int} {c:Str}:(editsE i c).length=1+2*c.length:=by
 show((2,i,[])::(addE i c 3++(addE i c 1++[]))).length=_;rw[length_cons,length_append,length_append,addE_len,addE_len,List.length_nil];omega
def cx0_nr0:Cx:=(cb_nr).withLoops (look L_nr1)
def sh_nr0:Sh:=([(1, .d .str),(2, .d TI64),(3, .ptr 500000 0),(6, .ptr 500001 0),(9, .d .str),(23, .d TI64),(24, .d TI64)],[(500000, .box 25 TG),(500001, .box 35 TE)])
def pre_nr0 (_s:Str) (_f:Int) (c:Str) (n i:Int) (g:Gram) (_q:Edit):Bool:=decide (0≤i)&&(decide (n≤1001)&&(okRd g.2&&decide (length c≤10)))
def res_nr0 (s:Str) (f:Int) (c:Str) (n i:Int) (g:Gram) (q:Edit) (K:Cont):Option Fin:=branch ((nearN (okN (farV g) s f) c (n-i).toNat i).isSome) (K .ret ⟨[(6, kp0),(7,vS (EdDo s ((nearN (okN (farV g) s f) c (n-i).toNat i).getD ed0)).1),(8,vB true)],[(500000,some (boxD 35 TE ((nearN (okN (farV g) s f) c (n-i).toNat i).getD ed0)))]⟩) (K (.exit 0) ⟨[(6, kp0)],[(500000,some (boxD 35 TE q))]⟩)
def mu_nr0 (_s:Str) (_f:Int) (_c:Str) (n i:Int) (_g:Gram) (_q:Edit):Nat:=(n-i).toNat
theorem r_nr0 (s:Str) (f:Int) (c:Str) (n i:Int) (g:Gram) (q:Edit) (K:Cont) (hI:pre_nr0 s f c n i g q=true):(∀R:St→Option Fin,evC cx0_nr0 (loopOf Tryz.f53 0) (st_nr0 s f c n i g q) (onward (headAt cx0_nr0 3) R K)=res_nr0 s f c n i g q K) ∨
  (∃(s':Str) (f':Int) (c':Str) (n' i':Int) (g':Gram) (q':Edit),pre_nr0 s' f' c' n' i' g' q'=true∧mu_nr0 s' f' c' n' i' g' q'<mu_nr0 s f c n i g q∧res_nr0 s' f' c' n' i' g' q' K=res_nr0 s f c n i g q K∧∀R:St→Option Fin,evC cx0_nr0 (loopOf Tryz.f53 0) (st_nr0 s f c n i g q) (onward (headAt cx0_nr0 3) R K)=R (st_nr0 s' f' c' n' i' g' q')):=by
 have hx:=fun R=>x_impl_nearer g s c f n i q R K;simp only[pre_nr0,andd,dec_iff]at hI;obtain⟨h0,h1,h2,h3⟩:=hI
 by_cases hi:i<n
 ·have w:W64 (i+1)=i+1:=wrap_small (by omega) (by omega);obtain⟨m,hm⟩:∃m,(n-i).toNat=m+1:=⟨(n-i).toNat-1,by omega⟩;have hm2:(n-(i+1)).toNat=m:=by omega
  have hp:pre_nr1 s f c i n i 2 0 g q [(2,i,([]:Str))] [3,1]=true:=by
   simp only[pre_nr1,andd,dec_iff];exact⟨Int.le_refl 0,rfl,by decide,h3,by rw[length_singleton];omega⟩
  have hq:pre_nr3 s f c n i (length (editsE i c):Int) 0 g q (editsE i c)=true:=by
   simp only[pre_nr3,andd,dec_iff];exact⟨Int.le_refl 0,trivial,h2,by rw[editsE_len];omega⟩
  have hn:nearN (okN (farV g) s f) c (m+1) i=bif (fstE (okN (farV g) s f) (editsE i c)).isSome then fstE (okN (farV g) s f) (editsE i c)else nearN (okN (farV g) s f) c m (i+1):=rfl;rw[zT hi,hp,hq,w]at hx
  cases hc:(fstE (okN (farV g) s f) (editsE i c)).isSome
  ·rw[hc]at hx hn;right;refine⟨s,f,c,n,i+1,g,q, ?_, ?_, ?_,fun R=>hx R⟩
   ·simp only[pre_nr0,andd,dec_iff];exact⟨by omega,h1,h2,h3⟩
   ·simp only[mu_nr0];omega
   ·simp only[res_nr0,hm,hm2,hn];rfl
  ·rw[hc]at hx hn;left;intro R;refine(hx R).trans ?_;simp only[res_nr0,hm,hn,cond_true,hc];rfl
 ·left;intro R;refine(hx R).trans ?_;rw[zF hi];have e:(n-i).toNat=0:=by omega
  simp only[res_nr0,e];rfl
def g_nr0:St→Cont→Option Fin:=gP sh_nr0 (fun v=>match v with | ((s,f,c,n,i,()),(g,q,()))=>pre_nr0 s f c n i g q) (fun v K=>match v with | ((s,f,c,n,i,()),(g,q,()))=>res_nr0 s f c n i g q K)
def L_nr0:LpL:=(3,g_nr0)::L_nr1
def cx_nr0:Cx:=(cb_nr).withLoops (look L_nr0)
theorem l_nr0 {L:LpL} (n:Nat) (h1:L.drop n=L_nr1) (h2:idsFree (L.take n) (loopOf Tryz.f53 0)=true):LoopsTo g_nr0 (cb_nr) (loopOf Tryz.f53 0) 3 L :=
 with_drop h1 h2 (gP_ok (fun v=>match v with | ((s,f,c,n,i,()),(g,q,()))=>mu_nr0 s f c n i g q) fun v K hI=>by
  obtain⟨⟨s,f,c,n,i,⟨⟩⟩,⟨g,q,⟨⟩⟩⟩:=v;exact(r_nr0 s f c n i g q K hI).imp id fun⟨s',f',c',n',i',g',q',h⟩=>⟨((s',f',c',n',i',()),(g',q',())),h⟩)
theorem y_impl_nearer (g:Gram) (s:Str) (f:Int):evFn cx_nr0 Tryz.f53 true [ofD TG g,ofD .str s,ofD TI64 f] []=(
need (pre_nr0 s f (bif okG g then smallsG g else []) (W64 ((s.length:Int)+1)) 0 g (0,0,([]:Str))) <|
branch ((nearN (okN (farV g) s f) (bif okG g then smallsG g else []) (W64 ((s.length:Int)+1)-0).toNat 0).isSome) ( some ((.tup [(.agg [(.r (.v (Value.int IntKind.i64 ((nearN (okN (farV g) s f) (bif okG g then smallsG g else []) (W64 ((s.length:Int)+1)-0).toNat 0).getD ed0).fst))),(.r (.v (Value.int IntKind.i64 ((nearN (okN (farV g) s f) (bif okG g then smallsG g else []) (W64 ((s.length:Int)+1)-0).toNat 0).getD ed0).snd.fst))),(.r (.v (Value.string (mk ((nearN (okN (farV g) s f) (bif okG g then smallsG g else []) (W64 ((s.length:Int)+1)-0).toNat 0).getD ed0).snd.snd))))]),(.one (.r (.v (Value.string (mk (EdDo s ((nearN (okN (farV g) s f) (bif okG g then smallsG g else []) (W64 ((s.length:Int)+1)-0).toNat 0).getD ed0)).fst))))),(.one (.r (.v (Value.bool true))))]),[])) ( some ((.tup [(.agg [(.r (.v (Value.int IntKind.i64 0))),(.r (.v (Value.int IntKind.i64 0))),(.r (.v (Value.string (mk []))))]),(.one (.r (.v (Value.string (mk []))))),(.one (.r (.v (Value.bool false))))]),[]))):=by kernel_rfl
def nearV (F:Str→Int) (g:Gram) (s:Str) (f:Int):Option Edit:=nearN (okN F s f) (smallsG g) (length s+1) 0
def nearT (s:Str) (o:Option Edit):T := .tup [ofD TE (o.getD ed0),ofD .str (bif o.isSome then(EdDo s (o.getD ed0)).1 else []),ofD .bool o.isSome]
theorem nearN_none {p:Edit→Bool} {c:Str}:∀ {m:Nat} {i:Int},(nearN p c m i).isSome=false→nearN p c m i=none
 |_,_,h=>Option.isSome_eq_false_iff.1 h |> Option.isNone_iff_eq_none.1
theorem s_impl_nearer (g:Gram) (_hg:Fit TG g) (s:Str) (_hs:Fit .str s) (f:Int) (_hf:Fit TI64 f) (hpre:(okG g&&decide (length s≤1000))=true):Sat Tryz.prog 53 [ofD TG g,ofD .str s,ofD TI64 f] [] (nearT s (nearV (farV g) g s f)) [] :=
 fn_sound (cx:=cx_nr0) Tryz.func53 rfl ttOk Γ94ok mixed (fun c hc=>LoopsOk.all (l:=[(3,loopOf Tryz.f53 0),(7,loopOf Tryz.f53 1),(10,loopOf Tryz.f53 2),(16,loopOf Tryz.f53 3)]) (by cases hc;kernel_rfl) ⟨atLoop rfl (l_nr0 1 rfl (by kernel_rfl)),atLoop rfl (l_nr1 2 rfl (by kernel_rfl)),atLoop rfl (l_nr2 3 rfl (by kernel_rfl)),atLoop rfl (l_nr3 4 rfl (by kernel_rfl)),trivial⟩) (ro:=true) (by
  obtain⟨h1,h2⟩:=andd.1 hpre;have h2:=dec_iff.1 h2;have w:W64 ((length s:Int)+1)=(length s:Int)+1:=wrap_small (by omega) (by omega);have e:((length s:Int)+1-0).toNat=length s+1:=by omega
  have hp:pre_nr0 s f (smallsG g) ((length s:Int)+1) 0 g ed0=true:=by
   simp only[pre_nr0,andd,dec_iff];have:=smalls_four (g:=g);exact⟨Int.le_refl 0,by omega,okRd_G h1,by omega⟩
  rw[y_impl_nearer,h1,cond_true,w,hp,e];show branch ((nearV (farV g) g s f).isSome) _ _=_
  cases hc:(nearV (farV g) g s f).isSome
  ·have hn:nearV (farV g) g s f=none:=nearN_none hc;rw[hn];rfl
  ·unfold nearT;rw[hc];rfl)
def c_impl_nearer:Con:=conT [TG, .str,TI64] fun(g:Gram) (s:Str) (f:Int)=>(some (okG g&&decide (length s≤1000)),nearT s (nearV (farV g) g s f))
theorem k_impl_nearer:ConOk Tryz.prog 53 c_impl_nearer:=conT_ok Tryz.call53 fun g hg s hs f hf hqq=>s_impl_nearer g hg s hs f hf (pre_of hqq)
def Γ95:GL:=(53,c_impl_nearer)::Γ94
theorem Γ95ok:GO Γ95 := .cons k_impl_nearer Γ94ok
end
end Go.Proofs.YtmeiebnfmhddnaaGreatDoor.Ev
