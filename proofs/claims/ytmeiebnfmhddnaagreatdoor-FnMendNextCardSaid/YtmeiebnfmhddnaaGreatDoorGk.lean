/-
  Sorting of bytes: the partitions. (Most of this text is printed by scan.py.)
-/
import Derived.Test.YtmeiebnfmhddnaaGreatDoorGj
namespace Go.Proofs.YtmeiebnfmhddnaaGreatDoor.Ev
open Go
noncomputable section
set_option maxHeartbeats 1000000
def pLt (l:List Int) (a:Nat) (x:Int):Bool:=ltI x (l.getD a 0)
def pGe (l:List Int) (a:Nat) (x:Int):Bool := !ltI x (l.getD a 0)
def qUp (l:List Int) (a:Nat) (x:Int):Bool := !ltI (l.getD a 0) x
def qDn (l:List Int) (a:Nat) (x:Int):Bool:=ltI (l.getD a 0) x
abbrev upN (p:Int→Bool) (l:List Int) (j i:Nat):Nat:=Go.Sort.scanUp p l.toArray j i
abbrev dnN (p:Int→Bool) (l:List Int) (i j:Nat):Nat:=Go.Sort.scanDown p l.toArray i j
theorem upN_eq (p:Int→Bool) (l:List Int) (j i:Nat):upN p l j i=if i≤j∧p (l.getD i 0)=true then upN p l j (i+1)else i:=by
 unfold upN
 rw[Go.Sort.scanUp,at_arr]
 by_cases h:i≤j
 ·cases hc:p (l.getD i 0)
  ·rw[if_neg (by simp),if_neg (by simp)]
  ·rw[if_pos (by simp[h]),if_pos ⟨h,rfl⟩]
 ·rw[if_neg (by simp[h]),if_neg (by simp[h])]
theorem dnN_eq (p:Int→Bool) (l:List Int) {i:Nat} (h1:1≤i) (j:Nat):dnN p l i j=if i≤j∧p (l.getD j 0)=true then dnN p l i (j-1)else j:=by
 unfold dnN
 cases j with
 |zero=>rw[Go.Sort.scanDown,if_neg (by omega)]
 |succ j =>
  rw[Go.Sort.scanDown,at_arr]
  by_cases h:i≤j+1
  ·cases hc:p (l.getD (j+1) 0)
   ·rw[if_neg (by simp),if_neg (by simp)]
   ·rw[if_pos (by simp[h]),if_pos ⟨h,rfl⟩];rfl
  ·rw[if_neg (by simp[h]),if_neg (by simp[h])]
def scP (a i j:Int) (l:List Int):Bool:=decide (0≤a)&&(decide (a<i)&&(decide (0≤j)&&(decide (j<(List.length l:Int))&&(decide (a<(List.length l:Int))&&Nat.ble (List.length l) 1000000))))
theorem scP_iff {a i j:Int} {l:List Int}:scP a i j l=true↔0≤a∧a<i∧0≤j∧j<(l.length:Int)∧a<(l.length:Int)∧l.length≤1000000:=by
 unfold scP;simp only[andd,dec_iff,ble_iff]
def cb_pe:Cx:=cxOf Γ44 Tryz.f180.ntmps [(5,[0,1,9,10]),(3,[0,1,9,10]),(1000003,[0,1,9,10])] [(0,[9]),(1,[0,1,9,10]),(4,[0,1,9,10]),(5,[0,1,9,10]),(2,[0,1,9,10]),(3,[0,1,9,10]),(1000000,[8])] [] []
theorem x_peUp (l:List Int) (a i j:Int) (R:St→Option Fin) (K:Cont):evC (cb_pe.withLoops (look [])) (loopOf Tryz.f180 1) ⟨[(0, .d (.one (.own 0))),(1,vI a),(9,vI i),(10,vI j)],[(0,some (.lis 5 TU8 l))]⟩ (onward (headAt (cb_pe.withLoops (look [])) 3) R K)=(
need (bif decide (decide (i≤j)=true)then inb a l.length else true) <|
need (bif decide (decide (i≤j)=true)then inb i l.length else true) <|
branch (bif decide (i≤j)then qUp l a.toNat (l.getD i.toNat 0)else false) (R ⟨[(0, .d (.one (.own 0))),(1,vI a),(9,vI (W64 (i+1))),(10,vI j)],[(0,some (.lis 5 TU8 l))]⟩) (K (.exit 2) ⟨[(0, .d (.one (.own 0))),(1,vI a),(9,vI i),(10,vI j)],[(0,some (.lis 5 TU8 l))]⟩)):=by kernel_rfl
def cx0_peUp:Cx:=(cb_pe).withLoops (look [])
def sh_peUp:Sh:=([(0, .own 0),(1, .d TI64),(9, .d TI64),(10, .d TI64)],[(0, .lis 5 TU8)])
abbrev st_peUp (a i j:Int) (l:List (Int)):St:=⟨[(0, .d (.one (.own 0))),(1,vI a),(9,vI i),(10,vI j)],[(0,some (.lis 5 TU8 l))]⟩
def pre_peUp (a i j:Int) (l:List (Int)):Bool:=scP a i j l
def res_peUp (a i j:Int) (l:List (Int)) (K:Cont):Option Fin:=K (.exit 2) ⟨[(0, .d (.one (.own 0))),(1,vI a),(9,vI (upN (qUp l a.toNat) l j.toNat i.toNat:Nat)),(10,vI j)],[(0,some (.lis 5 TU8 l))]⟩
def mu_peUp (_a i j:Int) (_l:List (Int)):Nat:=(j+1-i).toNat
theorem r_peUp (a i j:Int) (l:List (Int)) (K:Cont) (hI:pre_peUp a i j l=true):(∀R:St→Option Fin,evC cx0_peUp (loopOf Tryz.f180 1) (st_peUp a i j l) (onward (headAt cx0_peUp 3) R K)=res_peUp a i j l K) ∨
  (∃(a' i' j':Int) (l':List (Int)),pre_peUp a' i' j' l'=true∧mu_peUp a' i' j' l'<mu_peUp a i j l∧res_peUp a' i' j' l' K=res_peUp a i j l K∧∀R:St→Option Fin,evC cx0_peUp (loopOf Tryz.f180 1) (st_peUp a i j l) (onward (headAt cx0_peUp 3) R K)=R (st_peUp a' i' j' l')):=by
 have hx:=fun R=>x_peUp l a i j R K
 obtain⟨h0,h1,h2,h3,h4,h5⟩:=scP_iff.1 (show scP a i j l=true from hI)
 have e:=upN_eq (qUp l a.toNat) l j.toNat i.toNat
 by_cases hi:i≤j
 ·have w1:W64 (i+1)=i+1:=wrap_small (by omega) (by omega)
  have t1:(i+1).toNat=i.toNat+1:=by omega
  have ba:inb a l.length=true:=inb_ok (by omega) (by omega)
  have bi:inb i l.length=true:=inb_ok (by omega) (by omega)
  simp only[hi,decide_true,ba,bi,Bool.cond_self,cond_true,w1]at hx
  cases hc:qUp l a.toNat (l.getD i.toNat 0)
  ·left
   intro R
   rw[if_neg (by rw[hc];simp)]at e
   refine(hx R).trans ?_
   rw[hc]
   simp only[res_peUp,e,Int.toNat_of_nonneg (show 0≤i by omega)];rfl
  ·right
   rw[if_pos ⟨by omega,hc⟩]at e
   refine⟨a,i+1,j,l,scP_iff.2 ?_, ?_, ?_,fun R=>(hx R).trans ?_⟩
   ·omega
   ·simp only[mu_peUp];omega
   ·simp only[res_peUp,t1,e]
   ·rw[hc];rfl
 ·left
  intro R
  rw[if_neg (by omega)]at e
  refine(hx R).trans ?_
  simp only[hi,decide_false,cond_false,res_peUp,e,Int.toNat_of_nonneg (show 0≤i by omega)];rfl
def g_peUp:St→Cont→Option Fin:=gP sh_peUp (fun v=>match v with | ((a,i,j,()),(l,()))=>pre_peUp a i j l) (fun v K=>match v with | ((a,i,j,()),(l,()))=>res_peUp a i j l K)
def L_peUp:LpL:=(3,g_peUp)::[]
def cx_peUp:Cx:=(cb_pe).withLoops (look L_peUp)
theorem l_peUp {L:LpL} (n:Nat) (h1:L.drop n=[]) (h2:idsFree (L.take n) (loopOf Tryz.f180 1)=true):LoopsTo g_peUp (cb_pe) (loopOf Tryz.f180 1) 3 L :=
 with_drop h1 h2 (gP_ok (fun v=>match v with | ((a,i,j,()),(l,()))=>mu_peUp a i j l) fun v K hI=>by
  obtain⟨⟨a,i,j,⟨⟩⟩,⟨l,⟨⟩⟩⟩:=v
  exact(r_peUp a i j l K hI).imp id fun⟨a',i',j',l',h⟩=>⟨((a',i',j',()),(l',())),h⟩)
theorem x_peDn (l:List Int) (a i j:Int) (R:St→Option Fin) (K:Cont):evC cx_peUp (loopOf Tryz.f180 2) ⟨[(0, .d (.one (.own 0))),(1,vI a),(9,vI i),(10,vI j)],[(0,some (.lis 5 TU8 l))]⟩ (onward (headAt cx_peUp 5) R K)=(
need (bif decide (decide (i≤j)=true)then inb a l.length else true) <|
need (bif decide (decide (i≤j)=true)then inb j l.length else true) <|
branch (bif decide (i≤j)then qDn l a.toNat (l.getD j.toNat 0)else false) (R ⟨[(0, .d (.one (.own 0))),(1,vI a),(9,vI i),(10,vI (W64 (j-1)))],[(0,some (.lis 5 TU8 l))]⟩) (K (.exit 4) ⟨[(0, .d (.one (.own 0))),(1,vI a),(9,vI i),(10,vI j)],[(0,some (.lis 5 TU8 l))]⟩)):=by kernel_rfl
def cx0_peDn:Cx:=(cb_pe).withLoops (look L_peUp)
def sh_peDn:Sh:=([(0, .own 0),(1, .d TI64),(9, .d TI64),(10, .d TI64)],[(0, .lis 5 TU8)])
abbrev st_peDn (a i j:Int) (l:List (Int)):St:=⟨[(0, .d (.one (.own 0))),(1,vI a),(9,vI i),(10,vI j)],[(0,some (.lis 5 TU8 l))]⟩
def pre_peDn (a i j:Int) (l:List (Int)):Bool:=scP a i j l
def res_peDn (a i j:Int) (l:List (Int)) (K:Cont):Option Fin:=K (.exit 4) ⟨[(0, .d (.one (.own 0))),(1,vI a),(9,vI i),(10,vI (dnN (qDn l a.toNat) l i.toNat j.toNat:Nat))],[(0,some (.lis 5 TU8 l))]⟩
def mu_peDn (_a i j:Int) (_l:List (Int)):Nat:=(j+1-i).toNat
theorem r_peDn (a i j:Int) (l:List (Int)) (K:Cont) (hI:pre_peDn a i j l=true):(∀R:St→Option Fin,evC cx0_peDn (loopOf Tryz.f180 2) (st_peDn a i j l) (onward (headAt cx0_peDn 5) R K)=res_peDn a i j l K) ∨
  (∃(a' i' j':Int) (l':List (Int)),pre_peDn a' i' j' l'=true∧mu_peDn a' i' j' l'<mu_peDn a i j l∧res_peDn a' i' j' l' K=res_peDn a i j l K∧∀R:St→Option Fin,evC cx0_peDn (loopOf Tryz.f180 2) (st_peDn a i j l) (onward (headAt cx0_peDn 5) R K)=R (st_peDn a' i' j' l')):=by
 have hx:=fun R=>x_peDn l a i j R K
 obtain⟨h0,h1,h2,h3,h4,h5⟩:=scP_iff.1 (show scP a i j l=true from hI)
 have e:=dnN_eq (qDn l a.toNat) l (i:=i.toNat) (by omega) j.toNat
 by_cases hi:i≤j
 ·have w1:W64 (j-1)=j-1:=wrap_small (by omega) (by omega)
  have t1:(j-1).toNat=j.toNat-1:=by omega
  have ba:inb a l.length=true:=inb_ok (by omega) (by omega)
  have bi:inb j l.length=true:=inb_ok (by omega) (by omega)
  simp only[hi,decide_true,ba,bi,Bool.cond_self,cond_true,w1]at hx
  cases hc:qDn l a.toNat (l.getD j.toNat 0)
  ·left
   intro R
   rw[if_neg (by rw[hc];simp)]at e
   refine(hx R).trans ?_
   rw[hc]
   simp only[res_peDn,e,Int.toNat_of_nonneg (show 0≤j by omega)];rfl
  ·right
   rw[if_pos ⟨by omega,hc⟩]at e
   refine⟨a,i,j-1,l,scP_iff.2 ?_, ?_, ?_,fun R=>(hx R).trans ?_⟩
   ·omega
   ·simp only[mu_peDn];omega
   ·simp only[res_peDn,t1,e]
   ·rw[hc];rfl
 ·left
  intro R
  rw[if_neg (by omega)]at e
  refine(hx R).trans ?_
  simp only[hi,decide_false,cond_false,res_peDn,e,Int.toNat_of_nonneg (show 0≤j by omega)];rfl
def g_peDn:St→Cont→Option Fin:=gP sh_peDn (fun v=>match v with | ((a,i,j,()),(l,()))=>pre_peDn a i j l) (fun v K=>match v with | ((a,i,j,()),(l,()))=>res_peDn a i j l K)
def L_peDn:LpL:=(5,g_peDn)::L_peUp
def cx_peDn:Cx:=(cb_pe).withLoops (look L_peDn)
theorem l_peDn {L:LpL} (n:Nat) (h1:L.drop n=L_peUp) (h2:idsFree (L.take n) (loopOf Tryz.f180 2)=true):LoopsTo g_peDn (cb_pe) (loopOf Tryz.f180 2) 5 L :=
 with_drop h1 h2 (gP_ok (fun v=>match v with | ((a,i,j,()),(l,()))=>mu_peDn a i j l) fun v K hI=>by
  obtain⟨⟨a,i,j,⟨⟩⟩,⟨l,⟨⟩⟩⟩:=v
  exact(r_peDn a i j l K hI).imp id fun⟨a',i',j',l',h⟩=>⟨((a',i',j',()),(l',())),h⟩)
theorem qUp_arr (l:List Int) (a:Nat):(fun x => !ltI l.toArray[a]! x)=qUp l a:=by funext x;unfold qUp;rw[at_arr]
theorem qDn_arr (l:List Int) (a:Nat):(fun x=>ltI l.toArray[a]! x)=qDn l a:=by funext x;unfold qDn;rw[at_arr]
theorem pLt_arr (l:List Int) (a:Nat):(fun x=>ltI x l.toArray[a]!)=pLt l a:=by funext x;unfold pLt;rw[at_arr]
theorem pGe_arr (l:List Int) (a:Nat):(fun x => !ltI x l.toArray[a]!)=pGe l a:=by funext x;unfold pGe;rw[at_arr]
def peE (l:List Int) (a i j:Nat):Nat×List Int:=((Go.Sort.partEqLoop ltI a i j l.toArray).1,(Go.Sort.partEqLoop ltI a i j l.toArray).2.toList)
def ptE (l:List Int) (a i j:Nat):Nat×List Int:=((Go.Sort.partLoop ltI a i j l.toArray).1,(Go.Sort.partLoop ltI a i j l.toArray).2.toList)
abbrev pe2 (l:List Int) (a i j:Nat):Nat:=dnN (qDn l a) l (upN (qUp l a) l j i) j
abbrev pt2 (l:List Int) (a i j:Nat):Nat:=dnN (pGe l a) l (upN (pLt l a) l j i) j
theorem peE_eq (l:List Int) (a i j:Nat):peE l a i j=if upN (qUp l a) l j i > pe2 l a i j then(upN (qUp l a) l j i,l)else peE (swL l (upN (qUp l a) l j i) (pe2 l a i j)) a (upN (qUp l a) l j i+1) (pe2 l a i j-1):=by
 unfold peE
 rw[Go.Sort.partEqLoop_eq,qUp_arr,qDn_arr,sw_arr]
 split<;>rfl
theorem ptE_eq (l:List Int) (a i j:Nat):ptE l a i j=if upN (pLt l a) l j i > pt2 l a i j then(pt2 l a i j,l)else ptE (swL l (upN (pLt l a) l j i) (pt2 l a i j)) a (upN (pLt l a) l j i+1) (pt2 l a i j-1):=by
 unfold ptE
 rw[Go.Sort.partLoop_eq,pLt_arr,pGe_arr,sw_arr]
 split<;>rfl
theorem upN_ge (p:Int→Bool) (l:List Int) (j i:Nat):i≤upN p l j i:=Go.Sort.scanUp_ge _ _ _ _
theorem dnN_le (p:Int→Bool) (l:List Int) (i j:Nat):dnN p l i j≤j:=Go.Sort.scanDown_le _ _ _ _
theorem x_peL (l:List Int) (a i j:Int) (R:St→Option Fin) (K:Cont):evC cx_peDn (loopOf Tryz.f180 0) ⟨[(0, .d (.one (.own 0))),(1,vI a),(9,vI i),(10,vI j)],[(0,some (.lis 5 TU8 l))]⟩ (onward (headAt cx_peDn 1000003) R K)=(
need (pre_peUp a i j l) <|
need (pre_peDn a ((upN (qUp l a.toNat) l j.toNat i.toNat:Nat):Int) j l) <|
branch (decide (((dnN (qDn l a.toNat) l (upN (qUp l a.toNat) l j.toNat i.toNat) j.toNat:Nat):Int)<((upN (qUp l a.toNat) l j.toNat i.toNat:Nat):Int))) (K (.exit 0) ⟨[(9,vI ((upN (qUp l a.toNat) l j.toNat i.toNat:Nat):Int))],[(0,some (.lis 5 TU8 l))]⟩) (
 need (inb ((dnN (qDn l a.toNat) l (upN (qUp l a.toNat) l j.toNat i.toNat) j.toNat:Nat):Int) l.length) <| need (inb ((upN (qUp l a.toNat) l j.toNat i.toNat:Nat):Int) l.length) <| need (inb ((upN (qUp l a.toNat) l j.toNat i.toNat:Nat):Int) l.length) <|
 need (inb ((dnN (qDn l a.toNat) l (upN (qUp l a.toNat) l j.toNat i.toNat) j.toNat:Nat):Int) (l.set (upN (qUp l a.toNat) l j.toNat i.toNat:Nat) (l.getD (dnN (qDn l a.toNat) l (upN (qUp l a.toNat) l j.toNat i.toNat) j.toNat:Nat) 0)).length) <| R ⟨[(0, .d (.one (.own 0))),(1,vI a),(9,vI (W64 (((upN (qUp l a.toNat) l j.toNat i.toNat:Nat):Int)+1))),(10,vI (W64 (((dnN (qDn l a.toNat) l (upN (qUp l a.toNat) l j.toNat i.toNat) j.toNat:Nat):Int)-1)))],[(0,some (.lis 5 TU8 (swL l (upN (qUp l a.toNat) l j.toNat i.toNat:Nat) (dnN (qDn l a.toNat) l (upN (qUp l a.toNat) l j.toNat i.toNat) j.toNat:Nat))))]⟩)):=by kernel_rfl
def cx0_peL:Cx:=(cb_pe).withLoops (look L_peDn)
def sh_peL:Sh:=([(0, .own 0),(1, .d TI64),(9, .d TI64),(10, .d TI64)],[(0, .lis 5 TU8)])
abbrev st_peL (a i j:Int) (l:List (Int)):St:=⟨[(0, .d (.one (.own 0))),(1,vI a),(9,vI i),(10,vI j)],[(0,some (.lis 5 TU8 l))]⟩
def pre_peL (a i j:Int) (l:List (Int)):Bool:=scP a i j l
def res_peL (a i j:Int) (l:List (Int)) (K:Cont):Option Fin:=K (.exit 0) ⟨[(9,vI ((peE l a.toNat i.toNat j.toNat).1:Nat))],[(0,some (.lis 5 TU8 (peE l a.toNat i.toNat j.toNat).2))]⟩
def mu_peL (_a i j:Int) (_l:List (Int)):Nat:=(j+1-i).toNat
theorem r_peL (a i j:Int) (l:List (Int)) (K:Cont) (hI:pre_peL a i j l=true):(∀R:St→Option Fin,evC cx0_peL (loopOf Tryz.f180 0) (st_peL a i j l) (onward (headAt cx0_peL 1000003) R K)=res_peL a i j l K) ∨
  (∃(a' i' j':Int) (l':List (Int)),pre_peL a' i' j' l'=true∧mu_peL a' i' j' l'<mu_peL a i j l∧res_peL a' i' j' l' K=res_peL a i j l K∧∀R:St→Option Fin,evC cx0_peL (loopOf Tryz.f180 0) (st_peL a i j l) (onward (headAt cx0_peL 1000003) R K)=R (st_peL a' i' j' l')):=by
 have hx:=fun R=>x_peL l a i j R K
 have hI':scP a i j l=true:=hI
 obtain⟨h0,h1,h2,h3,h4,h5⟩:=scP_iff.1 hI'
 have e:=peE_eq l a.toNat i.toNat j.toNat
 unfold pe2 at e
 have u1:=upN_ge (qUp l a.toNat) l j.toNat i.toNat
 have d1:=dnN_le (qDn l a.toNat) l (upN (qUp l a.toNat) l j.toNat i.toNat) j.toNat
 have hp:∀u:Nat,i.toNat≤u→pre_peDn a (u:Int) j l=true:=fun u hu=>scP_iff.2 (by omega)
 simp only[show pre_peUp a i j l=true from hI',hp _ u1]at hx
 simp only[res_peL]
 generalize hu:upN (qUp l a.toNat) l j.toNat i.toNat=u at *
 generalize hd:dnN (qDn l a.toNat) l u j.toNat=d at *
 by_cases hc:d<u
 ·left
  intro R
  refine(hx R).trans ?_
  rw[decide_eq_true (by omega:(d:Int)<u),e,if_pos hc];rfl
 ·right
  rw[if_neg hc]at e
  have w1:W64 ((u:Int)+1)=(u:Int)+1:=wrap_small (by omega) (by omega)
  have w2:W64 ((d:Int)-1)=(d:Int)-1:=wrap_small (by omega) (by omega)
  have b1:inb (u:Int) l.length=true:=inb_ok (by omega) (by omega)
  have b2:inb (d:Int) l.length=true:=inb_ok (by omega) (by omega)
  simp only[show ¬(d:Int)<u by omega,decide_false,w1,w2,b1,b2,List.length_set]at hx
  refine⟨a,(u:Int)+1,(d:Int)-1,swL l u d,scP_iff.2 ?_, ?_, ?_,fun R=>(hx R).trans ?_⟩
  ·rw[swL_len];omega
  ·simp only[mu_peL];omega
  ·rw[e,show ((u:Int)+1).toNat=u+1 by omega,show ((d:Int)-1).toNat=d-1 by omega]
  ·rfl
def g_peL:St→Cont→Option Fin:=gP sh_peL (fun v=>match v with | ((a,i,j,()),(l,()))=>pre_peL a i j l) (fun v K=>match v with | ((a,i,j,()),(l,()))=>res_peL a i j l K)
def L_peL:LpL:=(1000003,g_peL)::L_peDn
def cx_peL:Cx:=(cb_pe).withLoops (look L_peL)
theorem l_peL {L:LpL} (n:Nat) (h1:L.drop n=L_peDn) (h2:idsFree (L.take n) (loopOf Tryz.f180 0)=true):LoopsTo g_peL (cb_pe) (loopOf Tryz.f180 0) 1000003 L :=
 with_drop h1 h2 (gP_ok (fun v=>match v with | ((a,i,j,()),(l,()))=>mu_peL a i j l) fun v K hI=>by
  obtain⟨⟨a,i,j,⟨⟩⟩,⟨l,⟨⟩⟩⟩:=v
  exact(r_peL a i j l K hI).imp id fun⟨a',i',j',l',h⟩=>⟨((a',i',j',()),(l',())),h⟩)
theorem y_partEq (l:List Int) (a b p:Int):evFn cx_peL Tryz.f180 false [.one (.own 0),ofD TI64 a,ofD TI64 b,ofD TI64 p] [.lis 5 TU8 l]=(
need (inb p l.length) <| need (inb a l.length) <| need (inb a l.length) <| need (inb p (l.set a.toNat (l.getD p.toNat 0)).length) <|
need (pre_peL a (W64 (a+1)) (W64 (b-1)) (swL l a.toNat p.toNat)) <| some (vI ((peE (swL l a.toNat p.toNat) a.toNat (W64 (a+1)).toNat (W64 (b-1)).toNat).1:Nat),[(0,some (.lis 5 TU8 (peE (swL l a.toNat p.toNat) a.toNat (W64 (a+1)).toNat (W64 (b-1)).toNat).2))])):=by kernel_rfl
def parP (l:List Int) (a b p:Int):Bool:=decide (0≤a)&&(decide (a≤p)&&(decide (p<b)&&(decide (b≤(List.length l:Int))&&Nat.ble (List.length l) 1000000)))
theorem parP_iff {a b p:Int} {l:List Int}:parP l a b p=true↔0≤a∧a≤p∧p<b∧b≤(l.length:Int)∧l.length≤1000000:=by
 unfold parP;simp only[andd,dec_iff,ble_iff]
def parE (l:List Int) (a b p:Int):Nat×List Int:=((Go.Sort.partitionEqual ltI l.toArray a.toNat b.toNat p.toNat).1,(Go.Sort.partitionEqual ltI l.toArray a.toNat b.toNat p.toNat).2.toList)
theorem s_slices_partitionEqualOrdered_byte (l:List (Int)) (_hl:Fit (.list TU8) l) (a:Int) (_ha:Fit TI64 a) (b:Int) (_hb:Fit TI64 b) (p:Int) (_hp:Fit TI64 p) (hpre:(parP l a b p)=true):Sat Tryz.prog 180 [.one (.own 0),ofD TI64 a,ofD TI64 b,ofD TI64 p] [.lis 5 TU8 l] (.d (ofD TI64 ((parE l a b p).1:Int))) [(0,some (.lis 5 TU8 ((parE l a b p).2)))] :=
 fn_sound (cx:=cx_peL) Tryz.func180 rfl ttOk Γ44ok mixed (fun c hc=>LoopsOk.all (l:=[(1000003,loopOf Tryz.f180 0),(3,loopOf Tryz.f180 1),(5,loopOf Tryz.f180 2)]) (by cases hc;kernel_rfl) ⟨atLoop rfl (l_peL 1 rfl (by kernel_rfl)),atLoop rfl (l_peUp 3 rfl (by kernel_rfl)),atLoop rfl (l_peDn 2 rfl (by kernel_rfl)),trivial⟩) (ro:=false) (by
  obtain⟨h0,h1,h2,h3,h4⟩:=parP_iff.1 hpre
  have w1:W64 (a+1)=a+1:=wrap_small (by omega) (by omega)
  have w2:W64 (b-1)=b-1:=wrap_small (by omega) (by omega)
  have b1:inb a l.length=true:=inb_ok (by omega) (by omega)
  have b2:inb p l.length=true:=inb_ok (by omega) (by omega)
  have hpp:pre_peL a (a+1) (b-1) (swL l a.toNat p.toNat)=true:=scP_iff.2 (by rw[swL_len];omega)
  rw[y_partEq,w1,w2,List.length_set,b1,b2,hpp,show (a+1).toNat=a.toNat+1 by omega,show (b-1).toNat=b.toNat-1 by omega]
  show some ((vI ((Go.Sort.partEqLoop ltI a.toNat (a.toNat+1) (b.toNat-1) (swL l a.toNat p.toNat).toArray).1:Nat),[(0,some (Obj.lis 5 TU8 (Go.Sort.partEqLoop ltI a.toNat (a.toNat+1) (b.toNat-1) (swL l a.toNat p.toNat).toArray).2.toList))]):Fin)=_
  rw[← sw_arr];rfl)
def c_slices_partitionEqualOrdered_byte:Con:=conL 5 TU8 [TI64,TI64,TI64] fun(l:List (Int)) (a:Int) (b:Int) (p:Int)=>(some (parP l a b p), .d (ofD TI64 ((parE l a b p).1:Int)),(parE l a b p).2)
theorem k_slices_partitionEqualOrdered_byte:ConOk Tryz.prog 180 c_slices_partitionEqualOrdered_byte:=conL_ok rfl Tryz.call180 fun l hl a ha b hb p hp hqq=>s_slices_partitionEqualOrdered_byte l hl a ha b hb p hp (pre_of hqq)
def Γ45:GL:=(180,c_slices_partitionEqualOrdered_byte)::Γ44
theorem Γ45ok:GO Γ45 := .cons k_slices_partitionEqualOrdered_byte Γ44ok
def cb_pt:Cx:=cxOf Γ45 Tryz.f181.ntmps [(15,[0,1,10,11]),(13,[0,1,10,11]),(1000013,[0,1,10,11]),(5,[0,1,10,11]),(3,[0,1,10,11])] [(4,[0,1,11]),(5,[0,1,10,11]),(8,[0,1,10,11]),(9,[0,1,10,11]),(6,[0,1,10,11]),(7,[0,1,10,11]),(2,[0,1,10,11]),(3,[0,1,10,11]),(0,[0,1,10,11]),(1,[0,1,10,11]),(1000000,[8,9])] [] []
theorem x_ptUp (l:List Int) (a i j:Int) (R:St→Option Fin) (K:Cont):evC (cb_pt.withLoops (look [])) (loopOf Tryz.f181 3) ⟨[(0, .d (.one (.own 0))),(1,vI a),(10,vI i),(11,vI j)],[(0,some (.lis 5 TU8 l))]⟩ (onward (headAt (cb_pt.withLoops (look [])) 13) R K)=(
need (bif decide (decide (i≤j)=true)then inb i l.length else true) <|
need (bif decide (decide (i≤j)=true)then inb a l.length else true) <|
branch (bif decide (i≤j)then pLt l a.toNat (l.getD i.toNat 0)else false) (R ⟨[(0, .d (.one (.own 0))),(1,vI a),(10,vI (W64 (i+1))),(11,vI j)],[(0,some (.lis 5 TU8 l))]⟩) (K (.exit 6) ⟨[(0, .d (.one (.own 0))),(1,vI a),(10,vI i),(11,vI j)],[(0,some (.lis 5 TU8 l))]⟩)):=by kernel_rfl
def cx0_ptUp:Cx:=(cb_pt).withLoops (look [])
def sh_ptUp:Sh:=([(0, .own 0),(1, .d TI64),(10, .d TI64),(11, .d TI64)],[(0, .lis 5 TU8)])
abbrev st_ptUp (a i j:Int) (l:List (Int)):St:=⟨[(0, .d (.one (.own 0))),(1,vI a),(10,vI i),(11,vI j)],[(0,some (.lis 5 TU8 l))]⟩
def pre_ptUp (a i j:Int) (l:List (Int)):Bool:=scP a i j l
def res_ptUp (a i j:Int) (l:List (Int)) (K:Cont):Option Fin:=K (.exit 6) ⟨[(0, .d (.one (.own 0))),(1,vI a),(10,vI (upN (pLt l a.toNat) l j.toNat i.toNat:Nat)),(11,vI j)],[(0,some (.lis 5 TU8 l))]⟩
def mu_ptUp (_a i j:Int) (_l:List (Int)):Nat:=(j+1-i).toNat
theorem r_ptUp (a i j:Int) (l:List (Int)) (K:Cont) (hI:pre_ptUp a i j l=true):(∀R:St→Option Fin,evC cx0_ptUp (loopOf Tryz.f181 3) (st_ptUp a i j l) (onward (headAt cx0_ptUp 13) R K)=res_ptUp a i j l K) ∨
  (∃(a' i' j':Int) (l':List (Int)),pre_ptUp a' i' j' l'=true∧mu_ptUp a' i' j' l'<mu_ptUp a i j l∧res_ptUp a' i' j' l' K=res_ptUp a i j l K∧∀R:St→Option Fin,evC cx0_ptUp (loopOf Tryz.f181 3) (st_ptUp a i j l) (onward (headAt cx0_ptUp 13) R K)=R (st_ptUp a' i' j' l')):=by
 have hx:=fun R=>x_ptUp l a i j R K
 obtain⟨h0,h1,h2,h3,h4,h5⟩:=scP_iff.1 (show scP a i j l=true from hI)
 have e:=upN_eq (pLt l a.toNat) l j.toNat i.toNat
 by_cases hi:i≤j
 ·have w1:W64 (i+1)=i+1:=wrap_small (by omega) (by omega)
  have t1:(i+1).toNat=i.toNat+1:=by omega
  have ba:inb a l.length=true:=inb_ok (by omega) (by omega)
  have bi:inb i l.length=true:=inb_ok (by omega) (by omega)
  simp only[hi,decide_true,ba,bi,Bool.cond_self,cond_true,w1]at hx
  cases hc:pLt l a.toNat (l.getD i.toNat 0)
  ·left
   intro R
   rw[if_neg (by rw[hc];simp)]at e
   refine(hx R).trans ?_
   rw[hc]
   simp only[res_ptUp,e,Int.toNat_of_nonneg (show 0≤i by omega)];rfl
  ·right
   rw[if_pos ⟨by omega,hc⟩]at e
   refine⟨a,i+1,j,l,scP_iff.2 ?_, ?_, ?_,fun R=>(hx R).trans ?_⟩
   ·omega
   ·simp only[mu_ptUp];omega
   ·simp only[res_ptUp,t1,e]
   ·rw[hc];rfl
 ·left
  intro R
  rw[if_neg (by omega)]at e
  refine(hx R).trans ?_
  simp only[hi,decide_false,cond_false,res_ptUp,e,Int.toNat_of_nonneg (show 0≤i by omega)];rfl
def g_ptUp:St→Cont→Option Fin:=gP sh_ptUp (fun v=>match v with | ((a,i,j,()),(l,()))=>pre_ptUp a i j l) (fun v K=>match v with | ((a,i,j,()),(l,()))=>res_ptUp a i j l K)
def L_ptUp:LpL:=(13,g_ptUp)::[]
def cx_ptUp:Cx:=(cb_pt).withLoops (look L_ptUp)
theorem l_ptUp {L:LpL} (n:Nat) (h1:L.drop n=[]) (h2:idsFree (L.take n) (loopOf Tryz.f181 3)=true):LoopsTo g_ptUp (cb_pt) (loopOf Tryz.f181 3) 13 L :=
 with_drop h1 h2 (gP_ok (fun v=>match v with | ((a,i,j,()),(l,()))=>mu_ptUp a i j l) fun v K hI=>by
  obtain⟨⟨a,i,j,⟨⟩⟩,⟨l,⟨⟩⟩⟩:=v
  exact(r_ptUp a i j l K hI).imp id fun⟨a',i',j',l',h⟩=>⟨((a',i',j',()),(l',())),h⟩)
theorem x_ptDn (l:List Int) (a i j:Int) (R:St→Option Fin) (K:Cont):evC cx_ptUp (loopOf Tryz.f181 4) ⟨[(0, .d (.one (.own 0))),(1,vI a),(10,vI i),(11,vI j)],[(0,some (.lis 5 TU8 l))]⟩ (onward (headAt cx_ptUp 15) R K)=(
need (bif decide (decide (i≤j)=true)then inb j l.length else true) <|
need (bif decide (decide (i≤j)=true)then inb a l.length else true) <|
branch (bif decide (i≤j)then pGe l a.toNat (l.getD j.toNat 0)else false) (R ⟨[(0, .d (.one (.own 0))),(1,vI a),(10,vI i),(11,vI (W64 (j-1)))],[(0,some (.lis 5 TU8 l))]⟩) (K (.exit 8) ⟨[(0, .d (.one (.own 0))),(1,vI a),(10,vI i),(11,vI j)],[(0,some (.lis 5 TU8 l))]⟩)):=by kernel_rfl
def cx0_ptDn:Cx:=(cb_pt).withLoops (look L_ptUp)
def sh_ptDn:Sh:=([(0, .own 0),(1, .d TI64),(10, .d TI64),(11, .d TI64)],[(0, .lis 5 TU8)])
abbrev st_ptDn (a i j:Int) (l:List (Int)):St:=⟨[(0, .d (.one (.own 0))),(1,vI a),(10,vI i),(11,vI j)],[(0,some (.lis 5 TU8 l))]⟩
def pre_ptDn (a i j:Int) (l:List (Int)):Bool:=scP a i j l
def res_ptDn (a i j:Int) (l:List (Int)) (K:Cont):Option Fin:=K (.exit 8) ⟨[(0, .d (.one (.own 0))),(1,vI a),(10,vI i),(11,vI (dnN (pGe l a.toNat) l i.toNat j.toNat:Nat))],[(0,some (.lis 5 TU8 l))]⟩
def mu_ptDn (_a i j:Int) (_l:List (Int)):Nat:=(j+1-i).toNat
theorem r_ptDn (a i j:Int) (l:List (Int)) (K:Cont) (hI:pre_ptDn a i j l=true):(∀R:St→Option Fin,evC cx0_ptDn (loopOf Tryz.f181 4) (st_ptDn a i j l) (onward (headAt cx0_ptDn 15) R K)=res_ptDn a i j l K) ∨
  (∃(a' i' j':Int) (l':List (Int)),pre_ptDn a' i' j' l'=true∧mu_ptDn a' i' j' l'<mu_ptDn a i j l∧res_ptDn a' i' j' l' K=res_ptDn a i j l K∧∀R:St→Option Fin,evC cx0_ptDn (loopOf Tryz.f181 4) (st_ptDn a i j l) (onward (headAt cx0_ptDn 15) R K)=R (st_ptDn a' i' j' l')):=by
 have hx:=fun R=>x_ptDn l a i j R K
 obtain⟨h0,h1,h2,h3,h4,h5⟩:=scP_iff.1 (show scP a i j l=true from hI)
 have e:=dnN_eq (pGe l a.toNat) l (i:=i.toNat) (by omega) j.toNat
 by_cases hi:i≤j
 ·have w1:W64 (j-1)=j-1:=wrap_small (by omega) (by omega)
  have t1:(j-1).toNat=j.toNat-1:=by omega
  have ba:inb a l.length=true:=inb_ok (by omega) (by omega)
  have bi:inb j l.length=true:=inb_ok (by omega) (by omega)
  simp only[hi,decide_true,ba,bi,Bool.cond_self,cond_true,w1]at hx
  cases hc:pGe l a.toNat (l.getD j.toNat 0)
  ·left
   intro R
   rw[if_neg (by rw[hc];simp)]at e
   refine(hx R).trans ?_
   rw[hc]
   simp only[res_ptDn,e,Int.toNat_of_nonneg (show 0≤j by omega)];rfl
  ·right
   rw[if_pos ⟨by omega,hc⟩]at e
   refine⟨a,i,j-1,l,scP_iff.2 ?_, ?_, ?_,fun R=>(hx R).trans ?_⟩
   ·omega
   ·simp only[mu_ptDn];omega
   ·simp only[res_ptDn,t1,e]
   ·rw[hc];rfl
 ·left
  intro R
  rw[if_neg (by omega)]at e
  refine(hx R).trans ?_
  simp only[hi,decide_false,cond_false,res_ptDn,e,Int.toNat_of_nonneg (show 0≤j by omega)];rfl
def g_ptDn:St→Cont→Option Fin:=gP sh_ptDn (fun v=>match v with | ((a,i,j,()),(l,()))=>pre_ptDn a i j l) (fun v K=>match v with | ((a,i,j,()),(l,()))=>res_ptDn a i j l K)
def L_ptDn:LpL:=(15,g_ptDn)::L_ptUp
def cx_ptDn:Cx:=(cb_pt).withLoops (look L_ptDn)
theorem l_ptDn {L:LpL} (n:Nat) (h1:L.drop n=L_ptUp) (h2:idsFree (L.take n) (loopOf Tryz.f181 4)=true):LoopsTo g_ptDn (cb_pt) (loopOf Tryz.f181 4) 15 L :=
 with_drop h1 h2 (gP_ok (fun v=>match v with | ((a,i,j,()),(l,()))=>mu_ptDn a i j l) fun v K hI=>by
  obtain⟨⟨a,i,j,⟨⟩⟩,⟨l,⟨⟩⟩⟩:=v
  exact(r_ptDn a i j l K hI).imp id fun⟨a',i',j',l',h⟩=>⟨((a',i',j',()),(l',())),h⟩)
theorem x_ptL (l:List Int) (a i j:Int) (R:St→Option Fin) (K:Cont):evC cx_ptDn (loopOf Tryz.f181 2) ⟨[(0, .d (.one (.own 0))),(1,vI a),(10,vI i),(11,vI j)],[(0,some (.lis 5 TU8 l))]⟩ (onward (headAt cx_ptDn 1000013) R K)=(
need (pre_ptUp a i j l) <|
need (pre_ptDn a ((upN (pLt l a.toNat) l j.toNat i.toNat:Nat):Int) j l) <|
branch (decide (((dnN (pGe l a.toNat) l (upN (pLt l a.toNat) l j.toNat i.toNat) j.toNat:Nat):Int)<((upN (pLt l a.toNat) l j.toNat i.toNat:Nat):Int))) (K (.exit 4) ⟨[(0, .d (.one (.own 0))),(1,vI a),(11,vI ((dnN (pGe l a.toNat) l (upN (pLt l a.toNat) l j.toNat i.toNat) j.toNat:Nat):Int))],[(0,some (.lis 5 TU8 l))]⟩) (
 need (inb ((dnN (pGe l a.toNat) l (upN (pLt l a.toNat) l j.toNat i.toNat) j.toNat:Nat):Int) l.length) <| need (inb ((upN (pLt l a.toNat) l j.toNat i.toNat:Nat):Int) l.length) <| need (inb ((upN (pLt l a.toNat) l j.toNat i.toNat:Nat):Int) l.length) <|
 need (inb ((dnN (pGe l a.toNat) l (upN (pLt l a.toNat) l j.toNat i.toNat) j.toNat:Nat):Int) (l.set (upN (pLt l a.toNat) l j.toNat i.toNat:Nat) (l.getD (dnN (pGe l a.toNat) l (upN (pLt l a.toNat) l j.toNat i.toNat) j.toNat:Nat) 0)).length) <| R ⟨[(0, .d (.one (.own 0))),(1,vI a),(10,vI (W64 (((upN (pLt l a.toNat) l j.toNat i.toNat:Nat):Int)+1))),(11,vI (W64 (((dnN (pGe l a.toNat) l (upN (pLt l a.toNat) l j.toNat i.toNat) j.toNat:Nat):Int)-1)))],[(0,some (.lis 5 TU8 (swL l (upN (pLt l a.toNat) l j.toNat i.toNat:Nat) (dnN (pGe l a.toNat) l (upN (pLt l a.toNat) l j.toNat i.toNat) j.toNat:Nat))))]⟩)):=by kernel_rfl
def cx0_ptL:Cx:=(cb_pt).withLoops (look L_ptDn)
def sh_ptL:Sh:=([(0, .own 0),(1, .d TI64),(10, .d TI64),(11, .d TI64)],[(0, .lis 5 TU8)])
abbrev st_ptL (a i j:Int) (l:List (Int)):St:=⟨[(0, .d (.one (.own 0))),(1,vI a),(10,vI i),(11,vI j)],[(0,some (.lis 5 TU8 l))]⟩
def pre_ptL (a i j:Int) (l:List (Int)):Bool:=scP a i j l
def res_ptL (a i j:Int) (l:List (Int)) (K:Cont):Option Fin:=K (.exit 4) ⟨[(0, .d (.one (.own 0))),(1,vI a),(11,vI ((ptE l a.toNat i.toNat j.toNat).1:Nat))],[(0,some (.lis 5 TU8 (ptE l a.toNat i.toNat j.toNat).2))]⟩
def mu_ptL (_a i j:Int) (_l:List (Int)):Nat:=(j+1-i).toNat
theorem r_ptL (a i j:Int) (l:List (Int)) (K:Cont) (hI:pre_ptL a i j l=true):(∀R:St→Option Fin,evC cx0_ptL (loopOf Tryz.f181 2) (st_ptL a i j l) (onward (headAt cx0_ptL 1000013) R K)=res_ptL a i j l K) ∨
  (∃(a' i' j':Int) (l':List (Int)),pre_ptL a' i' j' l'=true∧mu_ptL a' i' j' l'<mu_ptL a i j l∧res_ptL a' i' j' l' K=res_ptL a i j l K∧∀R:St→Option Fin,evC cx0_ptL (loopOf Tryz.f181 2) (st_ptL a i j l) (onward (headAt cx0_ptL 1000013) R K)=R (st_ptL a' i' j' l')):=by
 have hx:=fun R=>x_ptL l a i j R K
 have hI':scP a i j l=true:=hI
 obtain⟨h0,h1,h2,h3,h4,h5⟩:=scP_iff.1 hI'
 have e:=ptE_eq l a.toNat i.toNat j.toNat
 unfold pt2 at e
 have u1:=upN_ge (pLt l a.toNat) l j.toNat i.toNat
 have d1:=dnN_le (pGe l a.toNat) l (upN (pLt l a.toNat) l j.toNat i.toNat) j.toNat
 have hp:∀u:Nat,i.toNat≤u→pre_ptDn a (u:Int) j l=true:=fun u hu=>scP_iff.2 (by omega)
 simp only[show pre_ptUp a i j l=true from hI',hp _ u1]at hx
 simp only[res_ptL]
 generalize hu:upN (pLt l a.toNat) l j.toNat i.toNat=u at *
 generalize hd:dnN (pGe l a.toNat) l u j.toNat=d at *
 by_cases hc:d<u
 ·left
  intro R
  refine(hx R).trans ?_
  rw[decide_eq_true (by omega:(d:Int)<u),e,if_pos hc];rfl
 ·right
  rw[if_neg hc]at e
  have w1:W64 ((u:Int)+1)=(u:Int)+1:=wrap_small (by omega) (by omega)
  have w2:W64 ((d:Int)-1)=(d:Int)-1:=wrap_small (by omega) (by omega)
  have b1:inb (u:Int) l.length=true:=inb_ok (by omega) (by omega)
  have b2:inb (d:Int) l.length=true:=inb_ok (by omega) (by omega)
  simp only[show ¬(d:Int)<u by omega,decide_false,w1,w2,b1,b2,List.length_set]at hx
  refine⟨a,(u:Int)+1,(d:Int)-1,swL l u d,scP_iff.2 ?_, ?_, ?_,fun R=>(hx R).trans ?_⟩
  ·rw[swL_len];omega
  ·simp only[mu_ptL];omega
  ·rw[e,show ((u:Int)+1).toNat=u+1 by omega,show ((d:Int)-1).toNat=d-1 by omega]
  ·rfl
def g_ptL:St→Cont→Option Fin:=gP sh_ptL (fun v=>match v with | ((a,i,j,()),(l,()))=>pre_ptL a i j l) (fun v K=>match v with | ((a,i,j,()),(l,()))=>res_ptL a i j l K)
def L_ptL:LpL:=(1000013,g_ptL)::L_ptDn
def cx_ptL:Cx:=(cb_pt).withLoops (look L_ptL)
theorem l_ptL {L:LpL} (n:Nat) (h1:L.drop n=L_ptDn) (h2:idsFree (L.take n) (loopOf Tryz.f181 2)=true):LoopsTo g_ptL (cb_pt) (loopOf Tryz.f181 2) 1000013 L :=
 with_drop h1 h2 (gP_ok (fun v=>match v with | ((a,i,j,()),(l,()))=>mu_ptL a i j l) fun v K hI=>by
  obtain⟨⟨a,i,j,⟨⟩⟩,⟨l,⟨⟩⟩⟩:=v
  exact(r_ptL a i j l K hI).imp id fun⟨a',i',j',l',h⟩=>⟨((a',i',j',()),(l',())),h⟩)
theorem x_ptA (l:List Int) (a i j:Int) (R:St→Option Fin) (K:Cont):evC cx_ptL (loopOf Tryz.f181 0) ⟨[(0, .d (.one (.own 0))),(1,vI a),(10,vI i),(11,vI j)],[(0,some (.lis 5 TU8 l))]⟩ (onward (headAt cx_ptL 3) R K)=(
need (bif decide (decide (i≤j)=true)then inb i l.length else true) <|
need (bif decide (decide (i≤j)=true)then inb a l.length else true) <|
branch (bif decide (i≤j)then pLt l a.toNat (l.getD i.toNat 0)else false) (R ⟨[(0, .d (.one (.own 0))),(1,vI a),(10,vI (W64 (i+1))),(11,vI j)],[(0,some (.lis 5 TU8 l))]⟩) (K (.exit 0) ⟨[(0, .d (.one (.own 0))),(1,vI a),(10,vI i),(11,vI j)],[(0,some (.lis 5 TU8 l))]⟩)):=by kernel_rfl
def cx0_ptA:Cx:=(cb_pt).withLoops (look L_ptL)
def sh_ptA:Sh:=([(0, .own 0),(1, .d TI64),(10, .d TI64),(11, .d TI64)],[(0, .lis 5 TU8)])
abbrev st_ptA (a i j:Int) (l:List (Int)):St:=⟨[(0, .d (.one (.own 0))),(1,vI a),(10,vI i),(11,vI j)],[(0,some (.lis 5 TU8 l))]⟩
def pre_ptA (a i j:Int) (l:List (Int)):Bool:=scP a i j l
def res_ptA (a i j:Int) (l:List (Int)) (K:Cont):Option Fin:=K (.exit 0) ⟨[(0, .d (.one (.own 0))),(1,vI a),(10,vI (upN (pLt l a.toNat) l j.toNat i.toNat:Nat)),(11,vI j)],[(0,some (.lis 5 TU8 l))]⟩
def mu_ptA (_a i j:Int) (_l:List (Int)):Nat:=(j+1-i).toNat
theorem r_ptA (a i j:Int) (l:List (Int)) (K:Cont) (hI:pre_ptA a i j l=true):(∀R:St→Option Fin,evC cx0_ptA (loopOf Tryz.f181 0) (st_ptA a i j l) (onward (headAt cx0_ptA 3) R K)=res_ptA a i j l K) ∨
  (∃(a' i' j':Int) (l':List (Int)),pre_ptA a' i' j' l'=true∧mu_ptA a' i' j' l'<mu_ptA a i j l∧res_ptA a' i' j' l' K=res_ptA a i j l K∧∀R:St→Option Fin,evC cx0_ptA (loopOf Tryz.f181 0) (st_ptA a i j l) (onward (headAt cx0_ptA 3) R K)=R (st_ptA a' i' j' l')):=by
 have hx:=fun R=>x_ptA l a i j R K
 obtain⟨h0,h1,h2,h3,h4,h5⟩:=scP_iff.1 (show scP a i j l=true from hI)
 have e:=upN_eq (pLt l a.toNat) l j.toNat i.toNat
 by_cases hi:i≤j
 ·have w1:W64 (i+1)=i+1:=wrap_small (by omega) (by omega)
  have t1:(i+1).toNat=i.toNat+1:=by omega
  have ba:inb a l.length=true:=inb_ok (by omega) (by omega)
  have bi:inb i l.length=true:=inb_ok (by omega) (by omega)
  simp only[hi,decide_true,ba,bi,Bool.cond_self,cond_true,w1]at hx
  cases hc:pLt l a.toNat (l.getD i.toNat 0)
  ·left
   intro R
   rw[if_neg (by rw[hc];simp)]at e
   refine(hx R).trans ?_
   rw[hc]
   simp only[res_ptA,e,Int.toNat_of_nonneg (show 0≤i by omega)];rfl
  ·right
   rw[if_pos ⟨by omega,hc⟩]at e
   refine⟨a,i+1,j,l,scP_iff.2 ?_, ?_, ?_,fun R=>(hx R).trans ?_⟩
   ·omega
   ·simp only[mu_ptA];omega
   ·simp only[res_ptA,t1,e]
   ·rw[hc];rfl
 ·left
  intro R
  rw[if_neg (by omega)]at e
  refine(hx R).trans ?_
  simp only[hi,decide_false,cond_false,res_ptA,e,Int.toNat_of_nonneg (show 0≤i by omega)];rfl
def g_ptA:St→Cont→Option Fin:=gP sh_ptA (fun v=>match v with | ((a,i,j,()),(l,()))=>pre_ptA a i j l) (fun v K=>match v with | ((a,i,j,()),(l,()))=>res_ptA a i j l K)
def L_ptA:LpL:=(3,g_ptA)::L_ptL
def cx_ptA:Cx:=(cb_pt).withLoops (look L_ptA)
theorem l_ptA {L:LpL} (n:Nat) (h1:L.drop n=L_ptL) (h2:idsFree (L.take n) (loopOf Tryz.f181 0)=true):LoopsTo g_ptA (cb_pt) (loopOf Tryz.f181 0) 3 L :=
 with_drop h1 h2 (gP_ok (fun v=>match v with | ((a,i,j,()),(l,()))=>mu_ptA a i j l) fun v K hI=>by
  obtain⟨⟨a,i,j,⟨⟩⟩,⟨l,⟨⟩⟩⟩:=v
  exact(r_ptA a i j l K hI).imp id fun⟨a',i',j',l',h⟩=>⟨((a',i',j',()),(l',())),h⟩)
theorem x_ptB (l:List Int) (a i j:Int) (R:St→Option Fin) (K:Cont):evC cx_ptA (loopOf Tryz.f181 1) ⟨[(0, .d (.one (.own 0))),(1,vI a),(10,vI i),(11,vI j)],[(0,some (.lis 5 TU8 l))]⟩ (onward (headAt cx_ptA 5) R K)=(
need (bif decide (decide (i≤j)=true)then inb j l.length else true) <|
need (bif decide (decide (i≤j)=true)then inb a l.length else true) <|
branch (bif decide (i≤j)then pGe l a.toNat (l.getD j.toNat 0)else false) (R ⟨[(0, .d (.one (.own 0))),(1,vI a),(10,vI i),(11,vI (W64 (j-1)))],[(0,some (.lis 5 TU8 l))]⟩) (K (.exit 2) ⟨[(0, .d (.one (.own 0))),(1,vI a),(10,vI i),(11,vI j)],[(0,some (.lis 5 TU8 l))]⟩)):=by kernel_rfl
def cx0_ptB:Cx:=(cb_pt).withLoops (look L_ptA)
def sh_ptB:Sh:=([(0, .own 0),(1, .d TI64),(10, .d TI64),(11, .d TI64)],[(0, .lis 5 TU8)])
abbrev st_ptB (a i j:Int) (l:List (Int)):St:=⟨[(0, .d (.one (.own 0))),(1,vI a),(10,vI i),(11,vI j)],[(0,some (.lis 5 TU8 l))]⟩
def pre_ptB (a i j:Int) (l:List (Int)):Bool:=scP a i j l
def res_ptB (a i j:Int) (l:List (Int)) (K:Cont):Option Fin:=K (.exit 2) ⟨[(0, .d (.one (.own 0))),(1,vI a),(10,vI i),(11,vI (dnN (pGe l a.toNat) l i.toNat j.toNat:Nat))],[(0,some (.lis 5 TU8 l))]⟩
def mu_ptB (_a i j:Int) (_l:List (Int)):Nat:=(j+1-i).toNat
theorem r_ptB (a i j:Int) (l:List (Int)) (K:Cont) (hI:pre_ptB a i j l=true):(∀R:St→Option Fin,evC cx0_ptB (loopOf Tryz.f181 1) (st_ptB a i j l) (onward (headAt cx0_ptB 5) R K)=res_ptB a i j l K) ∨
  (∃(a' i' j':Int) (l':List (Int)),pre_ptB a' i' j' l'=true∧mu_ptB a' i' j' l'<mu_ptB a i j l∧res_ptB a' i' j' l' K=res_ptB a i j l K∧∀R:St→Option Fin,evC cx0_ptB (loopOf Tryz.f181 1) (st_ptB a i j l) (onward (headAt cx0_ptB 5) R K)=R (st_ptB a' i' j' l')):=by
 have hx:=fun R=>x_ptB l a i j R K
 obtain⟨h0,h1,h2,h3,h4,h5⟩:=scP_iff.1 (show scP a i j l=true from hI)
 have e:=dnN_eq (pGe l a.toNat) l (i:=i.toNat) (by omega) j.toNat
 by_cases hi:i≤j
 ·have w1:W64 (j-1)=j-1:=wrap_small (by omega) (by omega)
  have t1:(j-1).toNat=j.toNat-1:=by omega
  have ba:inb a l.length=true:=inb_ok (by omega) (by omega)
  have bi:inb j l.length=true:=inb_ok (by omega) (by omega)
  simp only[hi,decide_true,ba,bi,Bool.cond_self,cond_true,w1]at hx
  cases hc:pGe l a.toNat (l.getD j.toNat 0)
  ·left
   intro R
   rw[if_neg (by rw[hc];simp)]at e
   refine(hx R).trans ?_
   rw[hc]
   simp only[res_ptB,e,Int.toNat_of_nonneg (show 0≤j by omega)];rfl
  ·right
   rw[if_pos ⟨by omega,hc⟩]at e
   refine⟨a,i,j-1,l,scP_iff.2 ?_, ?_, ?_,fun R=>(hx R).trans ?_⟩
   ·omega
   ·simp only[mu_ptB];omega
   ·simp only[res_ptB,t1,e]
   ·rw[hc];rfl
 ·left
  intro R
  rw[if_neg (by omega)]at e
  refine(hx R).trans ?_
  simp only[hi,decide_false,cond_false,res_ptB,e,Int.toNat_of_nonneg (show 0≤j by omega)];rfl
def g_ptB:St→Cont→Option Fin:=gP sh_ptB (fun v=>match v with | ((a,i,j,()),(l,()))=>pre_ptB a i j l) (fun v K=>match v with | ((a,i,j,()),(l,()))=>res_ptB a i j l K)
def L_ptB:LpL:=(5,g_ptB)::L_ptA
def cx_ptB:Cx:=(cb_pt).withLoops (look L_ptB)
theorem l_ptB {L:LpL} (n:Nat) (h1:L.drop n=L_ptA) (h2:idsFree (L.take n) (loopOf Tryz.f181 1)=true):LoopsTo g_ptB (cb_pt) (loopOf Tryz.f181 1) 5 L :=
 with_drop h1 h2 (gP_ok (fun v=>match v with | ((a,i,j,()),(l,()))=>mu_ptB a i j l) fun v K hI=>by
  obtain⟨⟨a,i,j,⟨⟩⟩,⟨l,⟨⟩⟩⟩:=v
  exact(r_ptB a i j l K hI).imp id fun⟨a',i',j',l',h⟩=>⟨((a',i',j',()),(l',())),h⟩)
def ptI (m:List Int) (a b:Int):Nat:=upN (pLt m a.toNat) m (W64 (b-1)).toNat (W64 (a+1)).toNat
def ptJ (m:List Int) (a b:Int):Nat:=dnN (pGe m a.toNat) m (ptI m a b) (W64 (b-1)).toNat
def ptOut (k:Nat) (q:Bool) (m:List Int):Option Fin:=some (.tup [ofD TI64 (k:Int),ofD .bool q],[(0,some (.lis 5 TU8 m))])
def ptSw (a:Int) (k:Nat) (q:Bool) (m:List Int):Option Fin:=need (inb a m.length) <| need (inb (k:Int) m.length) <| need (inb (k:Int) m.length) <| need (inb a (m.set k (m.getD a.toNat 0)).length) <| ptOut k q (swL m k a.toNat)
def ptRest (a b:Int) (m:List Int):Option Fin :=
 need (pre_ptA a (W64 (a+1)) (W64 (b-1)) m) <| need (pre_ptB a (ptI m a b:Nat) (W64 (b-1)) m) <|
 branch (decide (((ptJ m a b:Nat):Int)<(ptI m a b:Nat))) (ptSw a (ptJ m a b) true m) <|
 need (inb (ptJ m a b:Nat) m.length) <| need (inb (ptI m a b:Nat) m.length) <| need (inb (ptI m a b:Nat) m.length) <| need (inb (ptJ m a b:Nat) (m.set (ptI m a b) (m.getD (ptJ m a b) 0)).length) <|
 need (pre_ptL a (W64 ((ptI m a b:Nat)+1)) (W64 ((ptJ m a b:Nat)-1)) (swL m (ptI m a b) (ptJ m a b))) <|
 ptSw a (ptE (swL m (ptI m a b) (ptJ m a b)) a.toNat (W64 ((ptI m a b:Nat)+1)).toNat (W64 ((ptJ m a b:Nat)-1)).toNat).1 false (ptE (swL m (ptI m a b) (ptJ m a b)) a.toNat (W64 ((ptI m a b:Nat)+1)).toNat (W64 ((ptJ m a b:Nat)-1)).toNat).2
theorem y_part (l:List Int) (a b p:Int):evFn cx_ptB Tryz.f181 false [.one (.own 0),ofD TI64 a,ofD TI64 b,ofD TI64 p] [.lis 5 TU8 l]=(
need (inb p l.length) <| need (inb a l.length) <| need (inb a l.length) <| need (inb p (l.set a.toNat (l.getD p.toNat 0)).length) <| ptRest a b (swL l a.toNat p.toNat)):=by kernel_rfl
def parR (l:List Int) (a b p:Int):Nat×List Int:=ptE (swL l a.toNat p.toNat) a.toNat (a.toNat+1) (b.toNat-1)
def parN (l:List Int) (a b p:Int):Nat×Bool×List Int:=((parR l a b p).1,decide (ptJ (swL l a.toNat p.toNat) a b<ptI (swL l a.toNat p.toNat) a b),swL (parR l a b p).2 (parR l a b p).1 a.toNat)
theorem parR_ok {l:List Int} {a b p:Int} (h:parP l a b p=true):(parR l a b p).1<b.toNat∧(parR l a b p).2.length=l.length:=by
 obtain⟨h0,h1,h2,h3,h4⟩:=parP_iff.1 h
 have q:=Go.Sort.partLoop_spec (lt:=ltI) a.toNat b.toNat _ (a.toNat+1) (b.toNat-1) (swL l a.toNat p.toNat).toArray (Nat.le_refl _) (by omega) (by omega) (by omega) (by show b.toNat≤(swL l a.toNat p.toNat).length;rw[swL_len];omega) (fun t g1 g2=>by omega) (fun t g1 g2=>by omega)
 refine⟨q.2.1, ?_⟩
 have z:=q.2.2.1.1
 show(Go.Sort.partLoop ltI a.toNat (a.toNat+1) (b.toNat-1) (swL l a.toNat p.toNat).toArray).2.toList.length=_
 rw[Array.length_toList,z]
 show(swL l a.toNat p.toNat).length=_
 rw[swL_len]
theorem parN_fst (l:List Int) (a b p:Int):(parN l a b p).1=(Go.Sort.partition ltI l.toArray a.toNat b.toNat p.toNat).1:=by
 rw[Go.Sort.partition_fst,sw_arr];rfl
theorem parN_lst (l:List Int) (a b p:Int):(parN l a b p).2.2=(Go.Sort.partition ltI l.toArray a.toNat b.toNat p.toNat).2.2.toList:=by
 rw[Go.Sort.partition_arr,sw_arr]
 show swL (parR l a b p).2 (parR l a b p).1 a.toNat=_
 unfold parR ptE
 rw[← sw_arr,Array.toArray_toList]
theorem s_slices_partitionOrdered_byte (l:List (Int)) (_hl:Fit (.list TU8) l) (a:Int) (_ha:Fit TI64 a) (b:Int) (_hb:Fit TI64 b) (p:Int) (_hp:Fit TI64 p) (hpre:(parP l a b p)=true):Sat Tryz.prog 181 [.one (.own 0),ofD TI64 a,ofD TI64 b,ofD TI64 p] [.lis 5 TU8 l] (.tup [ofD TI64 ((parN l a b p).1:Int),ofD .bool (parN l a b p).2.1]) [(0,some (.lis 5 TU8 ((parN l a b p).2.2)))] :=
 fn_sound (cx:=cx_ptB) Tryz.func181 rfl ttOk Γ45ok mixed (fun c hc=>LoopsOk.all (l:=[(3,loopOf Tryz.f181 0),(5,loopOf Tryz.f181 1),(1000013,loopOf Tryz.f181 2),(13,loopOf Tryz.f181 3),(15,loopOf Tryz.f181 4)]) (by cases hc;kernel_rfl) ⟨atLoop rfl (l_ptA 2 rfl (by kernel_rfl)),atLoop rfl (l_ptB 1 rfl (by kernel_rfl)),atLoop rfl (l_ptL 3 rfl (by kernel_rfl)),atLoop rfl (l_ptUp 5 rfl (by kernel_rfl)),atLoop rfl (l_ptDn 4 rfl (by kernel_rfl)),trivial⟩) (ro:=false) (by
  obtain⟨h0,h1,h2,h3,h4⟩:=parP_iff.1 hpre
  obtain⟨q1,q2⟩:=parR_ok hpre
  have w1:W64 (a+1)=a+1:=wrap_small (by omega) (by omega)
  have w2:W64 (b-1)=b-1:=wrap_small (by omega) (by omega)
  have b1:inb a l.length=true:=inb_ok (by omega) (by omega)
  have b2:inb p l.length=true:=inb_ok (by omega) (by omega)
  rw[y_part,List.length_set,b1,b2]
  show ptRest a b (swL l a.toNat p.toNat)=_
  have hm:(swL l a.toNat p.toNat).length=l.length:=swL_len _ _ _
  unfold parN parR at *
  generalize swL l a.toNat p.toNat=m at *
  have eI:ptI m a b=upN (pLt m a.toNat) m (b.toNat-1) (a.toNat+1):=by unfold ptI;rw[w1,w2,show (a+1).toNat=a.toNat+1 by omega,show (b-1).toNat=b.toNat-1 by omega]
  have eJ:ptJ m a b=pt2 m a.toNat (a.toNat+1) (b.toNat-1):=by unfold ptJ;rw[eI,w2,show (b-1).toNat=b.toNat-1 by omega]
  have eE:=ptE_eq m a.toNat (a.toNat+1) (b.toNat-1)
  rw[← eI,← eJ]at eE
  have u1:a.toNat+1≤ptI m a b:=by rw[eI];exact upN_ge _ _ _ _
  have d1:ptJ m a b≤b.toNat-1:=by rw[eJ];exact dnN_le _ _ _ _
  have hA:pre_ptA a (a+1) (b-1) m=true:=scP_iff.2 (by omega)
  have hB:pre_ptB a (ptI m a b:Nat) (b-1) m=true:=scP_iff.2 (by omega)
  unfold ptRest
  rw[w1,w2,hA,hB]
  generalize ptI m a b=I at *
  generalize ptJ m a b=J at *
  have sw:∀(k:Nat) (q:Bool) (n:List Int),k<b.toNat→n.length=l.length→ptSw a k q n=ptOut k q (swL n k a.toNat):=fun k q n g1 g2=>by
   unfold ptSw
   rw[List.length_set,inb_ok h0 (by omega),inb_ok (by omega) (by omega)];rfl
  by_cases hc:J<I
  ·rw[if_pos hc]at eE
   rw[decide_eq_true (by omega:(J:Int)<I),decide_eq_true hc,eE]
   show ptSw a J true m=_
   rw[sw J true m (by omega) hm];rfl
  ·rw[if_neg hc]at eE
   have w3:W64 ((I:Int)+1)=(I:Int)+1:=wrap_small (by omega) (by omega)
   have w4:W64 ((J:Int)-1)=(J:Int)-1:=wrap_small (by omega) (by omega)
   have hL:pre_ptL a ((I:Int)+1) ((J:Int)-1) (swL m I J)=true:=scP_iff.2 (by rw[swL_len];omega)
   rw[decide_eq_false (by omega:¬(J:Int)<I),decide_eq_false hc,List.length_set,inb_ok (by omega:(0:Int)≤J) (by omega:(J:Int)<m.length),inb_ok (by omega:(0:Int)≤I) (by omega:(I:Int)<m.length),w3,w4,hL,show ((I:Int)+1).toNat=I+1 by omega,show ((J:Int)-1).toNat=J-1 by omega,← eE]
   show ptSw a _ false _=_
   rw[sw _ false _ q1 q2];rfl)
def c_slices_partitionOrdered_byte:Con:=conL 5 TU8 [TI64,TI64,TI64] fun(l:List (Int)) (a:Int) (b:Int) (p:Int)=>(some (parP l a b p), .tup [ofD TI64 ((parN l a b p).1:Int),ofD .bool (parN l a b p).2.1],(parN l a b p).2.2)
theorem k_slices_partitionOrdered_byte:ConOk Tryz.prog 181 c_slices_partitionOrdered_byte:=conL_ok rfl Tryz.call181 fun l hl a ha b hb p hp hqq=>s_slices_partitionOrdered_byte l hl a ha b hb p hp (pre_of hqq)
def Γ46:GL:=(181,c_slices_partitionOrdered_byte)::Γ45
theorem Γ46ok:GO Γ46 := .cons k_slices_partitionOrdered_byte Γ45ok
end
end Go.Proofs.YtmeiebnfmhddnaaGreatDoor.Ev
