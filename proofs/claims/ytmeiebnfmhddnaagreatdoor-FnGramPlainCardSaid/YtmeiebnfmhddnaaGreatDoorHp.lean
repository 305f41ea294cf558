/-
  Sorting of bytes: the partitions. (Most of this text is printed by scan.py.)
-/
import Derived.Test.YtmeiebnfmhddnaaGreatDoorGj
import Derived.Lib.Bytealg
namespace Go.Proofs.YtmeiebnfmhddnaaGreatDoor.Ev
open Go
open List (length length_append length_cons length_singleton length_replicate length_set length_take length_drop mem_cons_of_mem mem_cons_self getD replicate mem_append_left mem_append_right all_eq_true drop_eq_getElem_cons drop_eq_nil_of_le append_assoc mem_singleton getElem?_append_left getElem?_append_right getElem?_eq_none getElem?_take mem_append)
noncomputable section
set_option maxHeartbeats 1000000
def pLt (l:List Int) (a:Nat) (x:Int):Bool:=ltI x (l.getD a 0)
def pGe (l:List Int) (a:Nat) (x:Int):Bool := !ltI x (l.getD a 0)
def qUp (l:List Int) (a:Nat) (x:Int):Bool := !ltI (l.getD a 0) x
def qDn (l:List Int) (a:Nat) (x:Int):Bool:=ltI (l.getD a 0) x
abbrev upN (p:Int→Bool) (l:List Int) (j i:Nat):Nat:=Go.Sort.scanUp p l.toArray j i
abbrev dnN (p:Int→Bool) (l:List Int) (i j:Nat):Nat:=Go.Sort.scanDown p l.toArray i j
theorem upN_eq (p:Int→Bool) (l:List Int) (j i:Nat):upN p l j i=if i≤j∧p (l.getD i 0)=true then upN p l j (i+1)else i:=by
 unfold upN;rw[Go.Sort.scanUp,at_arr]
 by_cases h:i≤j
 ·cases hc:p (l.getD i 0)
  ·rw[if_neg (by simp),if_neg (by simp)]
  ·rw[if_pos (by simp[h]),if_pos ⟨h,rfl⟩]
 ·rw[if_neg (by simp[h]),if_neg (by simp[h])]
theorem dnN_eq (p:Int→Bool) (l:List Int) {i:Nat} (h1:1≤i) (j:Nat):dnN p l i j=if i≤j∧p (l.getD j 0)=true then dnN p l i (j-1)else j:=by
 unfold dnN
 cases j with
 |zero=>rw[Go.Sort.scanDown,if_neg (by omega)]
 |succ j =>
  rw[Go.Sort.scanDown,at_arr]
  by_cases h:i≤j+1
  ·cases hc:p (l.getD (j+1) 0)
   ·rw[if_neg (by simp),if_neg (by simp)]
   ·rw[if_pos (by simp[h]),if_pos ⟨h,rfl⟩];rfl
  ·rw[if_neg (by simp[h]),if_neg (by simp[h])]
def scP (a i j:Int) (l:List Int):Bool:=decide (0≤a)&&(decide (a<i)&&(decide (0≤j)&&(decide (j<(length l:Int))&&(decide (a<(length l:Int))&&Nat.ble (length l) 1000000))))
theorem scP_iff {a i j:Int} {l:List Int}:scP a i j l=true↔0≤a∧a<i∧0≤j∧j<(l.length:Int)∧a<(l.length:Int)∧l.length≤1000000:=by
 unfold scP;simp only[andd,dec_iff,ble_iff]
def cb_pe:Cx:=cxOf Γ47 Tryz.f180.ntmps [(5,[0,1,9,10]),(3,[0,1,9,10]),(1000003,[0,1,9,10])] [(0,[9]),(1,[0,1,9,10]),(4,[0,1,9,10]),(5,[0,1,9,10]),(2,[0,1,9,10]),(3,[0,1,9,10]),(1000000,[8])] [] []
theorem x_peUp (l:List Int) (a i j:Int) (R:St→Option Fin) (K:Cont):evC (cb_pe.withLoops (look [])) (loopOf Tryz.f180 1) ⟨[(0, .d (.one (.own 0))),(1,vI a),(9,vI i),(10,vI j)],[(0,some (.lis 5 TU8 l))]⟩ (onward (headAt (cb_pe.withLoops (look [])) 3) R K)=(
need (bif decide (decide (i≤j)=true)then inb a l.length else true) <|
need (bif decide (decide (i≤j)=true)then inb i l.length else true) <|
branch (bif decide (i≤j)then qUp l a.toNat (l.getD i.toNat 0)else false) (R ⟨[(0, .d (.one (.own 0))),(1,vI a),(9,vI (W64 (i+1))),(10,vI j)],[(0,some (.lis 5 TU8 l))]⟩) (K (.exit 2) ⟨[(0, .d (.one (.own 0))),(1,vI a),(9,vI i),(10,vI j)],[(0,some (.lis 5 TU8 l))]⟩)):=by kernel_rfl
def cx0_peUp:Cx:=(cb_pe).withLoops (look [])
def sh_peUp:Sh:=([(0, .own 0),(1, .d TI64),(9, .d TI64),(10, .d TI64)],[(0, .lis 5 TU8)])
abbrev st_peUp (a i j:Int) (l:List (Int)):St:=⟨[(0, .d (.one (.own 0))),(1,vI a),(9,vI i),(10,vI j)],[(0,some (.lis 5 TU8 l))]⟩
def pre_peUp (a i j:Int) (l:List (Int)):Bool:=scP a i j l
def res_peUp (a i j:Int) (l:List (Int)) (K:Cont):Option Fin:=K (.exit 2) ⟨[(0, .d (.one (.own 0))),(1,vI a),(9,vI (upN (qUp l a.toNat) l j.toNat i.toNat:Nat)),(10,vI j)],[(0,some (.lis 5 TU8 l))]⟩
def mu_peUp (_a i j:Int) (_l:List (Int)):Nat:=(j+1-i).toNat
theorem r_peUp (a i j:Int) (l:List (Int)) (K:Cont) (hI:pre_peUp a i j l=true):(∀R:St→Option Fin,evC cx0_peUp (loopOf Tryz.f180 1) (st_peUp a i j l) (onward (headAt cx0_peUp 3) R K)=res_peUp a i j l K) ∨
  (∃(a' i' j':Int) (l':List (Int)),pre_peUp a' i' j' l'=true∧mu_peUp a' i' j' l'<mu_peUp a i j l∧res_peUp a' i' j' l' K=res_peUp a i j l K∧∀R:St→Option Fin,evC cx0_peUp (loopOf Tryz.f180 1) (st_peUp a i j l) (onward (headAt cx0_peUp 3) R K)=R (st_peUp a' i' j' l')):=by
 have hx:=fun R=>x_peUp l a i j R K;obtain⟨h0,h1,h2,h3,h4,h5⟩:=scP_iff.1 (show scP a i j l=true from hI);have e:=upN_eq (qUp l a.toNat) l j.toNat i.toNat
 by_cases hi:i≤j
 ·have w1:W64 (i+1)=i+1:=wrap_small (by omega) (by omega);have t1:(i+1).toNat=i.toNat+1:=by omega
  have ba:inb a l.length=true:=inb_ok (by omega) (by omega);have bi:inb i l.length=true:=inb_ok (by omega) (by omega);simp only[hi,decide_true,ba,bi,Bool.cond_self,cond_true,w1]at hx
  cases hc:qUp l a.toNat (l.getD i.toNat 0)
  ·left;intro R;rw[if_neg (by rw[hc];simp)]at e;refine(hx R).trans ?_;rw[hc];simp only[res_peUp,e,Int.toNat_of_nonneg (show 0≤i by omega)];rfl
  ·right;rw[if_pos ⟨by omega,hc⟩]at e;refine⟨a,i+1,j,l,scP_iff.2 ?_, ?_, ?_,fun R=>(hx R).trans ?_⟩
   ·omega
   ·simp only[mu_peUp];omega
   ·simp only[res_peUp,t1,e]
   ·rw[hc];rfl
 ·left;intro R;rw[if_neg (by omega)]at e;refine(hx R).trans ?_;simp only[hi,decide_false,cond_false,res_peUp,e,Int.toNat_of_nonneg (show 0≤i by omega)];rfl
def g_peUp:St→Cont→Option Fin:=gP sh_peUp (fun v=>match v with | ((a,i,j,()),(l,()))=>pre_peUp a i j l) (fun v K=>match v with | ((a,i,j,()),(l,()))=>res_peUp a i j l K)
def L_peUp:LpL:=(3,g_peUp)::[]
def cx_peUp:Cx:=(cb_pe).withLoops (look L_peUp)
theorem l_peUp {L:LpL} (n:Nat) (h1:L.drop n=[]) (h2:idsFree (L.take n) (loopOf Tryz.f180 1)=true):LoopsTo g_peUp (cb_pe) (loopOf Tryz.f180 1) 3 L :=
 with_drop h1 h2 (gP_ok (fun v=>match v with | ((a,i,j,()),(l,()))=>mu_peUp a i j l) fun v K hI=>by
  obtain⟨⟨a,i,j,⟨⟩⟩,⟨l,⟨⟩⟩⟩:=v;exact(r_peUp a i j l K hI).imp id fun⟨a',i',j',l',h⟩=>⟨((a',i',j',()),(l',())),h⟩)
theorem x_peDn (l:List Int) (a i j:Int) (R:St→Option Fin) (K:Cont):evC cx_peUp (loopOf Tryz.f180 2) ⟨[(0, .d (.one (.own 0))),(1,vI a),(9,vI i),(10,vI j)],[(0,some (.lis 5 TU8 l))]⟩ (onward (headAt cx_peUp 5) R K)=(
need (bif decide (decide (i≤j)=true)then inb a l.length else true) <|
need (bif decide (decide (i≤j)=true)then inb j l.length else true) <|
branch (bif decide (i≤j)then qDn l a.toNat (l.getD j.toNat 0)else false) (R ⟨[(0, .d (.one (.own 0))),(1,vI a),(9,vI i),(10,vI (W64 (j-1)))],[(0,some (.lis 5 TU8 l))]⟩) (K (.exit 4) ⟨[(0, .d (.one (.own 0))),(1,vI a),(9,vI i),(10,vI j)],[(0,some (.lis 5 TU8 l))]⟩)):=by kernel_rfl
def cx0_peDn:Cx:=(cb_pe).withLoops (look L_peUp)
def sh_peDn:Sh:=([(0, .own 0),(1, .d TI64),(9, .d TI64),(10, .d TI64)],[(0, .lis 5 TU8)])
abbrev st_peDn (a i j:Int) (l:List (Int)):St:=⟨[(0, .d (.one (.own 0))),(1,vI a),(9,vI i),(10,vI j)],[(0,some (.lis 5 TU8 l))]⟩
def pre_peDn (a i j:Int) (l:List (Int)):Bool:=scP a i j l
def res_peDn (a i j:Int) (l:List (Int)) (K:Cont):Option Fin:=K (.exit 4) ⟨[(0, .d (.one (.own 0))),(1,vI a),(9,vI i),(10,vI (dnN (qDn l a.toNat) l i.toNat j.toNat:Nat))],[(0,some (.lis 5 TU8 l))]⟩
def mu_peDn (_a i j:Int) (_l:List (Int)):Nat:=(j+1-i).toNat
theorem r_peDn (a i j:Int) (l:List (Int)) (K:Cont) (hI:pre_peDn a i j l=true):(∀R:St→Option Fin,evC cx0_peDn (loopOf Tryz.f180 2) (st_peDn a i j l) (onward (headAt cx0_peDn 5) R K)=res_peDn a i j l K) ∨
  (∃(a' i' j':Int) (l':List (Int)),pre_peDn a' i' j' l'=true∧mu_peDn a' i' j' l'<mu_peDn a i j l∧res_peDn a' i' j' l' K=res_peDn a i j l K∧∀R:St→Option Fin,evC cx0_peDn (loopOf Tryz.f180 2) (st_peDn a i j l) (onward (headAt cx0_peDn 5) R K)=R (st_peDn a' i' j' l')):=by
 have hx:=fun R=>x_peDn l a i j R K;obtain⟨h0,h1,h2,h3,h4,h5⟩:=scP_iff.1 (show scP a i j l=true from hI);have e:=dnN_eq (qDn l a.toNat) l (i:=i.toNat) (by omega) j.toNat
 by_cases hi:i≤j
 ·have w1:W64 (j-1)=j-1:=wrap_small (by omega) (by omega);have t1:(j-1).toNat=j.toNat-1:=by omega
  have ba:inb a l.length=true:=inb_ok (by omega) (by omega);have bi:inb j l.length=true:=inb_ok (by omega) (by omega);simp only[hi,decide_true,ba,bi,Bool.cond_self,cond_true,w1]at hx
  cases hc:qDn l a.toNat (l.getD j.toNat 0)
  ·left;intro R;rw[if_neg (by rw[hc];simp)]at e;refine(hx R).trans ?_;rw[hc];simp only[res_peDn,e,Int.toNat_of_nonneg (show 0≤j by omega)];rfl
  ·right;rw[if_pos ⟨by omega,hc⟩]at e;refine⟨a,i,j-1,l,scP_iff.2 ?_, ?_, ?_,fun R=>(hx R).trans ?_⟩
   ·omega
   ·simp only[mu_peDn];omega
   ·simp only[res_peDn,t1,e]
   ·rw[hc];rfl
 ·left;intro R;rw[if_neg (by omega)]at e;refine(hx R).trans ?_;simp only[hi,decide_false,cond_false,res_peDn,e,Int.toNat_of_nonneg (show 0≤j by omega)];rfl
def g_peDn:St→Cont→Option Fin:=gP sh_peDn (fun v=>match v with | ((a,i,j,()),(l,()))=>pre_peDn a i j l) (fun v K=>match v with | ((a,i,j,()),(l,()))=>res_peDn a i j l K)
def L_peDn:LpL:=(5,g_peDn)::L_peUp
def cx_peDn:Cx:=(cb_pe).withLoops (look L_peDn)
theorem l_peDn {L:LpL} (n:Nat) (h1:L.drop n=L_peUp) (h2:idsFree (L.take n) (loopOf Tryz.f180 2)=true):LoopsTo g_peDn (cb_pe) (loopOf Tryz.f180 2) 5 L :=
 with_drop h1 h2 (gP_ok (fun v=>match v with | ((a,i,j,()),(l,()))=>mu_peDn a i j l) fun v K hI=>by
  obtain⟨⟨a,i,j,⟨⟩⟩,⟨l,⟨⟩⟩⟩:=v;exact(r_peDn a i j l K hI).imp id fun⟨a',i',j',l',h⟩=>⟨((a',i',j',()),(l',())),h⟩)
theorem qUp_arr (l:List Int) (a:Nat):(fun x => !ltI l.toArray[a]! x)=qUp l a:=by funext x;unfold qUp;rw[at_arr]
theorem qDn_arr (l:List Int) (a:Nat):(fun x=>ltI l.toArray[a]! x)=qDn l a:=by funext x;unfold qDn;rw[at_arr]
theorem pLt_arr (l:List Int) (a:Nat):(fun x=>ltI x l.toArray[a]!)=pLt l a:=by funext x;unfold pLt;rw[at_arr]
theorem pGe_arr (l:List Int) (a:Nat):(fun x => !ltI x l.toArray[a]!)=pGe l a:=by funext x;unfold pGe;rw[at_arr]
def peE (l:List Int) (a i j:Nat):Nat×List Int:=((Go.Sort.partEqLoop ltI a i j l.toArray).1,(Go.Sort.partEqLoop ltI a i j l.toArray).2.toList)
def ptE (l:List Int) (a i j:Nat):Nat×List Int:=((Go.Sort.partLoop ltI a i j l.toArray).1,(Go.Sort.partLoop ltI a i j l.toArray).2.toList)
abbrev pe2 (l:List Int) (a i j:Nat):Nat:=dnN (qDn l a) l (upN (qUp l a) l j i) j
abbrev pt2 (l:List Int) (a i j:Nat):Nat:=dnN (pGe l a) l (upN (pLt l a) l j i) j
theorem peE_eq (l:List Int) (a i j:Nat):peE l a i j=if upN (qUp l a) l j i > pe2 l a i j then(upN (qUp l a) l j i,l)else peE (swL l (upN (qUp l a) l j i) (pe2 l a i j)) a (upN (qUp l a) l j i+1) (pe2 l a i j-1):=by
 unfold peE;rw[Go.Sort.partEqLoop_eq,qUp_arr,qDn_arr,sw_arr]
 split<;>rfl
theorem ptE_eq (l:List Int) (a i j:Nat):ptE l a i j=if upN (pLt l a) l j i > pt2 l a i j then(pt2 l a i j,l)else ptE (swL l (upN (pLt l a) l j i) (pt2 l a i j)) a (upN (pLt l a) l j i+1) (pt2 l a i j-1):=by
 unfold ptE;rw[Go.Sort.partLoop_eq,pLt_arr,pGe_arr,sw_arr]
 split<;>rfl
theorem upN_ge (p:Int→Bool) (l:List Int) (j i:Nat):i≤upN p l j i:=Go.Sort.scanUp_ge _ _ _ _
theorem dnN_le (p:Int→Bool) (l:List Int) (i j:Nat):dnN p l i j≤j:=Go.Sort.scanDown_le _ _ _ _
theorem x_peL (l:List Int) (a i j:Int) (R:St→Option Fin) (K:Cont):evC cx_peDn (loopOf Tryz.f180 0) ⟨[(0, .d (.one (.own 0))),(1,vI a),(9,vI i),(10,vI j)],[(0,some (.lis 5 TU8 l))]⟩ (onward (headAt cx_peDn 1000003) R K)=(
need (pre_peUp a i j l) <|
need (pre_peDn a ((upN (qUp l a.toNat) l j.toNat i.toNat:Nat):Int) j l) <|
branch (decide (((dnN (qDn l a.toNat) l (upN (qUp l a.toNat) l j.toNat i.toNat) j.toNat:Nat):Int)<((upN (qUp l a.toNat) l j.toNat i.toNat:Nat):Int))) (K (.exit 0) ⟨[(9,vI ((upN (qUp l a.toNat) l j.toNat i.toNat:Nat):Int))],[(0,some (.lis 5 TU8 l))]⟩) (
 need (inb ((dnN (qDn l a.toNat) l (upN (qUp l a.toNat) l j.toNat i.toNat) j.toNat:Nat):Int) l.length) <| need (inb ((upN (qUp l a.toNat) l j.toNat i.toNat:Nat):Int) l.length) <| need (inb ((upN (qUp l a.toNat) l j.toNat i.toNat:Nat):Int) l.length) <|
 need (inb ((dnN (qDn l a.toNat) l (upN (qUp l a.toNat) l j.toNat i.toNat) j.toNat:Nat):Int) (l.set (upN (qUp l a.toNat) l j.toNat i.toNat:Nat) (l.getD (dnN (qDn l a.toNat) l (upN (qUp l a.toNat) l j.toNat i.toNat) j.toNat:Nat) 0)).length) <| R ⟨[(0, .d (.one (.own 0))),(1,vI a),(9,vI (W64 (((upN (qUp l a.toNat) l j.toNat i.toNat:Nat):Int)+1))),(10,vI (W64 (((dnN (qDn l a.toNat) l (upN (qUp l a.toNat) l j.toNat i.toNat) j.toNat:Nat):Int)-1)))],[(0,some (.lis 5 TU8 (swL l (upN (qUp l a.toNat) l j.toNat i.toNat:Nat) (dnN (qDn l a.toNat) l (upN (qUp l a.toNat) l j.toNat i.toNat) j.toNat:Nat))))]⟩)):=by kernel_rfl
def cx0_peL:Cx:=(cb_pe).withLoops (look L_peDn)
def sh_peL:Sh:=([(0, .own 0),(1, .d TI64),(9, .d TI64),(10, .d TI64)],[(0, .lis 5 TU8)])
abbrev st_peL (a i j:Int) (l:List (Int)):St:=⟨[(0, .d (.one (.own 0))),(1,vI a),(9,vI i),(10,vI j)],[(0,some (.lis 5 TU8 l))]⟩
def pre_peL (a i j:Int) (l:List (Int)):Bool:=scP a i j l
def res_peL (a i j:Int) (l:List (Int)) (K:Cont):Option Fin:=K (.exit 0) ⟨[(9,vI ((peE l a.toNat i.toNat j.toNat).1:Nat))],[(0,some (.lis 5 TU8 (peE l a.toNat i.toNat j.toNat).2))]⟩
def mu_peL (_a i j:Int) (_l:List (Int)):Nat:=(j+1-i).toNat
theorem r_peL (a i j:Int) (l:List (Int)) (K:Cont) (hI:pre_peL a i j l=true):(∀R:St→Option Fin,evC cx0_peL (loopOf Tryz.f180 0) (st_peL a i j l) (onward (headAt cx0_peL 1000003) R K)=res_peL a i j l K) ∨
  (∃(a' i' j':Int) (l':List (Int)),pre_peL a' i' j' l'=true∧mu_peL a' i' j' l'<mu_peL a i j l∧res_peL a' i' j' l' K=res_peL a i j l K∧∀R:St→Option Fin,evC cx0_peL (loopOf Tryz.f180 0) (st_peL a i j l) (onward (headAt cx0_peL 1000003) R K)=R (st_peL a' i' j' l')):=by
 have hx:=fun R=>x_peL l a i j R K;have hI':scP a i j l=true:=hI;obtain⟨h0,h1,h2,h3,h4,h5⟩:=scP_iff.1 hI';have e:=peE_eq l a.toNat i.toNat j.toNat;unfold pe2 at e;have u1:=upN_ge (qUp l a.toNat) l j.toNat i.toNat;have d1:=dnN_le (qDn l a.toNat) l (upN (qUp l a.toNat) l j.toNat i.toNat) j.toNat;have hp:∀u:Nat,i.toNat≤u→pre_peDn a (u:Int) j l=true:=fun u hu=>scP_iff.2 (by omega);simp only[show pre_peUp a i j l=true from hI',hp _ u1]at hx;simp only[res_peL]
 generalize hu:upN (qUp l a.toNat) l j.toNat i.toNat=u at *
 generalize hd:dnN (qDn l a.toNat) l u j.toNat=d at *
 by_cases hc:d<u
 ·left;intro R;refine(hx R).trans ?_;rw[zT (by omega:(d:Int)<u),e,if_pos hc];rfl
 ·right;rw[if_neg hc]at e;have w1:W64 ((u:Int)+1)=(u:Int)+1:=wrap_small (by omega) (by omega);have w2:W64 ((d:Int)-1)=(d:Int)-1:=wrap_small (by omega) (by omega);have b1:inb (u:Int) l.length=true:=inb_ok (by omega) (by omega);have b2:inb (d:Int) l.length=true:=inb_ok (by omega) (by omega);simp only[show ¬(d:Int)<u by omega,decide_false,w1,w2,b1,b2,length_set]at hx;refine⟨a,(u:Int)+1,(d:Int)-1,swL l u d,scP_iff.2 ?_, ?_, ?_,fun R=>(hx R).trans ?_⟩
  ·rw[swL_len];omega
  ·simp only[mu_peL];omega
  ·rw[e,show ((u:Int)+1).toNat=u+1 by omega,show ((d:Int)-1).toNat=d-1 by omega]
  ·rfl
def g_peL:St→Cont→Option Fin:=gP sh_peL (fun v=>match v with | ((a,i,j,()),(l,()))=>pre_peL a i j l) (fun v K=>match v with | ((a,i,j,()),(l,()))=>res_peL a i j l K)
def L_peL:LpL:=(1000003,g_peL)::L_peDn
def cx_peL:Cx:=(cb_pe).withLoops (look L_peL)
theorem l_peL {L:LpL} (n:Nat) (h1:L.drop n=L_peDn) (h2:idsFree (L.take n) (loopOf Tryz.f180 0)=true):LoopsTo g_peL (cb_pe) (loopOf Tryz.f180 0) 1000003 L :=
 with_drop h1 h2 (gP_ok (fun v=>match v with | ((a,i,j,()),(l,()))=>mu_peL a i j l) fun v K hI=>by
  obtain⟨⟨a,i,j,⟨⟩⟩,⟨l,⟨⟩⟩⟩:=v;exact(r_peL a i j l K hI).imp id fun⟨a',i',j',l',h⟩=>⟨((a',i',j',()),(l',())),h⟩)
theorem y_partEq (l:List Int) (a b p:Int):evFn cx_peL Tryz.f180 false [.one (.own 0),ofD TI64 a,ofD TI64 b,ofD TI64 p] [.lis 5 TU8 l]=(
need (inb p l.length) <| need (inb a l.length) <| need (inb a l.length) <| need (inb p (l.set a.toNat (l.getD p.toNat 0)).length) <|
need (pre_peL a (W64 (a+1)) (W64 (b-1)) (swL l a.toNat p.toNat)) <| some (vI ((peE (swL l a.toNat p.toNat) a.toNat (W64 (a+1)).toNat (W64 (b-1)).toNat).1:Nat),[(0,some (.lis 5 TU8 (peE (swL l a.toNat p.toNat) a.toNat (W64 (a+1)).toNat (W64 (b-1)).toNat).2))])):=by kernel_rfl
def parP (l:List Int) (a b p:Int):Bool:=decide (0≤a)&&(decide (a≤p)&&(decide (p<b)&&(decide (b≤(length l:Int))&&Nat.ble (length l) 1000000)))
theorem parP_iff {a b p:Int} {l:List Int}:parP l a b p=true↔0≤a∧a≤p∧p<b∧b≤(l.length:Int)∧l.length≤1000000:=by
 unfold parP;simp only[andd,dec_iff,ble_iff]
def parE (l:List Int) (a b p:Int):Nat×List Int:=((Go.Sort.partitionEqual ltI l.toArray a.toNat b.toNat p.toNat).1,(Go.Sort.partitionEqual ltI l.toArray a.toNat b.toNat p.toNat).2.toList)
theorem s_slices_partitionEqualOrdered_byte (l:List (Int)) (_hl:Fit (.list TU8) l) (a:Int) (_ha:Fit TI64 a) (b:Int) (_hb:Fit TI64 b) (p:Int) (_hp:Fit TI64 p) (hpre:(parP l a b p)=true):Sat Tryz.prog 180 [.one (.own 0),ofD TI64 a,ofD TI64 b,ofD TI64 p] [.lis 5 TU8 l] (.d (ofD TI64 ((parE l a b p).1:Int))) [(0,some (.lis 5 TU8 ((parE l a b p).2)))] :=
 fn_sound (cx:=cx_peL) Tryz.func180 rfl ttOk Γ47ok mixed (fun c hc=>LoopsOk.all (l:=[(1000003,loopOf Tryz.f180 0),(3,loopOf Tryz.f180 1),(5,loopOf Tryz.f180 2)]) (by cases hc;kernel_rfl) ⟨atLoop rfl (l_peL 1 rfl (by kernel_rfl)),atLoop rfl (l_peUp 3 rfl (by kernel_rfl)),atLoop rfl (l_peDn 2 rfl (by kernel_rfl)),trivial⟩) (ro:=false) (by
  obtain⟨h0,h1,h2,h3,h4⟩:=parP_iff.1 hpre;have w1:W64 (a+1)=a+1:=wrap_small (by omega) (by omega);have w2:W64 (b-1)=b-1:=wrap_small (by omega) (by omega);have b1:inb a l.length=true:=inb_ok (by omega) (by omega);have b2:inb p l.length=true:=inb_ok (by omega) (by omega);have hpp:pre_peL a (a+1) (b-1) (swL l a.toNat p.toNat)=true:=scP_iff.2 (by rw[swL_len];omega);rw[y_partEq,w1,w2,length_set,b1,b2,hpp,show (a+1).toNat=a.toNat+1 by omega,show (b-1).toNat=b.toNat-1 by omega];show some ((vI ((Go.Sort.partEqLoop ltI a.toNat (a.toNat+1) (b.toNat-1) (swL l a.toNat p.toNat).toArray).1:Nat),[(0,some (Obj.lis 5 TU8 (Go.Sort.partEqLoop ltI a.toNat (a.toNat+1) (b.toNat-1) (swL l a.toNat p.toNat).toArray).2.toList))]):Fin)=_;rw[← sw_arr];rfl)
def c_slices_partitionEqualOrdered_byte:Con:=conL 5 TU8 [TI64,TI64,TI64] fun(l:List (Int)) (a:Int) (b:Int) (p:Int)=>(some (parP l a b p), .d (ofD TI64 ((parE l a b p).1:Int)),(parE l a b p).2)
theorem k_slices_partitionEqualOrdered_byte:ConOk Tryz.prog 180 c_slices_partitionEqualOrdered_byte:=conL_ok rfl Tryz.call180 fun l hl a ha b hb p hp hqq=>s_slices_partitionEqualOrdered_byte l hl a ha b hb p hp (pre_of hqq)
def Γ48:GL:=(180,c_slices_partitionEqualOrdered_byte)::Γ47
theorem Γ48ok:GO Γ48 := .cons k_slices_partitionEqualOrdered_byte Γ47ok
def cb_pt:Cx:=cxOf Γ48 Tryz.f181.ntmps [(15,[0,1,10,11]),(13,[0,1,10,11]),(1000013,[0,1,10,11]),(5,[0,1,10,11]),(3,[0,1,10,11])] [(4,[0,1,11]),(5,[0,1,10,11]),(8,[0,1,10,11]),(9,[0,1,10,11]),(6,[0,1,10,11]),(7,[0,1,10,11]),(2,[0,1,10,11]),(3,[0,1,10,11]),(0,[0,1,10,11]),(1,[0,1,10,11]),(1000000,[8,9])] [] []
theorem x_ptUp (l:List Int) (a i j:Int) (R:St→Option Fin) (K:Cont):evC (cb_pt.withLoops (look [])) (loopOf Tryz.f181 3) ⟨[(0, .d (.one (.own 0))),(1,vI a),(10,vI i),(11,vI j)],[(0,some (.lis 5 TU8 l))]⟩ (onward (headAt (cb_pt.withLoops (look [])) 13) R K)=(
need (bif decide (decide (i≤j)=true)then inb i l.length else true) <|
need (bif decide (decide (i≤j)=true)then inb a l.length else true) <|
branch (bif decide (i≤j)then pLt l a.toNat (l.getD i.toNat 0)else false) (R ⟨[(0, .d (.one (.own 0))),(1,vI a),(10,vI (W64 (i+1))),(11,vI j)],[(0,some (.lis 5 TU8 l))]⟩) (K (.exit 6) ⟨[(0, .d (.one (.own 0))),(1,vI a),(10,vI i),(11,vI j)],[(0,some (.lis 5 TU8 l))]⟩)):=by kernel_rfl
def cx0_ptUp:Cx:=(cb_pt).withLoops (look [])
def sh_ptUp:Sh:=([(0, .own 0),(1, .d TI64),(10, .d TI64),(11, .d TI64)],[(0, .lis 5 TU8)])
abbrev st_ptUp (a i j:Int) (l:List (Int)):St:=⟨[(0, .d (.one (.own 0))),(1,vI a),(10,vI i),(11,vI j)],[(0,some (.lis 5 TU8 l))]⟩
def pre_ptUp (a i j:Int) (l:List (Int)):Bool:=scP a i j l
def res_ptUp (a i j:Int) (l:List (Int)) (K:Cont):Option Fin:=K (.exit 6) ⟨[(0, .d (.one (.own 0))),(1,vI a),(10,vI (upN (pLt l a.toNat) l j.toNat i.toNat:Nat)),(11,vI j)],[(0,some (.lis 5 TU8 l))]⟩
def mu_ptUp (_a i j:Int) (_l:List (Int)):Nat:=(j+1-i).toNat
theorem r_ptUp (a i j:Int) (l:List (Int)) (K:Cont) (hI:pre_ptUp a i j l=true):(∀R:St→Option Fin,evC cx0_ptUp (loopOf Tryz.f181 3) (st_ptUp a i j l) (onward (headAt cx0_ptUp 13) R K)=res_ptUp a i j l K) ∨
  (∃(a' i' j':Int) (l':List (Int)),pre_ptUp a' i' j' l'=true∧mu_ptUp a' i' j' l'<mu_ptUp a i j l∧res_ptUp a' i' j' l' K=res_ptUp a i j l K∧∀R:St→Option Fin,evC cx0_ptUp (loopOf Tryz.f181 3) (st_ptUp a i j l) (onward (headAt cx0_ptUp 13) R K)=R (st_ptUp a' i' j' l')):=by
 have hx:=fun R=>x_ptUp l a i j R K;obtain⟨h0,h1,h2,h3,h4,h5⟩:=scP_iff.1 (show scP a i j l=true from hI);have e:=upN_eq (pLt l a.toNat) l j.toNat i.toNat
 by_cases hi:i≤j
 ·have w1:W64 (i+1)=i+1:=wrap_small (by omega) (by omega);have t1:(i+1).toNat=i.toNat+1:=by omega
  have ba:inb a l.length=true:=inb_ok (by omega) (by omega);have bi:inb i l.length=true:=inb_ok (by omega) (by omega);simp only[hi,decide_true,ba,bi,Bool.cond_self,cond_true,w1]at hx
  cases hc:pLt l a.toNat (l.getD i.toNat 0)
  ·left;intro R;rw[if_neg (by rw[hc];simp)]at e;refine(hx R).trans ?_;rw[hc];simp only[res_ptUp,e,Int.toNat_of_nonneg (show 0≤i by omega)];rfl
  ·right;rw[if_pos ⟨by omega,hc⟩]at e;refine⟨a,i+1,j,l,scP_iff.2 ?_, ?_, ?_,fun R=>(hx R).trans ?_⟩
   ·omega
   ·simp only[mu_ptUp];omega
   ·simp only[res_ptUp,t1,e]
   ·rw[hc];rfl
 ·left;intro R;rw[if_neg (by omega)]at e;refine(hx R).trans ?_;simp only[hi,decide_false,cond_false,res_ptUp,e,Int.toNat_of_nonneg (show 0≤i by omega)];rfl
def g_ptUp:St→Cont→Option Fin:=gP sh_ptUp (fun v=>match v with | ((a,i,j,()),(l,()))=>pre_ptUp a i j l) (fun v K=>match v with | ((a,i,j,()),(l,()))=>res_ptUp a i j l K)
def L_ptUp:LpL:=(13,g_ptUp)::[]
def cx_ptUp:Cx:=(cb_pt).withLoops (look L_ptUp)
theorem l_ptUp {L:LpL} (n:Nat) (h1:L.drop n=[]) (h2:idsFree (L.take n) (loopOf Tryz.f181 3)=true):LoopsTo g_ptUp (cb_pt) (loopOf Tryz.f181 3) 13 L :=
 with_drop h1 h2 (gP_ok (fun v=>match v with | ((a,i,j,()),(l,()))=>mu_ptUp a i j l) fun v K hI=>by
  obtain⟨⟨a,i,j,⟨⟩⟩,⟨l,⟨⟩⟩⟩:=v;exact(r_ptUp a i j l K hI).imp id fun⟨a',i',j',l',h⟩=>⟨((a',i',j',()),(l',())),h⟩)
theorem x_ptDn (l:List Int) (a i j:Int) (R:St→Option Fin) (K:Cont):evC cx_ptUp (loopOf Tryz.f181 4) ⟨[(0, .d (.one (.own 0))),(1,vI a),(10,vI i),(11,vI j)],[(0,some (.lis 5 TU8 l))]⟩ (onward (headAt cx_ptUp 15) R K)=(
need (bif decide (decide (i≤j)=true)then inb j l.length else true) <|
need (bif decide (decide (i≤j)=true)then inb a l.length else true) <|
branch (bif decide (i≤j)then pGe l a.toNat (l.getD j.toNat 0)else false) (R ⟨[(0, .d (.one (.own 0))),(1,vI a),(10,vI i),(11,vI (W64 (j-1)))],[(0,some (.lis 5 TU8 l))]⟩) (K (.exit 8) ⟨[(0, .d (.one (.own 0))),(1,vI a),(10,vI i),(11,vI j)],[(0,some (.lis 5 TU8 l))]⟩)):=by kernel_rfl
def cx0_ptDn:Cx:=(cb_pt).withLoops (look L_ptUp)
def sh_ptDn:Sh:=([(0, .own 0),(1, .d TI64),(10, .d TI64),(11, .d TI64)],[(0, .lis 5 TU8)])
abbrev st_ptDn (a i j:Int) (l:List (Int)):St:=⟨[(0, .d (.one (.own 0))),(1,vI a),(10,vI i),(11,vI j)],[(0,some (.lis 5 TU8 l))]⟩
def pre_ptDn (a i j:Int) (l:List (Int)):Bool:=scP a i j l
def res_ptDn (a i j:Int) (l:List (Int)) (K:Cont):Option Fin:=K (.exit 8) ⟨[(0, .d (.one (.own 0))),(1,vI a),(10,vI i),(11,vI (dnN (pGe l a.toNat) l i.toNat j.toNat:Nat))],[(0,some (.lis 5 TU8 l))]⟩
def mu_ptDn (_a i j:Int) (_l:List (Int)):Nat:=(j+1-i).toNat
theorem r_ptDn (a i j:Int) (l:List (Int)) (K:Cont) (hI:pre_ptDn a i j l=true):(∀R:St→Option Fin,evC cx0_ptDn (loopOf Tryz.f181 4) (st_ptDn a i j l) (onward (headAt cx0_ptDn 15) R K)=res_ptDn a i j l K) ∨
  (∃(a' i' j':Int) (l':List (Int)),pre_ptDn a' i' j' l'=true∧mu_ptDn a' i' j' l'<mu_ptDn a i j l∧res_ptDn a' i' j' l' K=res_ptDn a i j l K∧∀R:St→Option Fin,evC cx0_ptDn (loopOf Tryz.f181 4) (st_ptDn a i j l) (onward (headAt cx0_ptDn 15) R K)=R (st_ptDn a' i' j' l')):=by
 have hx:=fun R=>x_ptDn l a i j R K;obtain⟨h0,h1,h2,h3,h4,h5⟩:=scP_iff.1 (show scP a i j l=true from hI);have e:=dnN_eq (pGe l a.toNat) l (i:=i.toNat) (by omega) j.toNat
 by_cases hi:i≤j
 ·have w1:W64 (j-1)=j-1:=wrap_small (by omega) (by omega);have t1:(j-1).toNat=j.toNat-1:=by omega
  have ba:inb a l.length=true:=inb_ok (by omega) (by omega);have bi:inb j l.length=true:=inb_ok (by omega) (by omega);simp only[hi,decide_true,ba,bi,Bool.cond_self,cond_true,w1]at hx
  cases hc:pGe l a.toNat (l.getD j.toNat 0)
  ·left;intro R;rw[if_neg (by rw[hc];simp)]at e;refine(hx R).trans ?_;rw[hc];simp only[res_ptDn,e,Int.toNat_of_nonneg (show 0≤j by omega)];rfl
  ·right;rw[if_pos ⟨by omega,hc⟩]at e;refine⟨a,i,j-1,l,scP_iff.2 ?_, ?_, ?_,fun R=>(hx R).trans ?_⟩
   ·omega
   ·simp only[mu_ptDn];omega
   ·simp only[res_ptDn,t1,e]
   ·rw[hc];rfl
 ·left;intro R;rw[if_neg (by omega)]at e;refine(hx R).trans ?_;simp only[hi,decide_false,cond_false,res_ptDn,e,Int.toNat_of_nonneg (show 0≤j by omega)];rfl
def g_ptDn:St→Cont→Option Fin:=gP sh_ptDn (fun v=>match v with | ((a,i,j,()),(l,()))=>pre_ptDn a i j l) (fun v K=>match v with | ((a,i,j,()),(l,()))=>res_ptDn a i j l K)
def L_ptDn:LpL:=(15,g_ptDn)::L_ptUp
def cx_ptDn:Cx:=(cb_pt).withLoops (look L_ptDn)
theorem l_ptDn {L:LpL} (n:Nat) (h1:L.drop n=L_ptUp) (h2:idsFree (L.take n) (loopOf Tryz.f181 4)=true):LoopsTo g_ptDn (cb_pt) (loopOf Tryz.f181 4) 15 L :=
 with_drop h1 h2 (gP_ok (fun v=>match v with | ((a,i,j,()),(l,()))=>mu_ptDn a i j l) fun v K hI=>by
  obtain⟨⟨a,i,j,⟨⟩⟩,⟨l,⟨⟩⟩⟩:=v;exact(r_ptDn a i j l K hI).imp id fun⟨a',i',j',l',h⟩=>⟨((a',i',j',()),(l',())),h⟩)
theorem x_ptL (l:List Int) (a i j:Int) (R:St→Option Fin) (K:Cont):evC cx_ptDn (loopOf Tryz.f181 2) ⟨[(0, .d (.one (.own 0))),(1,vI a),(10,vI i),(11,vI j)],[(0,some (.lis 5 TU8 l))]⟩ (onward (headAt cx_ptDn 1000013) R K)=(
need (pre_ptUp a i j l) <|
need (pre_ptDn a ((upN (pLt l a.toNat) l j.toNat i.toNat:Nat):Int) j l) <|
branch (decide (((dnN (pGe l a.toNat) l (upN (pLt l a.toNat) l j.toNat i.toNat) j.toNat:Nat):Int)<((upN (pLt l a.toNat) l j.toNat i.toNat:Nat):Int))) (K (.exit 4) ⟨[(0, .d (.one (.own 0))),(1,vI a),(11,vI ((dnN (pGe l a.toNat) l (upN (pLt l a.toNat) l j.toNat i.toNat) j.toNat:Nat):Int))],[(0,some (.lis 5 TU8 l))]⟩) (
 need (inb ((dnN (pGe l a.toNat) l (upN (pLt l a.toNat) l j.toNat i.toNat) j.toNat:Nat):Int) l.length) <| need (inb ((upN (pLt l a.toNat) l j.toNat i.toNat:Nat):Int) l.length) <| need (inb ((upN (pLt l a.toNat) l j.toNat i.toNat:Nat):Int) l.length) <|
 need (inb ((dnN (pGe l a.toNat) l (upN (pLt l a.toNat) l j.toNat i.toNat) j.toNat:Nat):Int) (l.set (upN (pLt l a.toNat) l j.toNat i.toNat:Nat) (l.getD (dnN (pGe l a.toNat) l (upN (pLt l a.toNat) l j.toNat i.toNat) j.toNat:Nat) 0)).length) <| R ⟨[(0, .d (.one (.own 0))),(1,vI a),(10,vI (W64 (((upN (pLt l a.toNat) l j.toNat i.toNat:Nat):Int)+1))),(11,vI (W64 (((dnN (pGe l a.toNat) l (upN (pLt l a.toNat) l j.toNat i.toNat) j.toNat:Nat):Int)-1)))],[(0,some (.lis 5 TU8 (swL l (upN (pLt l a.toNat) l j.toNat i.toNat:Nat) (dnN (pGe l a.toNat) l (upN (pLt l a.toNat) l j.toNat i.toNat) j.toNat:Nat))))]⟩)):=by kernel_rfl
def cx0_ptL:Cx:=(cb_pt).withLoops (look L_ptDn)
def sh_ptL:Sh:=([(0, .own 0),(1, .d TI64),(10, .d TI64),(11, .d TI64)],[(0, .lis 5 TU8)])
abbrev st_ptL (a i j:Int) (l:List (Int)):St:=⟨[(0, .d (.one (.own 0))),(1,vI a),(10,vI i),(11,vI j)],[(0,some (.lis 5 TU8 l))]⟩
def pre_ptL (a i j:Int) (l:List (Int)):Bool:=scP a i j l
def res_ptL (a i j:Int) (l:List (Int)) (K:Cont):Option Fin:=K (.exit 4) ⟨[(0, .d (.one (.own 0))),(1,vI a),(11,vI ((ptE l a.toNat i.toNat j.toNat).1:Nat))],[(0,some (.lis 5 TU8 (ptE l a.toNat i.toNat j.toNat).2))]⟩
def mu_ptL (_a i j:Int) (_l:List (Int)):Nat:=(j+1-i).toNat
theorem r_ptL (a i j:Int) (l:List (Int)) (K:Cont) (hI:pre_ptL a i j l=true):(∀R:St→Option Fin,evC cx0_ptL (loopOf Tryz.f181 2) (st_ptL a i j l) (onward (headAt cx0_ptL 1000013) R K)=res_ptL a i j l K) ∨
  (∃(a' i' j':Int) (l':List (Int)),pre_ptL a' i' j' l'=true∧mu_ptL a' i' j' l'<mu_ptL a i j l∧res_ptL a' i' j' l' K=res_ptL a i j l K∧∀R:St→Option Fin,evC cx0_ptL (loopOf Tryz.f181 2) (st_ptL a i j l) (onward (headAt cx0_ptL 1000013) R K)=R (st_ptL a' i' j' l')):=by
 have hx:=fun R=>x_ptL l a i j R K;have hI':scP a i j l=true:=hI;obtain⟨h0,h1,h2,h3,h4,h5⟩:=scP_iff.1 hI';have e:=ptE_eq l a.toNat i.toNat j.toNat;unfold pt2 at e;have u1:=upN_ge (pLt l a.toNat) l j.toNat i.toNat;have d1:=dnN_le (pGe l a.toNat) l (upN (pLt l a.toNat) l j.toNat i.toNat) j.toNat;have hp:∀u:Nat,i.toNat≤u→pre_ptDn a (u:Int) j l=true:=fun u hu=>scP_iff.2 (by omega);simp only[show pre_ptUp a i j l=true from hI',hp _ u1]at hx;simp only[res_ptL]
 generalize hu:upN (pLt l a.toNat) l j.toNat i.toNat=u at *
 generalize hd:dnN (pGe l a.toNat) l u j.toNat=d at *
 by_cases hc:d<u
 ·left;intro R;refine(hx R).trans ?_;rw[zT (by omega:(d:Int)<u),e,if_pos hc];rfl
 ·right;rw[if_neg hc]at e;have w1:W64 ((u:Int)+1)=(u:Int)+1:=wrap_small (by omega) (by omega);have w2:W64 ((d:Int)-1)=(d:Int)-1:=wrap_small (by omega) (by omega);have b1:inb (u:Int) l.length=true:=inb_ok (by omega) (by omega);have b2:inb (d:Int) l.length=true:=inb_ok (by omega) (by omega);simp only[show ¬(d:Int)<u by omega,decide_false,w1,w2,b1,b2,length_set]at hx;refine⟨a,(u:Int)+1,(d:Int)-1,swL l u d,scP_iff.2 ?_, ?_, ?_,fun R=>(hx R).trans ?_⟩
  ·rw[swL_len];omega
  ·simp only[mu_ptL];omega
  ·rw[e,show ((u:Int)+1).toNat=u+1 by omega,show ((d:Int)-1).toNat=d-1 by omega]
  ·rfl
def g_ptL:St→Cont→Option Fin:=gP sh_ptL (fun v=>match v with | ((a,i,j,()),(l,()))=>pre_ptL a i j l) (fun v K=>match v with | ((a,i,j,()),(l,()))=>res_ptL a i j l K)
def L_ptL:LpL:=(1000013,g_ptL)::L_ptDn
def cx_ptL:Cx:=(cb_pt).withLoops (look L_ptL)
theorem l_ptL {L:LpL} (n:Nat) (h1:L.drop n=L_ptDn) (h2:idsFree (L.take n) (loopOf Tryz.f181 2)=true):LoopsTo g_ptL (cb_pt) (loopOf Tryz.f181 2) 1000013 L :=
 with_drop h1 h2 (gP_ok (fun v=>match v with | ((a,i,j,()),(l,()))=>mu_ptL a i j l) fun v K hI=>by
  obtain⟨⟨a,i,j,⟨⟩⟩,⟨l,⟨⟩⟩⟩:=v;exact(r_ptL a i j l K hI).imp id fun⟨a',i',j',l',h⟩=>⟨((a',i',j',()),(l',())),h⟩)
theorem x_ptA (l:List Int) (a i j:Int) (R:St→Option Fin) (K:Cont):evC cx_ptL (loopOf Tryz.f181 0) ⟨[(0, .d (.one (.own 0))),(1,vI a),(10,vI i),(11,vI j)],[(0,some (.lis 5 TU8 l))]⟩ (onward (headAt cx_ptL 3) R K)=(
need (bif decide (decide (i≤j)=true)then inb i l.length else true) <|
need (bif decide (decide (i≤j)=true)then inb a l.length else true) <|
branch (bif decide (i≤j)then pLt l a.toNat (l.getD i.toNat 0)else false) (R ⟨[(0, .d (.one (.own 0))),(1,vI a),(10,vI (W64 (i+1))),(11,vI j)],[(0,some (.lis 5 TU8 l))]⟩) (K (.exit 0) ⟨[(0, .d (.one (.own 0))),(1,vI a),(10,vI i),(11,vI j)],[(0,some (.lis 5 TU8 l))]⟩)):=by kernel_rfl
def cx0_ptA:Cx:=(cb_pt).withLoops (look L_ptL)
def sh_ptA:Sh:=([(0, .own 0),(1, .d TI64),(10, .d TI64),(11, .d TI64)],[(0, .lis 5 TU8)])
abbrev st_ptA (a i j:Int) (l:List (Int)):St:=⟨[(0, .d (.one (.own 0))),(1,vI a),(10,vI i),(11,vI j)],[(0,some (.lis 5 TU8 l))]⟩
def pre_ptA (a i j:Int) (l:List (Int)):Bool:=scP a i j l
def res_ptA (a i j:Int) (l:List (Int)) (K:Cont):Option Fin:=K (.exit 0) ⟨[(0, .d (.one (.own 0))),(1,vI a),(10,vI (upN (pLt l a.toNat) l j.toNat i.toNat:Nat)),(11,vI j)],[(0,some (.lis 5 TU8 l))]⟩
def mu_ptA (_a i j:Int) (_l:List (Int)):Nat:=(j+1-i).toNat
theorem r_ptA (a i j:Int) (l:List (Int)) (K:Cont) (hI:pre_ptA a i j l=true):(∀R:St→Option Fin,evC cx0_ptA (loopOf Tryz.f181 0) (st_ptA a i j l) (onward (headAt cx0_ptA 3) R K)=res_ptA a i j l K) ∨
  (∃(a' i' j':Int) (l':List (Int)),pre_ptA a' i' j' l'=true∧mu_ptA a' i' j' l'<mu_ptA a i j l∧res_ptA a' i' j' l' K=res_ptA a i j l K∧∀R:St→Option Fin,evC cx0_ptA (loopOf Tryz.f181 0) (st_ptA a i j l) (onward (headAt cx0_ptA 3) R K)=R (st_ptA a' i' j' l')):=by
 have hx:=fun R=>x_ptA l a i j R K;obtain⟨h0,h1,h2,h3,h4,h5⟩:=scP_iff.1 (show scP a i j l=true from hI);have e:=upN_eq (pLt l a.toNat) l j.toNat i.toNat
 by_cases hi:i≤j
 ·have w1:W64 (i+1)=i+1:=wrap_small (by omega) (by omega);have t1:(i+1).toNat=i.toNat+1:=by omega
  have ba:inb a l.length=true:=inb_ok (by omega) (by omega);have bi:inb i l.length=true:=inb_ok (by omega) (by omega);simp only[hi,decide_true,ba,bi,Bool.cond_self,cond_true,w1]at hx
  cases hc:pLt l a.toNat (l.getD i.toNat 0)
  ·left;intro R;rw[if_neg (by rw[hc];simp)]at e;refine(hx R).trans ?_;rw[hc];simp only[res_ptA,e,Int.toNat_of_nonneg (show 0≤i by omega)];rfl
  ·right;rw[if_pos ⟨by omega,hc⟩]at e;refine⟨a,i+1,j,l,scP_iff.2 ?_, ?_, ?_,fun R=>(hx R).trans ?_⟩
   ·omega
   ·simp only[mu_ptA];omega
   ·simp only[res_ptA,t1,e]
   ·rw[hc];rfl
 ·left;intro R;rw[if_neg (by omega)]at e;refine(hx R).trans ?_;simp only[hi,decide_false,cond_false,res_ptA,e,Int.toNat_of_nonneg (show 0≤i by omega)];rfl
def g_ptA:St→Cont→Option Fin:=gP sh_ptA (fun v=>match v with | ((a,i,j,()),(l,()))=>pre_ptA a i j l) (fun v K=>match v with | ((a,i,j,()),(l,()))=>res_ptA a i j l K)
def L_ptA:LpL:=(3,g_ptA)::L_ptL
def cx_ptA:Cx:=(cb_pt).withLoops (look L_ptA)
theorem l_ptA {L:LpL} (n:Nat) (h1:L.drop n=L_ptL) (h2:idsFree (L.take n) (loopOf Tryz.f181 0)=true):LoopsTo g_ptA (cb_pt) (loopOf Tryz.f181 0) 3 L :=
 with_drop h1 h2 (gP_ok (fun v=>match v with | ((a,i,j,()),(l,()))=>mu_ptA a i j l) fun v K hI=>by
  obtain⟨⟨a,i,j,⟨⟩⟩,⟨l,⟨⟩⟩⟩:=v;exact(r_ptA a i j l K hI).imp id fun⟨a',i',j',l',h⟩=>⟨((a',i',j',()),(l',())),h⟩)
theorem x_ptB (l:List Int) (a i j:Int) (R:St→Option Fin) (K:Cont):evC cx_ptA (loopOf Tryz.f181 1) ⟨[(0, .d (.one (.own 0))),(1,vI a),(10,vI i),(11,vI j)],[(0,some (.lis 5 TU8 l))]⟩ (onward (headAt cx_ptA 5) R K)=(
need (bif decide (decide (i≤j)=true)then inb j l.length else true) <|
need (bif decide (decide (i≤j)=true)then inb a l.length else true) <|
branch (bif decide (i≤j)then pGe l a.toNat (l.getD j.toNat 0)else false) (R ⟨[(0, .d (.one (.own 0))),(1,vI a),(10,vI i),(11,vI (W64 (j-1)))],[(0,some (.lis 5 TU8 l))]⟩) (K (.exit 2) ⟨[(0, .d (.one (.own 0))),(1,vI a),(10,vI i),(11,vI j)],[(0,some (.lis 5 TU8 l))]⟩)):=by kernel_rfl
def cx0_ptB:Cx:=(cb_pt).withLoops (look L_ptA)
def sh_ptB:Sh:=([(0, .own 0),(1, .d TI64),(10, .d TI64),(11, .d TI64)],[(0, .lis 5 TU8)])
abbrev st_ptB (a i j:Int) (l:List (Int)):St:=⟨[(0, .d (.one (.own 0))),(1,vI a),(10,vI i),(11,vI j)],[(0,some (.lis 5 TU8 l))]⟩
def pre_ptB (a i j:Int) (l:List (Int)):Bool:=scP a i j l
def res_ptB (a i j:Int) (l:List (Int)) (K:Cont):Option Fin:=K (.exit 2) ⟨[(0, .d (.one (.own 0))),(1,vI a),(10,vI i),(11,vI (dnN (pGe l a.toNat) l i.toNat j.toNat:Nat))],[(0,some (.lis 5 TU8 l))]⟩
def mu_ptB (_a i j:Int) (_l:List (Int)):Nat:=(j+1-i).toNat
theorem r_ptB (a i j:Int) (l:List (Int)) (K:Cont) (hI:pre_ptB a i j l=true):(∀R:St→Option Fin,evC cx0_ptB (loopOf Tryz.f181 1) (st_ptB a i j l) (onward (headAt cx0_ptB 5) R K)=res_ptB a i j l K) ∨
  (∃(a' i' j':Int) (l':List (Int)),pre_ptB a' i' j' l'=true∧mu_ptB a' i' j' l'<mu_ptB a i j l∧res_ptB a' i' j' l' K=res_ptB a i j l K∧∀R:St→Option Fin,evC cx0_ptB (loopOf Tryz.f181 1) (st_ptB a i j l) (onward (headAt cx0_ptB 5) R K)=R (st_ptB a' i' j' l')):=by
 have hx:=fun R=>x_ptB l a i j R K;obtain⟨h0,h1,h2,h3,h4,h5⟩:=scP_iff.1 (show scP a i j l=true from hI);have e:=dnN_eq (pGe l a.toNat) l (i:=i.toNat) (by omega) j.toNat
 by_cases hi:i≤j
 ·have w1:W64 (j-1)=j-1:=wrap_small (by omega) (by omega);have t1:(j-1).toNat=j.toNat-1:=by omega
  have ba:inb a l.length=true:=inb_ok (by omega) (by omega);have bi:inb j l.length=true:=inb_ok (by omega) (by omega);simp only[hi,decide_true,ba,bi,Bool.cond_self,cond_true,w1]at hx
  cases hc:pGe l a.toNat (l.getD j.toNat 0)
  ·left;intro R;rw[if_neg (by rw[hc];simp)]at e;refine(hx R).trans ?_;rw[hc];simp only[res_ptB,e,Int.toNat_of_nonneg (show 0≤j by omega)];rfl
  ·right;rw[if_pos ⟨by omega,hc⟩]at e;refine⟨a,i,j-1,l,scP_iff.2 ?_, ?_, ?_,fun R=>(hx R).trans ?_⟩
   ·omega
   ·simp only[mu_ptB];omega
   ·simp only[res_ptB,t1,e]
   ·rw[hc];rfl
 ·left;intro R;rw[if_neg (by omega)]at e;refine(hx R).trans ?_;simp only[hi,decide_false,cond_false,res_ptB,e,Int.toNat_of_nonneg (show 0≤j by omega)];rfl
def g_ptB:St→Cont→Option Fin:=gP sh_ptB (fun v=>match v with | ((a,i,j,()),(l,()))=>pre_ptB a i j l) (fun v K=>match v with | ((a,i,j,()),(l,()))=>res_ptB a i j l K)
def L_ptB:LpL:=(5,g_ptB)::L_ptA
def cx_ptB:Cx:=(cb_pt).withLoops (look L_ptB)
theorem l_ptB {L:LpL} (n:Nat) (h1:L.drop n=L_ptA) (h2:idsFree (L.take n) (loopOf Tryz.f181 1)=true):LoopsTo g_ptB (cb_pt) (loopOf Tryz.f181 1) 5 L :=
 with_drop h1 h2 (gP_ok (fun v=>match v with | ((a,i,j,()),(l,()))=>mu_ptB a i j l) fun v K hI=>by
  obtain⟨⟨a,i,j,⟨⟩⟩,⟨l,⟨⟩⟩⟩:=v;exact(r_ptB a i j l K hI).imp id fun⟨a',i',j',l',h⟩=>⟨((a',i',j',()),(l',())),h⟩)
def ptI (m:List Int) (a b:Int):Nat:=upN (pLt m a.toNat) m (W64 (b-1)).toNat (W64 (a+1)).toNat
def ptJ (m:List Int) (a b:Int):Nat:=dnN (pGe m a.toNat) m (ptI m a b) (W64 (b-1)).toNat
def ptOut (k:Nat) (q:Bool) (m:List Int):Option Fin:=some (.tup [ofD TI64 (k:Int),ofD .bool q],[(0,some (.lis 5 TU8 m))])
def ptSw (a:Int) (k:Nat) (q:Bool) (m:List Int):Option Fin:=need (inb a m.length) <| need (inb (k:Int) m.length) <| need (inb (k:Int) m.length) <| need (inb a (m.set k (m.getD a.toNat 0)).length) <| ptOut k q (swL m k a.toNat)
def ptRest (a b:Int) (m:List Int):Option Fin :=
 need (pre_ptA a (W64 (a+1)) (W64 (b-1)) m) <| need (pre_ptB a (ptI m a b:Nat) (W64 (b-1)) m) <|
 branch (decide (((ptJ m a b:Nat):Int)<(ptI m a b:Nat))) (ptSw a (ptJ m a b) true m) <|
 need (inb (ptJ m a b:Nat) m.length) <| need (inb (ptI m a b:Nat) m.length) <| need (inb (ptI m a b:Nat) m.length) <| need (inb (ptJ m a b:Nat) (m.set (ptI m a b) (m.getD (ptJ m a b) 0)).length) <|
 need (pre_ptL a (W64 ((ptI m a b:Nat)+1)) (W64 ((ptJ m a b:Nat)-1)) (swL m (ptI m a b) (ptJ m a b))) <|
 ptSw a (ptE (swL m (ptI m a b) (ptJ m a b)) a.toNat (W64 ((ptI m a b:Nat)+1)).toNat (W64 ((ptJ m a b:Nat)-1)).toNat).1 false (ptE (swL m (ptI m a b) (ptJ m a b)) a.toNat (W64 ((ptI m a b:Nat)+1)).toNat (W64 ((ptJ m a b:Nat)-1)).toNat).2
theorem y_part (l:List Int) (a b p:Int):evFn cx_ptB Tryz.f181 false [.one (.own 0),ofD TI64 a,ofD TI64 b,ofD TI64 p] [.lis 5 TU8 l]=(
need (inb p l.length) <| need (inb a l.length) <| need (inb a l.length) <| need (inb p (l.set a.toNat (l.getD p.toNat 0)).length) <| ptRest a b (swL l a.toNat p.toNat)):=by kernel_rfl
def parR (l:List Int) (a b p:Int):Nat×List Int:=ptE (swL l a.toNat p.toNat) a.toNat (a.toNat+1) (b.toNat-1)
def parN (l:List Int) (a b p:Int):Nat×Bool×List Int:=((parR l a b p).1,decide (ptJ (swL l a.toNat p.toNat) a b<ptI (swL l a.toNat p.toNat) a b),swL (parR l a b p).2 (parR l a b p).1 a.toNat)
theorem parR_ok {l:List Int} {a b p:Int} (h:parP l a b p=true):(parR l a b p).1<b.toNat∧(parR l a b p).2.length=l.length:=by
 obtain⟨h0,h1,h2,h3,h4⟩:=parP_iff.1 h;have q:=Go.Sort.partLoop_spec (lt:=ltI) a.toNat b.toNat _ (a.toNat+1) (b.toNat-1) (swL l a.toNat p.toNat).toArray (Nat.le_refl _) (by omega) (by omega) (by omega) (by show b.toNat≤(swL l a.toNat p.toNat).length;rw[swL_len];omega) (fun t g1 g2=>by omega) (fun t g1 g2=>by omega);refine⟨q.2.1, ?_⟩;have z:=q.2.2.1.1;show(Go.Sort.partLoop ltI a.toNat (a.toNat+1) (b.toNat-1) (swL l a.toNat p.toNat).toArray).2.toList.length=_;rw[Array.length_toList,z];show(swL l a.toNat p.toNat).length=_;rw[swL_len]
theorem parN_fst (l:List Int) (a b p:Int):(parN l a b p).1=(Go.Sort.partition ltI l.toArray a.toNat b.toNat p.toNat).1:=by
 rw[Go.Sort.partition_fst,sw_arr];rfl
theorem parN_lst (l:List Int) (a b p:Int):(parN l a b p).2.2=(Go.Sort.partition ltI l.toArray a.toNat b.toNat p.toNat).2.2.toList:=by
 rw[Go.Sort.partition_arr,sw_arr];show swL (parR l a b p).2 (parR l a b p).1 a.toNat=_;unfold parR ptE;rw[← sw_arr,Array.toArray_toList]
theorem s_slices_partitionOrdered_byte (l:List (Int)) (_hl:Fit (.list TU8) l) (a:Int) (_ha:Fit TI64 a) (b:Int) (_hb:Fit TI64 b) (p:Int) (_hp:Fit TI64 p) (hpre:(parP l a b p)=true):Sat Tryz.prog 181 [.one (.own 0),ofD TI64 a,ofD TI64 b,ofD TI64 p] [.lis 5 TU8 l] (.tup [ofD TI64 ((parN l a b p).1:Int),ofD .bool (parN l a b p).2.1]) [(0,some (.lis 5 TU8 ((parN l a b p).2.2)))] :=
 fn_sound (cx:=cx_ptB) Tryz.func181 rfl ttOk Γ48ok mixed (fun c hc=>LoopsOk.all (l:=[(3,loopOf Tryz.f181 0),(5,loopOf Tryz.f181 1),(1000013,loopOf Tryz.f181 2),(13,loopOf Tryz.f181 3),(15,loopOf Tryz.f181 4)]) (by cases hc;kernel_rfl) ⟨atLoop rfl (l_ptA 2 rfl (by kernel_rfl)),atLoop rfl (l_ptB 1 rfl (by kernel_rfl)),atLoop rfl (l_ptL 3 rfl (by kernel_rfl)),atLoop rfl (l_ptUp 5 rfl (by kernel_rfl)),atLoop rfl (l_ptDn 4 rfl (by kernel_rfl)),trivial⟩) (ro:=false) (by
  obtain⟨h0,h1,h2,h3,h4⟩:=parP_iff.1 hpre;obtain⟨q1,q2⟩:=parR_ok hpre;have w1:W64 (a+1)=a+1:=wrap_small (by omega) (by omega);have w2:W64 (b-1)=b-1:=wrap_small (by omega) (by omega);have b1:inb a l.length=true:=inb_ok (by omega) (by omega);have b2:inb p l.length=true:=inb_ok (by omega) (by omega);rw[y_part,length_set,b1,b2];show ptRest a b (swL l a.toNat p.toNat)=_;have hm:(swL l a.toNat p.toNat).length=l.length:=swL_len _ _ _;unfold parN parR at *
  generalize swL l a.toNat p.toNat=m at *
  have eI:ptI m a b=upN (pLt m a.toNat) m (b.toNat-1) (a.toNat+1):=by unfold ptI;rw[w1,w2,show (a+1).toNat=a.toNat+1 by omega,show (b-1).toNat=b.toNat-1 by omega]
  have eJ:ptJ m a b=pt2 m a.toNat (a.toNat+1) (b.toNat-1):=by unfold ptJ;rw[eI,w2,show (b-1).toNat=b.toNat-1 by omega]
  have eE:=ptE_eq m a.toNat (a.toNat+1) (b.toNat-1);rw[← eI,← eJ]at eE;have u1:a.toNat+1≤ptI m a b:=by rw[eI];exact upN_ge _ _ _ _
  have d1:ptJ m a b≤b.toNat-1:=by rw[eJ];exact dnN_le _ _ _ _
  have hA:pre_ptA a (a+1) (b-1) m=true:=scP_iff.2 (by omega);have hB:pre_ptB a (ptI m a b:Nat) (b-1) m=true:=scP_iff.2 (by omega);unfold ptRest;rw[w1,w2,hA,hB]
  generalize ptI m a b=I at *
  generalize ptJ m a b=J at *
  have sw:∀(k:Nat) (q:Bool) (n:List Int),k<b.toNat→n.length=l.length→ptSw a k q n=ptOut k q (swL n k a.toNat):=fun k q n g1 g2=>by
   unfold ptSw;rw[length_set,inb_ok h0 (by omega),inb_ok (by omega) (by omega)];rfl
  by_cases hc:J<I
  ·rw[if_pos hc]at eE;rw[zT (by omega:(J:Int)<I),zT hc,eE];show ptSw a J true m=_;rw[sw J true m (by omega) hm];rfl
  ·rw[if_neg hc]at eE;have w3:W64 ((I:Int)+1)=(I:Int)+1:=wrap_small (by omega) (by omega);have w4:W64 ((J:Int)-1)=(J:Int)-1:=wrap_small (by omega) (by omega);have hL:pre_ptL a ((I:Int)+1) ((J:Int)-1) (swL m I J)=true:=scP_iff.2 (by rw[swL_len];omega);rw[zF (by omega:¬(J:Int)<I),zF hc,length_set,inb_ok (by omega:(0:Int)≤J) (by omega:(J:Int)<m.length),inb_ok (by omega:(0:Int)≤I) (by omega:(I:Int)<m.length),w3,w4,hL,show ((I:Int)+1).toNat=I+1 by omega,show ((J:Int)-1).toNat=J-1 by omega,← eE];show ptSw a _ false _=_;rw[sw _ false _ q1 q2];rfl)
def c_slices_partitionOrdered_byte:Con:=conL 5 TU8 [TI64,TI64,TI64] fun(l:List (Int)) (a:Int) (b:Int) (p:Int)=>(some (parP l a b p), .tup [ofD TI64 ((parN l a b p).1:Int),ofD .bool (parN l a b p).2.1],(parN l a b p).2.2)
theorem k_slices_partitionOrdered_byte:ConOk Tryz.prog 181 c_slices_partitionOrdered_byte:=conL_ok rfl Tryz.call181 fun l hl a ha b hb p hp hqq=>s_slices_partitionOrdered_byte l hl a ha b hb p hp (pre_of hqq)
def Γ49:GL:=(181,c_slices_partitionOrdered_byte)::Γ48
theorem Γ49ok:GO Γ49 := .cons k_slices_partitionOrdered_byte Γ48ok
set_option maxHeartbeats 1000000
def belB (l:List Int) (a b:Int):Bool:=@decide (Go.Sort.Below ltI a.toNat b.toNat l.toArray) (Classical.propDecidable _)
def pdP (n:Nat) (l:List Int) (a b lim:Int):Bool:=decide (0≤a)&&(decide (a≤b)&&(decide (b≤(length l:Int))&&(Nat.ble (length l) 1000000&&(decide (b-a<50)&&(decide (b-a<(n:Int))&&(decide (0≤lim)&&(decide (lim≤1000)&&belB l a b)))))))
theorem pdP_iff {n:Nat} {l:List Int} {a b lim:Int}:pdP n l a b lim=true↔0≤a∧a≤b∧b≤(l.length:Int)∧l.length≤1000000∧b-a<50∧b-a<(n:Int)∧0≤lim∧lim≤1000∧Go.Sort.Below ltI a.toNat b.toNat l.toArray:=by
 unfold pdP belB;simp only[andd,dec_iff,ble_iff,@decide_eq_true_iff _ (Classical.propDecidable _)]
def c_pdq (n:Nat):Con:=conL 5 TU8 [TI64,TI64,TI64] fun(l:List Int) (a b lim:Int)=>(some (pdP n l a b lim), .tup [],srt a.toNat b.toNat l)
def Γp (n:Nat):List (Nat×Con):=(156,c_pdq n)::Γ49
def cb_pdq (n:Nat):Cx:=cxOf (Γp n) Tryz.f156.ntmps [(2,[0,1,2,3,8,9])] [(0,[]),(1,[0,1,2,3,8,9]),(1000000,[])] [] []
abbrev insP (l:List Int) (a b:Int):Bool:=decide (0≤a)&&(decide (a≤1000000)&&(decide (b≤(length l:Int))&&Nat.ble (length l) 1000000))
abbrev heaP (l:List Int) (a b:Int):Bool:=decide (0≤a)&&(decide (a≤b)&&(decide (b≤(length l:Int))&&Nat.ble (length l) 1000000))
abbrev revP (l:List Int) (a b:Int):Bool:=decide (0≤a)&&(decide (a<b)&&(decide (b≤(length l:Int))&&Nat.ble (length l) 1000000))
abbrev revV (l:List Int) (a b:Int):List Int:=onL (fun d=>Go.Sort.reverseRange d a.toNat b.toNat) l
abbrev stP (a b lim:Int) (wb wp:Bool) (l:List Int):St:=⟨[(0, .d (.one (.own 0))),(1,vI a),(2,vI b),(3,vI lim),(8,vB wb),(9,vB wp)],[(0,some (.lis 5 TU8 l))]⟩
abbrev endP (l:List Int):St:=⟨[],[(0,some (.lis 5 TU8 l))]⟩
def pd3 (n:Nat) (l:List Int) (a b lim pv:Int) (wb wp:Bool) (len:Int) (R:St→Option Fin):Option Fin :=
 need (bif decide (decide (0<a)=true)then inb (W64 (a-1)) l.length else true) <|
 need (bif decide (decide (0<a)=true)then inb pv l.length else true) <|
 branch (bif decide (0<a)then !ltI (l.getD (W64 (a-1)).toNat 0) (l.getD pv.toNat 0)else false)
  (need (parP l a b pv) <| R (stP (parE l a b pv).1 b lim wb wp (parE l a b pv).2))
  (need (parP l a b pv) <|
   branch (decide (W64 ((parN l a b pv).1-a)<W64 (b-(parN l a b pv).1)))
    (need (pdP n (parN l a b pv).2.2 a (parN l a b pv).1 lim) <| R (stP (W64 ((parN l a b pv).1+1)) b lim (decide (W64 (len.tdiv 8)≤W64 ((parN l a b pv).1-a))) (parN l a b pv).2.1 (srt a.toNat ((parN l a b pv).1:Int).toNat (parN l a b pv).2.2)))
    (need (pdP n (parN l a b pv).2.2 (W64 ((parN l a b pv).1+1)) b lim) <| R (stP a (parN l a b pv).1 lim (decide (W64 (len.tdiv 8)≤W64 (b-(parN l a b pv).1))) (parN l a b pv).2.1 (srt (W64 ((parN l a b pv).1+1)).toNat b.toNat (parN l a b pv).2.2))))
def pd2 (n:Nat) (l:List Int) (a b lim pv hint:Int) (wb wp:Bool) (len:Int) (R:St→Option Fin) (K:Cont):Option Fin :=
 branch (bif (bif wb then wp else false)then decide (hint=1)else false)
  (need (brkP l a b) <| branch (isSrt l a b) (K .ret (endP l)) (pd3 n l a b lim pv wb wp len R)) (pd3 n l a b lim pv wb wp len R)
def pd1 (n:Nat) (l:List Int) (a b lim:Int) (wb wp:Bool) (len:Int) (R:St→Option Fin) (K:Cont):Option Fin :=
 need (brkP l a b) <| branch (decide (hintV (chM l a b).2=2))
  (need (revP l a b) <| pd2 n (revV l a b) a b lim (W64 (W64 (b-1)-W64 ((chM l a b).1-a))) 1 wb wp len R K)
  (pd2 n l a b lim (chM l a b).1 (hintV (chM l a b).2) wb wp len R K)
theorem x_pdq (n:Nat) (l:List Int) (a b lim:Int) (wb wp:Bool) (R:St→Option Fin) (K:Cont):evC ((cb_pdq n).withLoops (look [])) (loopOf Tryz.f156 0) (stP a b lim wb wp l) (onward (headAt ((cb_pdq n).withLoops (look [])) 2) R K)=(
 branch (decide (W64 (b-a)≤12)) (need (insP l a b) <| K .ret (endP (srt a.toNat b.toNat l))) <|
 branch (decide (lim=0)) (need (heaP l a b) <| K .ret (endP (srt a.toNat b.toNat l))) <|
 branch (!wb) (need (brkP l a b) <| pd1 n (brkV l a b) a b (W64 (lim-1)) wb wp (W64 (b-a)) R K) (pd1 n l a b lim wb wp (W64 (b-a)) R K)):=by kernel_rfl
theorem srt_spec {x y:Nat} {l:List Int} (h1:x≤y) (h2:y≤l.length):Go.Sort.PermIn x y l.toArray (srt x y l).toArray∧Go.Sort.SortedIn ltI x y (srt x y l).toArray:=by
 rw[onL_arr];exact Go.Sort.insertionSort_holds swo l.toArray x y h1 h2
theorem srt_perm {x y:Nat} {l m:List Int} (h1:x≤y) (h2:y≤l.length) (h:permL x y l m):srt x y m=srt x y l:=by
 have hm:y≤m.length:=by rw[permL_len h];exact h2
 obtain⟨q1,q2⟩:=srt_spec h1 hm;exact(show (srt x y m).toArray.toList=srt x y l from srt_of h1 h2 (Go.Sort.permIn_trans _ _ _ _ _ h q1) q2)
theorem srt_len' {x y:Nat} {l:List Int} (h1:x≤y) (h2:y≤l.length):(srt x y l).length=l.length:=(srt_spec h1 h2).1.1
structure PdH (n:Nat) (x y:Nat) (lim:Int) (l0 l:List Int):Prop where
 h1:x+12<y
 h2:y<x+50
 h3:y-x<n+1
 h4:y≤l0.length
 h5:l0.length≤1000000
 h6:0≤lim
 h7:lim≤1000
 bel:Go.Sort.Below ltI x y l.toArray
 per:permL x y l0 l
theorem PdH.len {n x y:Nat} {lim:Int} {l0 l:List Int} (h:PdH n x y lim l0 l):l.length=l0.length:=permL_len h.per
theorem PdH.step {n x y:Nat} {lim lim':Int} {l0 l m:List Int} (h:PdH n x y lim l0 l) (g:permL x y l m) (h6:0≤lim') (h7:lim'≤1000):PdH n x y lim' l0 m :=
 ⟨h.h1,h.h2,h.h3,h.h4,h.h5,h6,h7,h.bel.perm (by show y≤l.length;rw[h.len];exact h.h4) g,permL_trans h.per g⟩
def PdG (n x y:Nat) (l0:List Int) (K:Cont) (f:(St→Option Fin)→Option Fin):Prop :=
 (∀R,f R=K .ret (endP (srt x y l0))) ∨
 ∃(a' b' lim':Int) (wb' wp':Bool) (l':List Int),pdP (n+1) l' a' b' lim'=true∧(b'-a').toNat<y-x∧srt a'.toNat b'.toNat l'=srt x y l0∧∀R,f R=R (stP a' b' lim' wb' wp' l')
theorem pd3_ok {n x y p:Nat} {lim len:Int} {l0 l:List Int} (h:PdH n x y lim l0 l) (hp1:x≤p) (hp2:p<y) (wb wp:Bool) (K:Cont):PdG n x y l0 K fun R=>pd3 n l x y lim p wb wp len R:=by
 have hl:=h.len;have hb:y≤l.toArray.size:=by show y≤l.length;rw[hl];exact h.h4
 have hlen:y≤l.length:=hb;have k1:=h.h1;have k2:=h.h2;have k3:=h.h3;have k5:=h.h5;have k6:=h.h6;have k7:=h.h7;have w1:W64 ((x:Int)-1)=(x:Int)-1:=wrap_small (by omega) (by omega);have hP:parP l x y p=true:=parP_iff.2 (by omega);have i1:(bif decide (decide ((0:Int)<x)=true)then inb ((x:Int)-1) l.length else true)=true:=by
  by_cases g:(0:Int)<x
  ·rw[zT g,inb_ok (by omega) (by omega)];rfl
  ·rw[zF g];rfl
 have i2:(bif decide (decide ((0:Int)<x)=true)then inb (p:Int) l.length else true)=true:=by
  rw[inb_ok (by omega) (by omega)];cases decide (decide ((0:Int)<x)=true)<;>rfl
 have hz:srt x y l=srt x y l0:=srt_perm (by omega) h.h4 h.per
 cases hc:(bif decide ((0:Int)<x)then !ltI (l.getD ((x:Int)-1).toNat 0) (l.getD (p:Int).toNat 0)else false)
 ·right;obtain⟨mid,ap,d4,hx⟩:∃mid ap d4,Go.Sort.partition ltI l.toArray x y p=(mid,ap,d4):=⟨_,_,_,rfl⟩;obtain⟨g1,g2,g3,gA,gB,gL,gR⟩:=Go.Sort.round_part swo (Go.Sort.partition_holds ltI) hp1 hp2 hb h.bel hx;have e1:(parN l x y p).1=mid:=by rw[parN_fst];simp only[Int.toNat_natCast];rw[hx]
  have e2:(parN l x y p).2.2=d4.toList:=by rw[parN_lst];simp only[Int.toNat_natCast];rw[hx]
  have g3':d4.toList.length=l.length:=g3;have w2:W64 ((mid:Int)+1)=(mid:Int)+1:=wrap_small (by omega) (by omega)
  by_cases hlr:W64 ((mid:Int)-x)<W64 ((y:Int)-mid)
  ·obtain ⟨s1,s2⟩:=srt_spec (l:=d4.toList) g1 (by omega);obtain⟨t1,t2⟩:=gL _ s1 s2;have sl:=srt_len' (l:=d4.toList) g1 (by omega);have hq:pdP n d4.toList x mid lim=true:=pdP_iff.2 ⟨by omega,by omega,by omega,by omega,by omega,by omega,k6,k7,gA⟩;obtain⟨u1,u2⟩:=srt_spec (x:=mid+1) (y:=y) (l:=srt x mid d4.toList) (by omega) (by omega);obtain⟨v1,v2⟩:=t2 _ u1 u2;refine⟨(mid:Int)+1,y,lim,decide (W64 (len.tdiv 8)≤W64 ((mid:Int)-x)),(parN l x y p).2.1,srt x mid d4.toList,pdP_iff.2 ⟨by omega,by omega,by omega,by omega,by omega,by omega,k6,k7, ?_⟩,by omega, ?_,fun R => ?_⟩
   ·rw[show ((mid:Int)+1).toNat=mid+1 by omega];exact t1
   ·rw[show ((mid:Int)+1).toNat=mid+1 by omega,Int.toNat_natCast,← hz];exact srt_of (d':=(srt (mid+1) y (srt x mid d4.toList)).toArray) (by omega) hlen v1 v2
   ·unfold pd3;rw[w1,i1,i2,hc,hP,e1,e2,w2,zT hlr];simp only[Int.toNat_natCast];rw[hq];rfl
  ·obtain ⟨s1,s2⟩:=srt_spec (x:=mid+1) (y:=y) (l:=d4.toList) (by omega) (by omega);obtain⟨t1,t2⟩:=gR _ s1 s2;have sl:=srt_len' (x:=mid+1) (y:=y) (l:=d4.toList) (by omega) (by omega);have hq:pdP n d4.toList ((mid:Int)+1) y lim=true:=pdP_iff.2 ⟨by omega,by omega,by omega,by omega,by omega,by omega,k6,k7,by rw[show ((mid:Int)+1).toNat=mid+1 by omega];exact gB⟩;obtain⟨u1,u2⟩:=srt_spec (x:=x) (y:=mid) (l:=srt (mid+1) y d4.toList) (by omega) (by omega);obtain⟨v1,v2⟩:=t2 _ u1 u2;refine⟨x,mid,lim,decide (W64 (len.tdiv 8)≤W64 ((y:Int)-mid)),(parN l x y p).2.1,srt (mid+1) y d4.toList,pdP_iff.2 ⟨by omega,by omega,by omega,by omega,by omega,by omega,k6,k7,t1⟩,by omega, ?_,fun R => ?_⟩
   ·rw[Int.toNat_natCast,Int.toNat_natCast,← hz];exact srt_of (d':=(srt x mid (srt (mid+1) y d4.toList)).toArray) (by omega) hlen v1 v2
   ·unfold pd3;rw[w1,i1,i2,hc,hP,e1,e2,w2,zF hlr,hq,show ((mid:Int)+1).toNat=mid+1 by omega];simp only[Int.toNat_natCast];rfl
 ·right;have hx0:(0:Int)<x:=by
   by_cases g:(0:Int)<x
   ·exact g
   ·rw[zF g]at hc;cases hc
  have hnl:ltI l.toArray[x-1]! l.toArray[p]! = false:=by
   rw[zT hx0,show ((x:Int)-1).toNat=x-1 by omega,Int.toNat_natCast]at hc;rw[at_arr,at_arr]
   simpa using hc
  obtain⟨mid,d4,hx⟩:∃mid d4,Go.Sort.partitionEqual ltI l.toArray x y p=(mid,d4):=⟨_,_,rfl⟩;obtain⟨g1,g2,g3,gB,gF⟩:=Go.Sort.round_eq swo (Go.Sort.partitionEqual_holds ltI) (by omega) hp1 hp2 hb h.bel hnl hx;have e:parE l x y p=(mid,d4.toList):=by unfold parE;simp only[Int.toNat_natCast];rw[hx]
  have g3':d4.toList.length=l.length:=g3;obtain⟨u1,u2⟩:=srt_spec (x:=mid) (y:=y) (l:=d4.toList) (by omega) (by omega);obtain⟨v1,v2⟩:=gF _ u1 u2;refine⟨mid,y,lim,wb,wp,d4.toList,pdP_iff.2 ⟨by omega,by omega,by omega,by omega,by omega,by omega,k6,k7,gB⟩,by omega, ?_,fun R => ?_⟩
  ·rw[Int.toNat_natCast,Int.toNat_natCast,← hz];exact srt_of (d':=(srt mid y d4.toList).toArray) (by omega) hlen v1 v2
  ·unfold pd3;rw[w1,i1,i2,hc,hP,e];rfl
theorem PdH.brk {n x y:Nat} {lim:Int} {l0 l:List Int} (h:PdH n x y lim l0 l):brkP l x y=true:=by
 have hl:=h.len;have k1:=h.h1;have k2:=h.h2;have k4:=h.h4;have k5:=h.h5;unfold brkP;simp only[andd,dec_iff,ble_iff];omega
theorem pd2_ok {n x y:Nat} {lim len pv hint:Int} {l0 l:List Int} (h:PdH n x y lim l0 l) (hp1:(x:Int)≤pv) (hp2:pv<(y:Int)) (wb wp:Bool) (K:Cont):PdG n x y l0 K fun R=>pd2 n l x y lim pv hint wb wp len R K:=by
 obtain⟨p,rfl⟩:=Int.eq_ofNat_of_zero_le (show 0≤pv by omega);have key:=pd3_ok (len:=len) h (p:=p) (by omega) (by omega) wb wp K;unfold pd2
 cases (bif (bif wb then wp else false)then decide (hint=1)else false)
 ·exact key
 ·cases hs:isSrt l x y
  ·rcases key with key | ⟨a',b',lim',wb',wp',l',q1,q2,q3,q4⟩
   ·exact .inl fun R=>by show need (brkP l x y) _=_;rw[h.brk];exact key R
   ·exact .inr ⟨a',b',lim',wb',wp',l',q1,q2,q3,fun R=>by show need (brkP l x y) _=_;rw[h.brk];exact q4 R⟩
  ·left;intro R;have k1:=h.h1;have hl:=h.len;have k4:=h.h4;have hs':(scanN l y (x+1):Int)=y:=by
    unfold isSrt at hs
    simpa using hs
   have sp:=Go.Sort.scanSorted_spec swo x y l.toArray _ (x+1) rfl (by omega) (fun i j g1 g2 g3=>by omega);have hso:Go.Sort.SortedIn ltI x y l.toArray:=by
    have:Go.Sort.scanSorted ltI l.toArray y (x+1)=y:=by exact_mod_cast hs'
    rw[this]at sp;exact sp.2.2
   have e:l=srt x y l:=srt_of (d':=l.toArray) (by omega) (by omega) (Go.Sort.permIn_refl _ _ _) hso;have e2:srt x y l=srt x y l0:=srt_perm (by omega) h.h4 h.per;show need (brkP l x y) _=_;rw[h.brk,← e2,← e];rfl
theorem chM_in {n x y:Nat} {lim:Int} {l0 l:List Int} (h:PdH n x y lim l0 l):(x:Int)≤(chM l x y).1∧(chM l x y).1<(y:Int):=by
 have k1:=h.h1;have k4:=h.h4;have k5:=h.h5;have q:∀k:Int,0≤k→k≤3→(x:Int)≤chI x y k∧chI x y k<(y:Int):=fun k g1 g2=>by
  obtain⟨_,g3,g4⟩:=chI_eq (a:=(x:Int)) (b:=(y:Int)) (by omega) (by omega) (by omega) g1 g2;exact⟨g3,g4 (by omega)⟩
 exact med_in l _ _ _ 0 (fun z=>(x:Int)≤z∧z<(y:Int)) (q 1 (by omega) (by omega)) (q 2 (by omega) (by omega)) (q 3 (by omega) (by omega))
theorem pd1_ok {n x y:Nat} {lim len:Int} {l0 l:List Int} (h:PdH n x y lim l0 l) (wb wp:Bool) (K:Cont):PdG n x y l0 K fun R=>pd1 n l x y lim wb wp len R K:=by
 have hl:=h.len;have k1:=h.h1;have k2:=h.h2;have k4:=h.h4;have k5:=h.h5;obtain⟨c1,c2⟩:=chM_in h;have hr:revP l x y=true:=by
  show(decide (0≤(x:Int))&&(decide ((x:Int)<y)&&(decide ((y:Int)≤(length l:Int))&&Nat.ble (length l) 1000000)))=true;simp only[andd,dec_iff,ble_iff];omega
 have hrev:permL x y l (revV l x y):=by
  show Go.Sort.PermIn x y l.toArray (onL (fun d=>Go.Sort.reverseRange d (x:Int).toNat (y:Int).toNat) l).toArray;rw[onL_arr,Int.toNat_natCast,Int.toNat_natCast];exact Go.Sort.reverseRange_holds _ _ _ (by omega) (by show y≤l.length;omega)
 unfold pd1;simp only[h.brk,hr]
 generalize (chM l x y).1=p at *
 generalize hintV (chM l x y).2=t
 have w1:W64 ((y:Int)-1)=(y:Int)-1:=wrap_small (by omega) (by omega);have w2:W64 (p-x)=p-x:=wrap_small (by omega) (by omega);have w3:W64 ((y:Int)-1-(p-x))=(y:Int)-1-(p-x):=wrap_small (by omega) (by omega);rw[w1,w2,w3]
 by_cases hc:t=2
 ·rw[zT hc];exact pd2_ok (h.step hrev h.h6 h.h7) (by omega) (by omega) wb wp K
 ·rw[zF hc];exact pd2_ok h (by omega) (by omega) wb wp K
theorem r_pdq (n:Nat) (a b lim:Int) (wb wp:Bool) (l:List Int) (K:Cont) (hI:pdP (n+1) l a b lim=true) :
  (∀R,evC ((cb_pdq n).withLoops (look [])) (loopOf Tryz.f156 0) (stP a b lim wb wp l) (onward (headAt ((cb_pdq n).withLoops (look [])) 2) R K)=K .ret (endP (srt a.toNat b.toNat l))) ∨
  ∃(a' b' lim':Int) (wb' wp':Bool) (l':List Int),pdP (n+1) l' a' b' lim'=true∧(b'-a').toNat<(b-a).toNat∧K .ret (endP (srt a'.toNat b'.toNat l'))=K .ret (endP (srt a.toNat b.toNat l)) ∧
   ∀R,evC ((cb_pdq n).withLoops (look [])) (loopOf Tryz.f156 0) (stP a b lim wb wp l) (onward (headAt ((cb_pdq n).withLoops (look [])) 2) R K)=R (stP a' b' lim' wb' wp' l'):=by
 obtain⟨h0,h1,h2,h3,h4,h5,h6,h7,h8⟩:=pdP_iff.1 hI;obtain⟨x,rfl⟩:=Int.eq_ofNat_of_zero_le h0;obtain⟨y,rfl⟩:=Int.eq_ofNat_of_zero_le (Int.le_trans h0 h1);have hx:=fun R=>x_pdq n l x y lim wb wp R K;simp only[Int.toNat_natCast]at h8 hx ⊢;have w:W64 ((y:Int)-x)=(y:Int)-x:=wrap_small (by omega) (by omega);have hi:insP l x y=true:=by
  show(decide (0≤(x:Int))&&(decide ((x:Int)≤1000000)&&(decide ((y:Int)≤(length l:Int))&&Nat.ble (length l) 1000000)))=true;simp only[andd,dec_iff,ble_iff];omega
 have hh:heaP l x y=true:=by
  show(decide (0≤(x:Int))&&(decide ((x:Int)≤y)&&(decide ((y:Int)≤(length l:Int))&&Nat.ble (length l) 1000000)))=true;simp only[andd,dec_iff,ble_iff];omega
 rw[w,hi,hh]at hx
 by_cases c1:(y:Int)-x≤12
 ·left;intro R;refine(hx R).trans ?_;rw[zT c1];rfl
 ·simp only[zF c1,branch_false]at hx
  by_cases c2:lim=0
  ·left;intro R;refine(hx R).trans ?_;rw[zT c2];rfl
  ·simp only[zF c2,branch_false]at hx;have H:PdH n x y lim l l:=⟨by omega,by omega,by omega,by omega,h3,h6,h7,h8,permL_refl _ _ _⟩;have G:∃f,PdG n x y l K f∧∀R,evC ((cb_pdq n).withLoops (look [])) (loopOf Tryz.f156 0) (stP x y lim wb wp l) (onward (headAt ((cb_pdq n).withLoops (look [])) 2) R K)=f R:=by
    cases wb
    ·have hb:=brk_perm H.brk;simp only[Int.toNat_natCast]at hb;have w2:W64 (lim-1)=lim-1:=wrap_small (by omega) (by omega);refine⟨_,pd1_ok (lim:=lim-1) (len:=(y:Int)-x) (H.step hb (by omega) (by omega)) false wp K,fun R=>(hx R).trans ?_⟩;rw[H.brk,w2];rfl
    ·exact ⟨_,pd1_ok (len:=(y:Int)-x) H true wp K,fun R=>(hx R).trans rfl⟩
   obtain⟨f,G,hf⟩:=G;rcases G with G | ⟨a',b',lim',wb',wp',l',q1,q2,q3,q4⟩
   ·exact .inl fun R=>(hf R).trans (G R)
   ·exact .inr ⟨a',b',lim',wb',wp',l',q1,by omega,by rw[q3],fun R=>(hf R).trans (q4 R)⟩
def sh_pdq:Sh:=([(0, .own 0),(1, .d TI64),(2, .d TI64),(3, .d TI64),(8, .d .bool),(9, .d .bool)],[(0, .lis 5 TU8)])
def g_pdq (n:Nat):St→Cont→Option Fin:=gP sh_pdq (fun v=>match v with | ((a,b,lim,_wb,_wp,()),(l,()))=>pdP (n+1) l a b lim) (fun v K=>match v with | ((a,b,_lim,_wb,_wp,()),(l,()))=>K .ret (endP (srt (Int.toNat a) (Int.toNat b) l)))
def L_pdq (n:Nat):List (Nat×(St→Cont→Option Fin)):=(2,g_pdq n)::[]
def cx_pdq (n:Nat):Cx:=(cb_pdq n).withLoops (look (L_pdq n))
theorem l_pdq (n:Nat):∀st K r,g_pdq n st K=some r→∃N,iter (evC (cx_pdq n) (loopOf Tryz.f156 0)) (headAt (cx_pdq n) 2) N st K=some r :=
 with_drop (n:=1) (L:=L_pdq n) (m:=[]) (cb:=cb_pdq n) rfl (by kernel_rfl) (gP_ok (fun v=>match v with | ((a,b,_lim,_wb,_wp,()),(_l,()))=>((show Int from b)-(show Int from a)).toNat) fun v K hI=>by
  obtain⟨⟨(a:Int),(b:Int),(lim:Int),(wb:Bool),(wp:Bool),⟨⟩⟩,⟨(l:List Int),⟨⟩⟩⟩:=v;rcases r_pdq n a b lim wb wp l K hI with h1 | ⟨a',b',lim',wb',wp',l',h1,h2,h3,h4⟩
  ·exact .inl h1
  ·exact .inr ⟨((a',b',lim',wb',wp',()),(l',())),h1,h2,h3,h4⟩)
theorem y_pdq (n:Nat) (l:List Int) (a b lim:Int):evFn (cx_pdq n) Tryz.f156 false [.one (.own 0),ofD TI64 a,ofD TI64 b,ofD TI64 lim] [.lis 5 TU8 l]=need (pdP (n+1) l a b lim) (some (.tup [],[(0,some (.lis 5 TU8 (srt a.toNat b.toNat l)))])):=by kernel_rfl
theorem k_pdq:∀n,ConOk Tryz.prog 156 (c_pdq n)
 |0=>conL_ok rfl Tryz.call156 fun l hl a ha b hb lim hlim hqq=>by
  obtain⟨_,h1,_,_,_,h5,_⟩:=pdP_iff.1 (pre_of hqq);omega
 |n+1=>conL_ok rfl Tryz.call156 fun l hl a ha b hb lim hlim hqq =>
  fn_sound (cx:=cx_pdq n) Tryz.func156 rfl ttOk (.cons (k_pdq n) Γ49ok) mixed (fun c hc=>LoopsOk.all (l:=[(2,loopOf Tryz.f156 0)]) (by cases hc;kernel_rfl) ⟨atLoop rfl (l_pdq n),trivial⟩) (ro:=false) (by
   have hp:pdP (n+1) l a b lim=true:=pre_of hqq;exact(y_pdq n l a b lim).trans (by rw[hp];rfl))
def c_slices_pdqsortOrdered_byte:Con:=c_pdq 50
theorem k_slices_pdqsortOrdered_byte:ConOk Tryz.prog 156 c_slices_pdqsortOrdered_byte:=k_pdq 50
def Γ50:GL:=(156,c_slices_pdqsortOrdered_byte)::Γ49
theorem Γ50ok:GO Γ50 := .cons k_slices_pdqsortOrdered_byte Γ49ok
theorem y_slices_Sort_byte_byte (l:List Int) :evFn (cxOf Γ50 Tryz.f133.ntmps [] [] [] []) Tryz.f133 false [.one (.own 0)] [.lis 5 TU8 l]=(
need (decide (0≤IntKind.u64.wrap (l.length:Int))&&decide (IntKind.u64.wrap (l.length:Int)<64)) <|
need (pdP 50 l 0 ((l.length:Int)) (lenV (IntKind.u64.wrap (l.length:Int)))) <| some ((.tup []),[(0,(.some (.lis 5 TU8 (srt ((0:Int).toNat) ((l.length:Int)).toNat l))))])):=by kernel_rfl
abbrev sortL (l:List Int):List Int:=srt 0 l.length l
theorem s_slices_Sort_byte_byte (l:List (Int)) (_hl:Fit (.list TU8) l)  (hpre:(Nat.blt (length l) 50)=true):Sat Tryz.prog 133 [.one (.own 0)] [.lis 5 TU8 l] (.tup []) [(0,some (.lis 5 TU8 (sortL l)))] :=
 fn_sound (cx:=cxOf Γ50 Tryz.f133.ntmps [] [] [] []) Tryz.func133 rfl ttOk Γ50ok mixed (fun _ _=>LoopsOk.no fun _=>rfl) (ro:=false) (by
  have h:l.length<50:=Nat.le_of_ble_eq_true hpre;have w:IntKind.u64.wrap (l.length:Int)=(l.length:Int):=by simp only[IntKind.wrap,IntKind.bits,IntKind.signed];simp;omega
  have hlt:=(len_tab l.length (by omega)).1;have hb:lenV (l.length:Int)≤64:=by
   have key:∀m:_root_.Fin 64,lenV ((m:Nat):Int)≤64:=by decide +kernel
   exact key ⟨l.length,by omega⟩
  have hp:pdP 50 l 0 (l.length:Int) (lenV (l.length:Int))=true:=pdP_iff.2 ⟨by omega,by omega,by omega,by omega,by omega,by omega,by omega,by omega,Or.inl rfl⟩;rw[y_slices_Sort_byte_byte,w,zT (by omega:(0:Int)≤(l.length:Int)),zT (by omega:(l.length:Int)<64),hp];rfl)
def c_slices_Sort_byte_byte:Con:=conL 5 TU8 [] fun(l:List (Int))=>(some (Nat.blt (length l) 50), .tup [],sortL l)
theorem k_slices_Sort_byte_byte:ConOk Tryz.prog 133 c_slices_Sort_byte_byte:=conL_ok rfl Tryz.call133 fun l hl  hqq=>s_slices_Sort_byte_byte l hl  (pre_of hqq)
def Γ51:GL:=(133,c_slices_Sort_byte_byte)::Γ50
theorem Γ51ok:GO Γ51 := .cons k_slices_Sort_byte_byte Γ50ok
theorem ext_all {xs:Array Int} {n:Nat} (h:xs.size=n):xs.extract 0 n=xs:=by subst h;exact Array.extract_size
theorem sortL_perm (l:List Int):(sortL l).Perm l:=by
 obtain⟨h1,_⟩:=srt_spec (x:=0) (y:=l.length) (l:=l) (Nat.zero_le _) (Nat.le_refl _);have h:=h1.2.2;rw[ext_all (n:=l.length) h1.1,ext_all (n:=l.length) rfl]at h;exact h
theorem sortL_sorted (l:List Int):(sortL l).Pairwise (· ≤ ·):=by
 obtain⟨h1,h2⟩:=srt_spec (x:=0) (y:=l.length) (l:=l) (Nat.zero_le _) (Nat.le_refl _);have hs:(sortL l).length=l.length:=srt_len' (Nat.zero_le _) (Nat.le_refl _);rw[List.pairwise_iff_getElem];intro i j hi hj hij;have:=h2 i j (Nat.zero_le _) hij (by omega);rw[at_arr,at_arr,getD_at hi,getD_at hj]at this;have:=of_decide_eq_false this;omega
theorem sortL_len (l:List Int):(sortL l).length=l.length:=srt_len' (Nat.zero_le _) (Nat.le_refl _)
set_option maxHeartbeats 1000000
theorem sat_move {P:Program} {f:FuncId} {ds:List D} {o0:Obj} {t:TypeId} {e:Ty} {l:List (Den e)} (S:Sat P f ds [o0] (.d (.one (.own 0))) [(0,some (.lis t e l))]) :
  Sat P f ds [o0] (.d (.one (.own 1000))) [(1000,some (.lis t e l)),(0,none)]:=by
 intro w F β args H hds;refine(S w F β args H hds).mono ?_;rintro ex w' ⟨v,F',β',r1,r2,r3,r4,r5,r6⟩;have h0:look [(0,some (Obj.lis t e l))] 0=some (some (.lis t e l)):=rfl;obtain⟨H1,_⟩:=r2.kill 0;rw[setB_self]at H1;have hs1:setH (look [(0,some (Obj.lis t e l))]) 0 none 1000=none:=rfl;have hone:∀b j o',j≠1000→setH (look [(0,some (Obj.lis t e l))]) 0 none j=some (some o')→¬Blk (β' j) b:=by
  intro b j o' _ hj
  cases j with
  |zero=>cases hj
  |succ j=>cases hj
 have T:=H1.turn (w':=w') (F':=F') 1000 (some (.lis t e l)) (β' 0) rfl rfl rfl (Nat.le_refl _) (fun b=>Blk (β' 0) b)
  (fun b hb=>⟨r2.notF 0 _ b h0 hb,hone b,r2.fromO 0 _ b h0 hb⟩)
  (fun _ _ _=>rfl) (fun _ hf=>hf) (fun _ hf => .inl hf) (fun q0 _ h0=>by rw[hs1]at h0;cases h0)
  (fun _ ob hob=>by
   cases hob
   refine⟨RepO.leaf.2 ?_,fun b hb => .inl hb⟩;have:=RepO.leaf.1 (r2.obj 0 _ h0)
   simpa [setB]using this)
 have hcomm:setH (setH (look [(0,some (Obj.lis t e l))]) 0 none) 1000 (some (.lis t e l))=look [(1000,some (Obj.lis t e l)),(0,none)]:=by
  funext j
  simp only[setH,look]
  by_cases h1:j=1000
  ·subst h1;rfl
  ·by_cases h2:j=0
   ·subst h2;rfl
   ·rw[if_neg h1,if_neg h2];have e1:Nat.beq 0 j=false:=by cases h:Nat.beq 0 j with | false=>rfl | true=>exact absurd (zB h).symm h2
    have e2:Nat.beq 1000 j=false:=by cases h:Nat.beq 1000 j with | false=>rfl | true=>exact absurd (zB h).symm h1
    rw[e1,e2];rfl
 rw[hcomm]at T;have hv:v=β' 0:=r6.2.2 _ h0;refine⟨v,F',_,r1,T.1,fun i hi => ?_,fun i o hi ho => ?_,fun _ _ _=>by simp, ?_⟩
 ·have:i=0:=by simpa using hi
  subst this;exact ⟨none,rfl⟩
 ·have:i=0:=by simpa using hi
  subst this;cases ho
 ·exact ⟨r6.1,⟨_,rfl⟩,fun o ho=>by rw[hv];simp[setB]⟩
def cb_cpt:Cx:=cxOf Γ51 Tryz.f135.ntmps [(9,[0,3,4,5]),(4,[0,3])] [(0,[0]),(1,[0,3]),(2,[0,3]),(3,[0,3,4,5]),(1000000,[2])] [] []
theorem x_cptIn (l:List Int) (k j:Int) (w:Nat) (R:St→Option Fin) (K:Cont):evC (cb_cpt.withLoops (look [])) (loopOf Tryz.f135 1) ⟨[(0, .d (.one (.own 0))),(3,vI k),(4, .d (.one (.win 0 1 w))),(5,vI j)],[(0,some (.lis 5 TU8 l))]⟩ (onward (headAt (cb_cpt.withLoops (look [])) 9) R K)=(
branch (decide (j<((l.length-w:Nat):Int))) (
 need (inb j (l.length-w)) <|
 need (inb (W64 (j-1)) (l.length-w)) <|
 branch (!decide (l.getD (w+j.toNat) 0=l.getD (w+(W64 (j-1)).toNat) 0)) (
 need (inb j (l.length-w)) <|
 need (inb k l.length) <| R ⟨[(0, .d (.one (.own 0))),(3,vI (W64 (k+1))),(4, .d (.one (.win 0 1 w))),(5,vI (W64 (j+1)))],[(0,some (.lis 5 TU8 (l.set k.toNat (l.getD (w+j.toNat) 0))))]⟩)
 (R ⟨[(0, .d (.one (.own 0))),(3,vI k),(4, .d (.one (.win 0 1 w))),(5,vI (W64 (j+1)))],[(0,some (.lis 5 TU8 l))]⟩))
 (K (.exit 2) ⟨[(0, .d (.one (.own 0))),(3,vI k)],[(0,some (.lis 5 TU8 l))]⟩)):=by kernel_rfl
def cpL:Nat→List Int→Nat→Nat→List Int×Nat
 |0,l,k,_=>(l,k)
 |m+1,l,k,p=>bif decide (l.getD p 0=l.getD (p-1) 0)then cpL m l k (p+1)else cpL m (l.set k (l.getD p 0)) (k+1) (p+1)
def cx0_cptIn:Cx:=(cb_cpt).withLoops (look [])
def sh_cptIn:Sh:=([(0, .own 0),(3, .d TI64),(4, .win 0 1),(5, .d TI64)],[(0, .lis 5 TU8)])
abbrev st_cptIn (k:Int) (w:Nat) (j:Int) (l:List (Int)):St:=⟨[(0, .d (.one (.own 0))),(3,vI k),(4, .d (.one (.win 0 1 w))),(5,vI j)],[(0,some (.lis 5 TU8 l))]⟩
def pre_cptIn (k:Int) (w:Nat) (j:Int) (l:List (Int)):Bool:=decide (0≤k)&&(decide (1≤j)&&(decide (k<(w:Int)+j)&&(decide (j≤1000001)&&(Nat.ble w (length l)&&Nat.ble (length l) 1000000))))
def res_cptIn (k:Int) (w:Nat) (j:Int) (l:List (Int)) (K:Cont):Option Fin:=K (.exit 2) ⟨[(0, .d (.one (.own 0))),(3,vI ((cpL (l.length-(w+j.toNat)) l k.toNat (w+j.toNat)).2:Nat))],[(0,some (.lis 5 TU8 (cpL (l.length-(w+j.toNat)) l k.toNat (w+j.toNat)).1))]⟩
def mu_cptIn (_k:Int) (w:Nat) (j:Int) (l:List (Int)):Nat:=l.length-(w+j.toNat)
theorem r_cptIn (k:Int) (w:Nat) (j:Int) (l:List (Int)) (K:Cont) (hI:pre_cptIn k w j l=true):(∀R:St→Option Fin,evC cx0_cptIn (loopOf Tryz.f135 1) (st_cptIn k w j l) (onward (headAt cx0_cptIn 9) R K)=res_cptIn k w j l K) ∨
  (∃(k':Int) (w':Nat) (j':Int) (l':List (Int)),pre_cptIn k' w' j' l'=true∧mu_cptIn k' w' j' l'<mu_cptIn k w j l∧res_cptIn k' w' j' l' K=res_cptIn k w j l K∧∀R:St→Option Fin,evC cx0_cptIn (loopOf Tryz.f135 1) (st_cptIn k w j l) (onward (headAt cx0_cptIn 9) R K)=R (st_cptIn k' w' j' l')):=by
 have hx:=fun R=>x_cptIn l k j w R K;simp only[pre_cptIn,andd,dec_iff,ble_iff]at hI;obtain⟨h0,h1,h2,h3,h4,h5⟩:=hI;have w1:W64 (j-1)=j-1:=wrap_small (by omega) (by omega);have w2:W64 (j+1)=j+1:=wrap_small (by omega) (by omega);have t1:w+(j-1).toNat=w+j.toNat-1:=by omega
 have t2:w+(j+1).toNat=w+j.toNat+1:=by omega
 rw[w1,w2,t1]at hx
 by_cases hi:j<((l.length-w:Nat):Int)
 ·have b1:inb j (l.length-w)=true:=inb_ok (by omega) hi;have b2:inb (j-1) (l.length-w)=true:=inb_ok (by omega) (by omega);have b3:inb k l.length=true:=inb_ok (by omega) (by omega);have w3:W64 (k+1)=k+1:=wrap_small (by omega) (by omega);obtain⟨m,hm⟩:∃m,l.length-(w+j.toNat)=m+1:=⟨l.length-(w+j.toNat)-1,by omega⟩;have hm':l.length-(w+j.toNat+1)=m:=by omega
  simp only[hi,decide_true,b1,b2,b3,w3]at hx;right
  cases hc:decide (l.getD (w+j.toNat) 0=l.getD (w+j.toNat-1) 0)
  ·refine ⟨k+1,w,j+1,l.set k.toNat (l.getD (w+j.toNat) 0), ?_, ?_, ?_,fun R=>(hx R).trans ?_⟩
   ·simp only[pre_cptIn,andd,dec_iff,ble_iff,length_set];omega
   ·simp only[mu_cptIn,length_set];omega
   ·simp only[res_cptIn,length_set,t2,hm,hm',show (k+1).toNat=k.toNat+1 by omega,cpL,hc];rfl
   ·rw[hc];rfl
  ·refine ⟨k,w,j+1,l, ?_, ?_, ?_,fun R=>(hx R).trans ?_⟩
   ·simp only[pre_cptIn,andd,dec_iff,ble_iff];omega
   ·simp only[mu_cptIn];omega
   ·simp only[res_cptIn,t2,hm,hm',cpL,hc];rfl
   ·rw[hc];rfl
 ·left;intro R;refine(hx R).trans ?_;simp only[hi,decide_false,res_cptIn,show l.length-(w+j.toNat)=0 by omega,cpL,Int.toNat_of_nonneg h0];rfl
def g_cptIn:St→Cont→Option Fin:=gP sh_cptIn (fun v=>match v with | ((k,w,j,()),(l,()))=>pre_cptIn k w j l) (fun v K=>match v with | ((k,w,j,()),(l,()))=>res_cptIn k w j l K)
def L_cptIn:LpL:=(9,g_cptIn)::[]
def cx_cptIn:Cx:=(cb_cpt).withLoops (look L_cptIn)
theorem l_cptIn {L:LpL} (n:Nat) (h1:L.drop n=[]) (h2:idsFree (L.take n) (loopOf Tryz.f135 1)=true):LoopsTo g_cptIn (cb_cpt) (loopOf Tryz.f135 1) 9 L :=
 with_drop h1 h2 (gP_ok (fun v=>match v with | ((k,w,j,()),(l,()))=>mu_cptIn k w j l) fun v K hI=>by
  obtain⟨⟨k,w,j,⟨⟩⟩,⟨l,⟨⟩⟩⟩:=v;exact(r_cptIn k w j l K hI).imp id fun⟨k',w',j',l',h⟩=>⟨((k',w',j',()),(l',())),h⟩)
abbrev cpE (l:List Int) (k:Nat):List Int×Nat:=cpL (l.length-(k+1)) l k (k+1)
abbrev cpO (l:List Int) (k:Nat):List Int:=List.take (cpE l k).2 (clrL (e:=TU8) (cpE l k).1 (cpE l k).2)
theorem cpL_len:∀(m:Nat) (l:List Int) (k p:Nat),(cpL m l k p).1.length=l.length∧k≤(cpL m l k p).2∧(cpL m l k p).2≤k+m
 |0,l,k,p=>⟨rfl,Nat.le_refl _,Nat.le_refl _⟩
 |m+1,l,k,p=>by
  unfold cpL
  cases decide (l.getD p 0=l.getD (p-1) 0)
  ·obtain ⟨h1,h2,h3⟩:=cpL_len m (l.set k (l.getD p 0)) (k+1) (p+1);rw[length_set]at h1;simp only[cond_false];omega
  ·obtain ⟨h1,h2,h3⟩:=cpL_len m l k (p+1);simp only[cond_true];omega
theorem clr_len {l:List Int} {k:Nat} (h:k≤l.length):length (clrL (e:=TU8) l k)=l.length:=by
 show length (List.take k l++replicate (l.length-k) (0:Int))=_;rw[length_append,length_take,length_replicate];omega
theorem x_cptOut (l:List Int) (k:Int) (R:St→Option Fin) (K:Cont):evC cx_cptIn (loopOf Tryz.f135 0) ⟨[(0, .d (.one (.own 0))),(3,vI k)],[(0,some (.lis 5 TU8 l))]⟩ (onward (headAt cx_cptIn 4) R K)=(
branch (decide (k<(l.length:Int))) (
 need (inb k l.length) <|
 need (inb (W64 (k-1)) l.length) <|
 branch (decide (l.getD k.toNat 0=l.getD (W64 (k-1)).toNat 0)) (
 need (inr k (l.length:Int) l.length&&Nat.blt 0 l.length) <|
 need (pre_cptIn k k.toNat 1 l) <|
 need (inr ((cpE l k.toNat).2:Nat) ((cpE l k.toNat).1.length:Int) (cpE l k.toNat).1.length&&Nat.blt 0 (cpE l k.toNat).1.length) <|
 need (Nat.blt (cpE l k.toNat).2 (cpE l k.toNat).1.length) <|
 need (inr 0 ((cpE l k.toNat).2:Nat) (clrL (e:=TU8) (cpE l k.toNat).1 (cpE l k.toNat).2).length) <|
 K .ret ⟨[(2, ko0)],[(500000,some (.lis 5 TU8 (cpO l k.toNat)))]⟩)
 (R ⟨[(0, .d (.one (.own 0))),(3,vI (W64 (k+1)))],[(0,some (.lis 5 TU8 l))]⟩))
 (K (.exit 0) ⟨[(0, .d (.one (.own 0)))],[(0,some (.lis 5 TU8 l))]⟩)):=by kernel_rfl
def dupF (l:List Int):Nat→Nat→Option Nat
 |0,_=>none
 |m+1,k=>bif decide (l.getD k 0=l.getD (k-1) 0)then some k else dupF l m (k+1)
def cpRes (l:List Int) (K:Cont):Option Nat→Option Fin
 |some q=>K .ret ⟨[(2, ko0)],[(500000,some (.lis 5 TU8 (cpO l q)))]⟩
 |none=>K (.exit 0) ⟨[(0, .d (.one (.own 0)))],[(0,some (.lis 5 TU8 l))]⟩
def cx0_cptOut:Cx:=(cb_cpt).withLoops (look L_cptIn)
def sh_cptOut:Sh:=([(0, .own 0),(3, .d TI64)],[(0, .lis 5 TU8)])
abbrev st_cptOut (k:Int) (l:List (Int)):St:=⟨[(0, .d (.one (.own 0))),(3,vI k)],[(0,some (.lis 5 TU8 l))]⟩
def pre_cptOut (k:Int) (l:List (Int)):Bool:=decide (1≤k)&&(decide (k≤1000001)&&Nat.ble (length l) 1000000)
def res_cptOut (k:Int) (l:List (Int)) (K:Cont):Option Fin:=cpRes l K (dupF l (l.length-k.toNat) k.toNat)
def mu_cptOut (k:Int) (l:List (Int)):Nat:=l.length-k.toNat
theorem r_cptOut (k:Int) (l:List (Int)) (K:Cont) (hI:pre_cptOut k l=true):(∀R:St→Option Fin,evC cx0_cptOut (loopOf Tryz.f135 0) (st_cptOut k l) (onward (headAt cx0_cptOut 4) R K)=res_cptOut k l K) ∨
  (∃(k':Int) (l':List (Int)),pre_cptOut k' l'=true∧mu_cptOut k' l'<mu_cptOut k l∧res_cptOut k' l' K=res_cptOut k l K∧∀R:St→Option Fin,evC cx0_cptOut (loopOf Tryz.f135 0) (st_cptOut k l) (onward (headAt cx0_cptOut 4) R K)=R (st_cptOut k' l')):=by
 have hx:=fun R=>x_cptOut l k R K;simp only[pre_cptOut,andd,dec_iff,ble_iff]at hI;obtain⟨h0,h1,h2⟩:=hI;obtain⟨q,rfl⟩:=Int.eq_ofNat_of_zero_le (show 0≤k by omega);have w1:W64 ((q:Int)-1)=(q:Int)-1:=wrap_small (by omega) (by omega);have t1:((q:Int)-1).toNat=q-1:=by omega
 simp only[w1,t1,Int.toNat_natCast]at hx
 by_cases hi:q<l.length
 ·have b1:inb (q:Int) l.length=true:=inb_ok (by omega) (by omega);have b2:inb ((q:Int)-1) l.length=true:=inb_ok (by omega) (by omega);obtain⟨m,hm⟩:∃m,l.length-q=m+1:=⟨l.length-q-1,by omega⟩;simp only[show (q:Int)<(l.length:Int)by omega,decide_true,b1,b2]at hx
  cases hc:decide (l.getD q 0=l.getD (q-1) 0)
  ·right;have w2:W64 ((q:Int)+1)=(q:Int)+1:=wrap_small (by omega) (by omega);refine⟨(q:Int)+1,l, ?_, ?_, ?_,fun R=>(hx R).trans ?_⟩
   ·simp only[pre_cptOut,andd,dec_iff,ble_iff];omega
   ·simp only[mu_cptOut];omega
   ·simp only[res_cptOut,Int.toNat_natCast,show ((q:Int)+1).toNat=q+1 by omega,hm,show l.length-(q+1)=m by omega,dupF,hc];rfl
   ·rw[hc,w2];rfl
  ·left;intro R;obtain⟨c1,c2,c3⟩:(cpE l q).1.length=l.length∧q≤(cpE l q).2∧(cpE l q).2≤q+(l.length-(q+1)):=cpL_len _ _ _ _;have p1:(inr (q:Int) (l.length:Int) l.length&&Nat.blt 0 l.length)=true:=andd.2 ⟨inr_iff.2 (by omega),Nat.ble_eq_true_of_le (by omega)⟩;have p2:pre_cptIn (q:Int) q 1 l=true:=by simp only[pre_cptIn,andd,dec_iff,ble_iff];omega
   have p3:(inr ((cpE l q).2:Nat) ((cpE l q).1.length:Int) (cpE l q).1.length&&Nat.blt 0 (cpE l q).1.length)=true:=andd.2 ⟨inr_iff.2 (by omega),Nat.ble_eq_true_of_le (by omega)⟩;have p4:Nat.blt (cpE l q).2 (cpE l q).1.length=true:=Nat.ble_eq_true_of_le (by omega);have p5:inr 0 ((cpE l q).2:Nat) (clrL (e:=TU8) (cpE l q).1 (cpE l q).2).length=true:=by
    refine inr_iff.2 ?_;rw[clr_len (by omega)];omega
   refine(hx R).trans ?_;rw[hc,p1,p2,p3,p4,p5];simp only[res_cptOut,Int.toNat_natCast,hm,dupF,hc];rfl
 ·left;intro R;refine(hx R).trans ?_;simp only[show ¬(q:Int)<(l.length:Int)by omega,decide_false,res_cptOut,Int.toNat_natCast,show l.length-q=0 by omega,dupF];rfl
def g_cptOut:St→Cont→Option Fin:=gP sh_cptOut (fun v=>match v with | ((k,()),(l,()))=>pre_cptOut k l) (fun v K=>match v with | ((k,()),(l,()))=>res_cptOut k l K)
def L_cptOut:LpL:=(4,g_cptOut)::L_cptIn
def cx_cptOut:Cx:=(cb_cpt).withLoops (look L_cptOut)
theorem l_cptOut {L:LpL} (n:Nat) (h1:L.drop n=L_cptIn) (h2:idsFree (L.take n) (loopOf Tryz.f135 0)=true):LoopsTo g_cptOut (cb_cpt) (loopOf Tryz.f135 0) 4 L :=
 with_drop h1 h2 (gP_ok (fun v=>match v with | ((k,()),(l,()))=>mu_cptOut k l) fun v K hI=>by
  obtain⟨⟨k,⟨⟩⟩,⟨l,⟨⟩⟩⟩:=v;exact(r_cptOut k l K hI).imp id fun⟨k',l',h⟩=>⟨((k',()),(l',())),h⟩)
def cpFin (l:List Int):Option Nat→Option Fin
 |some q=>some (.d (.one (.own 1000)),[(1000,some (.lis 5 TU8 (cpO l q))),(0,none)])
 |none=>some (.d (.one (.own 0)),[(0,some (.lis 5 TU8 l))])
theorem y_Compact (l:List Int):evFn cx_cptOut Tryz.f135 false [.one (.own 0)] [.lis 5 TU8 l]=(
branch (decide ((l.length:Int)<2)) (some (.d (.one (.own 0)),[(0,some (.lis 5 TU8 l))])) (
 need (pre_cptOut 1 l) <| cpFin l (dupF l (l.length-1) 1))):=by kernel_rfl
def cptV (l:List Int):List Int:=bif decide ((l.length:Int)<2)then l else match dupF l (l.length-1) 1 with
 |some q=>cpO l q
 |none=>l
def conLN (t:TypeId) (s:Ty) (ts:List Ty) (G:List (Den s)→Fn ts (Option Bool×List (Den s))):Con:=⟨false,fun ds os=>match ds,os with
 | .one (.own 0)::ds,[o]=>match exLis t s (some o)with
  |some l=>match applyD ts (G l) ds with
   |some (c,m)=>some (c, .d (.one (.own 1000)),[(1000,some (.lis t s m)),(0,none)])
   |none=>none
  |none=>none
 |_,_=>none⟩
theorem conLN_ok {P:Program} {f:FuncId} {t:TypeId} {s:Ty} {ts:List Ty} {G:List (Den s)→Fn ts (Option Bool×List (Den s))} (hs:tyFlat s=true) (hin:∀args w,(callFunc f args).run P w = .ok (.enter f args) w)
  (he:∀l,Fit (.list s) l→EachF ts (G l) fun ds r=>(r.1=none∨r.1=some true)→Sat P f (.one (.own 0)::ds) [.lis t s l] (.d (.one (.own 1000))) [(1000,some (.lis t s r.2)),(0,none)]):ConOk P f (conLN t s ts G):=by
 refine⟨hin,fun ds os c x objs hc hok => ?_⟩;simp only[conLN]at hc
 split at hc
 ·rename_i ds o
  split at hc
  ·rename_i l e2;have e2:=Option.some.inj (exLis_some e2);subst e2
   split at hc
   ·rename_i c' m hap
    cases hc
    refine lis_fit hs fun hf => ?_;intro w F β args H hds
    cases hds with
    |cons g1 g2 =>
     obtain⟨ds',q1,q2⟩:=each_of (he l hf) hap g2;exact q1 hok w F β _ H (.cons g1 q2)
   ·cases hc
  ·cases hc
 ·cases hc
theorem s_Compact (l:List Int) (h:l.length≤1000000):Sat Tryz.prog 135 [.one (.own 0)] [.lis 5 TU8 l] (.d (.one (.own 1000))) [(1000,some (.lis 5 TU8 (cptV l))),(0,none)]:=by
 have snd:∀ {x:T} {objs:Heap},evFn cx_cptOut Tryz.f135 false [.one (.own 0)] [.lis 5 TU8 l]=some (x,objs)→Sat Tryz.prog 135 [.one (.own 0)] [.lis 5 TU8 l] x objs:=fun he =>
  fn_sound (cx:=cx_cptOut) Tryz.func135 rfl ttOk Γ51ok mixed (fun c hc=>LoopsOk.all (l:=[(4,loopOf Tryz.f135 0),(9,loopOf Tryz.f135 1)]) (by cases hc;kernel_rfl) ⟨atLoop rfl (l_cptOut 1 rfl (by kernel_rfl)),atLoop rfl (l_cptIn 2 rfl (by kernel_rfl)),trivial⟩) (ro:=false) he
 have y:=y_Compact l;have hp:pre_cptOut 1 l=true:=by simp only[pre_cptOut,andd,dec_iff,ble_iff];omega
 rw[hp]at y;unfold cptV
 by_cases hl:(l.length:Int)<2
 ·rw[zT hl]at y ⊢;exact sat_move (snd y)
 ·rw[zF hl]at y ⊢
  cases hd:dupF l (l.length-1) 1 with
  |none=>rw[hd]at y;exact sat_move (snd y)
  |some q=>rw[hd]at y;exact snd y
def c_slices_Compact_byte_byte:Con:=conLN 5 TU8 [] fun(l:List Int)=>(some (Nat.ble (length l) 1000000),cptV l)
theorem k_slices_Compact_byte_byte:ConOk Tryz.prog 135 c_slices_Compact_byte_byte:=conLN_ok rfl Tryz.call135 fun l _ hqq=>s_Compact l (Nat.le_of_ble_eq_true (pre_of hqq))
def Γ52:GL:=(135,c_slices_Compact_byte_byte)::Γ51
theorem Γ52ok:GO Γ52 := .cons k_slices_Compact_byte_byte Γ51ok
def dd:Int→List Int→List Int
 |_,[]=>[]
 |a,x::l=>bif decide (x=a)then dd a l else x::dd x l
theorem drop_at {l:List Int} {p:Nat} (h:p<l.length):l.drop p=l.getD p 0::l.drop (p+1):=by
 rw[drop_eq_getElem_cons h,getD_at h]
theorem cpL_dd:∀(m:Nat) (l:List Int) (k p:Nat),k<p→p+m=l.length→(cpL m l k p).1.take (cpL m l k p).2=l.take k++dd (l.getD (p-1) 0) (l.drop p)
 |0,l,k,p,h1,h2=>by
  rw[drop_eq_nil_of_le (by omega)];show l.take k=_;simp[dd]
 |m+1,l,k,p,h1,h2=>by
  rw[drop_at (show p<l.length by omega)];unfold cpL dd
  cases hc:decide (l.getD p 0=l.getD (p-1) 0)
  ·simp only[cond_false];rw[cpL_dd m (l.set k (l.getD p 0)) (k+1) (p+1) (by omega) (by rw[length_set];omega)];have e1:(l.set k (l.getD p 0)).getD (p+1-1) 0=l.getD p 0:=by
    rw[zG,List.getElem?_set_ne (by omega),← zG];rfl
   have e2:(l.set k (l.getD p 0)).drop (p+1)=l.drop (p+1):=List.drop_set_of_lt (by omega);have e3:(l.set k (l.getD p 0)).take (k+1)=l.take k++[l.getD p 0]:=by
    rw[List.take_succ_eq_append_getElem (by rw[length_set];omega),List.take_set_of_le (Nat.le_refl _)];simp
   rw[e1,e2,e3];simp
  ·simp only[cond_true];rw[cpL_dd m l k (p+1) (by omega) (by omega)];have:=of_decide_eq_true hc;rw[show p+1-1=p by omega,this]
def ddV (l:List Int) (k:Nat):List Int:=l.take k++dd (l.getD (k-1) 0) (l.drop k)
theorem ddV_step {l:List Int} {k:Nat} (hk:1≤k) (h:k<l.length) (hc:decide (l.getD k 0=l.getD (k-1) 0)=false):ddV l k=ddV l (k+1):=by
 have e:dd (l.getD (k-1) 0) (l.getD k 0::l.drop (k+1))=l.getD k 0::dd (l.getD k 0) (l.drop (k+1)):=by rw[dd,hc];rfl
 unfold ddV;rw[drop_at h,e,show k+1-1=k by omega,List.take_succ_eq_append_getElem h,← getD_at h 0,append_assoc];rfl
theorem cpO_eq {l:List Int} {q:Nat} (h1:1≤q) (h:q<l.length) (hc:decide (l.getD q 0=l.getD (q-1) 0)=true):cpO l q=ddV l q:=by
 obtain⟨c1,c2,c3⟩:(cpE l q).1.length=l.length∧q≤(cpE l q).2∧(cpE l q).2≤q+(l.length-(q+1)):=cpL_len _ _ _ _;have e:cpO l q=(cpE l q).1.take (cpE l q).2:=by
  show List.take (cpE l q).2 (List.take (cpE l q).2 (cpE l q).1++replicate ((cpE l q).1.length-(cpE l q).2) (0:Int))=_;rw[List.take_append_of_le_length (by rw[length_take];omega),List.take_take,Nat.min_self]
 rw[e];show(cpL (l.length-(q+1)) l q (q+1)).1.take _=_;rw[cpL_dd _ l q (q+1) (by omega) (by omega)];unfold ddV;have hq:=of_decide_eq_true hc;rw[drop_at h,show q+1-1=q by omega]
 conv=>rhs;unfold dd
 rw[hc,← hq];rfl
theorem dupF_eq (l:List Int):∀(m k:Nat),1≤k→k+m=l.length→(match dupF l m k with | some q=>cpO l q | none=>l)=ddV l k
 |0,k,h1,h2=>by
  show l=_;unfold ddV;rw[drop_eq_nil_of_le (by omega),List.take_of_length_le (by omega)];simp[dd]
 |m+1,k,h1,h2=>by
  unfold dupF
  cases hc:decide (l.getD k 0=l.getD (k-1) 0)
  ·simp only[cond_false];rw[dupF_eq l m (k+1) (by omega) (by omega),← ddV_step h1 (by omega) hc]
  ·simp only[cond_true];exact cpO_eq h1 (by omega) hc
theorem cptV_eq (l:List Int):cptV l=ddV l 1:=by
 unfold cptV
 by_cases h:(l.length:Int)<2
 ·rw[zT h]
  match l,h with
  | [],_=>rfl
  | [x],_=>rfl
  |x::y::l,h=>simp at h;omega
 ·rw[zF h];exact dupF_eq l (l.length-1) 1 (Nat.le_refl _) (by omega)
theorem cptV_cons (x:Int) (l:List Int):cptV (x::l)=x::dd x l:=by rw[cptV_eq];rfl
theorem dd_sub {y:Int}:∀ {a:Int} {l:List Int},y∈dd a l→y∈l
 |_,[],h=>h
 |a,x::l,h=>by
  unfold dd at h
  cases hc:decide (x=a)<;>rw[hc]at h
  ·rcases List.mem_cons.1 h with h | h
   ·exact h ▸ mem_cons_self
   ·exact mem_cons_of_mem _ (dd_sub h)
  ·exact mem_cons_of_mem _ (dd_sub h)
theorem dd_mem {y:Int}:∀ {a:Int} {l:List Int},y∈l→y=a∨y∈dd a l
 |a,x::l,h=>by
  unfold dd
  cases hc:decide (x=a)
  ·rcases List.mem_cons.1 h with h | h
   ·exact .inr (h ▸ mem_cons_self)
   ·rcases dd_mem (a:=x) h with h | h
    ·exact .inr (h ▸ mem_cons_self)
    ·exact .inr (mem_cons_of_mem _ h)
  ·have hx:=of_decide_eq_true hc;rcases List.mem_cons.1 h with h | h
   ·exact .inl (h.trans hx)
   ·exact dd_mem h
theorem dd_asc:∀ {a:Int} {l:List Int},(a::l).Pairwise (· ≤ ·)→(a::dd a l).Pairwise (· < ·)
 |a,[],_=>by simp[dd]
 |a,x::l,h=>by
  rw[List.pairwise_cons,List.pairwise_cons]at h;obtain⟨h1,h2,h3⟩:=h;unfold dd
  cases hc:decide (x=a)
  ·have hx:=of_decide_eq_false hc;have hax:=h1 x mem_cons_self;have ih:=dd_asc (a:=x) (l:=l) (List.pairwise_cons.2 ⟨h2,h3⟩);refine List.pairwise_cons.2 ⟨fun y hy => ?_,ih⟩;rcases List.mem_cons.1 hy with rfl | hy
   ·omega
   ·have:=(List.pairwise_cons.1 ih).1 y hy;omega
  ·have hx:=of_decide_eq_true hc;exact dd_asc (a:=a) (l:=l) (List.pairwise_cons.2 ⟨fun y hy=>h1 y (mem_cons_of_mem _ hy),h3⟩)
theorem cptV_mem {y:Int} {l:List Int}:y∈cptV l↔y∈l:=by
 cases l with
 |nil=>rw[cptV_eq];rfl
 |cons x l =>
  rw[cptV_cons];refine⟨fun h => ?_,fun h => ?_⟩
  ·rcases List.mem_cons.1 h with h | h
   ·exact h ▸ mem_cons_self
   ·exact mem_cons_of_mem _ (dd_sub h)
  ·rcases List.mem_cons.1 h with h | h
   ·exact h ▸ mem_cons_self
   ·rcases dd_mem (a:=x) h with h | h
    ·exact h ▸ mem_cons_self
    ·exact mem_cons_of_mem _ h
theorem cptV_asc {l:List Int} (h:l.Pairwise (· ≤ ·)):(cptV l).Pairwise (· < ·):=by
 cases l with
 |nil=>rw[cptV_eq];exact .nil
 |cons x l=>rw[cptV_cons];exact dd_asc h
theorem s_impl_union_1 (s:Str) (_hs:Fit .str s):Sat Tryz.prog 115 [ofD .str s] [] (.d (ofD .bool true)) [] :=
 fn_sound (cx:=cxOf Γ52 Tryz.f115.ntmps [] [] [] []) Tryz.func115 rfl ttOk Γ52ok mixed (fun _ _=>LoopsOk.no fun _=>rfl) (ro:=true) (by
  have y:evFn (cxOf Γ52 Tryz.f115.ntmps [] [] [] []) Tryz.f115 true [ofD .str s] []=some (vB true,[]):=by kernel_rfl
  rw[y];rfl)
def c_impl_union_1:Con:=conT [.str] fun(_s:Str)=>(none, .d (ofD .bool true))
theorem k_impl_union_1:ConOk Tryz.prog 115 c_impl_union_1:=conT_ok Tryz.call115 fun s hs _=>s_impl_union_1 s hs
def Γ53:GL:=(115,c_impl_union_1)::Γ52
theorem Γ53ok:GO Γ53 := .cons k_impl_union_1 Γ52ok
def isUni (f:FuncId):Bool:=Nat.beq f 115
theorem y_setOf1U0 (t:TypeId) (c:Int):evFn (cxOf Γ53 Tryz.f136.ntmps [] [] [] []) Tryz.f136 false [ofD TU8 c, .one (.ptr 0 0)] [.box t [.fn 115 []]]=some (vB (!true),[(0,some (.box t [.fn 115 []]))]):=by kernel_rfl
theorem y_setOf1U {f:FuncId} (h:isUni f=true) (t:TypeId) (c:Int):evFn (cxOf Γ53 Tryz.f136.ntmps [] [] [] []) Tryz.f136 false [ofD TU8 c, .one (.ptr 0 0)] [.box t [.fn f []]]=some (vB (!true),[(0,some (.box t [.fn f []]))]):=by
 have:=zB h;subst this;exact y_setOf1U0 t c
def chrS (c:Int):Str:=(Utf8.encode (IntKind.i32.wrap c)).data.toList
theorem y_setOf1B (t:TypeId) (c:Int):evFn (cxOf Γ53 Tryz.f136.ntmps [] [] [] []) Tryz.f136 false [ofD TU8 c, .one (.ptr 0 0)] [.box t [.fn 42 []]]=some (vB (!bigS (chrS c)),[(0,some (.box t [.fn 42 []]))]):=by kernel_rfl
theorem y_setOf1S (t:TypeId) (c:Int):evFn (cxOf Γ53 Tryz.f136.ntmps [] [] [] []) Tryz.f136 false [ofD TU8 c, .one (.ptr 0 0)] [.box t [.fn 55 []]]=some (vB (!smallS (chrS c)),[(0,some (.box t [.fn 55 []]))]):=by kernel_rfl
def holdF (f:FuncId):Option (Str→Bool):=bif Nat.beq f 42 then some bigS else bif Nat.beq f 55 then some smallS else bif isUni f then some (fun _=>true)else none
theorem s_setOf1 {f:FuncId} {p:Str→Bool} (h:holdF f=some p) (t:TypeId) (c:Int):Sat Tryz.prog 136 [ofD TU8 c, .one (.ptr 0 0)] [.box t [.fn f []]] (vB (!p (chrS c))) [(0,some (.box t [.fn f []]))]:=by
 have snd:∀ {x:T} {objs:Heap},evFn (cxOf Γ53 Tryz.f136.ntmps [] [] [] []) Tryz.f136 false [ofD TU8 c, .one (.ptr 0 0)] [.box t [.fn f []]]=some (x,objs)→Sat Tryz.prog 136 [ofD TU8 c, .one (.ptr 0 0)] [.box t [.fn f []]] x objs:=fun he =>
  fn_sound (cx:=cxOf Γ53 Tryz.f136.ntmps [] [] [] []) Tryz.func136 rfl ttOk Γ53ok mixed (fun _ _=>LoopsOk.no fun _=>rfl) (ro:=false) he
 refine snd ?_;unfold holdF at h
 cases h1:Nat.beq f 42<;>rw[h1]at h
 ·cases h2:Nat.beq f 55<;>rw[h2]at h
  ·cases h3:isUni f<;>rw[h3]at h
   ·cases h
   ·cases h
    exact y_setOf1U h3 t c
  ·cases h
   have:=zB h2;subst this;exact y_setOf1S t c
 ·cases h
  have:=zB h1;subst this;exact y_setOf1B t c
def pF (f:FuncId):Str→Bool:=(holdF f).getD fun _=>false
def c_impl_setOf_1:Con:=⟨false,fun ds os=>match ds,os with
 | [.one (.r (.v (.int .u8 c))), .one (.ptr 0 0)],[.box t [.fn f []]]=>some (some (holdF f).isSome,vB (!pF f (chrS c)),[(0,some (.box t [.fn f []]))])
 |_,_=>none⟩
theorem k_impl_setOf_1:ConOk Tryz.prog 136 c_impl_setOf_1:=by
 refine⟨Tryz.call136,fun ds os c x objs hc hok => ?_⟩;unfold c_impl_setOf_1 at hc;dsimp only at hc
 split at hc
 ·rename_i c0 t f
  cases hc
  have hp:=pre_of hok
  cases h:holdF f with
  |none=>rw[h]at hp;cases hp
  |some p =>
   have:=s_setOf1 h t c0;unfold pF;rw[h];exact this
 ·cases hc
def Γ54:GL:=(136,c_impl_setOf_1)::Γ53
theorem Γ54ok:GO Γ54 := .cons k_impl_setOf_1 Γ53ok
def cb_ixF:Cx:=cxOf Γ54 Tryz.f158.ntmps [(2,[0,1,7,8])] [(0,[]),(1,[0,1,7,8]),(1000000,[4])] [] []
theorem x_ixF (l:List Int) (t:TypeId) (f:FuncId) (n i:Int) (R:St→Option Fin) (K:Cont):evC (cb_ixF.withLoops (look [])) (loopOf Tryz.f158 0) ⟨[(0, .d (.one (.own 0))),(1, .d (.one (.fn 136 [1]))),(7,vI n),(8,vI i)],[(0,some (.lis 5 TU8 l)),(1,some (.box t [.fn f []]))]⟩ (onward (headAt (cb_ixF.withLoops (look [])) 2) R K)=(
branch (decide (i<n)) (
 need (inb i l.length) <|
 need ((holdF f).isSome) <|
 branch (!pF f (chrS (l.getD i.toNat 0))) ( K (.ret) (.mk [(4,vI i)] [(1,(.some (.box t [(.fn f [])]))),(0,some (.lis 5 TU8 l))])) ( R (.mk [(0,(.d (.one (.own 0)))),(1,(.d (.one (.fn 136 [1])))),(7,vI n),(8,vI (W64 (i+1)))] [(0,some (.lis 5 TU8 l)),(1,(.some (.box t [(.fn f [])])))]))) ( K (.exit 0) (.mk [] [(0,some (.lis 5 TU8 l)),(1,(.some (.box t [(.fn f [])])))]))):=by kernel_rfl
def ixV (f:FuncId):List Int→Nat→Option Nat
 | [],_=>none
 |x::l,k=>bif !pF f (chrS x)then some k else ixV f l (k+1)
theorem ixV_at {f:FuncId} {l:List Int} {i:Nat} (h:i<l.length):ixV f (l.drop i) i=bif !pF f (chrS (l.getD i 0))then some i else ixV f (l.drop (i+1)) (i+1):=by
 rw[drop_eq_getElem_cons h,getD_at h];rfl
def cx0_ixF:Cx:=(cb_ixF).withLoops (look [])
def sh_ixF:Sh:=([(0, .own 0),(1, .fn 136 [1]),(7, .d TI64),(8, .d TI64)],[(0, .lis 5 TU8),(1, .mix 61 [.fnv])])
abbrev st_ixF (n i:Int) (l:List (Int)) (f:Nat):St:=⟨[(0, .d (.one (.own 0))),(1, .d (.one (.fn 136 [1]))),(7,vI n),(8,vI i)],[(0,some (.lis 5 TU8 l)),(1,some (.box 61 ([.fn f []])))]⟩
def pre_ixF (n i:Int) (l:List (Int)) (f:Nat):Bool:=decide (0≤i)&&(decide (n=(length l:Int))&&(Nat.ble (length l) 1000000&&(holdF f).isSome))
def res_ixF (_n i:Int) (l:List (Int)) (f:Nat) (K:Cont):Option Fin:=branch (ixV f (l.drop i.toNat) i.toNat).isSome (K .ret ⟨[(4,vI (((ixV f (l.drop i.toNat) i.toNat).getD 0:Nat):Int))],[(1,some (.box 61 [.fn f []])),(0,some (.lis 5 TU8 l))]⟩) (K (.exit 0) ⟨[],[(0,some (.lis 5 TU8 l)),(1,some (.box 61 [.fn f []]))]⟩)
def mu_ixF (_n i:Int) (l:List (Int)) (_f:Nat):Nat:=l.length-i.toNat
theorem r_ixF (n i:Int) (l:List (Int)) (f:Nat) (K:Cont) (hI:pre_ixF n i l f=true):(∀R:St→Option Fin,evC cx0_ixF (loopOf Tryz.f158 0) (st_ixF n i l f) (onward (headAt cx0_ixF 2) R K)=res_ixF n i l f K) ∨
  (∃(n' i':Int) (l':List (Int)) (f':Nat),pre_ixF n' i' l' f'=true∧mu_ixF n' i' l' f'<mu_ixF n i l f∧res_ixF n' i' l' f' K=res_ixF n i l f K∧∀R:St→Option Fin,evC cx0_ixF (loopOf Tryz.f158 0) (st_ixF n i l f) (onward (headAt cx0_ixF 2) R K)=R (st_ixF n' i' l' f')):=by
 have hx:=fun R=>x_ixF l 61 f n i R K;simp only[pre_ixF,andd,dec_iff,ble_iff]at hI;obtain⟨h0,rfl,h2,h3⟩:=hI
 by_cases hi:i<(l.length:Int)
 ·have e:=ixV_at (f:=f) (l:=l) (i:=i.toNat) (by omega);have w:W64 (i+1)=i+1:=wrap_small (by omega) (by omega);simp only[hi,decide_true,inb_ok h0 hi,h3,w]at hx
  cases hc : !pF f (chrS (l.getD i.toNat 0))
  ·right;rw[hc]at e;refine⟨(l.length:Int),i+1,l,f, ?_, ?_, ?_,fun R=>(hx R).trans ?_⟩
   ·simp only[pre_ixF,andd,dec_iff,ble_iff,true_and];exact ⟨by omega,h2,h3⟩
   ·simp only[mu_ixF];omega
   ·simp only[res_ixF,e,show (i+1).toNat=i.toNat+1 by omega];rfl
   ·rw[hc];rfl
  ·left;intro R;rw[hc]at e;refine(hx R).trans ?_;rw[hc];simp only[res_ixF,e];show K .ret _=K .ret _;simp only[cond_true,Option.getD_some,Int.toNat_of_nonneg h0]
 ·left;intro R;refine(hx R).trans ?_;simp only[hi,decide_false,res_ixF,drop_eq_nil_of_le (show l.length≤i.toNat by omega)];rfl
def g_ixF:St→Cont→Option Fin:=gP sh_ixF (fun v=>match v with | ((n,i,()),(l,(f,()),()))=>pre_ixF n i l f) (fun v K=>match v with | ((n,i,()),(l,(f,()),()))=>res_ixF n i l f K)
def L_ixF:LpL:=(2,g_ixF)::[]
def cx_ixF:Cx:=(cb_ixF).withLoops (look L_ixF)
theorem l_ixF {L:LpL} (n:Nat) (h1:L.drop n=[]) (h2:idsFree (L.take n) (loopOf Tryz.f158 0)=true):LoopsTo g_ixF (cb_ixF) (loopOf Tryz.f158 0) 2 L :=
 with_drop h1 h2 (gP_ok (fun v=>match v with | ((n,i,()),(l,(f,()),()))=>mu_ixF n i l f) fun v K hI=>by
  obtain⟨⟨n,i,⟨⟩⟩,⟨l,⟨f,⟨⟩⟩,⟨⟩⟩⟩:=v;exact(r_ixF n i l f K hI).imp id fun⟨n',i',l',f',h⟩=>⟨((n',i',()),(l',(f',()),())),h⟩)
abbrev hLF (l:List Int) (f:FuncId):Heap:=[(0,some (.lis 5 TU8 l)),(1,some (.box 61 [.fn f []]))]
def ixI (f:FuncId) (l:List Int):Int:=bif (ixV f l 0).isSome then(((ixV f l 0).getD 0:Nat):Int)else -1
theorem y_ixF (l:List Int) (f:FuncId):evFn cx_ixF Tryz.f158 false [.one (.own 0), .one (.fn 136 [1])] [.lis 5 TU8 l, .box 61 [.fn f []]] =
 need (pre_ixF (l.length:Int) 0 l f) (branch (ixV f l 0).isSome (some (vI (((ixV f l 0).getD 0:Nat):Int),hLF l f)) (some (vI (-1),hLF l f))):=by kernel_rfl
theorem s_ixF (l:List Int) (f:FuncId) (h:(Nat.ble l.length 1000000&&(holdF f).isSome)=true):Sat Tryz.prog 158 [.one (.own 0), .one (.fn 136 [1])] [.lis 5 TU8 l, .box 61 [.fn f []]] (vI (ixI f l)) (hLF l f) :=
 fn_sound (cx:=cx_ixF) Tryz.func158 rfl ttOk Γ54ok mixed (fun c hc=>LoopsOk.all (l:=[(2,loopOf Tryz.f158 0)]) (by cases hc;kernel_rfl) ⟨atLoop rfl (l_ixF 1 rfl (by kernel_rfl)),trivial⟩) (ro:=false) (by
  have hp:pre_ixF (l.length:Int) 0 l f=true:=andd.2 ⟨rfl,andd.2 ⟨zT rfl,h⟩⟩;rw[y_ixF,hp];unfold ixI
  cases (ixV f l 0).isSome<;>rfl)
def c_slices_IndexFunc_byte_byte:Con:=⟨false,fun ds os=>match ds,os with
 | [.one (.own 0), .one (.fn g [1])],[o, .box t [.fn f []]]=>match exLis 5 TU8 (some o),Nat.beq g 136&&Nat.beq t 61 with
  |some l,true=>some (some (Nat.ble (length l) 1000000&&(holdF f).isSome),vI (ixI f l),hLF l f)
  |_,_=>none
 |_,_=>none⟩
theorem k_slices_IndexFunc_byte_byte:ConOk Tryz.prog 158 c_slices_IndexFunc_byte_byte:=by
 refine⟨Tryz.call158,fun ds os c x objs hc hok => ?_⟩;unfold c_slices_IndexFunc_byte_byte at hc;dsimp only at hc
 split at hc
 ·split at hc
  ·rename_i l e1 e2
   cases hc
   have e1:=Option.some.inj (exLis_some e1);subst e1;obtain⟨h1,h2⟩:=andd.1 e2;have h1:=zB h1;have h2:=zB h2;subst h1;subst h2;exact s_ixF l _ (pre_of hok)
  ·cases hc
 ·cases hc
def Γ55:GL:=(158,c_slices_IndexFunc_byte_byte)::Γ54
theorem Γ55ok:GO Γ55 := .cons k_slices_IndexFunc_byte_byte Γ54ok
set_option maxHeartbeats 1000000
def cb_del:Cx:=cxOf Γ55 Tryz.f134.ntmps [(5,[0,1,5,6])] [(0,[0,5]),(1,[0,1,5,6]),(1000000,[4])] [] []
theorem x_del (l:List Int) (f:FuncId) (i j:Int) (R:St→Option Fin) (K:Cont):evC (cb_del.withLoops (look [])) (loopOf Tryz.f134 0) ⟨[(0, .d (.one (.own 0))),(1, .d (.one (.fn 136 [1]))),(5,vI i),(6,vI j)],[(0,some (.lis 5 TU8 l)),(1,some (.box 61 [.fn f []]))]⟩ (onward (headAt (cb_del.withLoops (look [])) 5) R K)=(
branch (decide (j<(l.length:Int))) (
 need (inb j l.length) <|
 need ((holdF f).isSome) <|
 branch (!!pF f (chrS (l.getD j.toNat 0))) (
 need (inb i l.length) <| R (.mk [(0,(.d (.one (.own 0)))),(1,(.d (.one (.fn 136 [1])))),(5,vI (W64 (i+1))),(6,vI (W64 (j+1)))] [(0,(.some (.lis 5 TU8 (l.set i.toNat (l.getD j.toNat 0))))),(1,(.some (.box 61 [(.fn f [])])))])) ( R (.mk [(0,(.d (.one (.own 0)))),(1,(.d (.one (.fn 136 [1])))),(5,vI i),(6,vI (W64 (j+1)))] [(0,some (.lis 5 TU8 l)),(1,(.some (.box 61 [(.fn f [])])))]))) ( K (.exit 0) (.mk [(0,(.d (.one (.own 0)))),(5,vI i)] [(0,some (.lis 5 TU8 l)),(1,(.some (.box 61 [(.fn f [])])))]))):=by kernel_rfl
def dlL (f:FuncId):Nat→List Int→Nat→Nat→List Int×Nat
 |0,l,i,_=>(l,i)
 |m+1,l,i,j=>bif pF f (chrS (l.getD j 0))then dlL f m (l.set i (l.getD j 0)) (i+1) (j+1)else dlL f m l i (j+1)
def cx0_del:Cx:=(cb_del).withLoops (look [])
def sh_del:Sh:=([(0, .own 0),(1, .fn 136 [1]),(5, .d TI64),(6, .d TI64)],[(0, .lis 5 TU8),(1, .mix 61 [.fnv])])
abbrev st_del (i j:Int) (l:List (Int)) (f:Nat):St:=⟨[(0, .d (.one (.own 0))),(1, .d (.one (.fn 136 [1]))),(5,vI i),(6,vI j)],[(0,some (.lis 5 TU8 l)),(1,some (.box 61 ([.fn f []])))]⟩
def pre_del (i j:Int) (l:List (Int)) (f:Nat):Bool:=decide (0≤i)&&(decide (i<j)&&(decide (j≤1000001)&&(Nat.ble (length l) 1000000&&(holdF f).isSome)))
def res_del (i j:Int) (l:List (Int)) (f:Nat) (K:Cont):Option Fin:=K (.exit 0) ⟨[(0, .d (.one (.own 0))),(5,vI ((dlL f (l.length-j.toNat) l i.toNat j.toNat).2:Nat))],[(0,some (.lis 5 TU8 (dlL f (l.length-j.toNat) l i.toNat j.toNat).1)),(1,some (.box 61 [.fn f []]))]⟩
def mu_del (_i j:Int) (l:List (Int)) (_f:Nat):Nat:=l.length-j.toNat
theorem r_del (i j:Int) (l:List (Int)) (f:Nat) (K:Cont) (hI:pre_del i j l f=true):(∀R:St→Option Fin,evC cx0_del (loopOf Tryz.f134 0) (st_del i j l f) (onward (headAt cx0_del 5) R K)=res_del i j l f K) ∨
  (∃(i' j':Int) (l':List (Int)) (f':Nat),pre_del i' j' l' f'=true∧mu_del i' j' l' f'<mu_del i j l f∧res_del i' j' l' f' K=res_del i j l f K∧∀R:St→Option Fin,evC cx0_del (loopOf Tryz.f134 0) (st_del i j l f) (onward (headAt cx0_del 5) R K)=R (st_del i' j' l' f')):=by
 have hx:=fun R=>x_del l f i j R K;simp only[pre_del,andd,dec_iff,ble_iff]at hI;obtain⟨h0,h1,h2,h3,h4⟩:=hI
 by_cases hj:j<(l.length:Int)
 ·have w1:W64 (j+1)=j+1:=wrap_small (by omega) (by omega);have w2:W64 (i+1)=i+1:=wrap_small (by omega) (by omega);obtain⟨m,hm⟩:∃m,l.length-j.toNat=m+1:=⟨l.length-j.toNat-1,by omega⟩;have hm':l.length-(j.toNat+1)=m:=by omega
  have t1:(j+1).toNat=j.toNat+1:=by omega
  have t2:(i+1).toNat=i.toNat+1:=by omega
  simp only[hj,decide_true,inb_ok (by omega:0≤j) hj,inb_ok h0 (by omega:i<(l.length:Int)),h4,w1,w2]at hx;right
  cases hc:pF f (chrS (l.getD j.toNat 0))
  ·refine ⟨i,j+1,l,f, ?_, ?_, ?_,fun R=>(hx R).trans ?_⟩
   ·simp only[pre_del,andd,dec_iff,ble_iff];exact ⟨h0,by omega,by omega,h3,h4⟩
   ·simp only[mu_del];omega
   ·simp only[res_del,t1,hm,hm',dlL,hc];rfl
   ·rw[hc];rfl
  ·refine ⟨i+1,j+1,l.set i.toNat (l.getD j.toNat 0),f, ?_, ?_, ?_,fun R=>(hx R).trans ?_⟩
   ·simp only[pre_del,andd,dec_iff,ble_iff,length_set];exact ⟨by omega,by omega,by omega,h3,h4⟩
   ·simp only[mu_del,length_set];omega
   ·simp only[res_del,length_set,t1,t2,hm,hm',dlL,hc];rfl
   ·rw[hc];rfl
 ·left;intro R;refine(hx R).trans ?_;simp only[hj,decide_false,res_del,show l.length-j.toNat=0 by omega,dlL,Int.toNat_of_nonneg h0];rfl
def g_del:St→Cont→Option Fin:=gP sh_del (fun v=>match v with | ((i,j,()),(l,(f,()),()))=>pre_del i j l f) (fun v K=>match v with | ((i,j,()),(l,(f,()),()))=>res_del i j l f K)
def L_del:LpL:=(5,g_del)::[]
def cx_del:Cx:=(cb_del).withLoops (look L_del)
theorem l_del {L:LpL} (n:Nat) (h1:L.drop n=[]) (h2:idsFree (L.take n) (loopOf Tryz.f134 0)=true):LoopsTo g_del (cb_del) (loopOf Tryz.f134 0) 5 L :=
 with_drop h1 h2 (gP_ok (fun v=>match v with | ((i,j,()),(l,(f,()),()))=>mu_del i j l f) fun v K hI=>by
  obtain⟨⟨i,j,⟨⟩⟩,⟨l,⟨f,⟨⟩⟩,⟨⟩⟩⟩:=v;exact(r_del i j l f K hI).imp id fun⟨i',j',l',f',h⟩=>⟨((i',j',()),(l',(f',()),())),h⟩)
abbrev dlE (f:FuncId) (l:List Int) (i:Int):List Int×Nat:=dlL f (l.length-(W64 (i+1)).toNat) l i.toNat (W64 (i+1)).toNat
def delOut (f:FuncId) (r:List Int×Nat):Option Fin :=
 need (inr (r.2:Nat) (r.1.length:Int) r.1.length&&Nat.blt 0 r.1.length) <| need (Nat.blt r.2 r.1.length) <| need (inr 0 (r.2:Nat) (clrL (e:=TU8) r.1 r.2).length) <|
 some (.d (.one (.own 1000)),[(1000,some (.lis 5 TU8 (List.take r.2 (clrL (e:=TU8) r.1 r.2)))),(1,some (.box 61 [.fn f []])),(0,none)])
theorem y_del (l:List Int) (f:FuncId):evFn cx_del Tryz.f134 false [.one (.own 0), .one (.fn 136 [1])] [.lis 5 TU8 l, .box 61 [.fn f []]] =
 need (Nat.ble l.length 1000000&&(holdF f).isSome) (branch (decide (ixI f l = -1)) (some (.d (.one (.own 0)),hLF l f)) (need (pre_del (ixI f l) (W64 (ixI f l+1)) l f) (delOut f (dlE f l (ixI f l))))):=by kernel_rfl
theorem sat_move2 {P:Program} {f:FuncId} {ds:List D} {o0 o1 p1:Obj} {t:TypeId} {e:Ty} {l:List (Den e)} (S:Sat P f ds [o0,o1] (.d (.one (.own 0))) [(0,some (.lis t e l)),(1,some p1)]) :
  Sat P f ds [o0,o1] (.d (.one (.own 1000))) [(1000,some (.lis t e l)),(1,some p1),(0,none)]:=by
 intro w F β args H hds;refine(S w F β args H hds).mono ?_;rintro ex w' ⟨v,F',β',r1,r2,r3,r4,r5,r6⟩;have h0:look [(0,some (Obj.lis t e l)),(1,some p1)] 0=some (some (.lis t e l)):=rfl;obtain⟨H1,_⟩:=r2.kill 0;rw[setB_self]at H1;have hs1:setH (look [(0,some (Obj.lis t e l)),(1,some p1)]) 0 none 1000=none:=rfl;have T:=H1.turn (w':=w') (F':=F') 1000 (some (.lis t e l)) (β' 0) rfl rfl rfl (Nat.le_refl _) (fun b=>Blk (β' 0) b)
  (fun b hb=>⟨r2.notF 0 _ b h0 hb,fun j o' _ hj hb'=>by
   simp only[setH]at hj
   split at hj
   ·cases hj
   ·rename_i hne;exact hne (r2.apart j 0 o' _ b hj h0 hb' hb),r2.fromO 0 _ b h0 hb⟩)
  (fun _ _ _=>rfl) (fun _ hf=>hf) (fun _ hf => .inl hf) (fun q0 _ h0=>by rw[hs1]at h0;cases h0)
  (fun _ ob hob=>by
   cases hob
   refine⟨RepO.leaf.2 ?_,fun b hb => .inl hb⟩;have:=RepO.leaf.1 (r2.obj 0 _ h0)
   simpa [setB]using this)
 have hcomm:setH (setH (look [(0,some (Obj.lis t e l)),(1,some p1)]) 0 none) 1000 (some (.lis t e l))=look [(1000,some (Obj.lis t e l)),(1,some p1),(0,none)]:=by
  funext j
  simp only[setH,look]
  by_cases h1:j=1000
  ·subst h1;rfl
  ·by_cases h2:j=0
   ·subst h2;rfl
   ·rw[if_neg h1,if_neg h2];have e1:Nat.beq 0 j=false:=by cases h:Nat.beq 0 j with | false=>rfl | true=>exact absurd (zB h).symm h2
    have e2:Nat.beq 1000 j=false:=by cases h:Nat.beq 1000 j with | false=>rfl | true=>exact absurd (zB h).symm h1
    rw[e1,e2];rfl
 rw[hcomm]at T;have hv:v=β' 0:=r6.2.2 _ h0;have h2:∀i,i<2→i=0∨i=1:=fun i hi=>by omega
 refine⟨v,F',_,r1,T.1,fun i hi => ?_,fun i o hi ho => ?_,fun _ _ _=>by simp, ?_⟩
 ·rcases h2 i hi with rfl | rfl
  ·exact ⟨none,rfl⟩
  ·exact ⟨some p1,rfl⟩
 ·rcases h2 i hi with rfl | rfl
  ·cases ho
  ·show setB β' 1000 (β' 0) 1=β 1;exact r4 1 p1 hi rfl
 ·exact ⟨r6.1,⟨_,rfl⟩,fun o ho=>by rw[hv];simp[setB]⟩
theorem ixV_lt {f:FuncId}:∀ {l:List Int} {k q:Nat},ixV f l k=some q→k≤q∧q<k+l.length
 | [],k,q,h=>by cases h
 |x::l,k,q,h=>by
  unfold ixV at h
  cases hc : !pF f (chrS x)<;>rw[hc]at h
  ·have:=ixV_lt (l:=l) (k:=k+1) (q:=q) h;simp only[length_cons];omega
  ·cases h
   simp only[length_cons];omega
theorem dlL_len (f:FuncId):∀(m:Nat) (l:List Int) (i j:Nat),(dlL f m l i j).1.length=l.length∧i≤(dlL f m l i j).2∧(dlL f m l i j).2≤i+m
 |0,l,i,j=>⟨rfl,Nat.le_refl _,Nat.le_refl _⟩
 |m+1,l,i,j=>by
  unfold dlL
  cases pF f (chrS (l.getD j 0))
  ·obtain ⟨h1,h2,h3⟩:=dlL_len f m l i (j+1);simp only[cond_false];omega
  ·obtain ⟨h1,h2,h3⟩:=dlL_len f m (l.set i (l.getD j 0)) (i+1) (j+1);rw[length_set]at h1;simp only[cond_true];omega
def delV (f:FuncId) (l:List Int):List Int:=bif decide (ixI f l = -1)then l else List.take (dlE f l (ixI f l)).2 (clrL (e:=TU8) (dlE f l (ixI f l)).1 (dlE f l (ixI f l)).2)
theorem s_del (l:List Int) (f:FuncId) (h:(Nat.ble l.length 1000000&&(holdF f).isSome)=true):Sat Tryz.prog 134 [.one (.own 0), .one (.fn 136 [1])] [.lis 5 TU8 l, .box 61 [.fn f []]] (.d (.one (.own 1000))) [(1000,some (.lis 5 TU8 (delV f l))),(1,some (.box 61 [.fn f []])),(0,none)]:=by
 have snd:∀ {x:T} {objs:Heap},evFn cx_del Tryz.f134 false [.one (.own 0), .one (.fn 136 [1])] [.lis 5 TU8 l, .box 61 [.fn f []]]=some (x,objs)→Sat Tryz.prog 134 [.one (.own 0), .one (.fn 136 [1])] [.lis 5 TU8 l, .box 61 [.fn f []]] x objs:=fun he =>
  fn_sound (cx:=cx_del) Tryz.func134 rfl ttOk Γ55ok mixed (fun c hc=>LoopsOk.all (l:=[(5,loopOf Tryz.f134 0)]) (by cases hc;kernel_rfl) ⟨atLoop rfl (l_del 1 rfl (by kernel_rfl)),trivial⟩) (ro:=false) he
 have y:=y_del l f;rw[h]at y;obtain⟨h1,h2⟩:=andd.1 h;have h1:=ble_iff.1 h1;unfold delV
 cases hc:decide (ixI f l = -1)
 ·rw[hc]at y;have hb:0≤ixI f l∧ixI f l<(l.length:Int):=by
   have hne:=of_decide_eq_false hc;unfold ixI at hne ⊢
   cases hv:ixV f l 0 with
   |none=>rw[hv]at hne;exact absurd rfl hne
   |some q =>
    have:=ixV_lt hv;show 0≤(q:Int)∧(q:Int)<_;omega
  have w:W64 (ixI f l+1)=ixI f l+1:=wrap_small (by omega) (by omega);have hp:pre_del (ixI f l) (W64 (ixI f l+1)) l f=true:=by
   rw[w];simp only[pre_del,andd,dec_iff,ble_iff];exact ⟨hb.1,by omega,by omega,h1,h2⟩
  obtain⟨c1,c2,c3⟩:(dlE f l (ixI f l)).1.length=l.length∧(ixI f l).toNat≤(dlE f l (ixI f l)).2∧(dlE f l (ixI f l)).2≤(ixI f l).toNat+(l.length-(W64 (ixI f l+1)).toNat):=dlL_len f _ _ _ _;rw[w]at c3;rw[hp]at y;refine snd (y.trans ?_);show delOut f (dlE f l (ixI f l))=_
  generalize dlE f l (ixI f l)=r at c1 c2 c3
  unfold delOut;have p3:(inr (r.2:Nat) (r.1.length:Int) r.1.length&&Nat.blt 0 r.1.length)=true:=andd.2 ⟨inr_iff.2 (by omega),Nat.ble_eq_true_of_le (by omega)⟩;have p4:Nat.blt r.2 r.1.length=true:=Nat.ble_eq_true_of_le (by omega);have p5:inr 0 (r.2:Nat) (clrL (e:=TU8) r.1 r.2).length=true:=inr_iff.2 (by rw[clr_len (by omega)];omega);rw[p3,p4,p5];rfl
 ·rw[hc]at y;exact sat_move2 (snd y)
def c_slices_DeleteFunc_byte_byte:Con:=⟨false,fun ds os=>match ds,os with
 | [.one (.own 0), .one (.fn g [1])],[o, .box t [.fn f []]]=>match exLis 5 TU8 (some o),Nat.beq g 136&&Nat.beq t 61 with
  |some l,true=>some (some (Nat.ble (length l) 1000000&&(holdF f).isSome), .d (.one (.own 1000)),[(1000,some (.lis 5 TU8 (delV f l))),(1,some (.box 61 [.fn f []])),(0,none)])
  |_,_=>none
 |_,_=>none⟩
theorem k_slices_DeleteFunc_byte_byte:ConOk Tryz.prog 134 c_slices_DeleteFunc_byte_byte:=by
 refine⟨Tryz.call134,fun ds os c x objs hc hok => ?_⟩;unfold c_slices_DeleteFunc_byte_byte at hc;dsimp only at hc
 split at hc
 ·split at hc
  ·rename_i l e1 e2
   cases hc
   have e1:=Option.some.inj (exLis_some e1);subst e1;obtain⟨h1,h2⟩:=andd.1 e2;have h1:=zB h1;have h2:=zB h2;subst h1;subst h2;exact s_del l _ (pre_of hok)
  ·cases hc
 ·cases hc
def Γ56:GL:=(134,c_slices_DeleteFunc_byte_byte)::Γ55
theorem Γ56ok:GO Γ56 := .cons k_slices_DeleteFunc_byte_byte Γ55ok
abbrev hQf (f:FuncId) (c:Int):Bool:=pF f (chrS c)
theorem dlL_fil (f:FuncId):∀(m:Nat) (l:List Int) (i j:Nat),i<j→j+m=l.length→(dlL f m l i j).1.take (dlL f m l i j).2=l.take i++(l.drop j).filter (hQf f)
 |0,l,i,j,h1,h2=>by
  rw[drop_eq_nil_of_le (by omega)];show l.take i=_;simp
 |m+1,l,i,j,h1,h2=>by
  rw[drop_at (show j<l.length by omega)];unfold dlL
  cases hc:pF f (chrS (l.getD j 0))
  ·simp only[cond_false];rw[dlL_fil f m l i (j+1) (by omega) (by omega),List.filter_cons_of_neg (by show ¬pF f (chrS (l.getD j 0))=true;rw[hc];exact Bool.false_ne_true)]
  ·simp only[cond_true];rw[dlL_fil f m (l.set i (l.getD j 0)) (i+1) (j+1) (by omega) (by rw[length_set];omega),List.filter_cons_of_pos (p:=hQf f) (a:=l.getD j 0) hc];have e2:(l.set i (l.getD j 0)).drop (j+1)=l.drop (j+1):=List.drop_set_of_lt (by omega);have e3:(l.set i (l.getD j 0)).take (i+1)=l.take i++[l.getD j 0]:=by
    rw[List.take_succ_eq_append_getElem (by rw[length_set];omega),List.take_set_of_le (Nat.le_refl _)];simp
   rw[e2,e3];simp
theorem ixV_none {f:FuncId}:∀ {l:List Int} {k:Nat},ixV f l k=none→l.filter (hQf f)=l
 | [],_,_=>rfl
 |x::l,k,h=>by
  unfold ixV at h
  cases hc:pF f (chrS x)<;>rw[hc]at h
  ·cases h
  ·rw[List.filter_cons_of_pos (by simp[hQf,hc]),ixV_none (k:=k+1) h]
theorem ixV_some {f:FuncId}:∀ {l:List Int} {k q:Nat},ixV f l k=some q→(l.take (q-k)).filter (hQf f)=l.take (q-k)∧hQf f (l.getD (q-k) 0)=false
 | [],_,_,h=>by cases h
 |x::l,k,q,h=>by
  unfold ixV at h
  cases hc:pF f (chrS x)<;>rw[hc]at h
  ·cases h
   rw[Nat.sub_self];exact⟨rfl,hc⟩
  ·have hlt:=ixV_lt (l:=l) (k:=k+1) h;obtain⟨h1,h2⟩:=ixV_some (l:=l) (k:=k+1) h;rw[show q-k=q-(k+1)+1 by omega,List.take_succ_cons,List.filter_cons_of_pos (by simp[hQf,hc]),h1];exact⟨rfl,h2⟩
theorem delV_eq {f:FuncId} {l:List Int} (hl:l.length≤1000000):delV f l=l.filter (hQf f):=by
 unfold delV
 cases hv:ixV f l 0 with
 |none =>
  have h1:ixI f l = -1:=by unfold ixI;rw[hv];rfl
  rw[zT h1];exact(ixV_none hv).symm
 |some q =>
  have h1:ixI f l=(q:Int):=by unfold ixI;rw[hv];rfl
  have hlt:=ixV_lt hv;obtain⟨h2,h3⟩:=ixV_some hv;rw[h1,zF (show ¬(q:Int) = -1 by omega)];have w:W64 ((q:Int)+1)=q+1:=wrap_small (by omega) (by omega);have e0:dlE f l (q:Int)=dlL f (l.length-(q+1)) l q (q+1):=by
   show dlL f (l.length-(W64 ((q:Int)+1)).toNat) l (q:Int).toNat (W64 ((q:Int)+1)).toNat=_;rw[w,show ((q:Int)+1).toNat=q+1 by omega,show (q:Int).toNat=q by omega]
  rw[e0];obtain⟨c1,c2,c3⟩:=dlL_len f (l.length-(q+1)) l q (q+1);have e1:=dlL_fil f (l.length-(q+1)) l q (q+1) (by omega) (by omega)
  generalize dlL f (l.length-(q+1)) l q (q+1)=r at c1 c2 c3 e1
  show List.take r.2 (clrL (e:=TU8) r.1 r.2)=_;have e2:List.take r.2 (clrL (e:=TU8) r.1 r.2)=r.1.take r.2:=by
   show List.take r.2 (List.take r.2 r.1++replicate (r.1.length-r.2) (0:Int))=_;rw[List.take_append_of_le_length (by rw[length_take];omega),List.take_take,Nat.min_self]
  rw[e2,e1];have h2':(l.take q).filter (hQf f)=l.take q:=h2;have h3':hQf f (l.getD q 0)=false:=h3;have e3:l=l.take q++l.getD q 0::l.drop (q+1):=by rw[← drop_at (show q<l.length by omega),List.take_append_drop]
  conv=>rhs;rw[e3]
  rw[List.filter_append,h2',List.filter_cons_of_neg (by rw[h3'];exact Bool.false_ne_true)]
/-! ### sets of signs -/
abbrev Asc (s:Str):Prop:=s.Pairwise fun a b=>a.toNat<b.toNat
theorem asc_ext:∀ {s t:Str},Asc s→Asc t→(∀c,c∈s↔c∈t)→s=t
 | [],[],_,_,_=>rfl
 | [],b::t,_,_,h=>absurd ((h b).2 mem_cons_self) (by simp)
 |a::s,[],_,_,h=>absurd ((h a).1 mem_cons_self) (by simp)
 |a::s,b::t,hs,ht,h=>by
  obtain⟨s1,s2⟩:=List.pairwise_cons.1 hs;obtain⟨t1,t2⟩:=List.pairwise_cons.1 ht;have hab:a=b:=by
   rcases List.mem_cons.1 ((h a).1 mem_cons_self)with h1 | h1
   ·exact h1
   ·rcases List.mem_cons.1 ((h b).2 mem_cons_self)with h2 | h2
    ·exact h2.symm
    ·have:=t1 a h1;have:=s1 b h2;omega
  subst hab;refine congrArg (a::·) (asc_ext s2 t2 fun c=>⟨fun hc => ?_,fun hc => ?_⟩)
  ·rcases List.mem_cons.1 ((h c).1 (mem_cons_of_mem _ hc))with h1 | h1
   ·subst h1;have:=s1 c hc;omega
   ·exact h1
  ·rcases List.mem_cons.1 ((h c).2 (mem_cons_of_mem _ hc))with h1 | h1
   ·subst h1;have:=t1 c hc;omega
   ·exact h1
def addS (c:UInt8):Str→Str
 | []=>[c]
 |x::s=>bif Nat.blt x.toNat c.toNat then x::addS c s else bif Nat.beq x.toNat c.toNat then x::s else c::x::s
theorem addS_mem {c y:UInt8}:∀ {s:Str},y∈addS c s↔y=c∨y∈s
 | []=>by simp[addS]
 |x::s=>by
  unfold addS
  cases h1:Nat.blt x.toNat c.toNat
  ·cases h2:Nat.beq x.toNat c.toNat
   ·simp
   ·have e:x=c:=UInt8.toNat_inj.1 (zB h2);subst e;simp
  ·simp only[cond_true,List.mem_cons,addS_mem (s:=s)]
   constructor
   ·rintro (h | h | h)
    ·exact .inr (.inl h)
    ·exact .inl h
    ·exact .inr (.inr h)
   ·rintro (h | h | h)
    ·exact .inr (.inl h)
    ·exact .inl h
    ·exact .inr (.inr h)
theorem addS_asc {c:UInt8}:∀ {s:Str},Asc s→Asc (addS c s)
 | [],_=>by simp[addS,Asc]
 |x::s,h=>by
  obtain⟨h1,h2⟩:=List.pairwise_cons.1 h;unfold addS
  cases e1:Nat.blt x.toNat c.toNat
  ·cases e2:Nat.beq x.toNat c.toNat
   ·have hc:c.toNat<x.toNat:=by
     have n1:¬x.toNat<c.toNat:=fun hh=>by
      have hb:Nat.blt x.toNat c.toNat=true:=Nat.ble_eq_true_of_le hh;rw[hb]at e1;cases e1
     have n2:x.toNat≠c.toNat:=fun hh=>by rw[hh,Nat.beq_refl]at e2;cases e2
     omega
    refine List.pairwise_cons.2 ⟨fun y hy => ?_,h⟩;rcases List.mem_cons.1 hy with rfl | hy
    ·exact hc
    ·have:=h1 y hy;omega
   ·exact h
  ·have hx:x.toNat<c.toNat:=Nat.le_of_ble_eq_true e1;refine List.pairwise_cons.2 ⟨fun y hy => ?_,addS_asc h2⟩;rcases addS_mem.1 hy with rfl | hy
   ·exact hx
   ·exact h1 y hy
theorem addS_len {c:UInt8}:∀ {s:Str},(addS c s).length≤s.length+1
 | []=>Nat.le_refl _
 |x::s=>by
  unfold addS;have:=addS_len (c:=c) (s:=s)
  cases Nat.blt x.toNat c.toNat
  ·cases Nat.beq x.toNat c.toNat<;>simp
  ·simp only[cond_true,length_cons];omega
def putS (p:UInt8→Bool) (o:Str):Str→Str
 | []=>o
 |x::s=>putS p (bif p x then addS x o else o) s
theorem putS_mem {p:UInt8→Bool} {y:UInt8}:∀ {s o:Str},y∈putS p o s↔y∈o∨(y∈s∧p y=true)
 | [],o=>by simp[putS]
 |x::s,o=>by
  unfold putS;rw[putS_mem]
  cases hp:p x
  ·simp only[cond_false,List.mem_cons]
   constructor
   ·rintro (h | h)
    ·exact .inl h
    ·exact .inr ⟨.inr h.1,h.2⟩
   ·rintro (h | ⟨rfl | h,h2⟩)
    ·exact .inl h
    ·rw[hp]at h2;cases h2
    ·exact .inr ⟨h,h2⟩
  ·simp only[cond_true,addS_mem,List.mem_cons]
   constructor
   ·rintro ((rfl | h) | h)
    ·exact .inr ⟨.inl rfl,hp⟩
    ·exact .inl h
    ·exact .inr ⟨.inr h.1,h.2⟩
   ·rintro (h | ⟨rfl | h,h2⟩)
    ·exact .inl (.inr h)
    ·exact .inl (.inl rfl)
    ·exact .inr ⟨h,h2⟩
theorem putS_asc {p:UInt8→Bool}:∀ {s o:Str},Asc o→Asc (putS p o s)
 | [],_,h=>h
 |x::s,o,h=>by
  unfold putS;refine putS_asc ?_
  cases p x
  ·exact h
  ·exact addS_asc h
def setS (p:UInt8→Bool) (s:Str):Str:=putS p [] s
theorem setS_mem {p:UInt8→Bool} {y:UInt8} {s:Str}:y∈setS p s↔y∈s∧p y=true:=by
 unfold setS;rw[putS_mem];simp
theorem setS_asc {p:UInt8→Bool} {s:Str}:Asc (setS p s):=putS_asc .nil
theorem setS_eq {p:UInt8→Bool} {s t:Str} (ha:Asc t) (h:∀y,y∈t↔y∈s∧p y=true):t=setS p s:=asc_ext ha setS_asc fun y=>by rw[h,setS_mem]
theorem chr_big:∀n:Nat,n<256→bigS (chrS (n:Int))=(Nat.ble 65 n&&Nat.ble n 69):=by decide +kernel
theorem chr_small:∀n:Nat,n<256→smallS (chrS (n:Int))=(Nat.ble 97 n&&Nat.ble n 100):=by decide +kernel
def pB (f:FuncId):UInt8→Bool:=bif Nat.beq f 42 then bigc else bif Nat.beq f 55 then small else fun _=>true
theorem pB_eq {f:FuncId} (h:(holdF f).isSome=true) (c:UInt8):hQf f (c.toNat:Int)=pB f c:=by
 unfold hQf pF pB;unfold holdF at h ⊢
 cases h1:Nat.beq f 42
 ·cases h2:Nat.beq f 55
  ·cases h3:isUni f
   ·rw[h1,h2,h3]at h;cases h
   ·rfl
  ·exact chr_small c.toNat c.toNat_lt
 ·exact chr_big c.toNat c.toNat_lt
noncomputable def setV (f:FuncId) (s:Str):Str:=byteL (delV f (cptV (sortL (intL s))))
theorem cpt_len (s:Str):(cptV (sortL (intL s))).length≤s.length:=by
 have ha:=cptV_asc (sortL_sorted (intL s));have hnd:(cptV (sortL (intL s))).Nodup:=ha.imp fun hh=>by omega
 have:=hnd.length_le_of_subset (l₂:=sortL (intL s)) fun x hx=>cptV_mem.1 hx;rw[sortL_len]at this;have h2:(intL s).length=s.length:=by unfold intL;rw[List.length_map]
 omega
theorem setV_eq {f:FuncId} {s:Str} (h:(holdF f).isSome=true) (hl:s.length<50):setV f s=setS (pB f) s:=by
 have h0:∀n∈cptV (sortL (intL s)),∃b∈s,n=(b.toNat:Int):=fun n hn=>by
  have:=(sortL_perm _).mem_iff.1 (cptV_mem.1 hn);unfold intL at this;obtain⟨b,h1,h2⟩:=List.mem_map.1 this;exact⟨b,h1,h2.symm⟩
 have hlen:(cptV (sortL (intL s))).length≤1000000:=by have:=cpt_len s;omega
 unfold setV;rw[delV_eq hlen];have h1:∀n∈(cptV (sortL (intL s))).filter (hQf f),∃b∈s,n=(b.toNat:Int):=fun n hn=>h0 n (List.mem_filter.1 hn).1;refine setS_eq ?_ fun y=>⟨fun hy => ?_,fun hy => ?_⟩
 ·show (byteL _).Pairwise _;unfold byteL;rw[List.pairwise_map];refine((cptV_asc (sortL_sorted (intL s))).filter _).imp_of_mem fun {a b} ha hb hab => ?_;obtain⟨x,_,rfl⟩:=h1 a ha;obtain⟨z,_,rfl⟩:=h1 b hb;rw[byteL_nat,byteL_nat];omega
 ·unfold byteL at hy;obtain⟨n,hn,rfl⟩:=List.mem_map.1 hy;obtain⟨b,hb,rfl⟩:=h1 n hn;have:=(List.mem_filter.1 hn).2;rw[byteL_nat];exact⟨hb,by rw[← pB_eq h];exact this⟩
 ·unfold byteL;refine List.mem_map.2 ⟨(y.toNat:Int),List.mem_filter.2 ⟨?_,by rw[pB_eq h];exact hy.2⟩,byteL_nat y⟩;refine cptV_mem.2 ((sortL_perm _).mem_iff.2 ?_);unfold intL;exact List.mem_map.2 ⟨y,hy.1,rfl⟩
def cb_l1In:Cx:=cxOf Γ56 Tryz.f85.ntmps [(2,[0,1,5])] [(0,[]),(1,[0,1,5]),(1000000,[4])] [] []
abbrev st_l1In (s:Str) (c i:Int):St:=⟨[(0,vS s),(1, .d (ofD TU8 c)),(5,vI i)],[]⟩
theorem x_spec_l1In (s:Str) (c i:Int) (R:St→Option Fin) (K:Cont):evC (cb_l1In.withLoops (look [])) (loopOf Tryz.f85 0) (st_l1In s c i) (onward (headAt (cb_l1In.withLoops (look [])) 2) R K)=(
branch (decide (i<(s.length:Int))) (
 need (inb i s.length) <|
 branch (decide (byteAt s i=c)) ( K (.ret) (.mk [(4,vB true)] [])) ( R (.mk [(0,vS s),(1,(.d (.one (.r (.v (Value.int IntKind.u8 c)))))),(5,vI (W64 (i+1)))] []))) ( K (.exit 0) (.mk [] []))):=by kernel_rfl
def cx0_l1In:Cx:=(cb_l1In).withLoops (look [])
def sh_l1In:Sh:=([(0, .d .str),(1, .d TU8),(5, .d TI64)],[])
def pre_l1In (s:Str) (_c i:Int):Bool:=decide (0≤i)&&Nat.ble s.length big
def res_l1In (s:Str) (c i:Int) (K:Cont):Option Fin:=branch (inS (s.drop i.toNat) c) (K .ret ⟨[(4,vB true)],[]⟩) (K (.exit 0) ⟨[],[]⟩)
def mu_l1In (s:Str) (_c i:Int):Nat:=s.length-i.toNat
theorem r_l1In (s:Str) (c i:Int) (K:Cont) (hI:pre_l1In s c i=true):(∀R:St→Option Fin,evC cx0_l1In (loopOf Tryz.f85 0) (st_l1In s c i) (onward (headAt cx0_l1In 2) R K)=res_l1In s c i K) ∨
  (∃(s':Str) (c' i':Int),pre_l1In s' c' i'=true∧mu_l1In s' c' i'<mu_l1In s c i∧res_l1In s' c' i' K=res_l1In s c i K∧∀R:St→Option Fin,evC cx0_l1In (loopOf Tryz.f85 0) (st_l1In s c i) (onward (headAt cx0_l1In 2) R K)=R (st_l1In s' c' i')):=by
 have hx:=fun R=>x_spec_l1In s c i R K;simp only[pre_l1In,andd,dec_iff,ble_iff]at hI;obtain⟨h0,h1⟩:=hI
 by_cases hi:i<(s.length:Int)
 ·have hg:=inS_at (c:=c) h0 hi;simp only[hi,decide_true,inb_ok h0 hi,branch_true,W1 h0 hi h1]at hx
  cases hc:decide (byteAt s i=c)
  ·right;rw[hc]at hg;refine⟨s,c,i+1, ?_, ?_, ?_,fun R=>(hx R).trans ?_⟩
   ·exact andd.2 ⟨dec_iff.2 (by omega),ble_iff.2 h1⟩
   ·simp only[mu_l1In];omega
   ·simp only[res_l1In,hg];rfl
   ·rw[hc];rfl
  ·left;intro R;rw[hc]at hg;refine(hx R).trans ?_;rw[hc];simp only[res_l1In,hg];rfl
 ·left;intro R;refine(hx R).trans ?_;simp only[hi,decide_false,branch_false,res_l1In];rw[drop_eq_nil_of_le (by omega)];rfl
def g_l1In:St→Cont→Option Fin:=gP sh_l1In (fun v=>match v with | ((s,c,i,()),())=>pre_l1In s c i) (fun v K=>match v with | ((s,c,i,()),())=>res_l1In s c i K)
def L_l1In:LpL:=(2,g_l1In)::[]
def cx_l1In:Cx:=(cb_l1In).withLoops (look L_l1In)
theorem l_l1In {L:LpL} (n:Nat) (h1:L.drop n=[]) (h2:idsFree (L.take n) (loopOf Tryz.f85 0)=true):LoopsTo g_l1In (cb_l1In) (loopOf Tryz.f85 0) 2 L :=
 with_drop h1 h2 (gP_ok (fun v=>match v with | ((s,c,i,()),())=>mu_l1In s c i) fun v K hI=>by
  obtain⟨⟨s,c,i,⟨⟩⟩,⟨⟩⟩:=v;exact(r_l1In s c i K hI).imp id fun⟨s',c',i',h⟩=>⟨((s',c',i',()),()),h⟩)
theorem y_spec_l1In (s:Str) (c:Int):evFn cx_l1In Tryz.f85 true [ofD .str s,ofD TU8 c] []=(
need (pre_l1In s c 0) <|
branch (inS s c) ( some ((vB true),[])) ( some ((vB false),[]))):=by kernel_rfl
theorem s_spec_l1In (s:Str) (hs:Fit .str s) (c:Int) (_hc:Fit TU8 c):Sat Tryz.prog 85 [ofD .str s,ofD TU8 c] [] (.d (ofD .bool (inS s c))) [] :=
 fn_sound (cx:=cx_l1In) Tryz.func85 rfl ttOk Γ56ok mixed (fun c hc=>LoopsOk.all (l:=[(2,loopOf Tryz.f85 0)]) (by cases hc;kernel_rfl) ⟨atLoop rfl (l_l1In 1 rfl (by kernel_rfl)),trivial⟩) (ro:=true) (by
  have h:pre_l1In s c 0=true:=andd.2 ⟨rfl,ble_iff.2 hs⟩;rw[y_spec_l1In,h];show branch (inS s c) _ _=_
  cases inS s c<;>rfl)
def c_spec_l1In:Con:=conT [.str,TU8] fun(s:Str) (c:Int)=>(none, .d (ofD .bool (inS s c)))
theorem k_spec_l1In:ConOk Tryz.prog 85 c_spec_l1In:=conT_ok Tryz.call85 fun s hs c hc _=>s_spec_l1In s hs c hc
def Γ57:GL:=(85,c_spec_l1In)::Γ56
theorem Γ57ok:GO Γ57 := .cons k_spec_l1In Γ56ok
def lowN (c:Int):Str→Nat
 | []=>0
 |x::s=>bif decide ((x.toNat:Int)<c)then lowN c s+1 else 0
theorem lowN_le {c:Int}:∀ {s:Str},lowN c s≤s.length
 | []=>Nat.le_refl _
 |x::s=>by
  unfold lowN;have:=lowN_le (c:=c) (s:=s)
  cases decide ((x.toNat:Int)<c)<;>simp<;>omega
theorem lowN_at {s:Str} {i c:Int} (h0:0≤i) (h1:i<(s.length:Int)):lowN c (s.drop i.toNat)=bif decide (byteAt s i<c)then lowN c (s.drop (i+1).toNat)+1 else 0:=by
 have hn:i.toNat<s.length:=by omega
 rw[drop_eq_getElem_cons hn,show (i+1).toNat=i.toNat+1 by omega,byteAt_get h0 hn];rfl
theorem add_low {c:UInt8}:∀(s:Str),addS c s=bif (bif Nat.blt (lowN c.toNat s) s.length then Nat.beq (s.getD (lowN c.toNat s) 0).toNat c.toNat else false)then s else s.take (lowN c.toNat s)++c::s.drop (lowN c.toNat s)
 | []=>rfl
 |x::s=>by
  unfold addS lowN;have e:decide ((x.toNat:Int)<(c.toNat:Int))=Nat.blt x.toNat c.toNat:=by
   show _=Nat.ble (x.toNat+1) c.toNat;rw[ble_dec,decide_eq_decide];omega
  rw[e]
  cases h1:Nat.blt x.toNat c.toNat
  ·show _=bif (bif Nat.blt 0 (s.length+1)then Nat.beq x.toNat c.toNat else false)then x::s else c::x::s;rw[show Nat.blt 0 (s.length+1)=true from ble_iff.2 (by omega)];rfl
  ·have ih:=add_low (c:=c) s;show x::addS c s=bif (bif Nat.blt (lowN c.toNat s+1) (s.length+1)then Nat.beq (s.getD (lowN c.toNat s) 0).toNat c.toNat else false)then x::s else x::(s.take (lowN c.toNat s)++c::s.drop (lowN c.toNat s));rw[ih,show Nat.blt (lowN c.toNat s+1) (s.length+1)=Nat.blt (lowN c.toNat s) s.length from rfl]
   cases (bif Nat.blt (lowN c.toNat s) s.length then Nat.beq (s.getD (lowN c.toNat s) 0).toNat c.toNat else false)<;>rfl
def cb_l1Add:Cx:=cxOf Γ57 Tryz.f117.ntmps [(2,[0,1,5])] [(0,[0,1,5]),(1,[0,1,5]),(1000000,[4])] [] []
abbrev st_l1Add (s:Str) (c i:Int):St:=⟨[(0,vS s),(1, .d (ofD TU8 c)),(5,vI i)],[]⟩
theorem x_spec_l1Add (s:Str) (c i:Int) (R:St→Option Fin) (K:Cont):evC (cb_l1Add.withLoops (look [])) (loopOf Tryz.f117 0) (st_l1Add s c i) (onward (headAt (cb_l1Add.withLoops (look [])) 2) R K)=(
need (bif decide (decide (i<(s.length:Int))=true)then inb i s.length else true) <|
branch (bif decide (i<(s.length:Int))then decide (byteAt s i<c)else false) ( R (.mk [(0,vS s),(1,(.d (.one (.r (.v (Value.int IntKind.u8 c)))))),(5,vI (W64 (i+1)))] [])) ( K (.exit 0) (.mk [(0,vS s),(1,(.d (.one (.r (.v (Value.int IntKind.u8 c)))))),(5,vI i)] []))):=by kernel_rfl
def cx0_l1Add:Cx:=(cb_l1Add).withLoops (look [])
def sh_l1Add:Sh:=([(0, .d .str),(1, .d TU8),(5, .d TI64)],[])
def pre_l1Add (s:Str) (_c i:Int):Bool:=decide (0≤i)&&Nat.ble s.length big
def res_l1Add (s:Str) (c i:Int) (K:Cont):Option Fin:=K (.exit 0) ⟨[(0,vS s),(1, .d (ofD TU8 c)),(5,vI (i+lowN c (s.drop i.toNat)))],[]⟩
def mu_l1Add (s:Str) (_c i:Int):Nat:=s.length-i.toNat
theorem r_l1Add (s:Str) (c i:Int) (K:Cont) (hI:pre_l1Add s c i=true):(∀R:St→Option Fin,evC cx0_l1Add (loopOf Tryz.f117 0) (st_l1Add s c i) (onward (headAt cx0_l1Add 2) R K)=res_l1Add s c i K) ∨
  (∃(s':Str) (c' i':Int),pre_l1Add s' c' i'=true∧mu_l1Add s' c' i'<mu_l1Add s c i∧res_l1Add s' c' i' K=res_l1Add s c i K∧∀R:St→Option Fin,evC cx0_l1Add (loopOf Tryz.f117 0) (st_l1Add s c i) (onward (headAt cx0_l1Add 2) R K)=R (st_l1Add s' c' i')):=by
 have hx:=fun R=>x_spec_l1Add s c i R K;simp only[pre_l1Add,andd,dec_iff,ble_iff]at hI;obtain⟨h0,h1⟩:=hI
 by_cases hi:i<(s.length:Int)
 ·have hg:=lowN_at (c:=c) h0 hi;simp only[hi,decide_true,inb_ok h0 hi,Bool.cond_self,branch_true,W1 h0 hi h1]at hx
  cases hc:decide (byteAt s i<c)
  ·left;intro R;rw[hc]at hg;refine(hx R).trans ?_;rw[hc];simp only[res_l1Add,hg,cond_false];rw[show i+((0:Nat):Int)=i by omega];rfl
  ·right;rw[hc]at hg;refine⟨s,c,i+1, ?_, ?_, ?_,fun R=>(hx R).trans ?_⟩
   ·exact andd.2 ⟨dec_iff.2 (by omega),ble_iff.2 h1⟩
   ·simp only[mu_l1Add];omega
   ·simp only[res_l1Add,hg,cond_true];rw[show i+1+(lowN c (s.drop (i+1).toNat):Int)=i+((lowN c (s.drop (i+1).toNat)+1:Nat):Int)by omega]
   ·rw[hc];rfl
 ·left;intro R;refine(hx R).trans ?_;simp only[hi,decide_false,res_l1Add];rw[drop_eq_nil_of_le (by omega)];show _=K (.exit 0) ⟨[(0,vS s),(1, .d (ofD TU8 c)),(5,vI (i+((0:Nat):Int)))],[]⟩;rw[show i+((0:Nat):Int)=i by omega];rfl
def g_l1Add:St→Cont→Option Fin:=gP sh_l1Add (fun v=>match v with | ((s,c,i,()),())=>pre_l1Add s c i) (fun v K=>match v with | ((s,c,i,()),())=>res_l1Add s c i K)
def L_l1Add:LpL:=(2,g_l1Add)::[]
def cx_l1Add:Cx:=(cb_l1Add).withLoops (look L_l1Add)
theorem l_l1Add {L:LpL} (n:Nat) (h1:L.drop n=[]) (h2:idsFree (L.take n) (loopOf Tryz.f117 0)=true):LoopsTo g_l1Add (cb_l1Add) (loopOf Tryz.f117 0) 2 L :=
 with_drop h1 h2 (gP_ok (fun v=>match v with | ((s,c,i,()),())=>mu_l1Add s c i) fun v K hI=>by
  obtain⟨⟨s,c,i,⟨⟩⟩,⟨⟩⟩:=v;exact(r_l1Add s c i K hI).imp id fun⟨s',c',i',h⟩=>⟨((s',c',i',()),()),h⟩)
theorem y_spec_l1Add (s:Str) (c:Int):evFn cx_l1Add Tryz.f117 true [ofD .str s,ofD TU8 c] []=(
need (pre_l1Add s c 0) <|
need (bif decide (decide (0+(lowN c s:Int)<(s.length:Int))=true)then inb (0+(lowN c s:Int)) s.length else true) <|
branch (bif decide (0+(lowN c s:Int)<(s.length:Int))then decide (byteAt s (0+(lowN c s:Int))=c)else false) ( some ((vS s),[])) (
 need (inr 0 (0+(lowN c s:Int)) s.length) <|
 need (decide (((List.take ((0+(lowN c s:Int)).toNat-(0:Int).toNat) s).length+(byteL [c]).length)≤9223372036854775807)) <|
 need (inr (0+(lowN c s:Int)) ((s.length:Int)) s.length) <|
 need (decide ((((List.take ((0+(lowN c s:Int)).toNat-(0:Int).toNat) s).append (byteL [c])).length+(List.take (((s.length:Int)).toNat-(0+(lowN c s:Int)).toNat) (List.drop (0+(lowN c s:Int)).toNat s)).length)≤9223372036854775807)) <| some ((vS (((List.take ((0+(lowN c s:Int)).toNat-(0:Int).toNat) s).append (byteL [c])).append (List.take (((s.length:Int)).toNat-(0+(lowN c s:Int)).toNat) (List.drop (0+(lowN c s:Int)).toNat s)))),[]))):=by kernel_rfl
theorem s_spec_l1Add (s:Str) (hs:Fit .str s) (c:Int) (hc:Fit TU8 c) (hpre:(Nat.ble s.length 1000000)=true):Sat Tryz.prog 117 [ofD .str s,ofD TU8 c] [] (.d (ofD .str (addS (UInt8.ofNat c.toNat) s))) [] :=
 fn_sound (cx:=cx_l1Add) Tryz.func117 rfl ttOk Γ57ok mixed (fun c hc=>LoopsOk.all (l:=[(2,loopOf Tryz.f117 0)]) (by cases hc;kernel_rfl) ⟨atLoop rfl (l_l1Add 1 rfl (by kernel_rfl)),trivial⟩) (ro:=true) (by
  have hn:=lowN_le (c:=c) (s:=s);have hb:=ble_iff.1 hpre;have h:pre_l1Add s c 0=true:=andd.2 ⟨rfl,ble_iff.2 hs⟩;have ha:=add_low (c:=UInt8.ofNat c.toNat) s;have hq:=u8_nat hc;rw[hq]at ha;rw[y_spec_l1Add,h,ha];clear ha
  generalize lowN c s=n at hn
  have e0:(0+(n:Int))=(n:Int):=Int.zero_add _;rw[e0];have e1:((n:Int)).toNat=n:=Int.toNat_natCast n;have e2:List.take (((s.length:Int)).toNat-n) (List.drop n s)=List.drop n s:=List.take_of_length_le (by rw[length_drop];omega);have hl:(byteL [c]).length=1:=rfl;have k3:inr 0 (n:Int) s.length=true:=inr_iff.2 (by omega);have k4:decide ((List.take (((n:Int)).toNat-(0:Int).toNat) s).length+(byteL [c]).length≤9223372036854775807)=true:=dec_iff.2 (by rw[length_take,hl];omega);have k5:inr (n:Int) ((s.length:Int)) s.length=true:=inr_iff.2 (by omega);have k6:decide (((List.take (((n:Int)).toNat-(0:Int).toNat) s).append (byteL [c])).length+(List.take (((s.length:Int)).toNat-((n:Int)).toNat) (List.drop ((n:Int)).toNat s)).length≤9223372036854775807)=true:=dec_iff.2 (by
   rw[e1,e2,List.append_eq,length_append,length_take,length_drop,hl];omega)
  have e3:((List.take (n-(0:Int).toNat) s).append (byteL [c])).append (List.drop n s)=List.take n s++UInt8.ofNat c.toNat::List.drop n s:=by
   show(List.take n s++[UInt8.ofNat c.toNat])++List.drop n s=_;rw[append_assoc];rfl
  rw[k3,k4,k5,k6,e1,e2,e3]
  by_cases hi:n<s.length
  ·have hi':(n:Int)<(s.length:Int):=by omega
   have hx:decide (byteAt s (n:Int)=c)=Nat.beq (s.getD n 0).toNat (UInt8.ofNat c.toNat).toNat:=by
    show decide (((s.getD n 0).toNat:Int)=c)=_
    cases hb':Nat.beq (s.getD n 0).toNat (UInt8.ofNat c.toNat).toNat
    ·refine zF fun hh => ?_;rw[show (s.getD n 0).toNat=(UInt8.ofNat c.toNat).toNat by omega,Nat.beq_refl]at hb'
     cases hb'
    ·have:=zB hb';exact zT (by omega)
   rw[hx,zT hi',inb_ok (by omega) hi',show Nat.blt n s.length=true from ble_iff.2 hi]
   cases Nat.beq (s.getD n 0).toNat (UInt8.ofNat c.toNat).toNat<;>rfl
  ·have hi':¬(n:Int)<(s.length:Int):=by omega
   have hb2:Nat.blt n s.length=false:=by
    cases hb':Nat.blt n s.length
    ·rfl
    ·exact absurd (ble_iff.1 hb') hi
   rw[zF hi',hb2];rfl)
def c_spec_l1Add:Con:=conT [.str,TU8] fun(s:Str) (c:Int)=>(some (Nat.ble s.length 1000000), .d (ofD .str (addS (UInt8.ofNat c.toNat) s)))
theorem k_spec_l1Add:ConOk Tryz.prog 117 c_spec_l1Add:=conT_ok Tryz.call117 fun s hs c hc hqq=>s_spec_l1Add s hs c hc (pre_of hqq)
def Γ58:GL:=(117,c_spec_l1Add)::Γ57
theorem Γ58ok:GO Γ58 := .cons k_spec_l1Add Γ57ok
def bigsG (g:Gram):Str:=setS bigc (signsG g)
def smallsG (g:Gram):Str:=setS small (signsG g)
theorem setS_congr {p q:UInt8→Bool} {s:Str} (h:∀c∈s,p c=q c):setS p s=setS q s:=setS_eq setS_asc fun y=>by
 rw[setS_mem];exact⟨fun ⟨h1,h2⟩=>⟨h1,(h y h1) ▸ h2⟩,fun ⟨h1,h2⟩=>⟨h1,(h y h1).symm ▸ h2⟩⟩
theorem bigs_eq {g:Gram}:setS (fun c=>bigc c==true) (signsG g)=bigsG g:=setS_congr fun c _=>by cases bigc c<;>rfl
def cb_everySign:Cx:=cxOf Γ58 Tryz.f103.ntmps [(3,[3,9,10,11])] [(0,[3]),(1,[3,9,10,11]),(1000000,[2])] [] []
abbrev st_everySign (s:Str) (l:List Rule) (n i:Int):St:=⟨[(3,vS s),(9, .d (ofD TRL l)),(10,vI n),(11,vI i)],[]⟩
theorem x_impl_everySign (s:Str) (l:List Rule) (n i:Int) (R:St→Option Fin) (K:Cont):evC (cb_everySign.withLoops (look [])) (loopOf Tryz.f103 0) (st_everySign s l n i) (onward (headAt (cb_everySign.withLoops (look [])) 3) R K)=(
branch (decide (i<n)) (
 need (inb i l.length) <|
 need (decide ((length (l.getD i.toNat d0).fst+length (l.getD i.toNat d0).snd)≤9223372036854775807)) <|
 need (decide ((length s+(List.append (l.getD i.toNat d0).fst (l.getD i.toNat d0).snd).length)≤9223372036854775807)) <| R (st_everySign (List.append s (List.append (l.getD i.toNat d0).fst (l.getD i.toNat d0).snd)) l n (W64 (i+1)))) ( K (.exit 0) (.mk [(3,vS s)] []))):=by kernel_rfl
def cx0_everySign:Cx:=(cb_everySign).withLoops (look [])
def sh_everySign:Sh:=([(3, .d .str),(9, .d TRL),(10, .d TI64),(11, .d TI64)],[])
def pre_everySign (s:Str) (l:List Rule) (n i:Int):Bool:=decide (0≤i)&&(decide (n=(length l:Int))&&(Nat.ble (length l) big&&Nat.ble (s.length+(sgsOf (l.drop i.toNat)).length) 1000000))
def res_everySign (s:Str) (l:List Rule) (_n i:Int) (K:Cont):Option Fin:=K (.exit 0) ⟨[(3,vS (s++sgsOf (l.drop i.toNat)))],[]⟩
def mu_everySign (_s:Str) (l:List Rule) (_n i:Int):Nat:=length l-i.toNat
theorem r_everySign (s:Str) (l:List Rule) (n i:Int) (K:Cont) (hI:pre_everySign s l n i=true):(∀R:St→Option Fin,evC cx0_everySign (loopOf Tryz.f103 0) (st_everySign s l n i) (onward (headAt cx0_everySign 3) R K)=res_everySign s l n i K) ∨
  (∃(s':Str) (l':List Rule) (n' i':Int),pre_everySign s' l' n' i'=true∧mu_everySign s' l' n' i'<mu_everySign s l n i∧res_everySign s' l' n' i' K=res_everySign s l n i K∧∀R:St→Option Fin,evC cx0_everySign (loopOf Tryz.f103 0) (st_everySign s l n i) (onward (headAt cx0_everySign 3) R K)=R (st_everySign s' l' n' i')):=by
 have hx:=fun R=>x_impl_everySign s l n i R K;simp only[pre_everySign,andd,dec_iff,ble_iff]at hI;obtain⟨h0,rfl,h1,h2⟩:=hI
 by_cases hi:i<(l.length:Int)
 ·have hg:=sgs_at h0 hi;rw[hg,length_append,length_append]at h2;have k1:decide ((l.getD i.toNat d0).1.length+(l.getD i.toNat d0).2.length≤9223372036854775807)=true:=dec_iff.2 (by omega);have k2:decide (s.length+((l.getD i.toNat d0).1++(l.getD i.toNat d0).2).length≤9223372036854775807)=true:=dec_iff.2 (by rw[length_append];omega);simp only[hi,decide_true,inb_ok h0 hi,branch_true,W1 h0 hi h1]at hx;right;refine⟨s++((l.getD i.toNat d0).1++(l.getD i.toNat d0).2),l,(l.length:Int),i+1, ?_, ?_, ?_,fun R=>(hx R).trans ?_⟩
  ·simp only[pre_everySign,andd,dec_iff,ble_iff,length_append];exact⟨by omega,trivial,h1,by omega⟩
  ·simp only[mu_everySign];omega
  ·simp only[res_everySign,hg];simp only[append_assoc]
  ·exact (congrArg (need · _) k1).trans (congrArg (need · _) k2)
 ·left;intro R;refine(hx R).trans ?_;simp only[hi,decide_false,branch_false,res_everySign,sgs_end (show (l.length:Int)≤i by omega)];rw[List.append_nil]
def g_everySign:St→Cont→Option Fin:=gP sh_everySign (fun v=>match v with | ((s,l,n,i,()),())=>pre_everySign s l n i) (fun v K=>match v with | ((s,l,n,i,()),())=>res_everySign s l n i K)
def L_everySign:LpL:=(3,g_everySign)::[]
def cx_everySign:Cx:=(cb_everySign).withLoops (look L_everySign)
theorem l_everySign {L:LpL} (n:Nat) (h1:L.drop n=[]) (h2:idsFree (L.take n) (loopOf Tryz.f103 0)=true):LoopsTo g_everySign (cb_everySign) (loopOf Tryz.f103 0) 3 L :=
 with_drop h1 h2 (gP_ok (fun v=>match v with | ((s,l,n,i,()),())=>mu_everySign s l n i) fun v K hI=>by
  obtain⟨⟨s,l,n,i,⟨⟩⟩,⟨⟩⟩:=v;exact(r_everySign s l n i K hI).imp id fun⟨s',l',n',i',h⟩=>⟨((s',l',n',i',()),()),h⟩)
theorem y_impl_everySign (g:Gram):evFn cx_everySign Tryz.f103 true [ofD TG g] []=(
need (pre_everySign g.fst g.snd ((length g.snd:Int)) 0) <| some ((vS (List.append g.fst (sgsOf g.snd))),[])):=by kernel_rfl
theorem s_impl_everySign (g:Gram) (hg:Fit TG g) (hpre:(Nat.ble (length (signsG g)) 1000000)=true):Sat Tryz.prog 103 [ofD TG g] [] (.d (ofD .str (signsG g))) [] :=
 fn_sound (cx:=cx_everySign) Tryz.func103 rfl ttOk Γ58ok mixed (fun c hc=>LoopsOk.all (l:=[(3,loopOf Tryz.f103 0)]) (by cases hc;kernel_rfl) ⟨atLoop rfl (l_everySign 1 rfl (by kernel_rfl)),trivial⟩) (ro:=true) (by
  have h:pre_everySign g.1 g.2 (length g.2:Int) 0=true:=by
   simp only[pre_everySign,andd,dec_iff,ble_iff];refine⟨by omega,trivial,hg.2.1, ?_⟩;have:=ble_iff.1 hpre;unfold signsG at this;rw[length_append]at this;exact this
  rw[y_impl_everySign,h];rfl)
def c_impl_everySign:Con:=conT [TG] fun(g:Gram)=>(some (Nat.ble (length (signsG g)) 1000000), .d (ofD .str (signsG g)))
theorem k_impl_everySign:ConOk Tryz.prog 103 c_impl_everySign:=conT_ok Tryz.call103 fun g hg hqq=>s_impl_everySign g hg (pre_of hqq)
def Γ59:GL:=(103,c_impl_everySign)::Γ58
theorem Γ59ok:GO Γ59 := .cons k_impl_everySign Γ58ok
theorem y_impl_setOf (s:Str) (f:FuncId):evFn (cxOf Γ59 Tryz.f102.ntmps [] [] [] []) Tryz.f102 true [ofD .str s, .one (.fn f [])] []=(
need ((intL s).length.blt 50) <|
need ((sortL (intL s)).length.ble 1000000) <|
need ((cptV (sortL (intL s))).length.ble 1000000&&(holdF f).isSome) <| some ((vS (byteL (delV f (cptV (sortL (intL s)))))),[])):=by kernel_rfl
theorem s_impl_setOf (s:Str) (f:FuncId) (h:(Nat.blt (length s) 50&&(holdF f).isSome)=true):Sat Tryz.prog 102 [ofD .str s, .one (.fn f [])] [] (.d (ofD .str (setS (pB f) s))) [] :=
 fn_sound (cx:=cxOf Γ59 Tryz.f102.ntmps [] [] [] []) Tryz.func102 rfl ttOk Γ59ok mixed (fun _ _=>LoopsOk.no fun _=>rfl) (ro:=true) (by
  obtain⟨h1,h2⟩:=andd.1 h;have hl:length s<50:=ble_iff.1 h1;have hi:(intL s).length=length s:=by unfold intL;rw[List.length_map]
  have k1:(intL s).length.blt 50=true:=by rw[hi];exact h1
  have k2:(sortL (intL s)).length.ble 1000000=true:=by rw[sortL_len,hi,ble_iff];omega
  have k3:((cptV (sortL (intL s))).length.ble 1000000&&(holdF f).isSome)=true:=andd.2 ⟨ble_iff.2 (by have:=cpt_len s;omega),h2⟩;rw[y_impl_setOf,k1,k2,k3,← setV_eq h2 hl];rfl)
def c_impl_setOf:Con:=⟨false,fun ds os=>match ds,os with
 | [.one (.r (.v (.string s))), .one (.fn f [])],[]=>some (some (Nat.blt (length s.data.toList) 50&&(holdF f).isSome), .d (ofD .str (setS (pB f) s.data.toList)),[])
 |_,_=>none⟩
theorem k_impl_setOf:ConOk Tryz.prog 102 c_impl_setOf:=by
 refine⟨Tryz.call102,fun ds os c x objs hc hok => ?_⟩;unfold c_impl_setOf at hc;dsimp only at hc
 split at hc
 ·rename_i s f
  cases hc
  exact s_impl_setOf s.data.toList f (pre_of hok)
 ·cases hc
def Γ60:GL:=(102,c_impl_setOf)::Γ59
theorem Γ60ok:GO Γ60 := .cons k_impl_setOf Γ59ok
theorem y_impl_GramBigs (g:Gram):evFn (cxOf Γ60 Tryz.f79.ntmps [] [] [] []) Tryz.f79 true [ofD TG g] []=(
branch (!okG g) ( some ((vS []),[])) (
 need ((length (signsG g)).ble 1000000) <|
 need ((length (signsG g)).blt 50&&(holdF 42).isSome) <| some ((vS (setS (pB 42) (signsG g))),[]))):=by kernel_rfl
theorem s_impl_GramBigs (g:Gram) (_hg:Fit TG g):Sat Tryz.prog 79 [ofD TG g] [] (.d (ofD .str (bif okG g then bigsG g else []))) [] :=
 fn_sound (cx:=cxOf Γ60 Tryz.f79.ntmps [] [] [] []) Tryz.func79 rfl ttOk Γ60ok mixed (fun _ _=>LoopsOk.no fun _=>rfl) (ro:=true) (by
  rw[y_impl_GramBigs]
  cases h:okG g
  ·rfl
  ·have hl:=signs_len h;have k1:(length (signsG g)).ble 1000000=true:=ble_iff.2 (by omega);have k2:((length (signsG g)).blt 50&&(holdF 42).isSome)=true:=andd.2 ⟨ble_iff.2 (by omega),rfl⟩;rw[k1,k2];rfl)
def c_impl_GramBigs:Con:=conT [TG] fun(g:Gram)=>(none, .d (ofD .str (bif okG g then bigsG g else [])))
theorem k_impl_GramBigs:ConOk Tryz.prog 79 c_impl_GramBigs:=conT_ok Tryz.call79 fun g hg _=>s_impl_GramBigs g hg
def Γ61:GL:=(79,c_impl_GramBigs)::Γ60
theorem Γ61ok:GO Γ61 := .cons k_impl_GramBigs Γ60ok
theorem y_impl_GramSmalls (g:Gram):evFn (cxOf Γ61 Tryz.f52.ntmps [] [] [] []) Tryz.f52 true [ofD TG g] []=(
branch (!okG g) ( some ((vS []),[])) (
 need ((length (signsG g)).ble 1000000) <|
 need ((length (signsG g)).blt 50&&(holdF 55).isSome) <| some ((vS (setS (pB 55) (signsG g))),[]))):=by kernel_rfl
theorem s_impl_GramSmalls (g:Gram) (_hg:Fit TG g):Sat Tryz.prog 52 [ofD TG g] [] (.d (ofD .str (bif okG g then smallsG g else []))) [] :=
 fn_sound (cx:=cxOf Γ61 Tryz.f52.ntmps [] [] [] []) Tryz.func52 rfl ttOk Γ61ok mixed (fun _ _=>LoopsOk.no fun _=>rfl) (ro:=true) (by
  rw[y_impl_GramSmalls]
  cases h:okG g
  ·rfl
  ·have hl:=signs_len h;have k1:(length (signsG g)).ble 1000000=true:=ble_iff.2 (by omega);have k2:((length (signsG g)).blt 50&&(holdF 55).isSome)=true:=andd.2 ⟨ble_iff.2 (by omega),rfl⟩;rw[k1,k2];rfl)
def c_impl_GramSmalls:Con:=conT [TG] fun(g:Gram)=>(none, .d (ofD .str (bif okG g then smallsG g else [])))
theorem k_impl_GramSmalls:ConOk Tryz.prog 52 c_impl_GramSmalls:=conT_ok Tryz.call52 fun g hg _=>s_impl_GramSmalls g hg
def Γ62:GL:=(52,c_impl_GramSmalls)::Γ61
theorem Γ62ok:GO Γ62 := .cons k_impl_GramSmalls Γ61ok
def cb_l1Signs:Cx:=cxOf Γ62 Tryz.f74.ntmps [(8,[1,5,6,8]),(4,[1,2,5,6,7])] [(2,[5]),(3,[1,5,6,8]),(0,[1,5,6]),(1,[1,2,5,6,7]),(1000000,[4])] [] []
abbrev st_l1SigB (b:Bool) (o a:Str) (i:Int):St:=⟨[(1,vB b),(5,vS o),(6,vS a),(8,vI i)],[]⟩
theorem x_spec_l1Signs_1 (b:Bool) (o a:Str) (i:Int) (R:St→Option Fin) (K:Cont):evC (cb_l1Signs.withLoops (look [])) (loopOf Tryz.f74 1) (st_l1SigB b o a i) (onward (headAt (cb_l1Signs.withLoops (look [])) 8) R K)=(
branch (decide (i<(a.length:Int))) (
 need (inb i a.length) <|
 branch (decide (bigI (byteAt a i)=b)) (
 need (inb i a.length) <|
 need (o.length.ble 1000000) <| R (st_l1SigB b (addS (UInt8.ofNat (byteAt a i).toNat) o) a (W64 (i+1)))) ( R (st_l1SigB b o a (W64 (i+1))))) ( K (.exit 2) (.mk [(5,vS o)] []))):=by kernel_rfl
def bigIs (b:Bool) (c:UInt8):Bool:=bigc c==b
theorem put_at {p:UInt8→Bool} {o a:Str} {i:Int} (h0:0≤i) (h1:i<(a.length:Int)):putS p o (a.drop i.toNat)=putS p (bif p (a.getD i.toNat 0)then addS (a.getD i.toNat 0) o else o) (a.drop (i+1).toNat):=by
 have hn:i.toNat<a.length:=by omega
 rw[drop_eq_getElem_cons hn,show (i+1).toNat=i.toNat+1 by omega,zG,zE hn];rfl
def cx0_l1SigB:Cx:=(cb_l1Signs).withLoops (look [])
def sh_l1SigB:Sh:=([(1, .d .bool),(5, .d .str),(6, .d .str),(8, .d TI64)],[])
def pre_l1SigB (_b:Bool) (o a:Str) (i:Int):Bool:=decide (0≤i)&&(Nat.ble (length a) 1000000&&decide ((length o:Int)≤i))
def res_l1SigB (b:Bool) (o a:Str) (i:Int) (K:Cont):Option Fin:=K (.exit 2) ⟨[(5,vS (putS (bigIs b) o (a.drop i.toNat)))],[]⟩
def mu_l1SigB (_b:Bool) (_o a:Str) (i:Int):Nat:=length a-i.toNat
theorem r_l1SigB (b:Bool) (o a:Str) (i:Int) (K:Cont) (hI:pre_l1SigB b o a i=true):(∀R:St→Option Fin,evC cx0_l1SigB (loopOf Tryz.f74 1) (st_l1SigB b o a i) (onward (headAt cx0_l1SigB 8) R K)=res_l1SigB b o a i K) ∨
  (∃(b':Bool) (o' a':Str) (i':Int),pre_l1SigB b' o' a' i'=true∧mu_l1SigB b' o' a' i'<mu_l1SigB b o a i∧res_l1SigB b' o' a' i' K=res_l1SigB b o a i K∧∀R:St→Option Fin,evC cx0_l1SigB (loopOf Tryz.f74 1) (st_l1SigB b o a i) (onward (headAt cx0_l1SigB 8) R K)=R (st_l1SigB b' o' a' i')):=by
 have hx:=fun R=>x_spec_l1Signs_1 b o a i R K;simp only[pre_l1SigB,andd,dec_iff,ble_iff]at hI;obtain⟨h0,h1,h2⟩:=hI
 by_cases hi:i<(a.length:Int)
 ·have hg:=put_at (p:=bigIs b) (o:=o) h0 hi;have hby:byteAt a i=((a.getD i.toNat 0).toNat:Int):=rfl;have hu:UInt8.ofNat (byteAt a i).toNat=a.getD i.toNat 0:=by rw[hby];exact byteL_nat _
  have hc0:decide (bigI (byteAt a i)=b)=bigIs b (a.getD i.toNat 0):=by
   rw[hby,bigI_nat];unfold bigIs
   cases bigc (a.getD i.toNat 0)<;>cases b<;>rfl
  have hol:o.length.ble 1000000=true:=ble_iff.2 (by omega);simp only[hi,decide_true,inb_ok h0 hi,branch_true,W1 h0 hi (show a.length≤big by unfold big;omega),hc0,hu,hol]at hx;right
  cases hc:bigIs b (a.getD i.toNat 0)
  ·rw[hc]at hg;refine⟨b,o,a,i+1, ?_, ?_, ?_,fun R=>(hx R).trans ?_⟩
   ·simp only[pre_l1SigB,andd,dec_iff,ble_iff];exact ⟨by omega,h1,by omega⟩
   ·simp only[mu_l1SigB];omega
   ·simp only[res_l1SigB,hg];rfl
   ·rw[hc];rfl
  ·rw[hc]at hg;refine⟨b,addS (a.getD i.toNat 0) o,a,i+1, ?_, ?_, ?_,fun R=>(hx R).trans ?_⟩
   ·simp only[pre_l1SigB,andd,dec_iff,ble_iff];have:=addS_len (c:=a.getD i.toNat 0) (s:=o);exact⟨by omega,h1,by omega⟩
   ·simp only[mu_l1SigB];omega
   ·simp only[res_l1SigB,hg];rfl
   ·rw[hc];rfl
 ·left;intro R;refine(hx R).trans ?_;simp only[hi,decide_false,branch_false,res_l1SigB];rw[drop_eq_nil_of_le (by omega)];rfl
def g_l1SigB:St→Cont→Option Fin:=gP sh_l1SigB (fun v=>match v with | ((b,o,a,i,()),())=>pre_l1SigB b o a i) (fun v K=>match v with | ((b,o,a,i,()),())=>res_l1SigB b o a i K)
def L_l1SigB:LpL:=(8,g_l1SigB)::[]
theorem l_l1SigB {L:LpL} (n:Nat) (h1:L.drop n=[]) (h2:idsFree (L.take n) (loopOf Tryz.f74 1)=true):LoopsTo g_l1SigB (cb_l1Signs) (loopOf Tryz.f74 1) 8 L :=
 with_drop h1 h2 (gP_ok (fun v=>match v with | ((b,o,a,i,()),())=>mu_l1SigB b o a i) fun v K hI=>by
  obtain⟨⟨b,o,a,i,⟨⟩⟩,⟨⟩⟩:=v;exact(r_l1SigB b o a i K hI).imp id fun⟨b',o',a',i',h⟩=>⟨((b',o',a',i',()),()),h⟩)
abbrev st_l1SigA (b:Bool) (o a:Str) (i:Int) (g:Gram):St:=⟨[(1,vB b),(2, kp0),(5,vS o),(6,vS a),(7,vI i)],[(500000,some (boxD 25 TG g))]⟩
theorem x_spec_l1Signs (g:Gram) (b:Bool) (o a:Str) (i:Int) (R:St→Option Fin) (K:Cont):evC (cb_l1Signs.withLoops (look L_l1SigB)) (loopOf Tryz.f74 0) (st_l1SigA b o a i g) (onward (headAt (cb_l1Signs.withLoops (look L_l1SigB)) 4) R K)=(
branch (decide (i<(length g.snd:Int))) (
 need (inb i (length g.snd)) <|
 need (decide ((length a+length (getD g.snd i.toNat d0).fst)≤9223372036854775807)) <|
 need (inb i (length g.snd)) <|
 need (decide (((List.append a (getD g.snd i.toNat d0).fst).length+length (getD g.snd i.toNat d0).snd)≤9223372036854775807)) <| R (st_l1SigA b o ((List.append a (getD g.snd i.toNat d0).fst).append (getD g.snd i.toNat d0).snd) (W64 (i+1)) g)) ( K (.exit 0) (.mk [(1,vB b),(5,vS o),(6,vS a)] []))):=by kernel_rfl
def cx0_l1SigA:Cx:=(cb_l1Signs).withLoops (look L_l1SigB)
def sh_l1SigA:Sh:=([(1, .d .bool),(2, .ptr 500000 0),(5, .d .str),(6, .d .str),(7, .d TI64)],[(500000, .box 25 TG)])
def pre_l1SigA (_b:Bool) (_o a:Str) (i:Int) (g:Gram):Bool:=decide (0≤i)&&(Nat.ble (length g.2) big&&Nat.ble (length a+(sgsOf (g.2.drop i.toNat)).length) 1000000)
def res_l1SigA (b:Bool) (o a:Str) (i:Int) (g:Gram) (K:Cont):Option Fin:=K (.exit 0) ⟨[(1,vB b),(5,vS o),(6,vS (a++sgsOf (g.2.drop i.toNat)))],[]⟩
def mu_l1SigA (_b:Bool) (_o _a:Str) (i:Int) (g:Gram):Nat:=length g.2-i.toNat
theorem r_l1SigA (b:Bool) (o a:Str) (i:Int) (g:Gram) (K:Cont) (hI:pre_l1SigA b o a i g=true):(∀R:St→Option Fin,evC cx0_l1SigA (loopOf Tryz.f74 0) (st_l1SigA b o a i g) (onward (headAt cx0_l1SigA 4) R K)=res_l1SigA b o a i g K) ∨
  (∃(b':Bool) (o' a':Str) (i':Int) (g':Gram),pre_l1SigA b' o' a' i' g'=true∧mu_l1SigA b' o' a' i' g'<mu_l1SigA b o a i g∧res_l1SigA b' o' a' i' g' K=res_l1SigA b o a i g K∧∀R:St→Option Fin,evC cx0_l1SigA (loopOf Tryz.f74 0) (st_l1SigA b o a i g) (onward (headAt cx0_l1SigA 4) R K)=R (st_l1SigA b' o' a' i' g')):=by
 have hx:=fun R=>x_spec_l1Signs g b o a i R K;simp only[pre_l1SigA,andd,dec_iff,ble_iff]at hI;obtain⟨h0,h1,h2⟩:=hI
 by_cases hi:i<(length g.2:Int)
 ·have hg:=sgs_at h0 hi;rw[hg,length_append,length_append]at h2;have k1:decide (length a+length (getD g.2 i.toNat d0).1≤9223372036854775807)=true:=dec_iff.2 (by omega);have k2:decide ((List.append a (getD g.2 i.toNat d0).1).length+length (getD g.2 i.toNat d0).2≤9223372036854775807)=true:=dec_iff.2 (by rw[List.append_eq,length_append];omega);simp only[hi,decide_true,inb_ok h0 hi,branch_true,W1 h0 hi h1]at hx;right;refine⟨b,o,a++(g.2.getD i.toNat d0).1++(g.2.getD i.toNat d0).2,i+1,g, ?_, ?_, ?_,fun R=>(hx R).trans ?_⟩
  ·simp only[pre_l1SigA,andd,dec_iff,ble_iff,length_append];exact⟨by omega,h1,by omega⟩
  ·simp only[mu_l1SigA];omega
  ·simp only[res_l1SigA,hg,append_assoc]
  ·exact (congrArg (need · _) k1).trans (congrArg (need · _) k2)
 ·left;intro R;refine(hx R).trans ?_;simp only[hi,decide_false,branch_false,res_l1SigA,sgs_end (show (length g.2:Int)≤i by omega)];rw[List.append_nil]
def g_l1SigA:St→Cont→Option Fin:=gP sh_l1SigA (fun v=>match v with | ((b,o,a,i,()),(g,()))=>pre_l1SigA b o a i g) (fun v K=>match v with | ((b,o,a,i,()),(g,()))=>res_l1SigA b o a i g K)
def L_l1SigA:LpL:=(4,g_l1SigA)::L_l1SigB
def cx_l1SigA:Cx:=(cb_l1Signs).withLoops (look L_l1SigA)
theorem l_l1SigA {L:LpL} (n:Nat) (h1:L.drop n=L_l1SigB) (h2:idsFree (L.take n) (loopOf Tryz.f74 0)=true):LoopsTo g_l1SigA (cb_l1Signs) (loopOf Tryz.f74 0) 4 L :=
 with_drop h1 h2 (gP_ok (fun v=>match v with | ((b,o,a,i,()),(g,()))=>mu_l1SigA b o a i g) fun v K hI=>by
  obtain⟨⟨b,o,a,i,⟨⟩⟩,⟨g,⟨⟩⟩⟩:=v;exact(r_l1SigA b o a i g K hI).imp id fun⟨b',o',a',i',g',h⟩=>⟨((b',o',a',i',()),(g',())),h⟩)
theorem y_spec_l1Signs (g:Gram) (b:Bool):evFn cx_l1SigA Tryz.f74 true [ofD TG g,ofD .bool b] []=(
need (pre_l1SigA b ([]:Str) g.fst 0 g) <|
need (pre_l1SigB b ([]:Str) (List.append g.fst (sgsOf g.snd)) 0) <| some ((vS (putS (bigIs b) ([]:Str) (id (List.append g.fst (sgsOf g.snd))))),[])):=by kernel_rfl
theorem s_spec_l1Signs (g:Gram) (hg:Fit TG g) (b:Bool) (_hb:Fit .bool b) (hpre:(okG g)=true):Sat Tryz.prog 74 [ofD TG g,ofD .bool b] [] (.d (ofD .str (setS (bigIs b) (signsG g)))) [] :=
 fn_sound (cx:=cx_l1SigA) Tryz.func74 rfl ttOk Γ62ok mixed (fun c hc=>LoopsOk.all (l:=[(4,loopOf Tryz.f74 0),(8,loopOf Tryz.f74 1)]) (by cases hc;kernel_rfl) ⟨atLoop rfl (l_l1SigA 1 rfl (by kernel_rfl)),atLoop rfl (l_l1SigB 2 rfl (by kernel_rfl)),trivial⟩) (ro:=true) (by
  have hl:=signs_len hpre;have e:(signsG g).length=length g.1+(sgsOf g.2).length:=by unfold signsG;rw[length_append]
  have h1:pre_l1SigA b ([]:Str) g.1 0 g=true:=andd.2 ⟨rfl,andd.2 ⟨ble_iff.2 hg.2.1,ble_iff.2 (show length g.1+(sgsOf g.2).length≤1000000 by omega)⟩⟩;have h2:pre_l1SigB b ([]:Str) (List.append g.1 (sgsOf g.2)) 0=true:=andd.2 ⟨rfl,andd.2 ⟨ble_iff.2 (show (signsG g).length≤1000000 by omega),rfl⟩⟩;rw[y_spec_l1Signs,h1,h2];rfl)
def c_spec_l1Signs:Con:=conT [TG, .bool] fun(g:Gram) (b:Bool)=>(some (okG g), .d (ofD .str (setS (bigIs b) (signsG g))))
theorem k_spec_l1Signs:ConOk Tryz.prog 74 c_spec_l1Signs:=conT_ok Tryz.call74 fun g hg b hb hqq=>s_spec_l1Signs g hg b hb (pre_of hqq)
def Γ63:GL:=(74,c_spec_l1Signs)::Γ62
theorem Γ63ok:GO Γ63 := .cons k_spec_l1Signs Γ62ok
theorem conT_val {P:Program} {f:FuncId} {ts:List Ty} {G:Fn ts (Option Bool×T)} (he:EachF ts G fun ds r=>(r.1=none∨r.1=some true)→SatX P f ds [] r.2 []):ConVal P f (conT ts G):=by
 intro ds os c x objs hc hok;simp only[conT]at hc
 split at hc
 ·split at hc
  ·rename_i c' r hap
   cases hc
   intro w F β args H hds;obtain⟨ds',h1,h2⟩:=each_of he hap hds;exact h1 hok w F β args H h2
  ·cases hc
 ·cases hc
theorem ixB_plain (s:Str) (c:UInt8) (hs:length s≤9223372036854775807):plain (.int .i64 (Lib.indexByte s c))=true:=by
 have h1:=Lib.indexByte_ge s c;have h2:∀t:Str,Lib.indexByte t c≤(t.length:Int):=fun t=>by
  induction t with
  |nil=>exact (by decide:(-1:Int)≤0)
  |cons b l ih =>
   unfold Lib.indexByte;simp only[length_cons]
   split
   ·omega
   ·split<;>omega
 have:=h2 s;exact plain_i64 (by omega) (by omega)
def c_internal_bytealg_IndexByteString:Con:=conT [.str,TU8] fun(s:Str) (c:Int)=>(none, .d (ofD TI64 (Lib.indexByte s c.toNat.toUInt8)))
theorem sx_IndexByteString (s:Str) (c:Int) (hs:length s≤9223372036854775807):SatX Tryz.prog 187 [ofD .str s,ofD TU8 c] [] (vI (Lib.indexByte s c.toNat.toUInt8)) []:=by
 intro w F β args H hds
 cases hds with | cons h1 h2=>cases h2 with | cons h2 h3 =>
 cases h3
 obtain⟨e1,_⟩:=h1;obtain⟨e2,_⟩:=h2;subst e1;subst e2;exact .inr ⟨.int .i64 (Lib.indexByte s c.toNat.toUInt8),w,(run_callFunc_extern Tryz.func187 (by kernel_rfl) (by kernel_rfl) (by kernel_rfl) (e:=Extern.BytealgIndexByte.indexByte) (by kernel_rfl) _ w).trans
   (congrArg (fun r=>Result.andThen r fun v w'=>Result.ok (Next.value v) w') (Lib.run_indexByteString (mk s) c w)),_,F,β,rfl,H,
  fun i hi=>absurd hi (Nat.not_lt_zero i),fun i o hi=>absurd hi (Nat.not_lt_zero i),fun _ _ _ hh=>(nomatch hh),rep_v (ixB_plain s _ hs)⟩
theorem k_internal_bytealg_IndexByteString:ConVal Tryz.prog 187 c_internal_bytealg_IndexByteString:=conT_val fun s hs c _ _=>sx_IndexByteString s c hs
def Γ64:GL:=(187,c_internal_bytealg_IndexByteString)::Γ63
theorem Γ64ok:GO Γ64 := .consV k_internal_bytealg_IndexByteString Γ63ok
theorem y_internal_stringslite_IndexByte (s:Str) (c:Int):evFn (cxOf Γ64 Tryz.f166.ntmps [] [] [] []) Tryz.f166 true [ofD .str s,ofD TU8 c] []=(
some ((vI (Lib.indexByte s c.toNat.toUInt8)),[])):=by kernel_rfl
theorem s_internal_stringslite_IndexByte (s:Str) (_hs:Fit .str s) (c:Int) (_hc:Fit TU8 c):Sat Tryz.prog 166 [ofD .str s,ofD TU8 c] [] (.d (ofD TI64 (Lib.indexByte s c.toNat.toUInt8))) [] :=
 fn_sound (cx:=cxOf Γ64 Tryz.f166.ntmps [] [] [] []) Tryz.func166 rfl ttOk Γ64ok mixed (fun _ _=>LoopsOk.no fun _=>rfl) (ro:=true) (by
  rw[y_internal_stringslite_IndexByte];rfl)
def c_internal_stringslite_IndexByte:Con:=conT [.str,TU8] fun(s:Str) (c:Int)=>(none, .d (ofD TI64 (Lib.indexByte s c.toNat.toUInt8)))
theorem k_internal_stringslite_IndexByte:ConOk Tryz.prog 166 c_internal_stringslite_IndexByte:=conT_ok Tryz.call166 fun s hs c hc _=>s_internal_stringslite_IndexByte s hs c hc
def Γ65:GL:=(166,c_internal_stringslite_IndexByte)::Γ64
theorem Γ65ok:GO Γ65 := .cons k_internal_stringslite_IndexByte Γ64ok
theorem y_internal_stringslite_Index (s:Str) (t:Str):evFn (cxOf Γ65 Tryz.f150.ntmps [(15,[0,1,5,6,7,8,9,10])] [(1,[]),(2,[0,1,5,6,7,8,9,10]),(0,[0,1,5]),(1000000,[4])] [] []) Tryz.f150 true [ofD .str s,ofD .str t] []=(
branch (bif decide ((t.length:Int)=0)then true else decide (t=s)) ( some ((vI 0),[])) (
 branch (decide ((t.length:Int)=1)) (
 need (inb 0 t.length) <| some ((vI (Lib.indexByte s (byteAt t 0).toNat.toUInt8)),[])) (
 need (decide ((s.length:Int)≤(t.length:Int))) <| some ((vI (Int.neg 1)),[])))):=by kernel_rfl
theorem byte_one (c:UInt8):(byteAt [c] 0).toNat.toUInt8=c:=byteL_nat c
def cx_slIndex:Cx:=cxOf Γ65 Tryz.f150.ntmps [(15,[0,1,5,6,7,8,9,10])] [(1,[]),(2,[0,1,5,6,7,8,9,10]),(0,[0,1,5]),(1000000,[4])] [] []
theorem s_internal_stringslite_Index (s:Str) (_hs:Fit .str s) (t:Str) (_ht:Fit .str t) (hpre:(Nat.beq (length t) 1)=true):Sat Tryz.prog 150 [ofD .str s,ofD .str t] [] (.d (ofD TI64 (Lib.indexByte s (getD t 0 0)))) [] :=
 fn_sound (cx:=cx_slIndex) Tryz.func150 rfl ttOk Γ65ok mixed (fun _ _=>LoopsOk.no fun _=>rfl) (ro:=true) (by
  obtain⟨c,rfl⟩:∃c,t=[c]:=List.length_eq_one_iff.1 (zB hpre);have y:=y_internal_stringslite_Index s [c];have e0:decide (((([c]:Str).length:Nat):Int)=0)=false:=zF (by simp);have e1:decide (((([c]:Str).length:Nat):Int)=1)=true:=zT (by simp);have e2:inb 0 ([c]:Str).length=true:=inb_ok (by omega) (by simp);rw[byte_one,e0,e1,e2]at y
  by_cases h:([c]:Str)=s
  ·subst h;have e4:Lib.indexByte [c] c=0:=by unfold Lib.indexByte;simp
   refine y.trans ?_;show branch (decide (([c]:Str)=[c])) _ _=some (vI (Lib.indexByte [c] c),[]);rw[zT (rfl:([c]:Str)=[c]),e4];rfl
  ·refine y.trans ?_;rw[zF h];rfl)
def c_internal_stringslite_Index:Con:=conT [.str, .str] fun(s:Str) (t:Str)=>(some (Nat.beq (length t) 1), .d (ofD TI64 (Lib.indexByte s (getD t 0 0))))
theorem k_internal_stringslite_Index:ConOk Tryz.prog 150 c_internal_stringslite_Index:=conT_ok Tryz.call150 fun s hs t ht hqq=>s_internal_stringslite_Index s hs t ht (pre_of hqq)
def Γ66:GL:=(150,c_internal_stringslite_Index)::Γ65
theorem Γ66ok:GO Γ66 := .cons k_internal_stringslite_Index Γ65ok
theorem y_strings_Index (s:Str) (t:Str):evFn (cxOf Γ66 Tryz.f124.ntmps [] [] [] []) Tryz.f124 true [ofD .str s,ofD .str t] []=(
need (t.length.beq 1) <| some ((vI (Lib.indexByte s (getD t 0 (UInt8.ofNat 0)))),[])):=by kernel_rfl
theorem s_strings_Index (s:Str) (_hs:Fit .str s) (t:Str) (_ht:Fit .str t) (hpre:(Nat.beq (length t) 1)=true):Sat Tryz.prog 124 [ofD .str s,ofD .str t] [] (.d (ofD TI64 (Lib.indexByte s (getD t 0 0)))) [] :=
 fn_sound (cx:=cxOf Γ66 Tryz.f124.ntmps [] [] [] []) Tryz.func124 rfl ttOk Γ66ok mixed (fun _ _=>LoopsOk.no fun _=>rfl) (ro:=true) (by
  rw[y_strings_Index,hpre];rfl)
def c_strings_Index:Con:=conT [.str, .str] fun(s:Str) (t:Str)=>(some (Nat.beq (length t) 1), .d (ofD TI64 (Lib.indexByte s (getD t 0 0))))
theorem k_strings_Index:ConOk Tryz.prog 124 c_strings_Index:=conT_ok Tryz.call124 fun s hs t ht hqq=>s_strings_Index s hs t ht (pre_of hqq)
def Γ67:GL:=(124,c_strings_Index)::Γ66
theorem Γ67ok:GO Γ67 := .cons k_strings_Index Γ66ok
theorem y_strings_Contains (s:Str) (t:Str):evFn (cxOf Γ67 Tryz.f81.ntmps [] [] [] []) Tryz.f81 true [ofD .str s,ofD .str t] []=(
need (t.length.beq 1) <| some ((vB (decide (0≤Lib.indexByte s (getD t 0 (UInt8.ofNat 0))))),[])):=by kernel_rfl
theorem ixB_in (c:UInt8):∀s:Str,decide (0≤Lib.indexByte s c)=inS s (c.toNat:Int)
 | []=>rfl
 |b::l=>by
  have ih:=ixB_in c l;have hge:=Lib.indexByte_ge l c;show decide (0≤Lib.indexByte (b::l) c)=(decide ((b.toNat:Int)=(c.toNat:Int))||inS l (c.toNat:Int));unfold Lib.indexByte
  by_cases hb:b=c
  ·subst hb;simp
  ·have h1:(b==c)=false:=beq_eq_false_iff_ne.2 hb;have h2:decide ((b.toNat:Int)=(c.toNat:Int))=false:=zF fun hh=>hb (UInt8.toNat_inj.1 (by omega));rw[h1,h2,← ih];simp only[Bool.false_eq_true,if_false,Bool.false_or]
   by_cases h3:Lib.indexByte l c = -1
   ·rw[h3];rfl
   ·have h4:(Lib.indexByte l c == -1)=false:=beq_eq_false_iff_ne.2 h3;rw[h4];simp only[Bool.false_eq_true,if_false];rw[decide_eq_decide];omega
theorem s_strings_Contains (s:Str) (_hs:Fit .str s) (t:Str) (_ht:Fit .str t) (hpre:(Nat.beq (length t) 1)=true):Sat Tryz.prog 81 [ofD .str s,ofD .str t] [] (.d (ofD .bool (inS s (((getD t 0 0).toNat:Nat):Int)))) [] :=
 fn_sound (cx:=cxOf Γ67 Tryz.f81.ntmps [] [] [] []) Tryz.func81 rfl ttOk Γ67ok mixed (fun _ _=>LoopsOk.no fun _=>rfl) (ro:=true) (by
  rw[y_strings_Contains,hpre,← ixB_in];rfl)
def c_strings_Contains:Con:=conT [.str, .str] fun(s:Str) (t:Str)=>(some (Nat.beq (length t) 1), .d (ofD .bool (inS s (((getD t 0 0).toNat:Nat):Int))))
theorem k_strings_Contains:ConOk Tryz.prog 81 c_strings_Contains:=conT_ok Tryz.call81 fun s hs t ht hqq=>s_strings_Contains s hs t ht (pre_of hqq)
def Γ68:GL:=(81,c_strings_Contains)::Γ67
theorem Γ68ok:GO Γ68 := .cons k_strings_Contains Γ67ok
def metV (s:Str) (r:Rule):Str:=bif inS s ((r.1.getD 0 0).toNat:Int)then setS bigc r.2 else []
def unionV (a b:Str):Str:=setS (fun _=>true) (a++b)
theorem y_impl_union (a:Str) (b:Str):evFn (cxOf Γ68 Tryz.f70.ntmps [] [] [] []) Tryz.f70 true [ofD .str a,ofD .str b] []=(
need (decide ((length a+length b)≤9223372036854775807)) <|
need ((List.append a b).length.blt 50&&(holdF 115).isSome) <| some ((vS (setS (pB 115) (List.append a b))),[])):=by kernel_rfl
theorem s_impl_union (a:Str) (_ha:Fit .str a) (b:Str) (_hb:Fit .str b) (hpre:(Nat.blt (length a+length b) 50)=true):Sat Tryz.prog 70 [ofD .str a,ofD .str b] [] (.d (ofD .str (unionV a b))) [] :=
 fn_sound (cx:=cxOf Γ68 Tryz.f70.ntmps [] [] [] []) Tryz.func70 rfl ttOk Γ68ok mixed (fun _ _=>LoopsOk.no fun _=>rfl) (ro:=true) (by
  have h1:=ble_iff.1 hpre;have k1:decide (length a+length b≤9223372036854775807)=true:=dec_iff.2 (by omega);have k2:((List.append a b).length.blt 50&&(holdF 115).isSome)=true:=andd.2 ⟨ble_iff.2 (by rw[List.append_eq,length_append];exact h1),rfl⟩;rw[y_impl_union,k1,k2];rfl)
def c_impl_union:Con:=conT [.str, .str] fun(a:Str) (b:Str)=>(some (Nat.blt (length a+length b) 50), .d (ofD .str (unionV a b)))
theorem k_impl_union:ConOk Tryz.prog 70 c_impl_union:=conT_ok Tryz.call70 fun a ha b hb hqq=>s_impl_union a ha b hb (pre_of hqq)
def Γ69:GL:=(70,c_impl_union)::Γ68
theorem Γ69ok:GO Γ69 := .cons k_impl_union Γ68ok
theorem unionV_mem {a b:Str} {c:UInt8}:c∈unionV a b↔c∈a∨c∈b:=by
 unfold unionV;rw[setS_mem,mem_append];simp
theorem unionV_asc {a b:Str}:Asc (unionV a b):=setS_asc
theorem metV_mem {s:Str} {r:Rule} {c:UInt8}:c∈metV s r↔inS s ((r.1.getD 0 0).toNat:Int)=true∧c∈r.2∧bigc c=true:=by
 unfold metV
 cases inS s ((r.1.getD 0 0).toNat:Int)
 ·simp
 ·rw[cond_true,setS_mem];simp
theorem big_five {s:Str} (ha:Asc s) (hb:∀c∈s,bigc c=true):s.length≤5:=by
 have hnd:s.Nodup:=ha.imp fun hh e=>by subst e;omega
 refine hnd.length_le_of_subset (l₂:=[65,66,67,68,69]) fun c hc => ?_;have:=hb c hc;unfold bigc at this;rw[andd,ble_iff,ble_iff]at this;have h:c.toNat=65∨c.toNat=66∨c.toNat=67∨c.toNat=68∨c.toNat=69:=by omega
 have e:∀ {n:Nat} (d:UInt8),d.toNat=n→c.toNat=n→c=d:=fun d h1 h2=>UInt8.toNat_inj.1 (h2.trans h1.symm);rcases h with h | h | h | h | h
 ·rw[e 65 rfl h];decide
 ·rw[e 66 rfl h];decide
 ·rw[e 67 rfl h];decide
 ·rw[e 68 rfl h];decide
 ·rw[e 69 rfl h];decide
theorem asc_grow {s t:Str} (hs:Asc s) (ht:Asc t) (h:∀c∈s,c∈t) (hne:t≠s):s.length<t.length:=by
 rcases Nat.lt_or_ge s.length t.length with h1 | h1
 ·exact h1
 ·exfalso;refine hne (asc_ext ht hs fun c=>⟨fun hc => ?_,h c⟩)
  by_cases hcs:c∈s
  ·exact hcs
  ·exfalso;have hnd:(c::s).Nodup:=List.nodup_cons.2 ⟨hcs,hs.imp fun hh e=>by subst e;omega⟩;have:=hnd.length_le_of_subset (l₂:=t) fun x hx=>by
    rcases List.mem_cons.1 hx with rfl | hx
    ·exact hc
    ·exact h x hx
   simp only[length_cons]at this;omega
def growF (o:Str) (l:List Rule):Str:=l.foldl (fun o r=>unionV o (metV o r)) o
def growN (g:Gram):Nat→Str→Str
 |0,s=>s
 |n+1,s=>bif decide (growF s g.2=s)then s else growN g n (growF s g.2)
theorem growF_sub:∀ {l:List Rule} {o:Str},∀c∈o,c∈growF o l
 | [],_,_,h=>h
 |r::l,o,c,h=>growF_sub (l:=l) (o:=unionV o (metV o r)) c (unionV_mem.2 (.inl h))
theorem growF_asc:∀ {l:List Rule} {o:Str},Asc o→Asc (growF o l)
 | [],_,h=>h
 |r::l,o,_=>growF_asc (l:=l) (o:=unionV o (metV o r)) unionV_asc
theorem growF_inv {p:UInt8→Prop}:∀ {l:List Rule} {o:Str},(∀c∈o,p c)→(∀o r c,r∈l→(∀c∈o,p c)→c∈metV o r→p c)→∀c∈growF o l,p c
 | [],_,h,_,c,hc=>h c hc
 |r::l,o,h,h2,c,hc=>growF_inv (l:=l) (o:=unionV o (metV o r)) (fun c hc=>by
   rcases unionV_mem.1 hc with hc | hc
   ·exact h c hc
   ·exact h2 o r c mem_cons_self h hc) (fun o r c hr=>h2 o r c (mem_cons_of_mem _ hr)) c hc
theorem growF_big {l:List Rule} {o:Str} (h:∀c∈o,bigc c=true):∀c∈growF o l,bigc c=true:=growF_inv h fun _ _ _ _ _ hc=>(metV_mem.1 hc).2.2
theorem growF_step:∀ {l:List Rule} {o:Str} {r:Rule} {c:UInt8},r∈l→inS o ((r.1.getD 0 0).toNat:Int)=true→c∈r.2→bigc c=true→c∈growF o l
 |r0::l,o,r,c,hr,h1,h2,h3=>by
  show c∈growF (unionV o (metV o r0)) l;rcases List.mem_cons.1 hr with rfl | hr
  ·exact growF_sub c (unionV_mem.2 (.inr (metV_mem.2 ⟨h1,h2,h3⟩)))
  ·exact growF_step hr (inS_mem.2 (unionV_mem.2 (.inl (inS_mem.1 h1)))) h2 h3
inductive Met (g:Gram):UInt8→Prop
 | start {c:UInt8} (h:c∈g.1):Met g c
 | step {r:Rule} {c:UInt8} (hr:r∈g.2) (h1:Met g (r.1.getD 0 0)) (h2:c∈r.2) (h3:bigc c=true):Met g c
def closedR (s:Str) (r:Rule):Prop:=(r.1.getD 0 0)∈s→∀c∈r.2,bigc c=true→c∈s
theorem met_in {g:Gram} {s:Str} (h1:∀c∈g.1,c∈s) (h2:∀r∈g.2,closedR s r) {c:UInt8} (h:Met g c):c∈s:=by
 induction h with
 |start h=>exact h1 _ h
 |step hr _ g2 g3 ih=>exact h2 _ hr ih _ g2 g3
structure MetOk (g:Gram) (s:Str):Prop where
 asc:Asc s
 big:∀c∈s,bigc c=true
 start:∀c∈g.1,c∈s
 met:∀c∈s,Met g c
theorem MetOk.grow {g:Gram} {s:Str} (h:MetOk g s):MetOk g (growF s g.2) where
 asc:=growF_asc h.asc
 big:=growF_big h.big
 start:=fun c hc=>growF_sub c (h.start c hc)
 met:=growF_inv h.met fun o r c hr ho hc=>by
  obtain⟨h1,h2,h3⟩:=metV_mem.1 hc;exact .step hr (ho _ (inS_mem.1 h1)) h2 h3
theorem growN_fix {g:Gram}:∀ {n:Nat} {s:Str},MetOk g s→5<n+s.length→MetOk g (growN g n s)∧growF (growN g n s) g.2=growN g n s
 |0,s,h,hn=>by have:=big_five h.asc h.big;omega
 |n+1,s,h,hn=>by
  unfold growN
  by_cases e:growF s g.2=s
  ·rw[zT e];exact ⟨h,e⟩
  ·rw[zF e];have:=asc_grow h.asc h.grow.asc growF_sub e;exact growN_fix (n:=n) h.grow (by omega)
theorem fix_mem {g:Gram} {s:Str} (h:MetOk g s) (hf:growF s g.2=s) {c:UInt8}:c∈s↔Met g c :=
 ⟨h.met c,fun hc=>met_in h.start (fun r hr h1 c hc hb=>by
  have:=growF_step (l:=g.2) (o:=s) hr (inS_mem.2 h1) hc hb;rw[hf]at this;exact this) hc⟩
def okR0 (r:Rule):Bool:=Nat.beq (length r.1) 1&&Nat.ble (length r.2) 20
abbrev gH (g:Gram):Heap:=[(500000,some (boxD 25 TG g))]
theorem okR_G {g:Gram} (h:okG g=true):List.all g.2 okR0=true:=all_eq_true.2 fun r hr=>by
 obtain⟨_,_,h3⟩:=okG_iff h;obtain⟨g1,g2⟩:=h3 r hr;obtain⟨c,g1,_⟩:=bigS_one g1;have:=(areS_iff g2).2;exact andd.2 ⟨by rw[g1];rfl,ble_iff.2 (by omega)⟩
def forL (s:Str):List Rule→Nat→List Int
 | [],_=>[]
 |r::l,k=>bif decide (r.1=s)then(k:Int)::forL s l (k+1)else forL s l (k+1)
theorem forL_at {s:Str} {l:List Rule} {i:Int} (h0:0≤i) (h1:i<(l.length:Int)):forL s (l.drop i.toNat) i.toNat=bif decide ((l.getD i.toNat d0).1=s)then i::forL s (l.drop (i+1).toNat) (i+1).toNat else forL s (l.drop (i+1).toNat) (i+1).toNat:=by
 have hn:i.toNat<l.length:=by omega
 rw[drop_eq_getElem_cons hn,show (i+1).toNat=i.toNat+1 by omega,getD_at hn];show(bif decide (l[i.toNat].1=s)then(i.toNat:Int)::_ else _)=_;rw[Int.toNat_of_nonneg h0]
theorem forL_mem {s:Str} {a:Int}:∀ {l:List Rule} {k:Nat},a∈forL s l k→(k:Int)≤a∧a<(k:Int)+(l.length:Int)∧(l.getD (a.toNat-k) d0).1=s
 | [],_,h=>by cases h
 |r::l,k,h=>by
  unfold forL at h
  by_cases e:r.1=s
  ·rw[zT e]at h;rcases List.mem_cons.1 h with rfl | h
   ·refine ⟨Int.le_refl _,by simp only[length_cons];omega, ?_⟩;rw[show ((k:Int)).toNat-k=0 by omega];exact e
   ·obtain ⟨h1,h2,h3⟩:=forL_mem (l:=l) (k:=k+1) h;refine⟨by omega,by simp only[length_cons];omega, ?_⟩;rw[show a.toNat-k=a.toNat-(k+1)+1 by omega];exact h3
  ·rw[zF e]at h;obtain⟨h1,h2,h3⟩:=forL_mem (l:=l) (k:=k+1) h;refine⟨by omega,by simp only[length_cons];omega, ?_⟩;rw[show a.toNat-k=a.toNat-(k+1)+1 by omega];exact h3
theorem forL_len {s:Str}:∀ {l:List Rule} {k:Nat},(forL s l k).length≤l.length
 | [],_=>Nat.le_refl _
 |r::l,k=>by
  unfold forL;have:=forL_len (s:=s) (l:=l) (k:=k+1)
  cases decide (r.1=s)
  ·simp only[cond_false,length_cons];omega
  ·simp only[cond_true,length_cons];omega
def cb_l1For:Cx:=cxOf Γ69 Tryz.f152.ntmps [(3,[1,2,5,6])] [(0,[5]),(1,[1,2,5,6]),(1000000,[4])] [] []
abbrev st_l1For (s:Str) (i:Int) (g:Gram) (l:List (Int)):St:=⟨[(1,vS s),(2, kp0),(5, ko1),(6,vI i)],[(500000,some (boxD 25 TG g)),(500001,some (.lis 3 TI64 l))]⟩
theorem x_spec_l1For (g:Gram) (s:Str) (l:List Int) (i:Int) (R:St→Option Fin) (K:Cont):evC (cb_l1For.withLoops (look [])) (loopOf Tryz.f152 0) (st_l1For s i g l) (onward (headAt (cb_l1For.withLoops (look [])) 3) R K)=(
branch (decide (i<(length g.snd:Int))) (
 need (inb i (length g.snd)) <|
 branch (decide ((getD g.snd i.toNat d0).fst=s)) (
 need (fits (l.length+[i].length) Tryz.t3.bytes) <| R (st_l1For s (W64 (i+1)) g (l.append [i]))) ( R (st_l1For s (W64 (i+1)) g l))) ( K (.exit 0) (.mk [(5,ko0)] [(500000,some (.lis 3 TI64 l))]))):=by kernel_rfl
def cx0_l1For:Cx:=(cb_l1For).withLoops (look [])
def sh_l1For:Sh:=([(1, .d .str),(2, .ptr 500000 0),(5, .own 500001),(6, .d TI64)],[(500000, .box 25 TG),(500001, .lis 3 TI64)])
def pre_l1For (_s:Str) (i:Int) (g:Gram) (l:List (Int)):Bool:=decide (0≤i)&&(Nat.ble (length g.2) 1000&&decide ((length l:Int)≤i))
def res_l1For (s:Str) (i:Int) (g:Gram) (l:List (Int)) (K:Cont):Option Fin:=K (.exit 0) ⟨[(5, ko0)],[(500000,some (.lis 3 TI64 (l++forL s (g.2.drop i.toNat) i.toNat)))]⟩
def mu_l1For (_s:Str) (i:Int) (g:Gram) (_l:List (Int)):Nat:=length g.2-i.toNat
theorem r_l1For (s:Str) (i:Int) (g:Gram) (l:List (Int)) (K:Cont) (hI:pre_l1For s i g l=true):(∀R:St→Option Fin,evC cx0_l1For (loopOf Tryz.f152 0) (st_l1For s i g l) (onward (headAt cx0_l1For 3) R K)=res_l1For s i g l K) ∨
  (∃(s':Str) (i':Int) (g':Gram) (l':List (Int)),pre_l1For s' i' g' l'=true∧mu_l1For s' i' g' l'<mu_l1For s i g l∧res_l1For s' i' g' l' K=res_l1For s i g l K∧∀R:St→Option Fin,evC cx0_l1For (loopOf Tryz.f152 0) (st_l1For s i g l) (onward (headAt cx0_l1For 3) R K)=R (st_l1For s' i' g' l')):=by
 have hx:=fun R=>x_spec_l1For g s l i R K;simp only[pre_l1For,andd,dec_iff,ble_iff]at hI;obtain⟨h0,h1,h2⟩:=hI
 by_cases hi:i<(length g.2:Int)
 ·have hg:=forL_at (s:=s) h0 hi;have k1:fits (length l+[i].length) Tryz.t3.bytes=true:=by rw[intBytes];exact fits_ok (by simp;omega) (by omega)
  simp only[hi,decide_true,inb_ok h0 hi,branch_true,W1 h0 hi (show length g.2≤big by unfold big;omega),k1]at hx;right
  cases hc:decide ((getD g.2 i.toNat d0).1=s)
  ·rw[hc]at hg;refine⟨s,i+1,g,l, ?_, ?_, ?_,fun R=>(hx R).trans ?_⟩
   ·simp only[pre_l1For,andd,dec_iff,ble_iff];exact ⟨by omega,h1,by omega⟩
   ·simp only[mu_l1For];omega
   ·simp only[res_l1For,hg];rfl
   ·rw[hc];rfl
  ·rw[hc]at hg;refine⟨s,i+1,g,l++[i], ?_, ?_, ?_,fun R=>(hx R).trans ?_⟩
   ·simp only[pre_l1For,andd,dec_iff,ble_iff,length_append,length_singleton];exact ⟨by omega,h1,by omega⟩
   ·simp only[mu_l1For];omega
   ·simp only[res_l1For,hg,append_assoc];rfl
   ·rw[hc];rfl
 ·left;intro R;refine(hx R).trans ?_;have e:l++forL s (g.2.drop i.toNat) i.toNat=l:=by rw[drop_eq_nil_of_le (by omega)];exact List.append_nil l
  simp only[hi,decide_false,branch_false,res_l1For,e]
def g_l1For:St→Cont→Option Fin:=gP sh_l1For (fun v=>match v with | ((s,i,()),(g,l,()))=>pre_l1For s i g l) (fun v K=>match v with | ((s,i,()),(g,l,()))=>res_l1For s i g l K)
def L_l1For:LpL:=(3,g_l1For)::[]
def cx_l1For:Cx:=(cb_l1For).withLoops (look L_l1For)
theorem l_l1For {L:LpL} (n:Nat) (h1:L.drop n=[]) (h2:idsFree (L.take n) (loopOf Tryz.f152 0)=true):LoopsTo g_l1For (cb_l1For) (loopOf Tryz.f152 0) 3 L :=
 with_drop h1 h2 (gP_ok (fun v=>match v with | ((s,i,()),(g,l,()))=>mu_l1For s i g l) fun v K hI=>by
  obtain⟨⟨s,i,⟨⟩⟩,⟨g,l,⟨⟩⟩⟩:=v;exact(r_l1For s i g l K hI).imp id fun⟨s',i',g',l',h⟩=>⟨((s',i',()),(g',l',())),h⟩)
theorem y_spec_l1For (g:Gram) (s:Str):evFn cx_l1For Tryz.f152 true [ofD TG g,ofD .str s] []=(
need (pre_l1For s 0 g []) <| some ((.d (.one (.r (.li TI64 (id (forL s g.snd ((0:Int).toNat))))))),[])):=by kernel_rfl
theorem s_spec_l1For (g:Gram) (_hg:Fit TG g) (s:Str) (_hs:Fit .str s) (hpre:(Nat.ble (length g.2) 1000)=true):Sat Tryz.prog 152 [ofD TG g,ofD .str s] [] (.d (ofD TIS (forL s g.2 0))) [] :=
 fn_sound (cx:=cx_l1For) Tryz.func152 rfl ttOk Γ69ok mixed (fun c hc=>LoopsOk.all (l:=[(3,loopOf Tryz.f152 0)]) (by cases hc;kernel_rfl) ⟨atLoop rfl (l_l1For 1 rfl (by kernel_rfl)),trivial⟩) (ro:=true) (by
  have h:pre_l1For s 0 g []=true:=andd.2 ⟨rfl,andd.2 ⟨hpre,rfl⟩⟩;rw[y_spec_l1For,h];rfl)
def c_spec_l1For:Con:=conT [TG, .str] fun(g:Gram) (s:Str)=>(some (Nat.ble (length g.2) 1000), .d (ofD TIS (forL s g.2 0)))
theorem k_spec_l1For:ConOk Tryz.prog 152 c_spec_l1For:=conT_ok Tryz.call152 fun g hg s hs hqq=>s_spec_l1For g hg s hs (pre_of hqq)
def Γ70:GL:=(152,c_spec_l1For)::Γ69
theorem Γ70ok:GO Γ70 := .cons k_spec_l1For Γ69ok
def smT (t:GTree):Bool:=Nat.ble (length (GTree.sign t)) 8&&(decide (-1≤GTree.rule t)&&(decide (GTree.rule t≤1000)&&Nat.ble (length (GTree.kids t)) 8))
def tOk:Nat→GTree→Bool
 |0,t=>smT t&&Nat.beq (length (GTree.kids t)) 0
 |n+1,t=>smT t&&List.all (GTree.kids t) (tOk n)
def pw (n:Nat):Int:=((10 ^ n:Nat):Int)
theorem pw_pos (n:Nat):1≤pw n:=by
 have:0<10 ^ n:=Nat.pow_pos (by omega);unfold pw;omega
theorem pw_succ (n:Nat):pw (n+1)=10*pw n:=by unfold pw;rw[Nat.pow_succ];omega
def anyPre (n:Nat) (x:Rd) (g:Gram) (s:Str) (d:Int):Bool:=rdAt x (1000000000000-pw n)&&(szG 20 g&&(decide (0≤d)&&(decide (d<(n:Int))&&(Nat.ble (length s) 8&&Nat.ble n 12))))
def anyQ (n:Nat) (x:Rd) (g:Gram) (s:Str) (d:Int) (q:GTree×Rd):Prop:=Sat Tryz.prog 127 [.one (.ptr 0 0),ofD TG g,ofD .str s,ofD TI64 d] [boxD 120 TR x] (.d (ofD .tree q.1)) [(0,some (boxD 120 TR q.2))]∧(tOk n q.1=true∧Adv x q.2 (pw n))
instance:Nonempty (GTree×Rd):=⟨(.node [] 0 [],[],0)⟩
def F_any (n:Nat) (x:Rd) (g:Gram) (s:Str) (d:Int):GTree×Rd:=oneOf (anyQ n x g s d)
def anyH (n:Nat):Prop:=∀(x:Rd) (g:Gram) (s:Str) (d:Int),Fit TR x→Fit TG g→Fit .str s→Fit TI64 d→anyPre n x g s d=true→∃q,anyQ n x g s d q
def conAny (n:Nat):Con:=conB 120 TR [TG, .str,TI64] fun(x:Rd) (g:Gram) (s:Str) (d:Int)=>(some (anyPre n x g s d), .d (ofD .tree (F_any n x g s d).1),(F_any n x g s d).2)
theorem k_any {n:Nat} (h:anyH n):ConOk Tryz.prog 127 (conAny n):=conB_ok Tryz.call127 fun x hx g hg s hs d hd hqq=>(oneOf_spec (h x g s d hx hg hs hd (pre_of hqq))).1
theorem any0:anyH 0:=fun x g s d _ _ _ _ h=>by
 unfold anyPre at h;simp only[andd,dec_iff]at h;omega
abbrev rgt (g:Gram) (k:Int):Str:=(getD g.2 k.toNat d0).2
def minK (g:Gram):List Int→Int→Int
 | [],k=>k
 |a::l,k=>minK g l (bif decide (((rgt g a).length:Int)<((rgt g k).length:Int))then a else k)
theorem minK_in {g:Gram} {n:Nat}:∀ {l:List Int} {k:Int},inb k n=true→l.all (fun a=>inb a n)=true→inb (minK g l k) n=true
 | [],_,h,_=>h
 |a::l,k,h,h2=>by
  rw[List.all_cons,andd]at h2;refine minK_in (l:=l) ?_ h2.2
  cases decide (((rgt g a).length:Int)<((rgt g k).length:Int))
  ·exact h
  ·exact h2.1
theorem minK_at {g:Gram} {l:List Int} {i k:Int} (h0:0≤i) (h1:i<(l.length:Int)):minK g (l.drop i.toNat) k=minK g (l.drop (i+1).toNat) (bif decide (((rgt g (l.getD i.toNat 0)).length:Int)<((rgt g k).length:Int))then l.getD i.toNat 0 else k):=by
 have hn:i.toNat<l.length:=by omega
 rw[drop_eq_getElem_cons hn,show (i+1).toNat=i.toNat+1 by omega,zG,zE hn];rfl
abbrev tz:GTree := .node [] 0 []
theorem tEta (t:GTree):GTree.node t.sign t.rule t.kids=t:=by cases t;rfl
theorem treeBytes:Tryz.t139.bytes=48:=by kernel_rfl
theorem rgt_len {g:Gram} {n:Nat} {k:Int} (h:szG n g=true):(rgt g k).length≤8:=by
 unfold szG at h;rw[andd,andd]at h
 by_cases hk:k.toNat<length g.2
 ·have:=szR_iff.1 (all_eq_true.1 h.2.2 (getD g.2 k.toNat d0) (by rw[getD_at hk];exact List.getElem_mem hk));exact this.2
 ·show (getD g.2 k.toNat d0).2.length≤8;rw[zG,getElem?_eq_none (by omega)];exact Nat.zero_le _
theorem leaf_ok {n:Nat} {s:Str} (h:length s≤8):tOk n (.node s (-1) [])=true:=by
 have h1:smT (.node s (-1) [])=true:=andd.2 ⟨ble_iff.2 h,rfl⟩
 cases n
 ·exact andd.2 ⟨h1,rfl⟩
 ·exact andd.2 ⟨h1,rfl⟩
structure Lev where
 n:Nat
 h:anyH n
noncomputable section
variable [Inhabited Lev]
abbrev lv:Nat:=(default:Lev).n
def c_spec_l3AnyR:Con:=conAny lv
theorem k_spec_l3AnyR:ConOk Tryz.prog 127 c_spec_l3AnyR:=k_any (default:Lev).h
def Γ71:GL:=(127,c_spec_l3AnyR)::Γ70
theorem Γ71ok:GO Γ71 := .cons k_spec_l3AnyR Γ70ok
def cb_any:Cx:=cxOf Γ71 Tryz.f127.ntmps [(15,[0,3,5,8,10,12,13]),(9,[0,2,3,5,8,9,10,11])] [(2,[8,12]),(3,[0,3,5,8,10,12,13]),(0,[0,2,3,5,8,10]),(1,[0,2,3,5,8,9,10,11]),(1000000,[8])] [(15,[(300012,139, .tree)])] []
abbrev treeO (s:Str) (r:Int):Option Obj:=some (.box 139 [.r (.v (.string (mk s))), .r (.v (.int .i64 r)), .r (.v (.slice none 0 0))])
theorem x_spec_l3Any (x:Rd) (g:Gram) (s z:Str) (d q k i:Int) (l:List Int) (R:St→Option Fin) (K:Cont):evC (cb_any.withLoops (look [])) (loopOf Tryz.f127 0) ⟨[(0,vP 0),(2,vS s),(3,vI d),(5, kp0),(8, kp1),(9, .d (ofD TIS l)),(10,vI k),(11,vI i)],[(0,bR x),(500000,some (boxD 25 TG g)),(500001,treeO z q)]⟩ (onward (headAt (cb_any.withLoops (look [])) 9) R K)=(
branch (decide (i<(l.length:Int))) (
 need (inb i l.length) <|
 need (inb (l.getD i.toNat 0) (length g.snd)) <|
 need (inb k (length g.snd)) <|
 branch (decide ((length (getD g.snd (Int.toNat (l.getD i.toNat 0)) d0).snd:Int)<(length (getD g.snd k.toNat d0).snd:Int))) (
 need (inb i l.length) <| R (.mk [(0,(.d (.one (.ptr 0 0)))),(2,vS s),(3,vI d),(5,kp0),(8,kp1),(9,(.d (.one (.r (.li (Ty.int IntKind.i64) l))))),(10,vI (l.getD i.toNat 0)),(11,vI (W64 (i+1)))] [(0,(bR x)),(500000,some (boxD 25 TG g)),(500001,(.some (.box 139 [(.r (.v (Value.string (mk z)))),(.r (.v (Value.int IntKind.i64 q))),(.r (.v (Value.slice none 0 0)))])))])) ( R (.mk [(0,(.d (.one (.ptr 0 0)))),(2,vS s),(3,vI d),(5,kp0),(8,kp1),(9,(.d (.one (.r (.li (Ty.int IntKind.i64) l))))),(10,vI k),(11,vI (W64 (i+1)))] [(0,(bR x)),(500000,some (boxD 25 TG g)),(500001,(.some (.box 139 [(.r (.v (Value.string (mk z)))),(.r (.v (Value.int IntKind.i64 q))),(.r (.v (Value.slice none 0 0)))])))]))) ( K (.exit 0) (.mk [(0,(.d (.one (.ptr 0 0)))),(2,vS s),(3,vI d),(5,kp0),(8,kp1),(10,vI k)] [(0,(bR x)),(500000,some (boxD 25 TG g)),(500001,(.some (.box 139 [(.r (.v (Value.string (mk z)))),(.r (.v (Value.int IntKind.i64 q))),(.r (.v (Value.slice none 0 0)))])))]))):=by kernel_rfl
def cx0_shA:Cx:=(cb_any).withLoops (look [])
def sh_shA:Sh:=([(0, .ptr 0 0),(2, .d .str),(3, .d TI64),(5, .ptr 500000 0),(8, .ptr 500001 0),(9, .d TIS),(10, .d TI64),(11, .d TI64)],[(0, .box 120 TR),(500000, .box 25 TG),(500001, .mix 139 [.d .str, .d TI64, .nil])])
abbrev st_shA (s:Str) (d:Int) (l:List Int) (k i:Int) (x:Den TR) (g:Gram) (z:Str) (q:Int):St:=⟨[(0, .d (.one (.ptr 0 0))),(2,vS s),(3,vI d),(5, kp0),(8, kp1),(9, .d (ofD TIS l)),(10,vI k),(11,vI i)],[(0,some (boxD 120 TR x)),(500000,some (boxD 25 TG g)),(500001,some (.box 139 ((cellsR .str z).map C.r++(cellsR TI64 q).map C.r++[.r (.v (.slice none 0 0))])))]⟩
def pre_shA (_s:Str) (_d:Int) (l:List Int) (k i:Int) (_x:Den TR) (g:Gram) (_z:Str) (_q:Int):Bool:=decide (0≤i)&&(inb k (length g.2)&&(List.all l (fun a=>inb a (length g.2))&&Nat.ble (length l) 1000))
def res_shA (s:Str) (d:Int) (l:List Int) (k i:Int) (x:Den TR) (g:Gram) (z:Str) (q:Int) (K:Cont):Option Fin:=K (.exit 0) ⟨[(0,vP 0),(2,vS s),(3,vI d),(5, kp0),(8, kp1),(10,vI (minK g (l.drop i.toNat) k))],[(0,bR x),(500000,some (boxD 25 TG g)),(500001,treeO z q)]⟩
def mu_shA (_s:Str) (_d:Int) (l:List Int) (_k i:Int) (_x:Den TR) (_g:Gram) (_z:Str) (_q:Int):Nat:=length l-i.toNat
theorem r_shA (s:Str) (d:Int) (l:List Int) (k i:Int) (x:Den TR) (g:Gram) (z:Str) (q:Int) (K:Cont) (hI:pre_shA s d l k i x g z q=true):(∀R:St→Option Fin,evC cx0_shA (loopOf Tryz.f127 0) (st_shA s d l k i x g z q) (onward (headAt cx0_shA 9) R K)=res_shA s d l k i x g z q K) ∨
  (∃(s':Str) (d':Int) (l':List Int) (k' i':Int) (x':Den TR) (g':Gram) (z':Str) (q':Int),pre_shA s' d' l' k' i' x' g' z' q'=true∧mu_shA s' d' l' k' i' x' g' z' q'<mu_shA s d l k i x g z q∧res_shA s' d' l' k' i' x' g' z' q' K=res_shA s d l k i x g z q K∧∀R:St→Option Fin,evC cx0_shA (loopOf Tryz.f127 0) (st_shA s d l k i x g z q) (onward (headAt cx0_shA 9) R K)=R (st_shA s' d' l' k' i' x' g' z' q')):=by
 have hx:=fun R=>x_spec_l3Any x g s z d q k i l R K;simp only[pre_shA,andd,dec_iff,ble_iff]at hI;obtain⟨h0,h1,h2,h3⟩:=hI
 by_cases hi:i<(length l:Int)
 ·have hg:=minK_at (g:=g) (k:=k) h0 hi;have ha:inb (l.getD i.toNat 0) (length g.2)=true:=all_eq_true.1 h2 _ (by
   have hn:i.toNat<length l:=by omega
   show getD l i.toNat 0∈l;rw[zG,zE hn];exact List.getElem_mem hn)
  simp only[hi,decide_true,inb_ok h0 hi,ha,h1,branch_true,W1 h0 hi (show length l≤big by unfold big;omega)]at hx;right
  cases hc:decide (((rgt g (l.getD i.toNat 0)).length:Int)<((rgt g k).length:Int))
  ·rw[hc]at hg;refine⟨s,d,l,k,i+1,x,g,z,q, ?_, ?_, ?_,fun R=>(hx R).trans ?_⟩
   ·simp only[pre_shA,andd,dec_iff,ble_iff];exact ⟨by omega,h1,h2,h3⟩
   ·simp only[mu_shA];omega
   ·simp only[res_shA,hg];rfl
   ·rw[show decide ((length (getD g.2 (Int.toNat (l.getD i.toNat 0)) d0).2:Int)<(length (getD g.2 k.toNat d0).2:Int))=false from hc];rfl
  ·rw[hc]at hg;refine⟨s,d,l,l.getD i.toNat 0,i+1,x,g,z,q, ?_, ?_, ?_,fun R=>(hx R).trans ?_⟩
   ·simp only[pre_shA,andd,dec_iff,ble_iff];exact ⟨by omega,ha,h2,h3⟩
   ·simp only[mu_shA];omega
   ·simp only[res_shA,hg];rfl
   ·rw[show decide ((length (getD g.2 (Int.toNat (l.getD i.toNat 0)) d0).2:Int)<(length (getD g.2 k.toNat d0).2:Int))=true from hc];rfl
 ·left;intro R;refine(hx R).trans ?_;have e:l.drop i.toNat=[]:=drop_eq_nil_of_le (by omega);simp only[hi,decide_false,branch_false,res_shA,e];rfl
def g_shA:St→Cont→Option Fin:=gP sh_shA (fun v=>match v with | ((s,d,l,k,i,()),(x,g,(z,q,()),()))=>pre_shA s d l k i x g z q) (fun v K=>match v with | ((s,d,l,k,i,()),(x,g,(z,q,()),()))=>res_shA s d l k i x g z q K)
theorem l_shA {L:LpL} (n:Nat) (h1:L.drop n=[]) (h2:idsFree (L.take n) (loopOf Tryz.f127 0)=true):LoopsTo g_shA (cb_any) (loopOf Tryz.f127 0) 9 L :=
 with_drop h1 h2 (gP_ok (fun v=>match v with | ((s,d,l,k,i,()),(x,g,(z,q,()),()))=>mu_shA s d l k i x g z q) fun v K hI=>by
  obtain⟨⟨s,d,l,k,i,⟨⟩⟩,⟨x,g,⟨z,q,⟨⟩⟩,⟨⟩⟩⟩:=v;exact(r_shA s d l k i x g z q K hI).imp id fun⟨s',d',l',k',i',x',g',z',q',h⟩=>⟨((s',d',l',k',i',()),(x',g',(z',q',()),())),h⟩)
theorem x_spec_l3Any_1 (x:Rd) (g:Gram) (s z:Str) (d q r k i:Int) (ks:List GTree) (R:St→Option Fin) (K:Cont):evC cb_any (loopOf Tryz.f127 1) ⟨[(0,vP 0),(3,vI d),(5, kp0),(8, kp1),(10,vI k),(12, .d (.one (.ptr 500002 0))),(13,vI i)],[(0,bR x),(500000,some (boxD 25 TG g)),(500001,treeO z q),(500002,some (.box 139 [.r (.v (.string (mk s))), .r (.v (.int .i64 r)), .own 500003])),(500003,some (.lis 139 .tree ks))]⟩ (onward (headAt cb_any 15) R K)=(
need (inb k (length g.snd)) <|
branch (decide (i<(length (getD g.snd k.toNat d0).snd:Int))) (
 need (inb k (length g.snd)) <|
 need (inr i (W64 (i+1)) (length (getD g.snd k.toNat d0).snd)) <|
 need (anyPre lv x g (List.take ((W64 (i+1)).toNat-i.toNat) (List.drop i.toNat (getD g.snd k.toNat d0).snd)) (W64 (d-1))) <|
 need (fits (ks.length+[GTree.node (F_any lv x g (List.take ((W64 (i+1)).toNat-i.toNat) (List.drop i.toNat (getD g.snd k.toNat d0).snd)) (W64 (d-1))).fst.sign (F_any lv x g (List.take ((W64 (i+1)).toNat-i.toNat) (List.drop i.toNat (getD g.snd k.toNat d0).snd)) (W64 (d-1))).fst.rule (F_any lv x g (List.take ((W64 (i+1)).toNat-i.toNat) (List.drop i.toNat (getD g.snd k.toNat d0).snd)) (W64 (d-1))).fst.kids].length) Tryz.t139.bytes) <| R (.mk [(0,(.d (.one (.ptr 0 0)))),(3,vI d),(5,kp0),(8,kp1),(10,vI k),(12,(.d (.one (.ptr 500002 0)))),(13,vI (W64 (i+1)))] [(0,(bR (F_any lv x g (List.take ((W64 (i+1)).toNat-i.toNat) (List.drop i.toNat (getD g.snd k.toNat d0).snd)) (W64 (d-1))).snd)),(500000,some (boxD 25 TG g)),(500001,(.some (.box 139 [(.r (.v (Value.string (mk z)))),(.r (.v (Value.int IntKind.i64 q))),(.r (.v (Value.slice none 0 0)))]))),(500002,(.some (.box 139 [(.r (.v (Value.string (mk s)))),(.r (.v (Value.int IntKind.i64 r))),(.own 500003)]))),(500003,(.some (.lis 139 ty139 (ks.append [GTree.node (F_any lv x g (List.take ((W64 (i+1)).toNat-i.toNat) (List.drop i.toNat (getD g.snd k.toNat d0).snd)) (W64 (d-1))).fst.sign (F_any lv x g (List.take ((W64 (i+1)).toNat-i.toNat) (List.drop i.toNat (getD g.snd k.toNat d0).snd)) (W64 (d-1))).fst.rule (F_any lv x g (List.take ((W64 (i+1)).toNat-i.toNat) (List.drop i.toNat (getD g.snd k.toNat d0).snd)) (W64 (d-1))).fst.kids]))))])) ( K (.exit 2) (.mk [(8,kp0),(12,kp1)] [(500000,(.some (.box 139 [(.r (.v (Value.string (mk z)))),(.r (.v (Value.int IntKind.i64 q))),(.r (.v (Value.slice none 0 0)))]))),(500001,(.some (.box 139 [(.r (.v (Value.string (mk s)))),(.r (.v (Value.int IntKind.i64 r))),(.own 500002)]))),(0,(bR x)),(500002,(.some (.lis 139 (Ty.tree) ks)))]))):=by kernel_rfl
theorem any_low (x:Rd) (g:Gram) (s:Str) (d:Int) (hf:fitR x=true) (hs:length s≤8) (hd : -1000≤d∧d≤1000) (h:anyPre lv x g s d=true):tOk lv (F_any lv x g s d).1=true∧Adv x (F_any lv x g s d).2 (pw lv):=by
 have h1:=h;unfold anyPre at h1;simp only[andd,dec_iff,ble_iff]at h1;obtain⟨a1,a2,a3,a4,a5,a6⟩:=h1;have hp:=pw_pos lv;refine(oneOf_spec ((default:Lev).h x g s d (fitR_fit hf a1 (by omega)) (szG_fit a2 (by omega)) ?_ ?_ h)).2
 ·show length s≤9223372036854775807;omega
 ·exact wrap_small (by omega) (by omega)
def cx0_kids:Cx:=cb_any
def sh_kids:Sh:=([(0, .ptr 0 0),(3, .d TI64),(5, .ptr 500000 0),(8, .ptr 500001 0),(10, .d TI64),(12, .ptr 500002 0),(13, .d TI64)],[(0, .box 120 TR),(500000, .box 25 TG),(500001, .mix 139 [.d .str, .d TI64, .nil]),(500002, .mix 139 [.d .str, .d TI64, .own 500003]),(500003, .lis 139 .tree)])
abbrev st_kids (d:Int) (k:Int) (i:Int) (x:Den TR) (g:Gram) (z:Str) (q:Int) (s:Str) (r:Int) (ks:List (GTree)):St:=⟨[(0, .d (.one (.ptr 0 0))),(3,vI d),(5, kp0),(8, kp1),(10,vI k),(12, .d (.one (.ptr 500002 0))),(13,vI i)],[(0,some (boxD 120 TR x)),(500000,some (boxD 25 TG g)),(500001,some (.box 139 ((cellsR .str z).map C.r++(cellsR TI64 q).map C.r++[.r (.v (.slice none 0 0))]))),(500002,some (.box 139 ((cellsR .str s).map C.r++(cellsR TI64 r).map C.r++[.own 500003]))),(500003,some (.lis 139 .tree ks))]⟩
def V_kids (d:Int) (k:Int) (i:Int) (x:Den TR) (g:Gram) (z:Str) (q:Int) (s:Str) (r:Int) (ks:List (GTree)):sh_kids.V:=((d,k,i,()),(x,g,(z,q,()),(s,r,()),ks,()))
def out_kids (o:(Str×Int)×(Str×Int)×List GTree×Rd):St:=⟨[(8, kp0),(12, kp1)],[(500000,treeO o.1.1 o.1.2),(500001,some (.box 139 [.r (.v (.string (mk o.2.1.1))), .r (.v (.int .i64 o.2.1.2)), .own 500002])),(0,bR o.2.2.2),(500002,some (.lis 139 .tree o.2.2.1))]⟩
def inv_kids (d:Int) (k:Int) (i:Int) (x:Den TR) (g:Gram) (_z:Str) (_q:Int) (_s:Str) (_r:Int) (ks:List (GTree)):Bool:=fitR x&&(rdAt x (1000000000000-pw (lv+1)+1+i*pw lv)&&(szG 20 g&&(decide (1≤d)&&(decide (d≤(lv:Int))&&(Nat.ble lv 11&&(inb k (length g.2)&&(decide (0≤i)&&(decide (i≤((rgt g k).length:Int))&&(decide ((ks.length:Int)≤i)&&List.all ks (tOk lv))))))))))
def post_kids (_d:Int) (_k:Int) (i:Int) (x:Den TR) (_g:Gram) (z:Str) (q:Int) (s:Str) (r:Int) (_ks:List (GTree)) (o:(Str×Int)×(Str×Int)×List GTree×Rd):Prop:=o.1=(z,q)∧o.2.1=(s,r)∧List.all o.2.2.1 (tOk lv)=true∧o.2.2.1.length≤8∧Adv x o.2.2.2 ((8-i)*pw lv)
def mu_kids (_d:Int) (_k:Int) (i:Int) (_x:Den TR) (_g:Gram) (_z:Str) (_q:Int) (_s:Str) (_r:Int) (_ks:List (GTree)):Nat:=(8-i).toNat
theorem r_kids (d:Int) (k:Int) (i:Int) (x:Den TR) (g:Gram) (z:Str) (q:Int) (s:Str) (r:Int) (ks:List (GTree)) (hI:inv_kids d k i x g z q s r ks=true):(∃o:(Str×Int)×(Str×Int)×List GTree×Rd,post_kids d k i x g z q s r ks o∧∀(R:St→Option Fin) (K:Cont),evC cx0_kids (loopOf Tryz.f127 1) (st_kids d k i x g z q s r ks) (onward (headAt cx0_kids 15) R K)=K (.exit 2) (out_kids o)) ∨
  (∃(d':Int) (k':Int) (i':Int) (x':Den TR) (g':Gram) (z':Str) (q':Int) (s':Str) (r':Int) (ks':List (GTree)),inv_kids d' k' i' x' g' z' q' s' r' ks'=true∧mu_kids d' k' i' x' g' z' q' s' r' ks'<mu_kids d k i x g z q s r ks∧(∀o,post_kids d' k' i' x' g' z' q' s' r' ks' o→post_kids d k i x g z q s r ks o)∧∀(R:St→Option Fin) (K:Cont),evC cx0_kids (loopOf Tryz.f127 1) (st_kids d k i x g z q s r ks) (onward (headAt cx0_kids 15) R K)=R (st_kids d' k' i' x' g' z' q' s' r' ks')):=by
 simp only[inv_kids,andd,dec_iff,ble_iff]at hI;obtain⟨h1,h2,h3,h4,h5,h6,h7,h8,h9,h10,h11⟩:=hI;have hr8:=rgt_len (k:=k) h3;have hp:=pw_pos lv;have hp2:=pw_succ lv;have hx:=fun R K=>x_spec_l3Any_1 x g s z d q r k i ks R K;rw[h7]at hx
 by_cases hi:i<((rgt g k).length:Int)
 ·right;have hipw:i*pw lv≤7*pw lv:=Int.mul_le_mul_of_nonneg_right (by omega) (by omega);have hn1:(i+1)*pw lv=i*pw lv+pw lv:=by rw[Int.add_mul,Int.one_mul]
  have hn2:(8-i)*pw lv=(8-(i+1))*pw lv+pw lv:=by rw[show (8:Int)-i=(8-(i+1))+1 by omega,Int.add_mul,Int.one_mul]
  have w1:W64 (i+1)=i+1:=wrap_small (by omega) (by omega);have w2:W64 (d-1)=d-1:=wrap_small (by omega) (by omega);have hsl:List.take ((i+1).toNat-i.toNat) (List.drop i.toNat (rgt g k))=[(rgt g k).getD i.toNat 0]:=slice_one h8 hi;have hpre:anyPre lv x g [(rgt g k).getD i.toNat 0] (d-1)=true:=by
   unfold anyPre;simp only[andd,dec_iff,ble_iff];refine⟨?_,h3,by omega,by omega,by simp,by omega⟩;have:=rdAt_iff.1 h2;exact rdAt_iff.2 ⟨this.1,by omega⟩
  obtain⟨p1,p2⟩:=any_low x g [(rgt g k).getD i.toNat 0] (d-1) h1 (by simp) ⟨by omega,by omega⟩ hpre;have k1:inr i (i+1) (rgt g k).length=true:=inr_iff.2 (by omega);rw[w1,w2]at hx;change ∀R K,_=need true (branch (decide (i<((rgt g k).length:Int))) (need true (need (inr i (i+1) (rgt g k).length) _)) _)at hx;rw[zT hi,k1]at hx
  generalize hF:F_any lv x g [(rgt g k).getD i.toNat 0] (d-1)=f at p1 p2
  refine⟨d,k,i+1,f.2,g,z,q,s,r,ks++[f.1], ?_, ?_, ?_,fun R K=>(hx R K).trans ?_⟩
  ·simp only[inv_kids,andd,dec_iff,ble_iff];have ha:=rdAt_iff.1 h2;refine⟨by rw[fitR_adv p2];exact h1, ?_,h3,h4,h5,h6,h7,by omega,by omega,by rw[length_append,length_singleton];omega, ?_⟩
   ·have:=p2.2;exact rdAt_iff.2 ⟨by omega,by omega⟩
   ·rw[List.all_append,h11,List.all_cons,p1];rfl
  ·simp only[mu_kids];omega
  ·rintro o ⟨g1,g2,g3,g4,g5⟩;exact⟨g1,g2,g3,g4,(p2.trans g5).le (by omega)⟩
  ·have e:List.take ((i+1).toNat-i.toNat) (List.drop i.toNat (getD g.2 k.toNat d0).2)=[(rgt g k).getD i.toNat 0]:=hsl;have k2:fits (ks.length+[f.1].length) Tryz.t139.bytes=true:=by rw[treeBytes];exact fits_ok (by simp;omega) (by omega)
   rw[e,hF,hpre,tEta,k2];rfl
 ·left;refine⟨((z,q),(s,r),ks,x),⟨rfl,rfl,h11,by show ks.length≤8;omega,(Adv.refl x).le (Int.mul_nonneg (by omega) (by omega))⟩,fun R K=>(hx R K).trans ?_⟩;change need true (branch (decide (i<((rgt g k).length:Int))) _ _)=_;rw[zF hi,branch_false,need_t];unfold out_kids;rfl
def I_kids:sh_kids.V→Bool:=fun v=>match v with | ((d,k,i,()),(x,g,(z,q,()),(s,r,()),ks,()))=>inv_kids d k i x g z q s r ks
def P_kids:sh_kids.V→(Str×Int)×(Str×Int)×List GTree×Rd→Prop:=fun v o=>match v with | ((d,k,i,()),(x,g,(z,q,()),(s,r,()),ks,()))=>post_kids d k i x g z q s r ks o
def M_kids:sh_kids.V→Nat:=fun v=>match v with | ((d,k,i,()),(x,g,(z,q,()),(s,r,()),ks,()))=>mu_kids d k i x g z q s r ks
theorem a_kids:∀v:sh_kids.V,I_kids v=true→∃o,P_kids v o∧∀K r,K (.exit 2) (out_kids o)=some r→∃N,iter (evC cx0_kids (loopOf Tryz.f127 1)) (headAt cx0_kids 15) N (sh_kids.mk v) K=some r :=
 loop_any (fun v=>I_kids v=true) P_kids (.exit 2) M_kids fun v hI=>by
  obtain⟨⟨(d:Int),(k:Int),(i:Int),⟨⟩⟩,⟨(x:Den TR),(g:Gram),⟨(z:Str),(q:Int),⟨⟩⟩,⟨(s:Str),(r:Int),⟨⟩⟩,(ks:List (GTree)),⟨⟩⟩⟩:=v;rcases r_kids d k i x g z q s r ks hI with⟨o,h1,h2⟩ | ⟨d',k',i',x',g',z',q',s',r',ks',h1,h2,h3,h4⟩
  ·exact .inl ⟨o,h1,h2⟩
  ·exact .inr ⟨V_kids d' k' i' x' g' z' q' s' r' ks',h1,h2,h3,h4⟩
def g_kids:St→Cont→Option Fin:=gEnd sh_kids I_kids out_kids (evC cx0_kids (loopOf Tryz.f127 1)) (headAt cx0_kids 15) P_kids (.exit 2)
def E_kids (d:Int) (k:Int) (i:Int) (x:Den TR) (g:Gram) (z:Str) (q:Int) (s:Str) (r:Int) (ks:List (GTree)):(Str×Int)×(Str×Int)×List GTree×Rd:=endOf sh_kids.mk out_kids (evC cx0_kids (loopOf Tryz.f127 1)) (headAt cx0_kids 15) P_kids (.exit 2) (V_kids d k i x g z q s r ks)
theorem q_kids (d:Int) (k:Int) (i:Int) (x:Den TR) (g:Gram) (z:Str) (q:Int) (s:Str) (r:Int) (ks:List (GTree)) (hI:inv_kids d k i x g z q s r ks=true):post_kids d k i x g z q s r ks (E_kids d k i x g z q s r ks):=(endOf_spec (a_kids (V_kids d k i x g z q s r ks) hI)).1
def cx_anyF:Cx:=cb_any.withLoops (look [(15,g_kids),(9,g_shA)])
theorem y_spec_l3Any (x:Rd) (g:Gram) (s:Str) (d:Int):evFn cx_anyF Tryz.f127 true [.one (.ptr 0 0),ofD TG g,ofD .str s,ofD TI64 d] [boxD 120 TR x]=(
branch (smallS s) ( some ((.d (.agg [(.r (.v (Value.string (mk s)))),(.r (.v (Value.int IntKind.i64 (Int.neg 1)))),(.r (.li ty139 ([])))])),[(0,(bR x))])) (
 need (g.snd.length.ble 1000) <|
 branch (bif decide (((forL s g.snd 0).length:Int)=0)then true else decide (d<1)) ( some ((.d (.agg [(.r (.v (Value.string (mk s)))),(.r (.v (Value.int IntKind.i64 (Int.neg 1)))),(.r (.li ty139 ([])))])),[(0,(bR x))])) (
 need (rdOk x) <|
 need (inb (pickV x ((forL s g.snd 0).length:Int)) (forL s g.snd 0).length) <|
 branch (decide (d<4)) (
  need (pre_shA s d (forL s g.snd 0) ((forL s g.snd 0).getD (pickV x ((forL s g.snd 0).length:Int)).toNat 0) 0 (rdGo x 1) g ([]:Str) 0) <|
  need (inv_kids d (minK g (id (forL s g.snd 0)) ((forL s g.snd 0).getD (pickV x ((forL s g.snd 0).length:Int)).toNat 0)) 0 (rdGo x 1) g ([]:Str) 0 s (minK g (id (forL s g.snd 0)) ((forL s g.snd 0).getD (pickV x ((forL s g.snd 0).length:Int)).toNat 0)) []) <| some ((.d (.agg [(.r (.v (Value.string (mk (E_kids d (minK g (id (forL s g.snd 0)) ((forL s g.snd 0).getD (pickV x ((forL s g.snd 0).length:Int)).toNat 0)) 0 (rdGo x 1) g ([]:Str) 0 s (minK g (id (forL s g.snd 0)) ((forL s g.snd 0).getD (pickV x ((forL s g.snd 0).length:Int)).toNat 0)) []).snd.fst.fst)))),(.r (.v (Value.int IntKind.i64 (E_kids d (minK g (id (forL s g.snd 0)) ((forL s g.snd 0).getD (pickV x ((forL s g.snd 0).length:Int)).toNat 0)) 0 (rdGo x 1) g ([]:Str) 0 s (minK g (id (forL s g.snd 0)) ((forL s g.snd 0).getD (pickV x ((forL s g.snd 0).length:Int)).toNat 0)) []).snd.fst.snd))),(.r (.li (Ty.tree) ((E_kids d (minK g (id (forL s g.snd 0)) ((forL s g.snd 0).getD (pickV x ((forL s g.snd 0).length:Int)).toNat 0)) 0 (rdGo x 1) g ([]:Str) 0 s (minK g (id (forL s g.snd 0)) ((forL s g.snd 0).getD (pickV x ((forL s g.snd 0).length:Int)).toNat 0)) []).snd.snd.fst)))])),[(0,(bR (E_kids d (minK g (id (forL s g.snd 0)) ((forL s g.snd 0).getD (pickV x ((forL s g.snd 0).length:Int)).toNat 0)) 0 (rdGo x 1) g ([]:Str) 0 s (minK g (id (forL s g.snd 0)) ((forL s g.snd 0).getD (pickV x ((forL s g.snd 0).length:Int)).toNat 0)) []).snd.snd.snd))])) (
  need (inv_kids d ((forL s g.snd 0).getD (pickV x ((forL s g.snd 0).length:Int)).toNat 0) 0 (rdGo x 1) g ([]:Str) 0 s ((forL s g.snd 0).getD (pickV x ((forL s g.snd 0).length:Int)).toNat 0) []) <| some ((.d (.agg [(.r (.v (Value.string (mk (E_kids d ((forL s g.snd 0).getD (pickV x ((forL s g.snd 0).length:Int)).toNat 0) 0 (rdGo x 1) g ([]:Str) 0 s ((forL s g.snd 0).getD (pickV x ((forL s g.snd 0).length:Int)).toNat 0) []).snd.fst.fst)))),(.r (.v (Value.int IntKind.i64 (E_kids d ((forL s g.snd 0).getD (pickV x ((forL s g.snd 0).length:Int)).toNat 0) 0 (rdGo x 1) g ([]:Str) 0 s ((forL s g.snd 0).getD (pickV x ((forL s g.snd 0).length:Int)).toNat 0) []).snd.fst.snd))),(.r (.li (Ty.tree) ((E_kids d ((forL s g.snd 0).getD (pickV x ((forL s g.snd 0).length:Int)).toNat 0) 0 (rdGo x 1) g ([]:Str) 0 s ((forL s g.snd 0).getD (pickV x ((forL s g.snd 0).length:Int)).toNat 0) []).snd.snd.fst)))])),[(0,(bR (E_kids d ((forL s g.snd 0).getD (pickV x ((forL s g.snd 0).length:Int)).toNat 0) 0 (rdGo x 1) g ([]:Str) 0 s ((forL s g.snd 0).getD (pickV x ((forL s g.snd 0).length:Int)).toNat 0) []).snd.snd.snd))]))))):=by kernel_rfl
abbrev anyG (n:Nat) (x:Rd) (r:Fin):Prop:=∃(v:GTree) (x':Rd),r=(.d (ofD .tree v),[(0,some (boxD 120 TR x'))])∧tOk n v=true∧Adv x x' (pw n)
theorem any_fin {x:Rd} {g:Gram} {s:Str} {d k:Int} (hs:length s≤8) (hi:inv_kids d k 0 (rdGo x 1) g [] 0 s k []=true) (hk:0≤k∧k≤1000) :
  Ok (some (.d (.agg [.r (.v (.string (mk (E_kids d k 0 (rdGo x 1) g ([]:Str) 0 s k []).2.1.1))), .r (.v (.int .i64 (E_kids d k 0 (rdGo x 1) g ([]:Str) 0 s k []).2.1.2)), .r (.li .tree (E_kids d k 0 (rdGo x 1) g ([]:Str) 0 s k []).2.2.1)]),[(0,bR (E_kids d k 0 (rdGo x 1) g ([]:Str) 0 s k []).2.2.2)])) (anyG (lv+1) x):=by
 obtain⟨g1,g2,g3,g4,g5⟩:=q_kids d k 0 (rdGo x 1) g [] 0 s k [] hi
 generalize E_kids d k 0 (rdGo x 1) g ([]:Str) 0 s k []=o at g1 g2 g3 g4 g5
 obtain⟨o1,⟨o2,o3⟩,o4,o5⟩:=o
 cases g2
 have hp:=pw_pos lv;have hp2:=pw_succ lv;refine Ok.ret ⟨.node s k o4,o5,rfl,andd.2 ⟨andd.2 ⟨ble_iff.2 hs,andd.2 ⟨dec_iff.2 (show (-1:Int)≤k by omega),andd.2 ⟨dec_iff.2 (show k≤1000 by omega),ble_iff.2 g4⟩⟩⟩,g3⟩,((Adv.one x).trans g5).le ?_⟩;rw[show (8:Int)-0=8 from rfl];omega
theorem any_up:anyH (lv+1):=fun x g s d hx hg hs hd hpre=>by
 have f0:=fit_fitR hx;unfold anyPre at hpre;simp only[andd,dec_iff,ble_iff]at hpre;obtain⟨a1,a2,a3,a4,a5,a6⟩:=hpre;have hp:=pw_pos lv;have hp2:=pw_succ lv;have hlen:length g.2≤20:=by
  unfold szG at a2;rw[andd,andd,ble_iff,ble_iff]at a2;exact a2.2.1
 have hleaf:Ok (some (.d (.agg [.r (.v (.string (mk s))), .r (.v (.int .i64 (Int.neg 1))), .r (.li .tree [])]),[(0,bR x)])) (anyG (lv+1) x):=Ok.ret ⟨.node s (-1) [],x,rfl,leaf_ok a5,(Adv.refl x).le (by omega)⟩;have main:Ok (evFn cx_anyF Tryz.f127 true [.one (.ptr 0 0),ofD TG g,ofD .str s,ofD TI64 d] [boxD 120 TR x]) (anyG (lv+1) x):=by
  rw[y_spec_l3Any];refine Ok.br (fun _=>hleaf) fun _=>Ok.need (ble_iff.2 (by omega)) (Ok.br (fun _=>hleaf) fun hc => ?_);have hc1:¬((forL s g.2 0).length:Int)=0∧¬d<1:=by
   rw[b3]at hc;simp only[Bool.or_eq_false_iff,decide_eq_false_iff_not]at hc;exact hc
  have k0:rdOk x=true:=ok1 a1 (by omega);have hpk:=pickV_range (n:=((forL s g.2 0).length:Int)) ((byB_iff.1 (andd.1 f0).1)) k0 (by omega);have hin:=inb_ok hpk.1 hpk.2;have hall:∀a∈forL s g.2 0,inb a (length g.2)=true∧0≤a∧a≤1000:=fun a ha=>by
   obtain⟨m1,m2,_⟩:=forL_mem ha;exact⟨inb_ok (by omega) (by omega),by omega,by omega⟩
  have hk1:(forL s g.2 0).getD (pickV x ((forL s g.2 0).length:Int)).toNat 0∈forL s g.2 0:=by
   have hn:(pickV x ((forL s g.2 0).length:Int)).toNat<(forL s g.2 0).length:=by omega
   rw[zG,zE hn];exact List.getElem_mem hn
  generalize hK:(forL s g.2 0).getD (pickV x ((forL s g.2 0).length:Int)).toNat 0=k at hk1
  obtain⟨q1,q2,q3⟩:=hall k hk1;have hinv:∀k',inb k' (length g.2)=true→inv_kids d k' 0 (rdGo x 1) g [] 0 s k' []=true:=fun k' hk'=>by
   simp only[inv_kids,andd,dec_iff,ble_iff];have ha:=rdAt_iff.1 a1;refine⟨by rw[fitR_adv (Adv.one x)];exact f0, ?_,a2,by omega,by omega,by omega,hk',by omega,by omega,by simp,rfl⟩;rw[Int.zero_mul];exact rdAt_iff.2 ⟨by simp only[rdGo];omega,by simp only[rdGo];omega⟩
  refine Ok.need k0 (Ok.need hin (Ok.br (fun _ => ?_) fun _=>Ok.need (hinv k q1) (any_fin a5 (hinv k q1) ⟨q2,q3⟩)));have hsh:pre_shA s d (forL s g.2 0) k 0 (rdGo x 1) g ([]:Str) 0=true:=by
   simp only[pre_shA,andd,dec_iff,ble_iff];refine⟨by omega,q1,all_eq_true.2 fun a ha=>(hall a ha).1, ?_⟩;have:=forL_len (s:=s) (l:=g.2) (k:=0);omega
  have hm:=minK_in (g:=g) (n:=length g.2) (l:=forL s g.2 0) (k:=k) q1 (all_eq_true.2 fun a ha=>(hall a ha).1);have hm2:=inb_iff.1 hm;exact Ok.need hsh (Ok.need (hinv _ hm) (any_fin a5 (hinv _ hm) ⟨hm2.1,by show minK g (forL s g.2 0) k≤1000;omega⟩))
 obtain⟨r,e1,v,x',e2,e3,e4⟩:=main;subst e2;exact⟨(v,x'),fn_sound (cx:=cx_anyF) Tryz.func127 rfl ttOk Γ71ok mixed (fun c hc=>LoopsOk.all (l:=[(9,loopOf Tryz.f127 0),(15,loopOf Tryz.f127 1)]) (by cases hc;kernel_rfl) ⟨atLoop rfl (l_shA (L:=[(15,g_kids),(9,g_shA)]) 2 rfl (by kernel_rfl)),atLoop rfl (with_ok (by kernel_rfl) (gEnd_ok a_kids)),trivial⟩) (ro:=true) e1,e3,e4⟩
end
theorem any_all:∀n,anyH n
 |0=>any0
 |n+1=>@any_up ⟨⟨n,any_all n⟩⟩
def c_spec_l3Any:Con:=conAny 9
theorem k_spec_l3Any:ConOk Tryz.prog 127 c_spec_l3Any:=k_any (any_all 9)
def Γ72:GL:=(127,c_spec_l3Any)::Γ70
theorem Γ72ok:GO Γ72 := .cons k_spec_l3Any Γ70ok
def tOkP:Nat→GTree→Bool
 |0,_=>false
 |n+1,t=>tOk n t
theorem tOkP_kids:∀ {n:Nat} {t:GTree},tOkP (n+1) t=true→smT t=true∧List.all (GTree.kids t) (tOkP n)=true
 |0,t,h=>by
  obtain⟨h1,h2⟩:=andd.1 h;exact⟨h1,by rw[List.length_eq_zero_iff.1 (zB h2)];rfl⟩
 |n+1,t,h=>andd.1 h
def yldP:Nat→GTree→Str
 |0,_=>[]
 |n+1,t=>bif smallS t.sign then t.sign else t.kids.flatMap (yldP n)
theorem flat_len {f:GTree→Str} {m:Nat}:∀ {l:List GTree},(∀t∈l,(f t).length≤m)→(l.flatMap f).length≤l.length*m
 | [],_=>Nat.zero_le _
 |t::l,h=>by
  have h1:=h t mem_cons_self;have h2:=flat_len (l:=l) fun t ht=>h t (mem_cons_of_mem _ ht);rw[List.flatMap_cons,length_append,length_cons,Nat.add_mul];omega
theorem yld_len:∀ {n:Nat} {t:GTree},tOkP n t=true→(yldP n t).length≤8 ^ n
 |0,_,_=>Nat.zero_le _
 |n+1,t,h=>by
  obtain⟨h1,h2⟩:=tOkP_kids h;have hp:0<8 ^ n:=Nat.pow_pos (by omega);unfold yldP;rw[Nat.pow_succ]
  cases hs:smallS t.sign
  ·have hk:length t.kids≤8:=by
    unfold smT at h1;rw[andd,andd,andd]at h1;exact ble_iff.1 h1.2.2.2
   have:=flat_len (f:=yldP n) (m:=8 ^ n) (l:=t.kids) fun k hk=>yld_len (all_eq_true.1 h2 k hk);have h3:=Nat.mul_le_mul_right (8 ^ n) hk;simp only[cond_false];omega
  ·obtain ⟨c,e,_⟩:=smallS_one hs;rw[cond_true,e];simp only[length_cons,List.length_nil];omega
theorem yld_len12 {n:Nat} {t:GTree} (h:tOkP n t=true) (hn:n≤12):(yldP n t).length≤68719476736 :=
 Nat.le_trans (yld_len h) (Nat.le_trans (Nat.pow_le_pow_right (by omega) hn) (by decide))
abbrev kidT (t:GTree) (i:Int):GTree:=t.kids.getD i.toNat tz
theorem kid_in {t:GTree} {i:Int} (h0:0≤i) (h1:i<(t.kids.length:Int)):kidT t i∈t.kids:=by
 have hn:i.toNat<t.kids.length:=by omega
 show t.kids.getD i.toNat tz∈_;rw[zG,zE hn];exact List.getElem_mem hn
theorem yl_at {n:Nat} {t:GTree} {i:Int} (h0:0≤i) (h1:i<(t.kids.length:Int)):(t.kids.drop i.toNat).flatMap (yldP n)=yldP n (kidT t i)++(t.kids.drop (i+1).toNat).flatMap (yldP n):=by
 have hn:i.toNat<t.kids.length:=by omega
 rw[drop_eq_getElem_cons hn,List.flatMap_cons,show (i+1).toNat=i.toNat+1 by omega];show _=yldP n (t.kids.getD i.toNat tz)++_;rw[zG,zE hn];rfl
def conYield (n:Nat):Con:=conT [.tree] fun(t:GTree)=>(some (tOkP n t&&Nat.ble n 12), .d (ofD .str (yldP n t)))
structure LevY where
 n:Nat
 h:ConOk Tryz.prog 126 (conYield n)
noncomputable section
variable [Inhabited LevY]
abbrev lvY:Nat:=(default:LevY).n
def c_spec_l3YieldR:Con:=conYield lvY
theorem k_spec_l3YieldR:ConOk Tryz.prog 126 c_spec_l3YieldR:=(default:LevY).h
def Γ73:GL:=(126,c_spec_l3YieldR)::Γ72
theorem Γ73ok:GO Γ73 := .cons k_spec_l3YieldR Γ72ok
def cb_yield:Cx:=cxOf Γ73 Tryz.f126.ntmps [(5,[1,3,4])] [(0,[3]),(1,[1,3,4]),(1000000,[2])] [] []
abbrev st_ylA (o:Str) (i:Int) (t:GTree):St:=⟨[(1, kp0),(3,vS o),(4,vI i)],[(500000,some (boxD 139 .tree t))]⟩
theorem x_spec_l3Yield (t:GTree) (o:Str) (i:Int) (R:St→Option Fin) (K:Cont):evC (cb_yield.withLoops (look [])) (loopOf Tryz.f126 0) (st_ylA o i t) (onward (headAt (cb_yield.withLoops (look [])) 5) R K)=(
branch (decide (i<(t.kids.length:Int))) (
 need (inb i t.kids.length) <|
 need (tOkP lvY (GTree.node (GTree.sign (t.kids.getD i.toNat tz)) (GTree.rule (t.kids.getD i.toNat tz)) (GTree.kids (t.kids.getD i.toNat tz)))&&lvY.ble 12) <|
 need (decide ((length o+length (yldP lvY (GTree.node (GTree.sign (t.kids.getD i.toNat tz)) (GTree.rule (t.kids.getD i.toNat tz)) (GTree.kids (t.kids.getD i.toNat tz)))))≤9223372036854775807)) <| R (.mk [(1,kp0),(3,(vS (List.append o (yldP lvY (GTree.node (GTree.sign (t.kids.getD i.toNat tz)) (GTree.rule (t.kids.getD i.toNat tz)) (GTree.kids (t.kids.getD i.toNat tz))))))),(4,vI (W64 (i+1)))] [(500000,(.some (.box 139 [(.r (.v (Value.string (mk t.sign)))),(.r (.v (Value.int IntKind.i64 t.rule))),(.r (.li (Ty.tree) (t.kids)))])))])) ( K (.exit 0) (.mk [(3,vS o)] []))):=by kernel_rfl
def cx0_ylA:Cx:=(cb_yield).withLoops (look [])
def sh_ylA:Sh:=([(1, .ptr 500000 0),(3, .d .str),(4, .d TI64)],[(500000, .box 139 .tree)])
def pre_ylA (o:Str) (i:Int) (t:GTree):Bool:=decide (0≤i)&&(smT t&&(List.all (GTree.kids t) (tOkP lvY)&&(Nat.ble lvY 12&&decide ((length o:Int)≤i*68719476736))))
def res_ylA (o:Str) (i:Int) (t:GTree) (K:Cont):Option Fin:=K (.exit 0) ⟨[(3,vS (o++(t.kids.drop i.toNat).flatMap (yldP lvY)))],[]⟩
def mu_ylA (_o:Str) (i:Int) (t:GTree):Nat:=t.kids.length-i.toNat
theorem r_ylA (o:Str) (i:Int) (t:GTree) (K:Cont) (hI:pre_ylA o i t=true):(∀R:St→Option Fin,evC cx0_ylA (loopOf Tryz.f126 0) (st_ylA o i t) (onward (headAt cx0_ylA 5) R K)=res_ylA o i t K) ∨
  (∃(o':Str) (i':Int) (t':GTree),pre_ylA o' i' t'=true∧mu_ylA o' i' t'<mu_ylA o i t∧res_ylA o' i' t' K=res_ylA o i t K∧∀R:St→Option Fin,evC cx0_ylA (loopOf Tryz.f126 0) (st_ylA o i t) (onward (headAt cx0_ylA 5) R K)=R (st_ylA o' i' t')):=by
 have hx:=fun R=>x_spec_l3Yield t o i R K;rw[tEta (t.kids.getD i.toNat tz)]at hx;change ∀R,_=branch (decide (i<(t.kids.length:Int))) (need (inb i t.kids.length) (need (tOkP lvY (kidT t i)&&lvY.ble 12) (need (decide ((length o+length (yldP lvY (kidT t i)))≤9223372036854775807)) _))) _ at hx;simp only[pre_ylA]at hI;rw[andd,andd,andd,andd,dec_iff,ble_iff,dec_iff]at hI;obtain⟨h0,h1,h2,h3,h4⟩:=hI;have hk8:t.kids.length≤8:=by
  have h5:=h1;unfold smT at h5;rw[andd,andd,andd]at h5;exact ble_iff.1 h5.2.2.2
 by_cases hi:i<(t.kids.length:Int)
 ·have hkid:=all_eq_true.1 h2 _ (kid_in h0 hi);have hlen:=yld_len12 hkid h3;have k1:(tOkP lvY (kidT t i)&&lvY.ble 12)=true:=andd.2 ⟨hkid,ble_iff.2 h3⟩;have k2:decide ((length o+length (yldP lvY (kidT t i)))≤9223372036854775807)=true:=dec_iff.2 (by omega);have w:W64 (i+1)=i+1:=wrap_small (by omega) (by omega);rw[zT hi,inb_ok h0 hi,k1,k2,w]at hx;have hg:=yl_at (n:=lvY) h0 hi;right;refine⟨o++yldP lvY (kidT t i),i+1,t, ?_, ?_, ?_,fun R=>hx R⟩
  ·simp only[pre_ylA];rw[andd,andd,andd,andd,dec_iff,ble_iff,dec_iff,length_append];exact⟨by omega,h1,h2,h3,by omega⟩
  ·simp only[mu_ylA];omega
  ·simp only[res_ylA,hg,append_assoc]
 ·left;intro R;refine(hx R).trans ?_;rw[zF hi];have e:t.kids.drop i.toNat=[]:=drop_eq_nil_of_le (by omega);simp only[res_ylA,e,List.flatMap_nil,List.append_nil];rfl
def g_ylA:St→Cont→Option Fin:=gP sh_ylA (fun v=>match v with | ((o,i,()),(t,()))=>pre_ylA o i t) (fun v K=>match v with | ((o,i,()),(t,()))=>res_ylA o i t K)
def L_ylA:LpL:=(5,g_ylA)::[]
def cx_ylA:Cx:=(cb_yield).withLoops (look L_ylA)
theorem l_ylA {L:LpL} (n:Nat) (h1:L.drop n=[]) (h2:idsFree (L.take n) (loopOf Tryz.f126 0)=true):LoopsTo g_ylA (cb_yield) (loopOf Tryz.f126 0) 5 L :=
 with_drop h1 h2 (gP_ok (fun v=>match v with | ((o,i,()),(t,()))=>mu_ylA o i t) fun v K hI=>by
  obtain⟨⟨o,i,⟨⟩⟩,⟨t,⟨⟩⟩⟩:=v;exact(r_ylA o i t K hI).imp id fun⟨o',i',t',h⟩=>⟨((o',i',()),(t',())),h⟩)
theorem y_spec_l3Yield (t:GTree):evFn cx_ylA Tryz.f126 true [ofD .tree t] []=(
branch (smallS t.sign) ( some ((vS t.sign),[])) (
 need (pre_ylA ([]:Str) 0 (GTree.node t.sign t.rule t.kids)) <| some ((vS (([]:Str).append (List.flatMap (yldP lvY) (id (GTree.node t.sign t.rule t.kids).kids)))),[]))):=by kernel_rfl
theorem yield_up:ConOk Tryz.prog 126 (conYield (lvY+1)):=conT_ok Tryz.call126 fun(t:GTree) ht hqq=>by
 obtain⟨h1,h2⟩:=andd.1 (pre_of hqq);have h2:=ble_iff.1 h2;obtain⟨g1,g2⟩:=tOkP_kids h1;refine fn_sound (cx:=cx_ylA) Tryz.func126 rfl ttOk Γ73ok mixed (fun c hc=>LoopsOk.all (l:=[(5,loopOf Tryz.f126 0)]) (by cases hc;kernel_rfl) ⟨atLoop rfl (l_ylA 1 rfl (by kernel_rfl)),trivial⟩) (ro:=true) ?_;refine(y_spec_l3Yield t).trans ?_;have hp:pre_ylA ([]:Str) 0 (GTree.node t.sign t.rule t.kids)=true:=by
  rw[tEta];simp only[pre_ylA];rw[andd,andd,andd,andd,dec_iff,ble_iff,dec_iff];exact⟨Int.le_refl _,g1,g2,by omega,by simp⟩
 rw[hp];show branch (smallS t.sign) _ _=some (vS (bif smallS t.sign then t.sign else t.kids.flatMap (yldP lvY)),[])
 cases smallS t.sign<;>rfl
end
theorem yield_all:∀n,ConOk Tryz.prog 126 (conYield n)
 |0=>conT_ok Tryz.call126 fun(t:GTree) _ hqq=>by
  have:=pre_of hqq
  cases (andd.1 this).1
 |n+1=>@yield_up ⟨⟨n,yield_all n⟩⟩
def c_spec_l3Yield:Con:=conYield 10
theorem k_spec_l3Yield:ConOk Tryz.prog 126 c_spec_l3Yield:=yield_all 10
def Γ74:GL:=(126,c_spec_l3Yield)::Γ72
theorem Γ74ok:GO Γ74 := .cons k_spec_l3Yield Γ72ok
theorem y_impl_TextOk (s:Str):evFn (cxOf Γ74 Tryz.f94.ntmps [] [] [] []) Tryz.f94 true [ofD .str s] []=(
some ((vB (areSm s 8)),[])):=by kernel_rfl
theorem s_impl_TextOk (s:Str) (_hs:Fit .str s):Sat Tryz.prog 94 [ofD .str s] [] (.d (ofD .bool (areSm s 8))) [] :=
 fn_sound (cx:=cxOf Γ74 Tryz.f94.ntmps [] [] [] []) Tryz.func94 rfl ttOk Γ74ok mixed (fun _ _=>LoopsOk.no fun _=>rfl) (ro:=true) (by
  rw[y_impl_TextOk];rfl)
def c_impl_TextOk:Con:=conT [.str] fun(s:Str)=>(none, .d (ofD .bool (areSm s 8)))
theorem k_impl_TextOk:ConOk Tryz.prog 94 c_impl_TextOk:=conT_ok Tryz.call94 fun s hs _=>s_impl_TextOk s hs
def Γ75:GL:=(94,c_impl_TextOk)::Γ74
theorem Γ75ok:GO Γ75 := .cons k_impl_TextOk Γ74ok
def cb_sTextOk:Cx:=cxOf Γ75 Tryz.f97.ntmps [(2,[0,3])] [(0,[0]),(1,[0,3]),(1000000,[2])] [] []
abbrev st_sTextOk (s:Str) (i:Int):St:=⟨[(0,vS s),(3,vI i)],[]⟩
theorem x_spec_TextOk (s:Str) (i:Int) (R:St→Option Fin) (K:Cont):evC (cb_sTextOk.withLoops (look [])) (loopOf Tryz.f97 0) (st_sTextOk s i) (onward (headAt (cb_sTextOk.withLoops (look [])) 2) R K)=(
branch (decide (i<(s.length:Int))) (
 need (inb i s.length) <|
 branch (!smallI (byteAt s i)) ( K (.ret) (.mk [(2,vB false)] [])) ( R (st_sTextOk s (W64 (i+1))))) ( K (.exit 0) (.mk [(0,vS s)] []))):=by kernel_rfl
def cx0_sTextOk:Cx:=(cb_sTextOk).withLoops (look [])
def sh_sTextOk:Sh:=([(0, .d .str),(3, .d TI64)],[])
def pre_sTextOk (s:Str) (i:Int):Bool:=decide (0≤i)&&Nat.ble (length s) big
def res_sTextOk (s:Str) (i:Int) (K:Cont):Option Fin:=branch ((s.drop i.toNat).all small) (K (.exit 0) ⟨[(0,vS s)],[]⟩) (K .ret ⟨[(2,vB false)],[]⟩)
def mu_sTextOk (s:Str) (i:Int):Nat:=length s-i.toNat
theorem r_sTextOk (s:Str) (i:Int) (K:Cont) (hI:pre_sTextOk s i=true):(∀R:St→Option Fin,evC cx0_sTextOk (loopOf Tryz.f97 0) (st_sTextOk s i) (onward (headAt cx0_sTextOk 2) R K)=res_sTextOk s i K) ∨
  (∃(s':Str) (i':Int),pre_sTextOk s' i'=true∧mu_sTextOk s' i'<mu_sTextOk s i∧res_sTextOk s' i' K=res_sTextOk s i K∧∀R:St→Option Fin,evC cx0_sTextOk (loopOf Tryz.f97 0) (st_sTextOk s i) (onward (headAt cx0_sTextOk 2) R K)=R (st_sTextOk s' i')):=by
 have hx:=fun R=>x_spec_TextOk s i R K;simp only[pre_sTextOk,andd,dec_iff,ble_iff]at hI;obtain⟨h0,h1⟩:=hI
 by_cases hi:i<(length s:Int)
 ·have hg:=smalls_at (p:=small) h0 hi;have hc0:smallI (byteAt s i)=small (s.getD i.toNat 0):=smallI_nat _;simp only[hi,decide_true,inb_ok h0 hi,branch_true,W1 h0 hi h1,hc0]at hx
  cases hc:small (s.getD i.toNat 0)
  ·left;intro R;rw[hc]at hg;refine(hx R).trans ?_;rw[hc];simp only[res_sTextOk,hg];rfl
  ·right;rw[hc]at hg;refine⟨s,i+1, ?_, ?_, ?_,fun R=>(hx R).trans ?_⟩
   ·simp only[pre_sTextOk,andd,dec_iff,ble_iff];exact ⟨by omega,h1⟩
   ·simp only[mu_sTextOk];omega
   ·simp only[res_sTextOk,hg];rfl
   ·rw[hc];rfl
 ·left;intro R;refine(hx R).trans ?_;simp only[hi,decide_false,branch_false,res_sTextOk];rw[drop_end (by omega)];rfl
def g_sTextOk:St→Cont→Option Fin:=gP sh_sTextOk (fun v=>match v with | ((s,i,()),())=>pre_sTextOk s i) (fun v K=>match v with | ((s,i,()),())=>res_sTextOk s i K)
def L_sTextOk:LpL:=(2,g_sTextOk)::[]
def cx_sTextOk:Cx:=(cb_sTextOk).withLoops (look L_sTextOk)
theorem l_sTextOk {L:LpL} (n:Nat) (h1:L.drop n=[]) (h2:idsFree (L.take n) (loopOf Tryz.f97 0)=true):LoopsTo g_sTextOk (cb_sTextOk) (loopOf Tryz.f97 0) 2 L :=
 with_drop h1 h2 (gP_ok (fun v=>match v with | ((s,i,()),())=>mu_sTextOk s i) fun v K hI=>by
  obtain⟨⟨s,i,⟨⟩⟩,⟨⟩⟩:=v;exact(r_sTextOk s i K hI).imp id fun⟨s',i',h⟩=>⟨((s',i',()),()),h⟩)
theorem y_spec_TextOk (s:Str):evFn cx_sTextOk Tryz.f97 true [ofD .str s] []=(
need (pre_sTextOk s 0) <|
branch (s.all small) ( some ((vB (decide ((s.length:Int)≤8))),[])) ( some ((vB false),[]))):=by kernel_rfl
theorem s_spec_TextOk (s:Str) (hs:Fit .str s):Sat Tryz.prog 97 [ofD .str s] [] (.d (ofD .bool (areSm s 8))) [] :=
 fn_sound (cx:=cx_sTextOk) Tryz.func97 rfl ttOk Γ75ok mixed (fun c hc=>LoopsOk.all (l:=[(2,loopOf Tryz.f97 0)]) (by cases hc;kernel_rfl) ⟨atLoop rfl (l_sTextOk 1 rfl (by kernel_rfl)),trivial⟩) (ro:=true) (by
  have h:pre_sTextOk s 0=true:=andd.2 ⟨rfl,ble_iff.2 hs⟩;rw[y_spec_TextOk,h];unfold areSm;show branch (s.all small) _ _=_
  cases s.all small<;>cases decide ((length s:Int)≤8)<;>rfl)
def c_spec_TextOk:Con:=conT [.str] fun(s:Str)=>(none, .d (ofD .bool (areSm s 8)))
theorem k_spec_TextOk:ConOk Tryz.prog 97 c_spec_TextOk:=conT_ok Tryz.call97 fun s hs _=>s_spec_TextOk s hs
def Γ76:GL:=(97,c_spec_TextOk)::Γ75
theorem Γ76ok:GO Γ76 := .cons k_spec_TextOk Γ75ok
abbrev l4tl:List Str:=[[101],[65],[32],[97,97,97,97,97,97,97,97,97]]
abbrev l4F (z:Rd):Str×Rd:=F_spec_l4Text (rdGo z 1) (pickV z 7)
def l4T (z:Rd):Option Fin:=need (rdOk z) <| need (rdAt (rdGo z 1) 10000000999000&&decide (pickV z 7≤1000)) <| need (rdOk (l4F z).2) <|
 branch (decide (pickV (l4F z).2 30=0)) (need (rdOk (rdGo (l4F z).2 1)&&Nat.blt 0 l4tl.length) <| need (decide (length (l4F z).1+length (ofV (rdGo (l4F z).2 1) l4tl)≤9223372036854775807)) <| some (vS (List.append (l4F z).1 (ofV (rdGo (l4F z).2 1) l4tl)),[(0,bR (rdGo (rdGo (l4F z).2 1) 1))]))
  (some (vS (l4F z).1,[(0,bR (rdGo (l4F z).2 1))]))
abbrev nT:List Int:=[4,5,6,3]
abbrev anF (x:Rd) (g:Gram):GTree×Rd:=F_any 9 (rdGo (rdGo x 1) 1) g g.1 (numV (rdGo x 1) nT)
abbrev anT (x:Rd) (g:Gram):GTree:=GTree.node (anF x g).1.sign (anF x g).1.rule (anF x g).1.kids
theorem y_spec_l4Some (x:Rd) (g:Gram):evFn ((cxOf Γ76 Tryz.f93.ntmps [] [] [] []).parted [1]) Tryz.f93 true [.one (.ptr 0 0),ofD TG g] [boxD 120 TR x] =
 branch (decide (okG g=true)) (need (rdOk x) <| branch (bif true then decide (0<pickV x 3)else false)
  (need (rdOk (rdGo x 1)&&Nat.blt 0 nT.length) <| need (anyPre 9 (rdGo (rdGo x 1) 1) g g.1 (numV (rdGo x 1) nT)) <| need (tOkP 10 (anT x g)&&Nat.ble 10 12) <|
   branch (areSm (yldP 10 (anT x g)) 8) (some (vS (yldP 10 (anT x g)),[(0,bR (anF x g).2)])) (l4T (anF x g).2))
  (l4T (rdGo x 1))) (l4T x):=by kernel_rfl
abbrev strG (n:Nat) (c:Int) (x:Rd) (r:Fin):Prop:=∃(v:Str) (x':Rd),r=(.d (ofD .str v),[(0,some (boxD 120 TR x'))])∧length v≤n∧Adv x x' c
theorem l4T_ok {z:Rd} (hf:fitR z=true) (hz:rdAt z 5000000000000=true):Ok (l4T z) (strG 100 100 z):=by
 have hb:BY z:=byB_iff.1 (andd.1 hf).1;have k0:rdOk z=true:=ok1 hz (by omega);have hpk:=pickV_range (n:=7) hb k0 (by omega);have a1:=Adv.one z;have r1:rdAt (rdGo z 1) 5000000000001=true:=a1.at hz (by omega);have hp:(rdAt (rdGo z 1) 10000000999000&&decide (pickV z 7≤1000))=true:=andd.2 ⟨a1.at hz (by omega),dec_iff.2 (by omega)⟩;have hf1:fitR (rdGo z 1)=true:=by rw[fitR_adv a1];exact hf
 obtain⟨p1,p2⟩:=p_spec_l4Text (rdGo z 1) (pickV z 7) (fitR_fit hf1 r1 (by omega)) (wrap_small (by omega) (by omega)) hp;have a2:Adv z (l4F z).2 8:=(a1.trans p2).le (by omega);have p1:length (l4F z).1≤7:=by have:length (l4F z).1≤(pickV z 7).toNat:=p1;omega
 have r2:rdAt (l4F z).2 5000000000008=true:=a2.at hz (by omega);have hof:(ofV (rdGo (l4F z).2 1) l4tl).length≤9:=ofV_len (by decide);unfold l4T;refine Ok.need k0 (Ok.need hp (Ok.need (ok1 r2 (by omega)) (Ok.br (fun _ => ?_) fun _ => ?_)))
 ·refine Ok.need (andd.2 ⟨(Adv.one _).ok r2 (by omega),rfl⟩) (Ok.need (dec_iff.2 (by omega)) (Ok.ret ⟨_,_,rfl, ?_,((a2.trans (Adv.one _)).trans (Adv.one _)).le (by omega)⟩));rw[List.append_eq,length_append];omega
 ·exact Ok.ret ⟨_,_,rfl,by omega,(a2.trans (Adv.one _)).le (by omega)⟩
theorem e_spec_l4Some (x:Rd) (g:Gram) (hx:Fit TR x)  (hpre:(rdAt x 900000000&&szG 20 g)=true):∃q:(Str)×Rd,evFn (((cxOf Γ76 Tryz.f93.ntmps [] [] [] []).parted [1])) Tryz.f93 true [.one (.ptr 0 0),ofD TG g] [boxD 120 TR x]=some (.d (ofD .str q.1),[(0,some (boxD 120 TR q.2))])∧(length q.1≤100∧Adv x q.2 2000000000):=by
 obtain⟨r,h1,h2⟩:Ok (evFn (((cxOf Γ76 Tryz.f93.ntmps [] [] [] []).parted [1])) Tryz.f93 true [.one (.ptr 0 0),ofD TG g] [boxD 120 TR x]) (fun r=>∃(v:Str) (x':Rd),r=(.d (ofD .str v),[(0,some (boxD 120 TR x'))])∧(length v≤100∧Adv x x' 2000000000)):=by
  have f0:=fit_fitR hx;obtain⟨hp,hg⟩:=andd.1 hpre;have hb:BY x:=byB_iff.1 (andd.1 f0).1;have k0:rdOk x=true:=ok1 hp (by omega);have a1:=Adv.one x;have a2:=Adv.two x;have k1:rdOk (rdGo x 1)=true:=a1.ok hp (by omega);have up:∀ {z:Rd} {c:Int},Adv x z c→c≤1900000000→Ok (l4T z) (strG 100 2000000000 x):=fun {z c} ha hc=>by
   refine(l4T_ok (by rw[fitR_adv ha];exact f0) (ha.at hp (by omega))).mono ?_;rintro r ⟨v,x',e,h1,h2⟩;exact⟨v,x',e,h1,(ha.trans h2).le (by omega)⟩
  rw[y_spec_l4Some];refine Ok.br (fun hok=>Ok.need k0 (Ok.br (fun _ => ?_) fun _=>up a1 (by omega))) fun _=>up (Adv.refl x) (by omega);have hok:okG g=true:=of_decide_eq_true hok;have hn:=numV_le (x:=rdGo x 1) (l:=nT) (a:=3) (b:=6) (by decide) (BY_adv a1 hb) k1 (by decide);obtain⟨c0,e1,_⟩:=bigS_one (okG_big hok);have hpre9:anyPre 9 (rdGo (rdGo x 1) 1) g g.1 (numV (rdGo x 1) nT)=true:=by
   unfold anyPre;simp only[andd,dec_iff,ble_iff];refine⟨a2.at hp (by rw[show pw 9=1000000000 from rfl];omega),hg,by omega,by omega,by rw[e1];simp,by omega⟩
  have hf2:fitR (rdGo (rdGo x 1) 1)=true:=by rw[show rdGo (rdGo x 1) 1=go2 x from rfl,fitR_adv a2];exact f0
  have r2:rdAt (rdGo (rdGo x 1) 1) 900000002=true:=a2.at hp (by omega);obtain⟨t1,t2⟩:=(oneOf_spec (any_all 9 (rdGo (rdGo x 1) 1) g g.1 (numV (rdGo x 1) nT) (fitR_fit hf2 r2 (by omega)) (szG_fit hg (by omega)) (by show g.1.length≤9223372036854775807;rw[e1];simp) (wrap_small (by omega) (by omega)) hpre9)).2;have t1:tOk 9 (anF x g).1=true:=t1;have t2:Adv (rdGo (rdGo x 1) 1) (anF x g).2 (pw 9):=t2;have a3:Adv x (anF x g).2 1000000002:=(a2.trans t2).le (by rw[show pw 9=1000000000 from rfl];omega);have ht:(tOkP 10 (anT x g)&&Nat.ble 10 12)=true:=by
   unfold anT;rw[tEta];exact andd.2 ⟨t1,rfl⟩
  refine Ok.need (andd.2 ⟨k1,rfl⟩) (Ok.need hpre9 (Ok.need ht (Ok.br (fun hc=>Ok.ret ⟨_,_,rfl, ?_,a3.le (by omega)⟩) fun _=>up a3 (by omega))));unfold areSm at hc;rw[b2,andd]at hc;have:=of_decide_eq_true hc.1;omega
 obtain⟨v,x',h2,h3⟩:=h2;exact⟨(v,x'),by rw[h1,h2],h3⟩
def F_spec_l4Some (x:Rd) (g:Gram):(Str)×Rd:=oneOf (fun q:(Str)×Rd=>evFn (((cxOf Γ76 Tryz.f93.ntmps [] [] [] []).parted [1])) Tryz.f93 true [.one (.ptr 0 0),ofD TG g] [boxD 120 TR x]=some (.d (ofD .str q.1),[(0,some (boxD 120 TR q.2))])∧(length q.1≤100∧Adv x q.2 2000000000))
theorem p_spec_l4Some (x:Rd) (g:Gram) (hx:Fit TR x)  (hpre:(rdAt x 900000000&&szG 20 g)=true):length (F_spec_l4Some x g).1≤100∧Adv x (F_spec_l4Some x g).2 2000000000:=(oneOf_spec (e_spec_l4Some x g hx  hpre)).2
theorem s_spec_l4Some (x:Rd) (g:Gram) (hx:Fit TR x)  (hpre:(rdAt x 900000000&&szG 20 g)=true):Sat Tryz.prog 93 [.one (.ptr 0 0),ofD TG g] [boxD 120 TR x] (.d (ofD .str (F_spec_l4Some x g).1)) [(0,some (boxD 120 TR (F_spec_l4Some x g).2))] :=
 fn_sound (cx:=((cxOf Γ76 Tryz.f93.ntmps [] [] [] []).parted [1])) Tryz.func93 rfl ttOk Γ76ok mixed (fun _ _=>LoopsOk.no fun _=>rfl) (ro:=true) (oneOf_spec (e_spec_l4Some x g hx  hpre)).1
def c_spec_l4Some:Con:=conB 120 TR [TG] fun(x:Rd) (g:Gram)=>(some (rdAt x 900000000&&szG 20 g), .d (ofD .str (F_spec_l4Some x g).1),(F_spec_l4Some x g).2)
theorem k_spec_l4Some:ConOk Tryz.prog 93 c_spec_l4Some:=conB_ok Tryz.call93 fun x hx g _ hqq=>s_spec_l4Some x g hx  (pre_of hqq)
def Γ77:GL:=(93,c_spec_l4Some)::Γ76
theorem Γ77ok:GO Γ77 := .cons k_spec_l4Some Γ76ok
theorem y_spec_l4Draw (l:List Int):evFn (cxOf Γ77 Tryz.f44.ntmps [] [] [] []) Tryz.f44 true [ofD TB l] []=(
need (rdAt (F_spec_l1Gram (openV l)).snd 10000000940000&&szG 20 (F_spec_l1Gram (openV l)).fst) <|
need (rdAt (F_spec_l1Bent (F_spec_l1Gram (openV l)).snd (F_spec_l1Gram (openV l)).fst).snd 900000000&&szG 20 (F_spec_l1Bent (F_spec_l1Gram (openV l)).snd (F_spec_l1Gram (openV l)).fst).fst) <| some ((.tup [(.agg [(.r (.v (Value.string (mk (F_spec_l1Bent (F_spec_l1Gram (openV l)).snd (F_spec_l1Gram (openV l)).fst).fst.fst)))),(.r (.li TRu ((F_spec_l1Bent (F_spec_l1Gram (openV l)).snd (F_spec_l1Gram (openV l)).fst).fst.snd)))]),(.one (.r (.v (Value.string (mk (F_spec_l4Some (F_spec_l1Bent (F_spec_l1Gram (openV l)).snd (F_spec_l1Gram (openV l)).fst).snd (F_spec_l1Bent (F_spec_l1Gram (openV l)).snd (F_spec_l1Gram (openV l)).fst).fst).fst)))))]),[])):=by kernel_rfl
theorem e_spec_l4Draw (l:List Int) (hl:Fit TB l):∃q:Gram×Str,evFn (cxOf Γ77 Tryz.f44.ntmps [] [] [] []) Tryz.f44 true [ofD TB l] []=some (.tup [ofD TG q.1,ofD .str q.2],[])∧(szG 20 q.1=true∧q.2.length≤100):=by
 obtain⟨r,h1,h2⟩:Ok (evFn (cxOf Γ77 Tryz.f44.ntmps [] [] [] []) Tryz.f44 true [ofD TB l] []) (fun r=>∃(v:Gram×Str),r=(.tup [ofD TG v.1,ofD .str v.2],[])∧(szG 20 v.1=true∧v.2.length≤100)):=by
  obtain⟨h0,h1,h2,h3⟩:=draw_ok hl;rw[y_spec_l4Draw];have h4:(rdAt (drawV l).2 900000000&&szG 20 (drawV l).1)=true:=andd.2 ⟨h3.at (openV_at l) (by omega),h2⟩;have h5:Fit TR (drawV l).2:=h3.fit (openV_fit hl) (openV_at l) (by omega);exact Ok.need h1 (Ok.need h4 (Ok.ret ⟨(_,_),rfl,h2,(p_spec_l4Some (drawV l).2 (drawV l).1 h5 h4).1⟩))
 obtain⟨v,h2,h3⟩:=h2;exact⟨v,by rw[h1,h2],h3⟩
def F_spec_l4Draw (l:List Int):Gram×Str:=oneOf (fun q:Gram×Str=>evFn (cxOf Γ77 Tryz.f44.ntmps [] [] [] []) Tryz.f44 true [ofD TB l] []=some (.tup [ofD TG q.1,ofD .str q.2],[])∧(szG 20 q.1=true∧q.2.length≤100))
theorem p_spec_l4Draw (l:List Int) (hl:Fit TB l):szG 20 (F_spec_l4Draw l).1=true∧(F_spec_l4Draw l).2.length≤100:=(oneOf_spec (e_spec_l4Draw l hl)).2
theorem s_spec_l4Draw (l:List Int) (hl:Fit TB l):Sat Tryz.prog 44 [ofD TB l] [] (.tup [ofD TG (F_spec_l4Draw l).1,ofD .str (F_spec_l4Draw l).2]) [] :=
 fn_sound (cx:=cxOf Γ77 Tryz.f44.ntmps [] [] [] []) Tryz.func44 rfl ttOk Γ77ok mixed (fun _ _=>LoopsOk.no fun _=>rfl) (ro:=true) (oneOf_spec (e_spec_l4Draw l hl)).1
def c_spec_l4Draw:Con:=conT [TB] fun(l:List Int)=>(none, .tup [ofD TG (F_spec_l4Draw l).1,ofD .str (F_spec_l4Draw l).2])
theorem k_spec_l4Draw:ConOk Tryz.prog 44 c_spec_l4Draw:=conT_ok Tryz.call44 fun l hl _=>s_spec_l4Draw l hl
def Γ78:GL:=(44,c_spec_l4Draw)::Γ77
theorem Γ78ok:GO Γ78 := .cons k_spec_l4Draw Γ77ok
theorem e_spec_DrawAllIs (l:List Int) (hl:Fit TB l):∃q:Gram×Str,evFn (cxOf Γ78 Tryz.f38.ntmps [] [] [] []) Tryz.f38 true [ofD TB l] []=some (.tup [ofD TG q.1,ofD .str q.2],[])∧(szG 20 q.1=true∧q.2.length≤100):=by
 obtain⟨r,h1,h2⟩:Ok (evFn (cxOf Γ78 Tryz.f38.ntmps [] [] [] []) Tryz.f38 true [ofD TB l] []) (fun r=>∃(v:Gram×Str),r=(.tup [ofD TG v.1,ofD .str v.2],[])∧(szG 20 v.1=true∧v.2.length≤100)):=by
  have y:evFn (cxOf Γ78 Tryz.f38.ntmps [] [] [] []) Tryz.f38 true [ofD TB l] []=some (.tup [ofD TG (F_spec_l4Draw l).1,ofD .str (F_spec_l4Draw l).2],[]):=by kernel_rfl
  rw[y];exact Ok.ret ⟨_,rfl,p_spec_l4Draw l hl⟩
 obtain⟨v,h2,h3⟩:=h2;exact⟨v,by rw[h1,h2],h3⟩
def F_spec_DrawAllIs (l:List Int):Gram×Str:=oneOf (fun q:Gram×Str=>evFn (cxOf Γ78 Tryz.f38.ntmps [] [] [] []) Tryz.f38 true [ofD TB l] []=some (.tup [ofD TG q.1,ofD .str q.2],[])∧(szG 20 q.1=true∧q.2.length≤100))
theorem s_spec_DrawAllIs (l:List Int) (hl:Fit TB l):Sat Tryz.prog 38 [ofD TB l] [] (.tup [ofD TG (F_spec_DrawAllIs l).1,ofD .str (F_spec_DrawAllIs l).2]) [] :=
 fn_sound (cx:=cxOf Γ78 Tryz.f38.ntmps [] [] [] []) Tryz.func38 rfl ttOk Γ78ok mixed (fun _ _=>LoopsOk.no fun _=>rfl) (ro:=true) (oneOf_spec (e_spec_DrawAllIs l hl)).1
def c_spec_DrawAllIs:Con:=conT [TB] fun(l:List Int)=>(none, .tup [ofD TG (F_spec_DrawAllIs l).1,ofD .str (F_spec_DrawAllIs l).2])
theorem k_spec_DrawAllIs:ConOk Tryz.prog 38 c_spec_DrawAllIs:=conT_ok Tryz.call38 fun l hl _=>s_spec_DrawAllIs l hl
def Γ79:GL:=(38,c_spec_DrawAllIs)::Γ78
theorem Γ79ok:GO Γ79 := .cons k_spec_DrawAllIs Γ78ok
def both2 (g:Gram) (s:Str):Bool:=bif okG g then areSm s 8 else false
theorem s_impl_areBoth (g:Gram) (_hg:Fit TG g) (s:Str) (_hs:Fit .str s):Sat Tryz.prog 45 [ofD TG g,ofD .str s] [] (.d (ofD .bool (both2 g s))) [] :=
 fn_sound (cx:=cxOf Γ79 Tryz.f45.ntmps [] [] [] []) Tryz.func45 rfl ttOk Γ79ok mixed (fun _ _=>LoopsOk.no fun _=>rfl) (ro:=true) (by
  have y:evFn (cxOf Γ79 Tryz.f45.ntmps [] [] [] []) Tryz.f45 true [ofD TG g,ofD .str s] []=some (vB (both2 g s),[]):=by kernel_rfl
  rw[y];rfl)
def c_impl_areBoth:Con:=conT [TG, .str] fun(g:Gram) (s:Str)=>(none, .d (ofD .bool (both2 g s)))
theorem k_impl_areBoth:ConOk Tryz.prog 45 c_impl_areBoth:=conT_ok Tryz.call45 fun g hg s hs _=>s_impl_areBoth g hg s hs
def Γ80:GL:=(45,c_impl_areBoth)::Γ79
theorem Γ80ok:GO Γ80 := .cons k_impl_areBoth Γ79ok
theorem blt_iff {a b:Nat}:Nat.blt a b=true↔a<b:=by simp
def cntB {α:Type} (f:α→Bool):List α→Nat
 | []=>0
 |a::l=>cntB f l+(bif f a then 1 else 0)
theorem cnt_le {α:Type} {f g:α→Bool}:∀ {l:List α},(∀a∈l,f a=true→g a=true)→cntB f l≤cntB g l
 | [],_=>Nat.le_refl _
 |a::l,h=>by
  have h1:=cnt_le (l:=l) fun b hb=>h b (mem_cons_of_mem _ hb);have h2:=h a mem_cons_self;unfold cntB
  cases hf:f a
  ·rw[cond_false];omega
  ·rw[h2 hf];omega
theorem cnt_lt {α:Type} {f g:α→Bool}:∀ {l:List α},(∀a∈l,f a=true→g a=true)→(∃a∈l,f a=false∧g a=true)→cntB f l<cntB g l
 | [],_,⟨_,h,_⟩=>by cases h
 |a::l,h,⟨b,hb,h3,h4⟩=>by
  have h1:=cnt_le (l:=l) fun c hc=>h c (mem_cons_of_mem _ hc);rcases List.mem_cons.1 hb with rfl | hb
  ·unfold cntB;rw[h3,h4,cond_false,cond_true];omega
  ·have h5:=cnt_lt (l:=l) (fun c hc=>h c (mem_cons_of_mem _ hc)) ⟨b,hb,h3,h4⟩;have h2:=h a mem_cons_self;unfold cntB
   cases hf:f a
   ·rw[cond_false];omega
   ·rw[h2 hf];omega
def foldG {σ V:Type} (step:V→σ×Bool→σ×Bool):List V→σ×Bool→σ×Bool
 | [],p=>p
 |v::vs,p=>foldG step vs (step v p)
theorem foldG_app {σ V:Type} {step:V→σ×Bool→σ×Bool}:∀ {a b:List V} {p:σ×Bool},foldG step (a++b) p=foldG step b (foldG step a p)
 | [],_,_=>rfl
 |v::a,b,p=>foldG_app (a:=a) (b:=b) (p:=step v p)
structure StepOk {σ V K:Type} (I:σ→Prop) (G:V→Prop) (has:σ→K→Bool) (ks:V→List K) (step:V→σ×Bool→σ×Bool):Prop where
 inv:∀v p,G v→I p.1→I (step v p).1
 mono:∀v p x,G v→I p.1→has p.1 x=true→has (step v p).1 x=true
 new:∀v p,G v→I p.1→(step v p).2=true→p.2=true∨∃x∈ks v,has p.1 x=false∧has (step v p).1 x=true
 quiet:∀v p,G v→I p.1→(step v p).2=false→p.2=false∧step v p=p
section
variable {σ V K:Type} {I:σ→Prop} {G:V→Prop} {has:σ→K→Bool} {ks:V→List K} {step:V→σ×Bool→σ×Bool}
theorem foldG_ok (h:StepOk I G has ks step):∀ {vs:List V} {p:σ×Bool},(∀v∈vs,G v)→I p.1→I (foldG step vs p).1
 | [],_,_,h1=>h1
 |v::vs,p,hv,h1=>foldG_ok h (vs:=vs) (fun w hw=>hv w (mem_cons_of_mem _ hw)) (h.inv v p (hv v mem_cons_self) h1)
theorem foldG_mono (h:StepOk I G has ks step):∀ {vs:List V} {p:σ×Bool} {x:K},(∀v∈vs,G v)→I p.1→has p.1 x=true→has (foldG step vs p).1 x=true
 | [],_,_,_,_,h1=>h1
 |v::vs,p,x,hv,hI,h1=>foldG_mono h (vs:=vs) (fun w hw=>hv w (mem_cons_of_mem _ hw)) (h.inv v p (hv v mem_cons_self) hI) (h.mono v p x (hv v mem_cons_self) hI h1)
theorem foldG_new (h:StepOk I G has ks step):∀ {vs:List V} {p:σ×Bool},(∀v∈vs,G v)→I p.1→(foldG step vs p).2=true→p.2=true∨∃x∈vs.flatMap ks,has p.1 x=false∧has (foldG step vs p).1 x=true
 | [],_,_,_,h1 => .inl h1
 |v::vs,p,hv,hI,h1=>by
  have hv0:=hv v mem_cons_self;have hvs:∀w∈vs,G w:=fun w hw=>hv w (mem_cons_of_mem _ hw);have hI1:=h.inv v p hv0 hI;rcases foldG_new h (vs:=vs) (p:=step v p) hvs hI1 h1 with h2 | ⟨x,hx,h2,h3⟩
  ·rcases h.new v p hv0 hI h2 with h4 | ⟨x,hx,h4,h5⟩
   ·exact .inl h4
   ·exact .inr ⟨x,List.mem_flatMap.2 ⟨v,mem_cons_self,hx⟩,h4,foldG_mono h (vs:=vs) (p:=step v p) hvs hI1 h5⟩
  ·obtain ⟨w,hw,hx⟩:=List.mem_flatMap.1 hx;refine .inr ⟨x,List.mem_flatMap.2 ⟨w,mem_cons_of_mem _ hw,hx⟩, ?_,h3⟩
   cases h4:has p.1 x
   ·rfl
   ·rw[h.mono v p x hv0 hI h4]at h2;cases h2
theorem foldG_quiet (h:StepOk I G has ks step):∀ {vs:List V} {p:σ×Bool},(∀v∈vs,G v)→I p.1→(foldG step vs p).2=false→p.2=false∧foldG step vs p=p∧∀v∈vs,step v p=p
 | [],_,_,_,h1=>⟨h1,rfl,fun _ hv=>by cases hv⟩
 |v::vs,p,hv,hI,h1=>by
  have hv0:=hv v mem_cons_self;obtain⟨h2,h3,h4⟩:=foldG_quiet h (vs:=vs) (p:=step v p) (fun w hw=>hv w (mem_cons_of_mem _ hw)) (h.inv v p hv0 hI) h1;obtain⟨h5,h6⟩:=h.quiet v p hv0 hI h2;refine⟨h5, ?_,fun w hw => ?_⟩
  ·show foldG step vs (step v p)=p;rw[h3,h6]
  ·rcases List.mem_cons.1 hw with rfl | hw
   ·exact h6
   ·have:=h4 w hw;rw[h6]at this;exact this
theorem foldG_inv {J:σ→Prop}:∀ {vs:List V} {p:σ×Bool},(∀v∈vs,∀p:σ×Bool,J p.1→J (step v p).1)→J p.1→J (foldG step vs p).1
 | [],_,_,h1=>h1
 |v::vs,p,h,h1=>foldG_inv (vs:=vs) (fun w hw=>h w (mem_cons_of_mem _ hw)) (h v mem_cons_self p h1)
end
def runG {σ V:Type} (step:V→σ×Bool→σ×Bool) (vs:List V):Nat→σ→σ
 |0,m=>m
 |n+1,m=>bif (foldG step vs (m,false)).2 then runG step vs n (foldG step vs (m,false)).1 else(foldG step vs (m,false)).1
def missG {σ K:Type} (has:σ→K→Bool) (ks:List K) (m:σ):Nat:=cntB (fun x => !has m x) ks
def runC {σ V K:Type} (has:σ→K→Bool) (ks:V→List K) (step:V→σ×Bool→σ×Bool) (vs:List V) (m:σ):σ:=runG step vs (missG has (vs.flatMap ks) m+1) m
section
variable {σ V K:Type} {I:σ→Prop} {G:V→Prop} {has:σ→K→Bool} {ks:V→List K} {step:V→σ×Bool→σ×Bool} {vs:List V}
theorem miss_lt (h:StepOk I G has ks step) (hv:∀v∈vs,G v) {m:σ} (hI:I m) (h1:(foldG step vs (m,false)).2=true):missG has (vs.flatMap ks) (foldG step vs (m,false)).1<missG has (vs.flatMap ks) m:=by
 rcases foldG_new h hv hI h1 with h2 | ⟨x,hx,h2,h3⟩
 ·cases h2
 ·refine cnt_lt (fun y _ hy => ?_) ⟨x,hx,by rw[h3];rfl,by rw[h2];rfl⟩
  cases h4:has m y
  ·rfl
  ·rw[foldG_mono h (vs:=vs) (p:=(m,false)) hv hI h4]at hy;cases hy
theorem run_fuel (h:StepOk I G has ks step) (hv:∀v∈vs,G v):∀ {n n':Nat} {m:σ},I m→missG has (vs.flatMap ks) m<n→missG has (vs.flatMap ks) m<n'→runG step vs n m=runG step vs n' m
 |0,_,_,_,h1,_=>by omega
 |n+1,0,_,_,_,h1=>by omega
 |n+1,n'+1,m,hI,h1,h2=>by
  unfold runG
  cases hc:(foldG step vs (m,false)).2
  ·rfl
  ·have:=miss_lt h hv hI hc;exact run_fuel h hv (foldG_ok h (p:=(m,false)) hv hI) (by omega) (by omega)
theorem runC_at (h:StepOk I G has ks step) (hv:∀v∈vs,G v) {m:σ} (hI:I m):runC has ks step vs m=bif (foldG step vs (m,false)).2 then runC has ks step vs (foldG step vs (m,false)).1 else(foldG step vs (m,false)).1:=by
 show(bif (foldG step vs (m,false)).2 then runG step vs (missG has (vs.flatMap ks) m) (foldG step vs (m,false)).1 else(foldG step vs (m,false)).1)=_
 cases hc:(foldG step vs (m,false)).2
 ·rfl
 ·have:=miss_lt h hv hI hc;exact run_fuel h hv (foldG_ok h (p:=(m,false)) hv hI) (by omega) (by omega)
theorem run_end (h:StepOk I G has ks step) (hv:∀v∈vs,G v) {J:σ→Prop} (hJ:∀v∈vs,∀p:σ×Bool,I p.1∧J p.1→J (step v p).1):∀ {n:Nat} {m:σ},missG has (vs.flatMap ks) m<n→I m→J m→I (runG step vs n m)∧J (runG step vs n m)∧∀v∈vs,step v (runG step vs n m,false)=(runG step vs n m,false)
 |0,_,h1,_,_=>by omega
 |n+1,m,h1,hI,h2=>by
  unfold runG;have h3:=foldG_inv (J:=fun x=>I x∧J x) (step:=step) (vs:=vs) (p:=(m,false)) (fun v hv' p hp=>⟨h.inv v p (hv v hv') hp.1,hJ v hv' p hp⟩) ⟨hI,h2⟩
  cases hc:(foldG step vs (m,false)).2
  ·rw[cond_false];obtain⟨_,h5,h6⟩:=foldG_quiet h hv hI hc;rw[h5];exact⟨hI,h2,h6⟩
  ·have:=miss_lt h hv hI hc;exact run_end h hv hJ (by omega) h3.1 h3.2
theorem runC_end (h:StepOk I G has ks step) (hv:∀v∈vs,G v) {J:σ→Prop} (hJ:∀v∈vs,∀p:σ×Bool,I p.1∧J p.1→J (step v p).1) {m:σ} (hI:I m) (hm:J m):I (runC has ks step vs m)∧J (runC has ks step vs m)∧∀v∈vs,step v (runC has ks step vs m,false)=(runC has ks step vs m,false):=run_end h hv hJ (Nat.lt_succ_self _) hI hm
end
def derP (s:Str) (P:Str→Int→Int→Prop) (a:Str) (i j:Int):Prop:=if smallS a then j=i+1∧([s.getD i.toNat 0]:Str)=a else P a i j
def splP (s:Str) (P:Str→Int→Int→Prop):Str→Int→Int→Prop
 | [],i,j=>i=j
 |c::r,i,j=>∃k,i≤k∧k≤j∧derP s P [c] i k∧splP s P r k j
def ClosedP (s:Str) (l:List Rule) (P:Str→Int→Int→Prop):Prop:=∀r∈l,∀i j,0≤i→i≤j→j≤(s.length:Int)→splP s P r.2 i j→P r.1 i j
def DerG (s:Str) (l:List Rule) (a:Str) (i j:Int):Prop:=∀P,ClosedP s l P→P a i j
theorem splP_mono {s:Str} {P Q:Str→Int→Int→Prop} (hPQ:∀a i j,0≤i→i≤j→j≤(s.length:Int)→P a i j→Q a i j):∀ {r:Str} {i j:Int},0≤i→j≤(s.length:Int)→splP s P r i j→splP s Q r i j
 | [],_,_,_,_,h=>h
 |c::r,i,j,h0,h1,⟨k,k1,k2,k3,k4⟩=>by
  refine⟨k,k1,k2, ?_,splP_mono hPQ (by omega) h1 k4⟩;unfold derP at k3 ⊢
  split
  ·rename_i hs;rw[if_pos hs]at k3;exact k3
  ·rename_i hs;rw[if_neg hs]at k3;exact hPQ _ _ _ h0 k1 (by omega) k3
theorem Der_closed {s:Str} {l:List Rule}:ClosedP s l (DerG s l):=fun r hr i j h0 h1 h2 h P hP=>hP r hr i j h0 h1 h2 (splP_mono (fun _ _ _ _ _ _ h=>h P hP) h0 h2 h)
theorem Der_iff {s:Str} {l:List Rule} {T:Str→Int→Int→Prop} (h1:∀P,ClosedP s l P→∀a i j,T a i j→P a i j) (h2:∀r∈l,∀i j,0≤i→i≤j→j≤(s.length:Int)→splP s T r.2 i j→T r.1 i j) {a:Str} {i j:Int}:T a i j↔DerG s l a i j :=
 ⟨fun h P hP=>h1 P hP a i j h,fun h=>h T h2⟩
end
end Go.Proofs.YtmeiebnfmhddnaaGreatDoor.Ev
