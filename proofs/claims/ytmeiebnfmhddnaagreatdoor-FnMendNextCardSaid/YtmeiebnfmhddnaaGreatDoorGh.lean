/-
  Sorting of bytes: as the plain text of the sort in the kit's Derived/Sort tells it.
-/
import Derived.Test.YtmeiebnfmhddnaaGreatDoorGx
import Derived.Sort.AssemblyPlain
namespace Go.Proofs.YtmeiebnfmhddnaaGreatDoor.Ev
open Go
noncomputable section
set_option maxHeartbeats 1000000
def conL (t:TypeId) (s:Ty) (ts:List Ty) (G:List (Den s)→Fn ts (Option Bool×T×List (Den s))):Con:=⟨false,fun ds os=>match ds,os with
 | .one (.own 0)::ds,[o]=>match exLis t s (some o)with
  |some l=>match applyD ts (G l) ds with
   |some (c,r,m)=>some (c,r,[(0,some (.lis t s m))])
   |none=>none
  |none=>none
 |_,_=>none⟩
theorem lis_fit {P:Program} {f:FuncId} {t:TypeId} {s:Ty} {l:List (Den s)} {ds:List D} {r:T} {objs:Heap} (hs:tyFlat s=true) (h:Fit (.list s) l→Sat P f ds [.lis t s l] r objs):Sat P f ds [.lis t s l] r objs:=by
 intro w F β args H hds
 have h0:hOf [Obj.lis t s l] 0=some (some (.lis t s l)):=by rw[hOf_eq];rfl
 have hr:LeafAt _ _ t s l (β 0):=RepO.leaf.1 (H.obj 0 _ h0)
 refine h (fit_list ?_ fun k hk => ?_) w F β args H hds
 ·rcases hr with⟨_,_,h2⟩ | ⟨_,cap,_,_,_,_,h4,h5,_⟩
  ·omega
  ·exact Nat.le_trans h4 (Nat.le_trans h5 (by decide))
 ·rcases hr with⟨_,_,h2⟩ | ⟨b,cap,cur,h1,h⟩
  ·omega
  ·obtain ⟨us,_,_,q⟩:=deep_elem (cap:=cap) (b:=b) hs (.inr ⟨b,cap,cur,rfl,h⟩) hk
   exact RoL_fit (RoL_cells.2 q)
theorem conL_ok {P:Program} {f:FuncId} {t:TypeId} {s:Ty} {ts:List Ty} {G:List (Den s)→Fn ts (Option Bool×T×List (Den s))} (hs:tyFlat s=true) (hin:∀args w,(callFunc f args).run P w = .ok (.enter f args) w)
  (he:∀l,Fit (.list s) l→EachF ts (G l) fun ds r=>(r.1=none∨r.1=some true)→Sat P f (.one (.own 0)::ds) [.lis t s l] r.2.1 [(0,some (.lis t s r.2.2))]):ConOk P f (conL t s ts G):=by
 refine⟨hin,fun ds os c x objs hc hok => ?_⟩
 simp only[conL]at hc
 split at hc
 ·rename_i ds o
  split at hc
  ·rename_i l e2
   have e2:=Option.some.inj (exLis_some e2)
   subst e2
   split at hc
   ·rename_i c' r m hap
    cases hc
    refine lis_fit hs fun hf => ?_
    intro w F β args H hds
    cases hds with
    |cons g1 g2 =>
     obtain⟨ds',q1,q2⟩:=each_of (he l hf) hap g2
     exact q1 hok w F β _ H (.cons g1 q2)
   ·cases hc
  ·cases hc
 ·cases hc
def ltI (x y:Int):Bool:=decide (x<y)
theorem s_cmp_isNaN_byte (a:Int) (_ha:Fit (.int .u8) a):Sat Tryz.prog 194 [ofD (.int .u8) a] [] (.d (ofD .bool false)) [] :=
 fn_sound (cx:=cxOf Γ29 Tryz.f194.ntmps [] [] [] []) Tryz.func194 rfl ttOk Γ29ok mixed (fun _ _=>LoopsOk.no fun _=>rfl) (ro:=true) (by
  have y:evFn (cxOf Γ29 Tryz.f194.ntmps [] [] [] []) Tryz.f194 true [ofD (.int .u8) a] []=some (vB !decide (a=a),[]):=by kernel_rfl
  rw[y,decide_eq_true rfl];rfl)
def c_cmp_isNaN_byte:Con:=conT [(.int .u8)] fun(_a:Int)=>(none, .d (ofD .bool false))
theorem k_cmp_isNaN_byte:ConOk Tryz.prog 194 c_cmp_isNaN_byte:=conT_ok Tryz.call194 fun a ha _=>s_cmp_isNaN_byte a ha
def Γ30:GL:=(194,c_cmp_isNaN_byte)::Γ29
theorem Γ30ok:GO Γ30 := .cons k_cmp_isNaN_byte Γ29ok
theorem s_cmp_Less_byte (a:Int) (_ha:Fit (.int .u8) a) (b:Int) (_hb:Fit (.int .u8) b):Sat Tryz.prog 179 [ofD (.int .u8) a,ofD (.int .u8) b] [] (.d (ofD .bool (ltI a b))) [] :=
 fn_sound (cx:=cxOf Γ30 Tryz.f179.ntmps [] [] [] []) Tryz.func179 rfl ttOk Γ30ok mixed (fun _ _=>LoopsOk.no fun _=>rfl) (ro:=true) (by
  have y:evFn (cxOf Γ30 Tryz.f179.ntmps [] [] [] []) Tryz.f179 true [ofD (.int .u8) a,ofD (.int .u8) b] []=some (vB (ltI a b),[]):=by kernel_rfl
  rw[y];rfl)
def c_cmp_Less_byte:Con:=conT [(.int .u8),(.int .u8)] fun(a:Int) (b:Int)=>(none, .d (ofD .bool (ltI a b)))
theorem k_cmp_Less_byte:ConOk Tryz.prog 179 c_cmp_Less_byte:=conT_ok Tryz.call179 fun a ha b hb _=>s_cmp_Less_byte a ha b hb
def Γ31:GL:=(179,c_cmp_Less_byte)::Γ30
theorem Γ31ok:GO Γ31 := .cons k_cmp_Less_byte Γ30ok
abbrev swL (l:List Int) (i j:Nat):List Int:=(l.set i (l.getD j 0)).set j (l.getD i 0)
theorem at_arr (l:List Int) (i:Nat):l.toArray[i]! = l.getD i 0:=by simp[List.getD_eq_getElem?_getD]
theorem sw_arr (l:List Int) (i j:Nat):Go.Sort.swp l.toArray i j=(swL l i j).toArray:=by
 unfold Go.Sort.swp
 rw[at_arr,at_arr,List.setIfInBounds_toArray,List.setIfInBounds_toArray]
theorem swL_len (l:List Int) (i j:Nat):(swL l i j).length=l.length:=by simp
abbrev onL (f:Array Int→Array Int) (l:List Int):List Int:=(f l.toArray).toList
theorem onL_len {f:Array Int→Array Int} (h:∀d,(f d).size=d.size) (l:List Int):(onL f l).length=l.length:=by
 unfold onL;rw[Array.length_toList,h];rfl
theorem onL_arr (f:Array Int→Array Int) (l:List Int):(onL f l).toArray=f l.toArray:=by unfold onL;rw[Array.toArray_toList]
theorem insInner_size (a:Nat):∀(j:Nat) (d:Array Int),(Go.Sort.insInner ltI a j d).size=d.size
 |0,d=>rfl
 |j+1,d=>by
  rw[Go.Sort.insInner]
  split
  ·rw[insInner_size a j];unfold Go.Sort.swp;rw[Array.size_setIfInBounds,Array.size_setIfInBounds]
  ·rfl
def cb_insSort:Cx:=cxOf Γ31 Tryz.f173.ntmps [(4,[0,1,2,6,7]),(1,[0,1,2,6])] [(0,[]),(1,[0,1,2,6]),(2,[0,1,2,6]),(3,[0,1,2,6,7])] [] []
theorem x_insInner (l:List Int) (a b i j:Int) (R:St→Option Fin) (K:Cont):evC (cb_insSort.withLoops (look [])) (loopOf Tryz.f173 1) ⟨[(0, .d (.one (.own 0))),(1,vI a),(2,vI b),(6,vI i),(7,vI j)],[(0,some (.lis 5 TU8 l))]⟩ (onward (headAt (cb_insSort.withLoops (look [])) 4) R K)=(
need (bif decide (decide (a<j)=true)then inb j l.length else true) <|
need (bif decide (decide (a<j)=true)then inb (W64 (j-1)) l.length else true) <|
branch (bif decide (a<j)then ltI (l.getD j.toNat 0) (l.getD (W64 (j-1)).toNat 0)else false) (
 need (inb (W64 (j-1)) l.length) <|
 need (inb j l.length) <|
 need (inb j l.length) <|
 need (inb (W64 (j-1)) (l.set j.toNat (l.getD (W64 (j-1)).toNat 0)).length) <| R ⟨[(0, .d (.one (.own 0))),(1,vI a),(2,vI b),(6,vI i),(7,vI (W64 (j-1)))],[(0,some (.lis 5 TU8 (swL l j.toNat (W64 (j-1)).toNat)))]⟩)
 (K (.exit 2) ⟨[(0, .d (.one (.own 0))),(1,vI a),(2,vI b),(6,vI i)],[(0,some (.lis 5 TU8 l))]⟩)):=by kernel_rfl
def cx0_insInner:Cx:=(cb_insSort).withLoops (look [])
def sh_insInner:Sh:=([(0, .own 0),(1, .d TI64),(2, .d TI64),(6, .d TI64),(7, .d TI64)],[(0, .lis 5 TU8)])
abbrev st_insInner (a b i j:Int) (l:List (Int)):St:=⟨[(0, .d (.one (.own 0))),(1,vI a),(2,vI b),(6,vI i),(7,vI j)],[(0,some (.lis 5 TU8 l))]⟩
def pre_insInner (a _b _i j:Int) (l:List (Int)):Bool:=decide (0≤a)&&(decide (a≤j)&&(decide (j<(List.length l:Int))&&Nat.ble (List.length l) big))
def res_insInner (a b i j:Int) (l:List (Int)) (K:Cont):Option Fin:=K (.exit 2) ⟨[(0, .d (.one (.own 0))),(1,vI a),(2,vI b),(6,vI i)],[(0,some (.lis 5 TU8 (onL (Go.Sort.insInner ltI a.toNat j.toNat) l)))]⟩
def mu_insInner (_a _b _i j:Int) (_l:List (Int)):Nat:=j.toNat
theorem r_insInner (a b i j:Int) (l:List (Int)) (K:Cont) (hI:pre_insInner a b i j l=true):(∀R:St→Option Fin,evC cx0_insInner (loopOf Tryz.f173 1) (st_insInner a b i j l) (onward (headAt cx0_insInner 4) R K)=res_insInner a b i j l K) ∨
  (∃(a' b' i' j':Int) (l':List (Int)),pre_insInner a' b' i' j' l'=true∧mu_insInner a' b' i' j' l'<mu_insInner a b i j l∧res_insInner a' b' i' j' l' K=res_insInner a b i j l K∧∀R:St→Option Fin,evC cx0_insInner (loopOf Tryz.f173 1) (st_insInner a b i j l) (onward (headAt cx0_insInner 4) R K)=R (st_insInner a' b' i' j' l')):=by
 have hx:=fun R=>x_insInner l a b i j R K
 simp only[pre_insInner,andd,dec_iff,ble_iff]at hI
 obtain⟨h0,h1,h2,h3⟩:=hI
 by_cases hi:a<j
 ·have hw:W64 (j-1)=j-1:=wrap_small (by omega) (by simp only[big]at h3;omega)
  obtain⟨n,hn⟩:∃n:Nat,j=(n:Int)+1:=⟨(j-1).toNat,by omega⟩
  have e1:j.toNat=n+1:=by omega
  have e2:(j-1).toNat=n:=by omega
  have b1:inb j l.length=true:=inb_ok (by omega) h2
  have b2:inb (j-1) l.length=true:=inb_ok (by omega) (by omega)
  have hs:onL (Go.Sort.insInner ltI a.toNat (n+1)) l=bif ltI (l.getD (n+1) 0) (l.getD n 0)then onL (Go.Sort.insInner ltI a.toNat n) (swL l (n+1) n)else l:=by
   unfold onL
   rw[Go.Sort.insInner,at_arr,at_arr,sw_arr,decide_eq_true (show n+1 > a.toNat by omega),Bool.true_and]
   cases ltI (l.getD (n+1) 0) (l.getD n 0)<;>rfl
  simp only[hi,decide_true,hw,b1,b2,List.length_set,Bool.cond_self,need_t,e1,e2,cond_true]at hx
  cases hc:ltI (l.getD (n+1) 0) (l.getD n 0)
  ·left
   intro R
   refine(hx R).trans ?_
   simp only[res_insInner,e1,hs,hc];rfl
  ·right
   refine⟨a,b,i,j-1,swL l (n+1) n, ?_, ?_, ?_,fun R=>(hx R).trans ?_⟩
   ·simp only[pre_insInner,andd,dec_iff,ble_iff,swL_len];omega
   ·simp only[mu_insInner];omega
   ·simp only[res_insInner,e1,e2,hs,hc];rfl
   ·rw[hc];rfl
 ·left
  intro R
  refine(hx R).trans ?_
  have e:j=a:=by omega
  subst e
  simp only[hi,decide_false,cond_false]
  show K _ _=_
  have hs:onL (Go.Sort.insInner ltI j.toNat j.toNat) l=l:=by
   unfold onL
   cases hn:j.toNat with
   |zero=>rfl
   |succ n=>rw[Go.Sort.insInner,decide_eq_false (by omega),Bool.false_and];rfl
  simp only[res_insInner,hs]
def g_insInner:St→Cont→Option Fin:=gP sh_insInner (fun v=>match v with | ((a,b,i,j,()),(l,()))=>pre_insInner a b i j l) (fun v K=>match v with | ((a,b,i,j,()),(l,()))=>res_insInner a b i j l K)
def L_insInner:LpL:=(4,g_insInner)::[]
def cx_insInner:Cx:=(cb_insSort).withLoops (look L_insInner)
theorem l_insInner {L:LpL} (n:Nat) (h1:L.drop n=[]) (h2:idsFree (L.take n) (loopOf Tryz.f173 1)=true):LoopsTo g_insInner (cb_insSort) (loopOf Tryz.f173 1) 4 L :=
 with_drop h1 h2 (gP_ok (fun v=>match v with | ((a,b,i,j,()),(l,()))=>mu_insInner a b i j l) fun v K hI=>by
  obtain⟨⟨a,b,i,j,⟨⟩⟩,⟨l,⟨⟩⟩⟩:=v
  exact(r_insInner a b i j l K hI).imp id fun⟨a',b',i',j',l',h⟩=>⟨((a',b',i',j',()),(l',())),h⟩)
theorem x_slices_insertionSortOrdered_byte (l:List Int) (a b i:Int) (R:St→Option Fin) (K:Cont):evC cx_insInner (loopOf Tryz.f173 0) ⟨[(0, .d (.one (.own 0))),(1,vI a),(2,vI b),(6,vI i)],[(0,some (.lis 5 TU8 l))]⟩ (onward (headAt cx_insInner 1) R K)=(
branch (decide (i<b)) (
 need (pre_insInner a b i i l) <| R (.mk [(0,(.d (.one (.own 0)))),(1,vI a),(2,vI b),(6,vI (W64 (i+1)))] [(0,(.some (.lis 5 TU8 (onL (Go.Sort.insInner ltI a.toNat i.toNat) l))))])) ( K (.exit 0) (.mk [] [(0,some (.lis 5 TU8 l))]))):=by kernel_rfl
def cx0_insOuter:Cx:=(cb_insSort).withLoops (look L_insInner)
def sh_insOuter:Sh:=([(0, .own 0),(1, .d TI64),(2, .d TI64),(6, .d TI64)],[(0, .lis 5 TU8)])
abbrev st_insOuter (a b i:Int) (l:List (Int)):St:=⟨[(0, .d (.one (.own 0))),(1,vI a),(2,vI b),(6,vI i)],[(0,some (.lis 5 TU8 l))]⟩
def pre_insOuter (a b i:Int) (l:List (Int)):Bool:=decide (0≤a)&&(decide (a≤i)&&(decide (b≤(List.length l:Int))&&Nat.ble (List.length l) big))
def res_insOuter (a b i:Int) (l:List (Int)) (K:Cont):Option Fin:=K (.exit 0) ⟨[],[(0,some (.lis 5 TU8 (onL (Go.Sort.insOuter ltI a.toNat b.toNat i.toNat) l)))]⟩
def mu_insOuter (_a b i:Int) (_l:List (Int)):Nat:=(b-i).toNat
theorem r_insOuter (a b i:Int) (l:List (Int)) (K:Cont) (hI:pre_insOuter a b i l=true):(∀R:St→Option Fin,evC cx0_insOuter (loopOf Tryz.f173 0) (st_insOuter a b i l) (onward (headAt cx0_insOuter 1) R K)=res_insOuter a b i l K) ∨
  (∃(a' b' i':Int) (l':List (Int)),pre_insOuter a' b' i' l'=true∧mu_insOuter a' b' i' l'<mu_insOuter a b i l∧res_insOuter a' b' i' l' K=res_insOuter a b i l K∧∀R:St→Option Fin,evC cx0_insOuter (loopOf Tryz.f173 0) (st_insOuter a b i l) (onward (headAt cx0_insOuter 1) R K)=R (st_insOuter a' b' i' l')):=by
 have hx:=fun R=>x_slices_insertionSortOrdered_byte l a b i R K
 simp only[pre_insOuter,andd,dec_iff,ble_iff]at hI
 obtain⟨h0,h1,h2,h3⟩:=hI
 by_cases hi:i<b
 ·have hw:W64 (i+1)=i+1:=wrap_small (by omega) (by simp only[big]at h3;omega)
  have hp:pre_insInner a b i i l=true:=by simp only[pre_insInner,andd,dec_iff,ble_iff];omega
  simp only[hi,decide_true,hw,hp]at hx
  right
  refine⟨a,b,i+1,onL (Go.Sort.insInner ltI a.toNat i.toNat) l, ?_, ?_, ?_,fun R=>(hx R).trans ?_⟩
  ·simp only[pre_insOuter,andd,dec_iff,ble_iff,onL_len (insInner_size _ _)];omega
  ·simp only[mu_insOuter];omega
  ·simp only[res_insOuter]
   have:onL (Go.Sort.insOuter ltI a.toNat b.toNat i.toNat) l=onL (Go.Sort.insOuter ltI a.toNat b.toNat (i+1).toNat) (onL (Go.Sort.insInner ltI a.toNat i.toNat) l):=by
    unfold onL
    rw[Go.Sort.insOuter,if_pos (by omega),show (i+1).toNat=i.toNat+1 by omega]
   rw[this]
  ·rfl
 ·left
  intro R
  refine(hx R).trans ?_
  simp only[hi,decide_false]
  show K _ _=_
  have:onL (Go.Sort.insOuter ltI a.toNat b.toNat i.toNat) l=l:=by unfold onL;rw[Go.Sort.insOuter,if_neg (by omega)]
  simp only[res_insOuter,this]
def g_insOuter:St→Cont→Option Fin:=gP sh_insOuter (fun v=>match v with | ((a,b,i,()),(l,()))=>pre_insOuter a b i l) (fun v K=>match v with | ((a,b,i,()),(l,()))=>res_insOuter a b i l K)
def L_insOuter:LpL:=(1,g_insOuter)::L_insInner
def cx_insOuter:Cx:=(cb_insSort).withLoops (look L_insOuter)
theorem l_insOuter {L:LpL} (n:Nat) (h1:L.drop n=L_insInner) (h2:idsFree (L.take n) (loopOf Tryz.f173 0)=true):LoopsTo g_insOuter (cb_insSort) (loopOf Tryz.f173 0) 1 L :=
 with_drop h1 h2 (gP_ok (fun v=>match v with | ((a,b,i,()),(l,()))=>mu_insOuter a b i l) fun v K hI=>by
  obtain⟨⟨a,b,i,⟨⟩⟩,⟨l,⟨⟩⟩⟩:=v
  exact(r_insOuter a b i l K hI).imp id fun⟨a',b',i',l',h⟩=>⟨((a',b',i',()),(l',())),h⟩)
theorem y_slices_insertionSortOrdered_byte (l:List Int) (a:Int) (b:Int):evFn cx_insOuter Tryz.f173 false [.one (.own 0),ofD TI64 a,ofD TI64 b] [.lis 5 TU8 l]=(
need (pre_insOuter a b (W64 (a+1)) l) <| some ((.tup []),[(0,(.some (.lis 5 TU8 (onL (Go.Sort.insOuter ltI a.toNat b.toNat (W64 (a+1)).toNat) l))))])):=by kernel_rfl
theorem s_slices_insertionSortOrdered_byte (l:List (Int)) (_hl:Fit (.list TU8) l) (a:Int) (_ha:Fit TI64 a) (b:Int) (_hb:Fit TI64 b) (hpre:(decide (0≤a)&&(decide (a≤1000000)&&(decide (b≤(List.length l:Int))&&Nat.ble (List.length l) 1000000)))=true):Sat Tryz.prog 173 [.one (.own 0),ofD TI64 a,ofD TI64 b] [.lis 5 TU8 l] (.tup []) [(0,some (.lis 5 TU8 (onL (fun d=>Go.Sort.insertionSort ltI d a.toNat b.toNat) l)))] :=
 fn_sound (cx:=cx_insOuter) Tryz.func173 rfl ttOk Γ31ok mixed (fun c hc=>LoopsOk.all (l:=[(1,loopOf Tryz.f173 0),(4,loopOf Tryz.f173 1)]) (by cases hc;kernel_rfl) ⟨atLoop rfl (l_insOuter 1 rfl (by kernel_rfl)),atLoop rfl (l_insInner 2 rfl (by kernel_rfl)),trivial⟩) (ro:=false) (by
  simp only[andd,dec_iff,ble_iff]at hpre
  obtain⟨h0,h1,h2,h3⟩:=hpre
  have hw:W64 (a+1)=a+1:=wrap_small (by omega) (by omega)
  have hp:pre_insOuter a b (a+1) l=true:=by simp only[pre_insOuter,andd,dec_iff,ble_iff,big];omega
  rw[y_slices_insertionSortOrdered_byte,hw,hp,show (a+1).toNat=a.toNat+1 by omega];rfl)
def c_slices_insertionSortOrdered_byte:Con:=conL 5 TU8 [TI64,TI64] fun(l:List (Int)) (a:Int) (b:Int)=>(some (decide (0≤a)&&(decide (a≤1000000)&&(decide (b≤(List.length l:Int))&&Nat.ble (List.length l) 1000000))), .tup [],onL (fun d=>Go.Sort.insertionSort ltI d a.toNat b.toNat) l)
theorem k_slices_insertionSortOrdered_byte:ConOk Tryz.prog 173 c_slices_insertionSortOrdered_byte:=conL_ok rfl Tryz.call173 fun l hl a ha b hb hqq=>s_slices_insertionSortOrdered_byte l hl a ha b hb (pre_of hqq)
def Γ32:GL:=(173,c_slices_insertionSortOrdered_byte)::Γ31
theorem Γ32ok:GO Γ32 := .cons k_slices_insertionSortOrdered_byte Γ31ok
def siftB (hi first root:Nat) (l:List Int):Bool :=
 if _h:2*root+1≥hi then true else
  bif decide (2*root+1+1<hi)&&ltI (l.getD (first+(2*root+1)) 0) (l.getD (first+(2*root+1)+1) 0)then
   bif !ltI (l.getD (first+root) 0) (l.getD (first+(2*root+2)) 0)then false else siftB hi first (2*root+2) (swL l (first+root) (first+(2*root+2)))
  else bif !ltI (l.getD (first+root) 0) (l.getD (first+(2*root+1)) 0)then false else siftB hi first (2*root+1) (swL l (first+root) (first+(2*root+1)))
termination_by hi-root
theorem sift_eq (hi first root:Nat) (l:List Int):onL (Go.Sort.siftDown ltI hi first root) l=if 2*root+1≥hi then l else
  bif decide (2*root+1+1<hi)&&ltI (l.getD (first+(2*root+1)) 0) (l.getD (first+(2*root+1)+1) 0)then
   bif !ltI (l.getD (first+root) 0) (l.getD (first+(2*root+2)) 0)then l else onL (Go.Sort.siftDown ltI hi first (2*root+2)) (swL l (first+root) (first+(2*root+2)))
  else bif !ltI (l.getD (first+root) 0) (l.getD (first+(2*root+1)) 0)then l else onL (Go.Sort.siftDown ltI hi first (2*root+1)) (swL l (first+root) (first+(2*root+1))):=by
 unfold onL
 rw[Go.Sort.siftDown,at_arr,at_arr,at_arr,at_arr,sw_arr,sw_arr]
 by_cases h:2*root+1≥hi
 ·rw[dif_pos h,if_pos h]
 ·rw[dif_neg h,if_neg h]
  by_cases h2:2*root+1+1<hi
  ·rw[dif_pos (show 2*root+2<hi by omega)]
   simp only[h2,decide_true,Bool.true_and]
   cases ltI (l.getD (first+(2*root+1)) 0) (l.getD (first+(2*root+1)+1) 0)<;>cases ltI (l.getD (first+root) 0) (l.getD (first+(2*root+2)) 0)<;>cases ltI (l.getD (first+root) 0) (l.getD (first+(2*root+1)) 0)<;>rfl
  ·simp only[h2,decide_false,Bool.false_and,cond_false]
   cases ltI (l.getD (first+root) 0) (l.getD (first+(2*root+1)) 0)<;>rfl
def cb_sift:Cx:=cxOf Γ32 Tryz.f189.ntmps [(1,[0,2,3,8])] [(0,[]),(1,[0,2,3,8]),(1000000,[])] [] []
theorem x_sift (l:List Int) (hi first root:Int) (R:St→Option Fin) (K:Cont):evC (cb_sift.withLoops (look [])) (loopOf Tryz.f189 0) ⟨[(0, .d (.one (.own 0))),(2,vI hi),(3,vI first),(8,vI root)],[(0,some (.lis 5 TU8 l))]⟩ (onward (headAt (cb_sift.withLoops (look [])) 1) R K)=(
branch (decide (hi≤W64 (W64 (2*root)+1))) ( K (.exit 0) (.mk [] [(0,some (.lis 5 TU8 l))])) (
 need (bif decide (decide (W64 (W64 (W64 (2*root)+1)+1)<hi)=true)then inb (W64 (first+W64 (W64 (2*root)+1))) l.length else true) <|
 need (bif decide (decide (W64 (W64 (W64 (2*root)+1)+1)<hi)=true)then inb (W64 (W64 (first+W64 (W64 (2*root)+1))+1)) l.length else true) <|
 branch (bif decide (W64 (W64 (W64 (2*root)+1)+1)<hi)then ltI (l.getD (W64 (first+W64 (W64 (2*root)+1))).toNat 0) (l.getD (W64 (W64 (first+W64 (W64 (2*root)+1))+1)).toNat 0)else false) (
 need (inb (W64 (first+root)) l.length) <|
 need (inb (W64 (first+W64 (W64 (W64 (2*root)+1)+1))) l.length) <|
 branch (!ltI (l.getD (W64 (first+root)).toNat 0) (l.getD (W64 (first+W64 (W64 (W64 (2*root)+1)+1))).toNat 0)) ( K (.ret) (.mk [] [(0,some (.lis 5 TU8 l))])) (
  need (inb (W64 (first+W64 (W64 (W64 (2*root)+1)+1))) l.length) <|
  need (inb (W64 (first+root)) l.length) <|
  need (inb (W64 (first+root)) l.length) <|
  need (inb (W64 (first+W64 (W64 (W64 (2*root)+1)+1))) (l.set (W64 (first+root)).toNat (l.getD (W64 (first+W64 (W64 (W64 (2*root)+1)+1))).toNat 0)).length) <| R (.mk [(0,(.d (.one (.own 0)))),(2,vI hi),(3,vI first),(8,(vI (W64 (W64 (W64 (2*root)+1)+1))))] [(0,(.some (.lis 5 TU8 ((l.set (W64 (first+root)).toNat (l.getD (W64 (first+W64 (W64 (W64 (2*root)+1)+1))).toNat 0)).set (W64 (first+W64 (W64 (W64 (2*root)+1)+1))).toNat (l.getD (W64 (first+root)).toNat 0)))))]))) (
 need (inb (W64 (first+root)) l.length) <|
 need (inb (W64 (first+W64 (W64 (2*root)+1))) l.length) <|
 branch (!ltI (l.getD (W64 (first+root)).toNat 0) (l.getD (W64 (first+W64 (W64 (2*root)+1))).toNat 0)) ( K (.ret) (.mk [] [(0,some (.lis 5 TU8 l))])) (
  need (inb (W64 (first+W64 (W64 (2*root)+1))) l.length) <|
  need (inb (W64 (first+root)) l.length) <|
  need (inb (W64 (first+root)) l.length) <|
  need (inb (W64 (first+W64 (W64 (2*root)+1))) (l.set (W64 (first+root)).toNat (l.getD (W64 (first+W64 (W64 (2*root)+1))).toNat 0)).length) <| R (.mk [(0,(.d (.one (.own 0)))),(2,vI hi),(3,vI first),(8,(vI (W64 (W64 (2*root)+1))))] [(0,(.some (.lis 5 TU8 ((l.set (W64 (first+root)).toNat (l.getD (W64 (first+W64 (W64 (2*root)+1))).toNat 0)).set (W64 (first+W64 (W64 (2*root)+1))).toNat (l.getD (W64 (first+root)).toNat 0)))))]))))):=by kernel_rfl
def cx0_sift:Cx:=(cb_sift).withLoops (look [])
def sh_sift:Sh:=([(0, .own 0),(2, .d TI64),(3, .d TI64),(8, .d TI64)],[(0, .lis 5 TU8)])
abbrev st_sift (hi first root:Int) (l:List (Int)):St:=⟨[(0, .d (.one (.own 0))),(2,vI hi),(3,vI first),(8,vI root)],[(0,some (.lis 5 TU8 l))]⟩
def pre_sift (hi first root:Int) (l:List (Int)):Bool:=decide (0≤root)&&(decide (0≤first)&&(decide (0≤hi)&&(decide (root≤1000000)&&(decide (first+hi≤(List.length l:Int))&&Nat.ble (List.length l) 1000000))))
def res_sift (hi first root:Int) (l:List (Int)) (K:Cont):Option Fin:=branch (siftB hi.toNat first.toNat root.toNat l) (K (.exit 0) ⟨[],[(0,some (.lis 5 TU8 (onL (Go.Sort.siftDown ltI hi.toNat first.toNat root.toNat) l)))]⟩) (K .ret ⟨[],[(0,some (.lis 5 TU8 (onL (Go.Sort.siftDown ltI hi.toNat first.toNat root.toNat) l)))]⟩)
def mu_sift (hi _first root:Int) (_l:List (Int)):Nat:=(hi-root).toNat
theorem r_sift (hi first root:Int) (l:List (Int)) (K:Cont) (hI:pre_sift hi first root l=true):(∀R:St→Option Fin,evC cx0_sift (loopOf Tryz.f189 0) (st_sift hi first root l) (onward (headAt cx0_sift 1) R K)=res_sift hi first root l K) ∨
  (∃(hi' first' root':Int) (l':List (Int)),pre_sift hi' first' root' l'=true∧mu_sift hi' first' root' l'<mu_sift hi first root l∧res_sift hi' first' root' l' K=res_sift hi first root l K∧∀R:St→Option Fin,evC cx0_sift (loopOf Tryz.f189 0) (st_sift hi first root l) (onward (headAt cx0_sift 1) R K)=R (st_sift hi' first' root' l')):=by
 have hx:=fun R=>x_sift l hi first root R K
 simp only[pre_sift,andd,dec_iff,ble_iff]at hI
 obtain⟨h0,h1,h2,h3,h4,h5⟩:=hI
 obtain⟨r,rfl⟩:=Int.eq_ofNat_of_zero_le h0
 obtain⟨f,rfl⟩:=Int.eq_ofNat_of_zero_le h1
 obtain⟨b,rfl⟩:=Int.eq_ofNat_of_zero_le h2
 have w1:W64 (2*(r:Int))=2*(r:Int):=wrap_small (by omega) (by omega)
 have w2:W64 (2*(r:Int)+1)=2*(r:Int)+1:=wrap_small (by omega) (by omega)
 have w3:W64 (2*(r:Int)+1+1)=2*(r:Int)+1+1:=wrap_small (by omega) (by omega)
 have w4:W64 ((f:Int)+r)=(f:Int)+r:=wrap_small (by omega) (by omega)
 have w5:W64 ((f:Int)+(2*(r:Int)+1))=(f:Int)+(2*(r:Int)+1):=wrap_small (by omega) (by omega)
 have w6:W64 ((f:Int)+(2*(r:Int)+1)+1)=(f:Int)+(2*(r:Int)+1)+1:=wrap_small (by omega) (by omega)
 have w7:W64 ((f:Int)+(2*(r:Int)+1+1))=(f:Int)+(2*(r:Int)+1+1):=wrap_small (by omega) (by omega)
 have t4:((f:Int)+r).toNat=f+r:=by omega
 have t5:((f:Int)+(2*(r:Int)+1)).toNat=f+(2*r+1):=by omega
 have t6:((f:Int)+(2*(r:Int)+1)+1).toNat=f+(2*r+1)+1:=by omega
 have t7:((f:Int)+(2*(r:Int)+1+1)).toNat=f+(2*r+2):=by omega
 simp only[w1,w2,w3,w4,w5,w6,w7,t4,t5,t6,t7,List.length_set]at hx
 have hs:=sift_eq b f r l
 have hb:=siftB.eq_1 b f r l
 simp only[res_sift,mu_sift,Int.toNat_natCast]
 by_cases g1:(b:Int)≤2*(r:Int)+1
 ·left
  intro R
  refine(hx R).trans ?_
  rw[decide_eq_true g1,hs,hb,if_pos (by omega),dif_pos (by omega)];rfl
 ·rw[if_neg (by omega)]at hs
  rw[dif_neg (by omega)]at hb
  have i4:inb ((f:Int)+r) l.length=true:=inb_ok (by omega) (by omega)
  have i5:inb ((f:Int)+(2*(r:Int)+1)) l.length=true:=inb_ok (by omega) (by omega)
  have c8:decide (2*(r:Int)+1+1<(b:Int))=decide (2*r+1+1<b):=by rw[decide_eq_decide];omega
  simp only[g1,decide_false,branch_false,i4,i5,c8,Bool.cond_self,need_t]at hx
  by_cases g2:2*r+1+1<b
  ·have i6:inb ((f:Int)+(2*(r:Int)+1)+1) l.length=true:=inb_ok (by omega) (by omega)
   have i7:inb ((f:Int)+(2*(r:Int)+1+1)) l.length=true:=inb_ok (by omega) (by omega)
   simp only[g2,decide_true,i6,i7,Bool.cond_self,need_t,cond_true,Bool.true_and]at hx hs hb
   cases hc:ltI (l.getD (f+(2*r+1)) 0) (l.getD (f+(2*r+1)+1) 0)
   ·simp only[hc,branch_false,cond_false]at hx hs hb
    cases hd:ltI (l.getD (f+r) 0) (l.getD (f+(2*r+1)) 0)
    ·left
     intro R
     refine(hx R).trans ?_
     rw[hs,hb,hd];rfl
    ·right
     refine⟨(b:Int),(f:Int),2*(r:Int)+1,swL l (f+r) (f+(2*r+1)), ?_, ?_, ?_,fun R=>(hx R).trans ?_⟩
     ·simp only[pre_sift,andd,dec_iff,ble_iff,swL_len];omega
     ·omega
     ·rw[hs,hb,hd,show (2*(r:Int)+1).toNat=2*r+1 by omega];rfl
     ·rw[hd];rfl
   ·simp only[hc,branch_true,cond_true]at hx hs hb
    cases hd:ltI (l.getD (f+r) 0) (l.getD (f+(2*r+2)) 0)
    ·left
     intro R
     refine(hx R).trans ?_
     rw[hs,hb,hd];rfl
    ·right
     refine⟨(b:Int),(f:Int),2*(r:Int)+1+1,swL l (f+r) (f+(2*r+2)), ?_, ?_, ?_,fun R=>(hx R).trans ?_⟩
     ·simp only[pre_sift,andd,dec_iff,ble_iff,swL_len];omega
     ·omega
     ·rw[hs,hb,hd,show (2*(r:Int)+1+1).toNat=2*r+2 by omega];rfl
     ·rw[hd];rfl
  ·simp only[g2,decide_false,cond_false,Bool.false_and,branch_false]at hx hs hb
   cases hd:ltI (l.getD (f+r) 0) (l.getD (f+(2*r+1)) 0)
   ·left
    intro R
    refine(hx R).trans ?_
    rw[hs,hb,hd];rfl
   ·right
    refine⟨(b:Int),(f:Int),2*(r:Int)+1,swL l (f+r) (f+(2*r+1)), ?_, ?_, ?_,fun R=>(hx R).trans ?_⟩
    ·simp only[pre_sift,andd,dec_iff,ble_iff,swL_len];omega
    ·omega
    ·rw[hs,hb,hd,show (2*(r:Int)+1).toNat=2*r+1 by omega];rfl
    ·rw[hd];rfl
def g_sift:St→Cont→Option Fin:=gP sh_sift (fun v=>match v with | ((hi,first,root,()),(l,()))=>pre_sift hi first root l) (fun v K=>match v with | ((hi,first,root,()),(l,()))=>res_sift hi first root l K)
def L_sift:LpL:=(1,g_sift)::[]
def cx_sift:Cx:=(cb_sift).withLoops (look L_sift)
theorem l_sift {L:LpL} (n:Nat) (h1:L.drop n=[]) (h2:idsFree (L.take n) (loopOf Tryz.f189 0)=true):LoopsTo g_sift (cb_sift) (loopOf Tryz.f189 0) 1 L :=
 with_drop h1 h2 (gP_ok (fun v=>match v with | ((hi,first,root,()),(l,()))=>mu_sift hi first root l) fun v K hI=>by
  obtain⟨⟨hi,first,root,⟨⟩⟩,⟨l,⟨⟩⟩⟩:=v
  exact(r_sift hi first root l K hI).imp id fun⟨hi',first',root',l',h⟩=>⟨((hi',first',root',()),(l',())),h⟩)
theorem y_slices_siftDownOrdered_byte (l:List Int) (lo:Int) (hi:Int) (first:Int):evFn cx_sift Tryz.f189 false [.one (.own 0),ofD TI64 lo,ofD TI64 hi,ofD TI64 first] [.lis 5 TU8 l]=(
need (pre_sift hi first lo l) <|
branch (siftB hi.toNat first.toNat lo.toNat l) ( some ((.tup []),[(0,(.some (.lis 5 TU8 (onL (Go.Sort.siftDown ltI hi.toNat first.toNat lo.toNat) l))))])) ( some ((.tup []),[(0,(.some (.lis 5 TU8 (onL (Go.Sort.siftDown ltI hi.toNat first.toNat lo.toNat) l))))]))):=by kernel_rfl
theorem s_slices_siftDownOrdered_byte (l:List (Int)) (_hl:Fit (.list TU8) l) (lo:Int) (_hlo:Fit TI64 lo) (hi:Int) (_hhi:Fit TI64 hi) (first:Int) (_hfirst:Fit TI64 first) (hpre:(pre_sift hi first lo l)=true):Sat Tryz.prog 189 [.one (.own 0),ofD TI64 lo,ofD TI64 hi,ofD TI64 first] [.lis 5 TU8 l] (.tup []) [(0,some (.lis 5 TU8 (onL (Go.Sort.siftDown ltI hi.toNat first.toNat lo.toNat) l)))] :=
 fn_sound (cx:=cx_sift) Tryz.func189 rfl ttOk Γ32ok mixed (fun c hc=>LoopsOk.all (l:=[(1,loopOf Tryz.f189 0)]) (by cases hc;kernel_rfl) ⟨atLoop rfl (l_sift 1 rfl (by kernel_rfl)),trivial⟩) (ro:=false) (by
  rw[y_slices_siftDownOrdered_byte,hpre]
  cases siftB hi.toNat first.toNat lo.toNat l<;>rfl)
def c_slices_siftDownOrdered_byte:Con:=conL 5 TU8 [TI64,TI64,TI64] fun(l:List (Int)) (lo:Int) (hi:Int) (first:Int)=>(some (pre_sift hi first lo l), .tup [],onL (Go.Sort.siftDown ltI hi.toNat first.toNat lo.toNat) l)
theorem k_slices_siftDownOrdered_byte:ConOk Tryz.prog 189 c_slices_siftDownOrdered_byte:=conL_ok rfl Tryz.call189 fun l hl lo hlo hi hhi first hfirst hqq=>s_slices_siftDownOrdered_byte l hl lo hlo hi hhi first hfirst (pre_of hqq)
def Γ33:GL:=(189,c_slices_siftDownOrdered_byte)::Γ32
theorem Γ33ok:GO Γ33 := .cons k_slices_siftDownOrdered_byte Γ32ok
end
end Go.Proofs.YtmeiebnfmhddnaaGreatDoor.Ev
