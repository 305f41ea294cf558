/-
  Sorting of bytes: the heap sort, the turning of a range.
-/
import Derived.Test.YtmeiebnfmhddnaaGreatDoorGh
namespace Go.Proofs.YtmeiebnfmhddnaaGreatDoor.Ev
open Go
noncomputable section
set_option maxHeartbeats 1000000
theorem sift_size (hi first:Nat):∀(n root:Nat) (d:Array Int),hi-root≤n→(Go.Sort.siftDown ltI hi first root d).size=d.size
 |0,root,d,h=>by rw[Go.Sort.siftDown,dif_pos (by omega)]
 |n+1,root,d,h=>by
  rw[Go.Sort.siftDown]
  split
  ·rfl
  ·split
   ·split
    ·rfl
    ·split
     ·rw[sift_size hi first n _ _ (by omega),Go.Sort.swp_size]
     ·rfl
   ·split
    ·rfl
    ·rw[sift_size hi first n _ _ (by omega),Go.Sort.swp_size]
theorem siftL_len (hi first root:Nat) (l:List Int):(onL (Go.Sort.siftDown ltI hi first root) l).length=l.length:=onL_len (fun d=>sift_size hi first _ root d (Nat.le_refl _)) l
theorem swo:Go.Sort.SWO ltI:=Go.Sort.swo_ltInt
theorem extract_get {d:Array Int} {a b k:Nat} (hb:b≤d.size) (hk:k<b-a):(d.extract a b)[k]! = d[a+k]! := by
 rw[getElem!_pos (d.extract a b) k (by rw[Array.size_extract];omega),getElem!_pos d (a+k) (by omega),Array.getElem_extract]
theorem sorted_one {d d1 d2:Array Int} {a b:Nat} (_ha:a≤b) (hb:b≤d.size) (p1:Go.Sort.PermIn a b d d1) (s1:Go.Sort.SortedIn ltI a b d1) (p2:Go.Sort.PermIn a b d d2) (s2:Go.Sort.SortedIn ltI a b d2):d1=d2:=by
 have key:∀d':Array Int,Go.Sort.PermIn a b d d'→Go.Sort.SortedIn ltI a b d'→(d'.extract a b).toList=(d.extract a b).toList.mergeSort (fun x y => !ltI y x):=by
  intro d' p s
  have hs:d'.size=d.size:=p.1
  have e1:(d'.extract a b).size=b-a:=by rw[Array.size_extract];omega
  have e2:(d.extract a b).size=b-a:=by rw[Array.size_extract];omega
  refine Go.Sort.sorted_unique_holds swo (fun x y h1 h2=>by have h1:=of_decide_eq_false h1;have h2:=of_decide_eq_false h2;omega) _ _ ⟨by rw[e1,e2],fun i hi => ?_, ?_⟩ fun i j _ hij hj => ?_
  ·rw[getElem!_neg _ _ (by omega),getElem!_neg _ _ (by omega)]
  ·rw[show (d.extract a b).size=(d'.extract a b).size by rw[e1,e2],Array.extract_size,show (d'.extract a b).size=(d.extract a b).size by rw[e1,e2],Array.extract_size]
   exact p.2.2
  ·rw[e2]at hj
   rw[extract_get (by omega) hj,extract_get (by omega) (by omega)]
   exact s (a+i) (a+j) (by omega) (by omega) (by omega)
 have k:(d1.extract a b).toList=(d2.extract a b).toList:=(key d1 p1 s1).trans (key d2 p2 s2).symm
 have k:d1.extract a b=d2.extract a b:=Array.toList_inj.1 k
 refine Array.ext (by rw[p1.1,p2.1]) fun i h1 h2 => ?_
 have:d1[i]! = d2[i]! := by
  by_cases h:a≤i∧i<b
  ·have z1:=extract_get (d:=d1) (a:=a) (b:=b) (k:=i-a) (by rw[p1.1];exact hb) (by omega)
   have z2:=extract_get (d:=d2) (a:=a) (b:=b) (k:=i-a) (by rw[p2.1];exact hb) (by omega)
   rw[show a+(i-a)=i by omega]at z1 z2
   rw[← z1,← z2,k]
  ·rw[p1.2.1 i (by omega),p2.2.1 i (by omega)]
 rwa [getElem!_pos d1 i h1,getElem!_pos d2 i h2]at this
theorem heapBuild_size (hi first:Nat):∀(k:Nat) (d:Array Int),(Go.Sort.heapBuild ltI hi first k d).size=d.size
 |0,_=>rfl
 |k+1,d=>by rw[Go.Sort.heapBuild,heapBuild_size hi first k,sift_size hi first _ k d (Nat.le_refl _)]
abbrev srt (a b:Nat) (l:List Int):List Int:=onL (fun d=>Go.Sort.insertionSort ltI d a b) l
theorem srt_of {l:List Int} {d':Array Int} {a b:Nat} (ha:a≤b) (hb:b≤l.length) (p:Go.Sort.PermIn a b l.toArray d') (s:Go.Sort.SortedIn ltI a b d'):d'.toList=srt a b l:=by
 obtain⟨q1,q2⟩:=Go.Sort.insertionSort_holds swo l.toArray a b ha hb
 show d'.toList=(Go.Sort.insertionSort ltI l.toArray a b).toList
 rw[sorted_one ha hb p s q1 q2]
def cb_heap:Cx:=cxOf Γ33 Tryz.f174.ntmps [(8,[0,6,7,10]),(4,[0,6,7,8,9])] [(2,[]),(3,[0,6,7,10]),(0,[0,6,7,8]),(1,[0,6,7,8,9])] [] []
theorem x_heapPop (l:List Int) (first lo i:Int) (R:St→Option Fin) (K:Cont):evC (cb_heap.withLoops (look [])) (loopOf Tryz.f174 1) ⟨[(0, .d (.one (.own 0))),(6,vI first),(7,vI lo),(10,vI i)],[(0,some (.lis 5 TU8 l))]⟩ (onward (headAt (cb_heap.withLoops (look [])) 8) R K)=(
branch (decide (0≤i)) (
 need (inb (W64 (first+i)) l.length) <|
 need (inb first l.length) <|
 need (inb first l.length) <|
 need (inb (W64 (first+i)) (l.set first.toNat (l.getD (W64 (first+i)).toNat 0)).length) <|
 need (pre_sift i first lo ((l.set first.toNat (l.getD (W64 (first+i)).toNat 0)).set (W64 (first+i)).toNat (l.getD first.toNat 0))) <| R (.mk [(0,(.d (.one (.own 0)))),(6,vI first),(7,vI lo),(10,vI (W64 (i-1)))] [(0,(.some (.lis 5 TU8 (onL (Go.Sort.siftDown ltI i.toNat first.toNat lo.toNat) ((l.set first.toNat (l.getD (W64 (first+i)).toNat 0)).set (W64 (first+i)).toNat (l.getD first.toNat 0))))))])) ( K (.exit 2) (.mk [] [(0,some (.lis 5 TU8 l))]))):=by kernel_rfl
def cx0_heapPop:Cx:=(cb_heap).withLoops (look [])
def sh_heapPop:Sh:=([(0, .own 0),(6, .d TI64),(7, .d TI64),(10, .d TI64)],[(0, .lis 5 TU8)])
abbrev st_heapPop (first lo i:Int) (l:List (Int)):St:=⟨[(0, .d (.one (.own 0))),(6,vI first),(7,vI lo),(10,vI i)],[(0,some (.lis 5 TU8 l))]⟩
def pre_heapPop (first lo i:Int) (l:List (Int)):Bool:=decide (0≤first)&&(decide (lo=0)&&(decide (-1≤i)&&(decide (first+i<(List.length l:Int))&&Nat.ble (List.length l) 1000000)))
def res_heapPop (first _lo i:Int) (l:List (Int)) (K:Cont):Option Fin:=K (.exit 2) ⟨[],[(0,some (.lis 5 TU8 (onL (Go.Sort.heapPop ltI first.toNat (i+1).toNat) l)))]⟩
def mu_heapPop (_first _lo i:Int) (_l:List (Int)):Nat:=(i+1).toNat
theorem r_heapPop (first lo i:Int) (l:List (Int)) (K:Cont) (hI:pre_heapPop first lo i l=true):(∀R:St→Option Fin,evC cx0_heapPop (loopOf Tryz.f174 1) (st_heapPop first lo i l) (onward (headAt cx0_heapPop 8) R K)=res_heapPop first lo i l K) ∨
  (∃(first' lo' i':Int) (l':List (Int)),pre_heapPop first' lo' i' l'=true∧mu_heapPop first' lo' i' l'<mu_heapPop first lo i l∧res_heapPop first' lo' i' l' K=res_heapPop first lo i l K∧∀R:St→Option Fin,evC cx0_heapPop (loopOf Tryz.f174 1) (st_heapPop first lo i l) (onward (headAt cx0_heapPop 8) R K)=R (st_heapPop first' lo' i' l')):=by
 have hx:=fun R=>x_heapPop l first lo i R K
 simp only[pre_heapPop,andd,dec_iff,ble_iff]at hI
 obtain⟨h0,rfl,h2,h3,h4⟩:=hI
 by_cases hi:0≤i
 ·obtain ⟨k,rfl⟩:=Int.eq_ofNat_of_zero_le hi
  obtain⟨f,rfl⟩:=Int.eq_ofNat_of_zero_le h0
  have w1:W64 ((f:Int)+k)=(f:Int)+k:=wrap_small (by omega) (by omega)
  have w2:W64 ((k:Int)-1)=(k:Int)-1:=wrap_small (by omega) (by omega)
  have t1:((f:Int)+k).toNat=f+k:=by omega
  have b1:inb ((f:Int)+k) l.length=true:=inb_ok (by omega) (by omega)
  have b2:inb (f:Int) l.length=true:=inb_ok (by omega) (by omega)
  have hp:pre_sift k f 0 (swL l f (f+k))=true:=by simp only[pre_sift,andd,dec_iff,ble_iff,swL_len];omega
  simp only[hi,decide_true,w1,w2,t1,b1,b2,Int.toNat_natCast,List.length_set,hp]at hx
  right
  refine⟨(f:Int),0,(k:Int)-1,onL (Go.Sort.siftDown ltI k f 0) (swL l f (f+k)), ?_, ?_, ?_,fun R=>(hx R).trans ?_⟩
  ·simp only[pre_heapPop,andd,dec_iff,ble_iff,siftL_len,swL_len,true_and];omega
  ·simp only[mu_heapPop];omega
  ·have e:onL (Go.Sort.heapPop ltI f (k+1)) l=onL (Go.Sort.heapPop ltI f k) (onL (Go.Sort.siftDown ltI k f 0) (swL l f (f+k))):=by
    unfold onL
    rw[Go.Sort.heapPop,sw_arr]
   simp only[res_heapPop,Int.toNat_natCast,show ((k:Int)-1+1).toNat=k by omega,show ((k:Int)+1).toNat=k+1 by omega,e]
  ·rfl
 ·left
  intro R
  refine(hx R).trans ?_
  have e:i = -1:=by omega
  subst e
  simp only[hi,decide_false]
  rfl
def g_heapPop:St→Cont→Option Fin:=gP sh_heapPop (fun v=>match v with | ((first,lo,i,()),(l,()))=>pre_heapPop first lo i l) (fun v K=>match v with | ((first,lo,i,()),(l,()))=>res_heapPop first lo i l K)
def L_heapPop:LpL:=(8,g_heapPop)::[]
def cx_heapPop:Cx:=(cb_heap).withLoops (look L_heapPop)
theorem l_heapPop {L:LpL} (n:Nat) (h1:L.drop n=[]) (h2:idsFree (L.take n) (loopOf Tryz.f174 1)=true):LoopsTo g_heapPop (cb_heap) (loopOf Tryz.f174 1) 8 L :=
 with_drop h1 h2 (gP_ok (fun v=>match v with | ((first,lo,i,()),(l,()))=>mu_heapPop first lo i l) fun v K hI=>by
  obtain⟨⟨first,lo,i,⟨⟩⟩,⟨l,⟨⟩⟩⟩:=v
  exact(r_heapPop first lo i l K hI).imp id fun⟨first',lo',i',l',h⟩=>⟨((first',lo',i',()),(l',())),h⟩)
theorem x_heapBuild (l:List Int) (first lo hi i:Int) (R:St→Option Fin) (K:Cont):evC cx_heapPop (loopOf Tryz.f174 0) ⟨[(0, .d (.one (.own 0))),(6,vI first),(7,vI lo),(8,vI hi),(9,vI i)],[(0,some (.lis 5 TU8 l))]⟩ (onward (headAt cx_heapPop 4) R K)=(
branch (decide (0≤i)) (
 need (pre_sift hi first i l) <| R (.mk [(0,(.d (.one (.own 0)))),(6,vI first),(7,vI lo),(8,vI hi),(9,vI (W64 (i-1)))] [(0,(.some (.lis 5 TU8 (onL (Go.Sort.siftDown ltI hi.toNat first.toNat i.toNat) l))))])) ( K (.exit 0) (.mk [(0,(.d (.one (.own 0)))),(6,vI first),(7,vI lo),(8,vI hi)] [(0,some (.lis 5 TU8 l))]))):=by kernel_rfl
def cx0_heapBuild:Cx:=(cb_heap).withLoops (look L_heapPop)
def sh_heapBuild:Sh:=([(0, .own 0),(6, .d TI64),(7, .d TI64),(8, .d TI64),(9, .d TI64)],[(0, .lis 5 TU8)])
abbrev st_heapBuild (first lo hi i:Int) (l:List (Int)):St:=⟨[(0, .d (.one (.own 0))),(6,vI first),(7,vI lo),(8,vI hi),(9,vI i)],[(0,some (.lis 5 TU8 l))]⟩
def pre_heapBuild (first _lo hi i:Int) (l:List (Int)):Bool:=decide (0≤first)&&(decide (0≤hi)&&(decide (-1≤i)&&(decide (i≤1000000)&&(decide (first+hi≤(List.length l:Int))&&Nat.ble (List.length l) 1000000))))
def res_heapBuild (first lo hi i:Int) (l:List (Int)) (K:Cont):Option Fin:=K (.exit 0) ⟨[(0, .d (.one (.own 0))),(6,vI first),(7,vI lo),(8,vI hi)],[(0,some (.lis 5 TU8 (onL (Go.Sort.heapBuild ltI hi.toNat first.toNat (i+1).toNat) l)))]⟩
def mu_heapBuild (_first _lo _hi i:Int) (_l:List (Int)):Nat:=(i+1).toNat
theorem r_heapBuild (first lo hi i:Int) (l:List (Int)) (K:Cont) (hI:pre_heapBuild first lo hi i l=true):(∀R:St→Option Fin,evC cx0_heapBuild (loopOf Tryz.f174 0) (st_heapBuild first lo hi i l) (onward (headAt cx0_heapBuild 4) R K)=res_heapBuild first lo hi i l K) ∨
  (∃(first' lo' hi' i':Int) (l':List (Int)),pre_heapBuild first' lo' hi' i' l'=true∧mu_heapBuild first' lo' hi' i' l'<mu_heapBuild first lo hi i l∧res_heapBuild first' lo' hi' i' l' K=res_heapBuild first lo hi i l K∧∀R:St→Option Fin,evC cx0_heapBuild (loopOf Tryz.f174 0) (st_heapBuild first lo hi i l) (onward (headAt cx0_heapBuild 4) R K)=R (st_heapBuild first' lo' hi' i' l')):=by
 have hx:=fun R=>x_heapBuild l first lo hi i R K
 simp only[pre_heapBuild,andd,dec_iff,ble_iff]at hI
 obtain⟨h0,h1,h2,h3,h4,h5⟩:=hI
 by_cases hi':0≤i
 ·obtain ⟨k,rfl⟩:=Int.eq_ofNat_of_zero_le hi'
  obtain⟨f,rfl⟩:=Int.eq_ofNat_of_zero_le h0
  obtain⟨b,rfl⟩:=Int.eq_ofNat_of_zero_le h1
  have w2:W64 ((k:Int)-1)=(k:Int)-1:=wrap_small (by omega) (by omega)
  have hp:pre_sift b f k l=true:=by simp only[pre_sift,andd,dec_iff,ble_iff];omega
  simp only[hi',decide_true,w2,Int.toNat_natCast,hp]at hx
  right
  refine⟨(f:Int),lo,(b:Int),(k:Int)-1,onL (Go.Sort.siftDown ltI b f k) l, ?_, ?_, ?_,fun R=>(hx R).trans ?_⟩
  ·simp only[pre_heapBuild,andd,dec_iff,ble_iff,siftL_len];omega
  ·simp only[mu_heapBuild];omega
  ·have e:onL (Go.Sort.heapBuild ltI b f (k+1)) l=onL (Go.Sort.heapBuild ltI b f k) (onL (Go.Sort.siftDown ltI b f k) l):=by
    unfold onL
    rw[Go.Sort.heapBuild]
   simp only[res_heapBuild,Int.toNat_natCast,show ((k:Int)-1+1).toNat=k by omega,show ((k:Int)+1).toNat=k+1 by omega,e]
  ·rfl
 ·left
  intro R
  refine(hx R).trans ?_
  have e:i = -1:=by omega
  subst e
  simp only[hi',decide_false]
  rfl
def g_heapBuild:St→Cont→Option Fin:=gP sh_heapBuild (fun v=>match v with | ((first,lo,hi,i,()),(l,()))=>pre_heapBuild first lo hi i l) (fun v K=>match v with | ((first,lo,hi,i,()),(l,()))=>res_heapBuild first lo hi i l K)
def L_heapBuild:LpL:=(4,g_heapBuild)::L_heapPop
def cx_heapBuild:Cx:=(cb_heap).withLoops (look L_heapBuild)
theorem l_heapBuild {L:LpL} (n:Nat) (h1:L.drop n=L_heapPop) (h2:idsFree (L.take n) (loopOf Tryz.f174 0)=true):LoopsTo g_heapBuild (cb_heap) (loopOf Tryz.f174 0) 4 L :=
 with_drop h1 h2 (gP_ok (fun v=>match v with | ((first,lo,hi,i,()),(l,()))=>mu_heapBuild first lo hi i l) fun v K hI=>by
  obtain⟨⟨first,lo,hi,i,⟨⟩⟩,⟨l,⟨⟩⟩⟩:=v
  exact(r_heapBuild first lo hi i l K hI).imp id fun⟨first',lo',hi',i',l',h⟩=>⟨((first',lo',hi',i',()),(l',())),h⟩)
theorem y_slices_heapSortOrdered_byte (l:List Int) (a:Int) (b:Int):evFn cx_heapBuild Tryz.f174 false [.one (.own 0),ofD TI64 a,ofD TI64 b] [.lis 5 TU8 l]=(
need (!decide (2=0)) <|
need (pre_heapBuild a 0 (W64 (b-a)) (W64 ((W64 (W64 (b-a)-1)).tdiv 2)) l) <|
need (pre_heapPop a 0 (W64 (W64 (b-a)-1)) (onL (Go.Sort.heapBuild ltI (W64 (b-a)).toNat a.toNat (W64 ((W64 (W64 (b-a)-1)).tdiv 2)+1).toNat) l)) <| some ((.tup []),[(0,(.some (.lis 5 TU8 (onL (Go.Sort.heapPop ltI a.toNat (W64 (W64 (b-a)-1)+1).toNat) (onL (Go.Sort.heapBuild ltI (W64 (b-a)).toNat a.toNat (W64 ((W64 (W64 (b-a)-1)).tdiv 2)+1).toNat) l)))))])):=by kernel_rfl
theorem s_slices_heapSortOrdered_byte (l:List (Int)) (_hl:Fit (.list TU8) l) (a:Int) (_ha:Fit TI64 a) (b:Int) (_hb:Fit TI64 b) (hpre:(decide (0≤a)&&(decide (a≤b)&&(decide (b≤(List.length l:Int))&&Nat.ble (List.length l) 1000000)))=true):Sat Tryz.prog 174 [.one (.own 0),ofD TI64 a,ofD TI64 b] [.lis 5 TU8 l] (.tup []) [(0,some (.lis 5 TU8 (srt a.toNat b.toNat l)))] :=
 fn_sound (cx:=cx_heapBuild) Tryz.func174 rfl ttOk Γ33ok mixed (fun c hc=>LoopsOk.all (l:=[(4,loopOf Tryz.f174 0),(8,loopOf Tryz.f174 1)]) (by cases hc;kernel_rfl) ⟨atLoop rfl (l_heapBuild 1 rfl (by kernel_rfl)),atLoop rfl (l_heapPop 2 rfl (by kernel_rfl)),trivial⟩) (ro:=false) (by
  simp only[andd,dec_iff,ble_iff]at hpre
  obtain⟨h0,h1,h2,h3⟩:=hpre
  obtain⟨x,rfl⟩:=Int.eq_ofNat_of_zero_le h0
  obtain⟨y,rfl⟩:=Int.eq_ofNat_of_zero_le (Int.le_trans h0 h1)
  have w1:W64 ((y:Int)-x)=(y:Int)-x:=wrap_small (by omega) (by omega)
  have w2:W64 ((y:Int)-x-1)=(y:Int)-x-1:=wrap_small (by omega) (by omega)
  have t:((y:Int)-x-1).tdiv 2+1=((y-x-1) / 2+1:Nat):=by
   by_cases h:y=x
   ·subst h;rw[show ((y:Int)-y-1) = -1 by omega];simp
   ·rw[show ((y:Int)-x-1)=((y-x-1:Nat):Int)by omega,show ((y-x-1:Nat):Int).tdiv 2=(((y-x-1) / 2:Nat):Int)from rfl];rfl
  have w3:W64 (((y:Int)-x-1).tdiv 2)=((y:Int)-x-1).tdiv 2:=wrap_small (by omega) (by omega)
  have t1:((y:Int)-x).toNat=y-x:=by omega
  have t2:((y:Int)-x-1+1).toNat=y-x:=by omega
  have t3:(((y:Int)-x-1).tdiv 2+1).toNat=(y-x-1) / 2+1:=by omega
  have hp:pre_heapBuild x 0 ((y:Int)-x) (((y:Int)-x-1).tdiv 2) l=true:=by simp only[pre_heapBuild,andd,dec_iff,ble_iff];omega
  have hn:(onL (Go.Sort.heapBuild ltI (y-x) x ((y-x-1) / 2+1)) l).length=l.length:=onL_len (fun d=>heapBuild_size _ _ _ d) l
  have hq:pre_heapPop x 0 ((y:Int)-x-1) (onL (Go.Sort.heapBuild ltI (y-x) x ((y-x-1) / 2+1)) l)=true:=by simp only[pre_heapPop,andd,dec_iff,ble_iff,hn,true_and];omega
  rw[y_slices_heapSortOrdered_byte]
  simp only[w1,w2,w3,t1,t2,t3,Int.toNat_natCast,hp,hq]
  obtain⟨p,s⟩:=Go.Sort.heapSort_holds swo l.toArray x y (by omega) (by show y≤l.length;omega)
  rw[← srt_of (by omega) (by omega) p s]
  rfl)
def c_slices_heapSortOrdered_byte:Con:=conL 5 TU8 [TI64,TI64] fun(l:List (Int)) (a:Int) (b:Int)=>(some (decide (0≤a)&&(decide (a≤b)&&(decide (b≤(List.length l:Int))&&Nat.ble (List.length l) 1000000))), .tup [],srt a.toNat b.toNat l)
theorem k_slices_heapSortOrdered_byte:ConOk Tryz.prog 174 c_slices_heapSortOrdered_byte:=conL_ok rfl Tryz.call174 fun l hl a ha b hb hqq=>s_slices_heapSortOrdered_byte l hl a ha b hb (pre_of hqq)
def Γ34:GL:=(174,c_slices_heapSortOrdered_byte)::Γ33
theorem Γ34ok:GO Γ34 := .cons k_slices_heapSortOrdered_byte Γ33ok
end
end Go.Proofs.YtmeiebnfmhddnaaGreatDoor.Ev
