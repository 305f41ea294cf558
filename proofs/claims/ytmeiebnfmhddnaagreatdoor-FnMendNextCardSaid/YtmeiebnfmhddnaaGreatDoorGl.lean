/-
  Sorting of bytes: the recursion.
-/
import Derived.Test.YtmeiebnfmhddnaaGreatDoorGk
namespace Go.Proofs.YtmeiebnfmhddnaaGreatDoor.Ev
open Go
noncomputable section
set_option maxHeartbeats 1000000
def belB (l:List Int) (a b:Int):Bool:=@decide (Go.Sort.Below ltI a.toNat b.toNat l.toArray) (Classical.propDecidable _)
def pdP (n:Nat) (l:List Int) (a b lim:Int):Bool:=decide (0≤a)&&(decide (a≤b)&&(decide (b≤(List.length l:Int))&&(Nat.ble (List.length l) 1000000&&(decide (b-a<50)&&(decide (b-a<(n:Int))&&(decide (0≤lim)&&(decide (lim≤1000)&&belB l a b)))))))
theorem pdP_iff {n:Nat} {l:List Int} {a b lim:Int}:pdP n l a b lim=true↔0≤a∧a≤b∧b≤(l.length:Int)∧l.length≤1000000∧b-a<50∧b-a<(n:Int)∧0≤lim∧lim≤1000∧Go.Sort.Below ltI a.toNat b.toNat l.toArray:=by
 unfold pdP belB
 simp only[andd,dec_iff,ble_iff,@decide_eq_true_iff _ (Classical.propDecidable _)]
def c_pdq (n:Nat):Con:=conL 5 TU8 [TI64,TI64,TI64] fun(l:List Int) (a b lim:Int)=>(some (pdP n l a b lim), .tup [],srt a.toNat b.toNat l)
def Γp (n:Nat):List (Nat×Con):=(156,c_pdq n)::Γ46
def cb_pdq (n:Nat):Cx:=cxOf (Γp n) Tryz.f156.ntmps [(2,[0,1,2,3,8,9])] [(0,[]),(1,[0,1,2,3,8,9]),(1000000,[])] [] []
abbrev insP (l:List Int) (a b:Int):Bool:=decide (0≤a)&&(decide (a≤1000000)&&(decide (b≤(List.length l:Int))&&Nat.ble (List.length l) 1000000))
abbrev heaP (l:List Int) (a b:Int):Bool:=decide (0≤a)&&(decide (a≤b)&&(decide (b≤(List.length l:Int))&&Nat.ble (List.length l) 1000000))
abbrev revP (l:List Int) (a b:Int):Bool:=decide (0≤a)&&(decide (a<b)&&(decide (b≤(List.length l:Int))&&Nat.ble (List.length l) 1000000))
abbrev revV (l:List Int) (a b:Int):List Int:=onL (fun d=>Go.Sort.reverseRange d a.toNat b.toNat) l
abbrev stP (a b lim:Int) (wb wp:Bool) (l:List Int):St:=⟨[(0, .d (.one (.own 0))),(1,vI a),(2,vI b),(3,vI lim),(8,vB wb),(9,vB wp)],[(0,some (.lis 5 TU8 l))]⟩
abbrev endP (l:List Int):St:=⟨[],[(0,some (.lis 5 TU8 l))]⟩
def pd3 (n:Nat) (l:List Int) (a b lim pv:Int) (wb wp:Bool) (len:Int) (R:St→Option Fin):Option Fin :=
 need (bif decide (decide (0<a)=true)then inb (W64 (a-1)) l.length else true) <|
 need (bif decide (decide (0<a)=true)then inb pv l.length else true) <|
 branch (bif decide (0<a)then !ltI (l.getD (W64 (a-1)).toNat 0) (l.getD pv.toNat 0)else false)
  (need (parP l a b pv) <| R (stP (parE l a b pv).1 b lim wb wp (parE l a b pv).2))
  (need (parP l a b pv) <|
   branch (decide (W64 ((parN l a b pv).1-a)<W64 (b-(parN l a b pv).1)))
    (need (pdP n (parN l a b pv).2.2 a (parN l a b pv).1 lim) <| R (stP (W64 ((parN l a b pv).1+1)) b lim (decide (W64 (len.tdiv 8)≤W64 ((parN l a b pv).1-a))) (parN l a b pv).2.1 (srt a.toNat ((parN l a b pv).1:Int).toNat (parN l a b pv).2.2)))
    (need (pdP n (parN l a b pv).2.2 (W64 ((parN l a b pv).1+1)) b lim) <| R (stP a (parN l a b pv).1 lim (decide (W64 (len.tdiv 8)≤W64 (b-(parN l a b pv).1))) (parN l a b pv).2.1 (srt (W64 ((parN l a b pv).1+1)).toNat b.toNat (parN l a b pv).2.2))))
def pd2 (n:Nat) (l:List Int) (a b lim pv hint:Int) (wb wp:Bool) (len:Int) (R:St→Option Fin) (K:Cont):Option Fin :=
 branch (bif (bif wb then wp else false)then decide (hint=1)else false)
  (need (brkP l a b) <| branch (isSrt l a b) (K .ret (endP l)) (pd3 n l a b lim pv wb wp len R)) (pd3 n l a b lim pv wb wp len R)
def pd1 (n:Nat) (l:List Int) (a b lim:Int) (wb wp:Bool) (len:Int) (R:St→Option Fin) (K:Cont):Option Fin :=
 need (brkP l a b) <| branch (decide (hintV (chM l a b).2=2))
  (need (revP l a b) <| pd2 n (revV l a b) a b lim (W64 (W64 (b-1)-W64 ((chM l a b).1-a))) 1 wb wp len R K)
  (pd2 n l a b lim (chM l a b).1 (hintV (chM l a b).2) wb wp len R K)
theorem x_pdq (n:Nat) (l:List Int) (a b lim:Int) (wb wp:Bool) (R:St→Option Fin) (K:Cont):evC ((cb_pdq n).withLoops (look [])) (loopOf Tryz.f156 0) (stP a b lim wb wp l) (onward (headAt ((cb_pdq n).withLoops (look [])) 2) R K)=(
 branch (decide (W64 (b-a)≤12)) (need (insP l a b) <| K .ret (endP (srt a.toNat b.toNat l))) <|
 branch (decide (lim=0)) (need (heaP l a b) <| K .ret (endP (srt a.toNat b.toNat l))) <|
 branch (!wb) (need (brkP l a b) <| pd1 n (brkV l a b) a b (W64 (lim-1)) wb wp (W64 (b-a)) R K) (pd1 n l a b lim wb wp (W64 (b-a)) R K)):=by kernel_rfl
theorem srt_spec {x y:Nat} {l:List Int} (h1:x≤y) (h2:y≤l.length):Go.Sort.PermIn x y l.toArray (srt x y l).toArray∧Go.Sort.SortedIn ltI x y (srt x y l).toArray:=by
 rw[onL_arr];exact Go.Sort.insertionSort_holds swo l.toArray x y h1 h2
theorem srt_perm {x y:Nat} {l m:List Int} (h1:x≤y) (h2:y≤l.length) (h:permL x y l m):srt x y m=srt x y l:=by
 have hm:y≤m.length:=by rw[permL_len h];exact h2
 obtain⟨q1,q2⟩:=srt_spec h1 hm
 exact(show (srt x y m).toArray.toList=srt x y l from srt_of h1 h2 (Go.Sort.permIn_trans _ _ _ _ _ h q1) q2)
theorem srt_len' {x y:Nat} {l:List Int} (h1:x≤y) (h2:y≤l.length):(srt x y l).length=l.length:=(srt_spec h1 h2).1.1
structure PdH (n:Nat) (x y:Nat) (lim:Int) (l0 l:List Int):Prop where
 h1:x+12<y
 h2:y<x+50
 h3:y-x<n+1
 h4:y≤l0.length
 h5:l0.length≤1000000
 h6:0≤lim
 h7:lim≤1000
 bel:Go.Sort.Below ltI x y l.toArray
 per:permL x y l0 l
theorem PdH.len {n x y:Nat} {lim:Int} {l0 l:List Int} (h:PdH n x y lim l0 l):l.length=l0.length:=permL_len h.per
theorem PdH.step {n x y:Nat} {lim lim':Int} {l0 l m:List Int} (h:PdH n x y lim l0 l) (g:permL x y l m) (h6:0≤lim') (h7:lim'≤1000):PdH n x y lim' l0 m :=
 ⟨h.h1,h.h2,h.h3,h.h4,h.h5,h6,h7,h.bel.perm (by show y≤l.length;rw[h.len];exact h.h4) g,permL_trans h.per g⟩
def PdG (n x y:Nat) (l0:List Int) (K:Cont) (f:(St→Option Fin)→Option Fin):Prop :=
 (∀R,f R=K .ret (endP (srt x y l0))) ∨
 ∃(a' b' lim':Int) (wb' wp':Bool) (l':List Int),pdP (n+1) l' a' b' lim'=true∧(b'-a').toNat<y-x∧srt a'.toNat b'.toNat l'=srt x y l0∧∀R,f R=R (stP a' b' lim' wb' wp' l')
theorem pd3_ok {n x y p:Nat} {lim len:Int} {l0 l:List Int} (h:PdH n x y lim l0 l) (hp1:x≤p) (hp2:p<y) (wb wp:Bool) (K:Cont):PdG n x y l0 K fun R=>pd3 n l x y lim p wb wp len R:=by
 have hl:=h.len
 have hb:y≤l.toArray.size:=by show y≤l.length;rw[hl];exact h.h4
 have hlen:y≤l.length:=hb
 have k1:=h.h1;have k2:=h.h2;have k3:=h.h3;have k5:=h.h5;have k6:=h.h6;have k7:=h.h7
 have w1:W64 ((x:Int)-1)=(x:Int)-1:=wrap_small (by omega) (by omega)
 have hP:parP l x y p=true:=parP_iff.2 (by omega)
 have i1:(bif decide (decide ((0:Int)<x)=true)then inb ((x:Int)-1) l.length else true)=true:=by
  by_cases g:(0:Int)<x
  ·rw[decide_eq_true g,inb_ok (by omega) (by omega)];rfl
  ·rw[decide_eq_false g];rfl
 have i2:(bif decide (decide ((0:Int)<x)=true)then inb (p:Int) l.length else true)=true:=by
  rw[inb_ok (by omega) (by omega)];cases decide (decide ((0:Int)<x)=true)<;>rfl
 have hz:srt x y l=srt x y l0:=srt_perm (by omega) h.h4 h.per
 cases hc:(bif decide ((0:Int)<x)then !ltI (l.getD ((x:Int)-1).toNat 0) (l.getD (p:Int).toNat 0)else false)
 ·right
  obtain⟨mid,ap,d4,hx⟩:∃mid ap d4,Go.Sort.partition ltI l.toArray x y p=(mid,ap,d4):=⟨_,_,_,rfl⟩
  obtain⟨g1,g2,g3,gA,gB,gL,gR⟩:=Go.Sort.round_part swo (Go.Sort.partition_holds ltI) hp1 hp2 hb h.bel hx
  have e1:(parN l x y p).1=mid:=by rw[parN_fst];simp only[Int.toNat_natCast];rw[hx]
  have e2:(parN l x y p).2.2=d4.toList:=by rw[parN_lst];simp only[Int.toNat_natCast];rw[hx]
  have g3':d4.toList.length=l.length:=g3
  have w2:W64 ((mid:Int)+1)=(mid:Int)+1:=wrap_small (by omega) (by omega)
  by_cases hlr:W64 ((mid:Int)-x)<W64 ((y:Int)-mid)
  ·obtain ⟨s1,s2⟩:=srt_spec (l:=d4.toList) g1 (by omega)
   obtain⟨t1,t2⟩:=gL _ s1 s2
   have sl:=srt_len' (l:=d4.toList) g1 (by omega)
   have hq:pdP n d4.toList x mid lim=true:=pdP_iff.2 ⟨by omega,by omega,by omega,by omega,by omega,by omega,k6,k7,gA⟩
   obtain⟨u1,u2⟩:=srt_spec (x:=mid+1) (y:=y) (l:=srt x mid d4.toList) (by omega) (by omega)
   obtain⟨v1,v2⟩:=t2 _ u1 u2
   refine⟨(mid:Int)+1,y,lim,decide (W64 (len.tdiv 8)≤W64 ((mid:Int)-x)),(parN l x y p).2.1,srt x mid d4.toList,pdP_iff.2 ⟨by omega,by omega,by omega,by omega,by omega,by omega,k6,k7, ?_⟩,by omega, ?_,fun R => ?_⟩
   ·rw[show ((mid:Int)+1).toNat=mid+1 by omega];exact t1
   ·rw[show ((mid:Int)+1).toNat=mid+1 by omega,Int.toNat_natCast,← hz]
    exact srt_of (d':=(srt (mid+1) y (srt x mid d4.toList)).toArray) (by omega) hlen v1 v2
   ·unfold pd3
    rw[w1,i1,i2,hc,hP,e1,e2,w2,decide_eq_true hlr]
    simp only[Int.toNat_natCast]
    rw[hq];rfl
  ·obtain ⟨s1,s2⟩:=srt_spec (x:=mid+1) (y:=y) (l:=d4.toList) (by omega) (by omega)
   obtain⟨t1,t2⟩:=gR _ s1 s2
   have sl:=srt_len' (x:=mid+1) (y:=y) (l:=d4.toList) (by omega) (by omega)
   have hq:pdP n d4.toList ((mid:Int)+1) y lim=true:=pdP_iff.2 ⟨by omega,by omega,by omega,by omega,by omega,by omega,k6,k7,by rw[show ((mid:Int)+1).toNat=mid+1 by omega];exact gB⟩
   obtain⟨u1,u2⟩:=srt_spec (x:=x) (y:=mid) (l:=srt (mid+1) y d4.toList) (by omega) (by omega)
   obtain⟨v1,v2⟩:=t2 _ u1 u2
   refine⟨x,mid,lim,decide (W64 (len.tdiv 8)≤W64 ((y:Int)-mid)),(parN l x y p).2.1,srt (mid+1) y d4.toList,pdP_iff.2 ⟨by omega,by omega,by omega,by omega,by omega,by omega,k6,k7,t1⟩,by omega, ?_,fun R => ?_⟩
   ·rw[Int.toNat_natCast,Int.toNat_natCast,← hz]
    exact srt_of (d':=(srt x mid (srt (mid+1) y d4.toList)).toArray) (by omega) hlen v1 v2
   ·unfold pd3
    rw[w1,i1,i2,hc,hP,e1,e2,w2,decide_eq_false hlr,hq,show ((mid:Int)+1).toNat=mid+1 by omega]
    simp only[Int.toNat_natCast];rfl
 ·right
  have hx0:(0:Int)<x:=by
   by_cases g:(0:Int)<x
   ·exact g
   ·rw[decide_eq_false g]at hc;cases hc
  have hnl:ltI l.toArray[x-1]! l.toArray[p]! = false:=by
   rw[decide_eq_true hx0,show ((x:Int)-1).toNat=x-1 by omega,Int.toNat_natCast]at hc
   rw[at_arr,at_arr]
   simpa using hc
  obtain⟨mid,d4,hx⟩:∃mid d4,Go.Sort.partitionEqual ltI l.toArray x y p=(mid,d4):=⟨_,_,rfl⟩
  obtain⟨g1,g2,g3,gB,gF⟩:=Go.Sort.round_eq swo (Go.Sort.partitionEqual_holds ltI) (by omega) hp1 hp2 hb h.bel hnl hx
  have e:parE l x y p=(mid,d4.toList):=by unfold parE;simp only[Int.toNat_natCast];rw[hx]
  have g3':d4.toList.length=l.length:=g3
  obtain⟨u1,u2⟩:=srt_spec (x:=mid) (y:=y) (l:=d4.toList) (by omega) (by omega)
  obtain⟨v1,v2⟩:=gF _ u1 u2
  refine⟨mid,y,lim,wb,wp,d4.toList,pdP_iff.2 ⟨by omega,by omega,by omega,by omega,by omega,by omega,k6,k7,gB⟩,by omega, ?_,fun R => ?_⟩
  ·rw[Int.toNat_natCast,Int.toNat_natCast,← hz]
   exact srt_of (d':=(srt mid y d4.toList).toArray) (by omega) hlen v1 v2
  ·unfold pd3
   rw[w1,i1,i2,hc,hP,e];rfl
theorem PdH.brk {n x y:Nat} {lim:Int} {l0 l:List Int} (h:PdH n x y lim l0 l):brkP l x y=true:=by
 have hl:=h.len
 have k1:=h.h1;have k2:=h.h2;have k4:=h.h4;have k5:=h.h5
 unfold brkP
 simp only[andd,dec_iff,ble_iff];omega
theorem pd2_ok {n x y:Nat} {lim len pv hint:Int} {l0 l:List Int} (h:PdH n x y lim l0 l) (hp1:(x:Int)≤pv) (hp2:pv<(y:Int)) (wb wp:Bool) (K:Cont):PdG n x y l0 K fun R=>pd2 n l x y lim pv hint wb wp len R K:=by
 obtain⟨p,rfl⟩:=Int.eq_ofNat_of_zero_le (show 0≤pv by omega)
 have key:=pd3_ok (len:=len) h (p:=p) (by omega) (by omega) wb wp K
 unfold pd2
 cases (bif (bif wb then wp else false)then decide (hint=1)else false)
 ·exact key
 ·cases hs:isSrt l x y
  ·rcases key with key | ⟨a',b',lim',wb',wp',l',q1,q2,q3,q4⟩
   ·exact .inl fun R=>by show need (brkP l x y) _=_;rw[h.brk];exact key R
   ·exact .inr ⟨a',b',lim',wb',wp',l',q1,q2,q3,fun R=>by show need (brkP l x y) _=_;rw[h.brk];exact q4 R⟩
  ·left
   intro R
   have k1:=h.h1
   have hl:=h.len
   have k4:=h.h4
   have hs':(scanN l y (x+1):Int)=y:=by
    unfold isSrt at hs
    simpa using hs
   have sp:=Go.Sort.scanSorted_spec swo x y l.toArray _ (x+1) rfl (by omega) (fun i j g1 g2 g3=>by omega)
   have hso:Go.Sort.SortedIn ltI x y l.toArray:=by
    have:Go.Sort.scanSorted ltI l.toArray y (x+1)=y:=by exact_mod_cast hs'
    rw[this]at sp
    exact sp.2.2
   have e:l=srt x y l:=srt_of (d':=l.toArray) (by omega) (by omega) (Go.Sort.permIn_refl _ _ _) hso
   have e2:srt x y l=srt x y l0:=srt_perm (by omega) h.h4 h.per
   show need (brkP l x y) _=_
   rw[h.brk,← e2,← e];rfl
theorem chM_in {n x y:Nat} {lim:Int} {l0 l:List Int} (h:PdH n x y lim l0 l):(x:Int)≤(chM l x y).1∧(chM l x y).1<(y:Int):=by
 have k1:=h.h1;have k4:=h.h4;have k5:=h.h5
 have q:∀k:Int,0≤k→k≤3→(x:Int)≤chI x y k∧chI x y k<(y:Int):=fun k g1 g2=>by
  obtain⟨_,g3,g4⟩:=chI_eq (a:=(x:Int)) (b:=(y:Int)) (by omega) (by omega) (by omega) g1 g2
  exact⟨g3,g4 (by omega)⟩
 exact med_in l _ _ _ 0 (fun z=>(x:Int)≤z∧z<(y:Int)) (q 1 (by omega) (by omega)) (q 2 (by omega) (by omega)) (q 3 (by omega) (by omega))
theorem pd1_ok {n x y:Nat} {lim len:Int} {l0 l:List Int} (h:PdH n x y lim l0 l) (wb wp:Bool) (K:Cont):PdG n x y l0 K fun R=>pd1 n l x y lim wb wp len R K:=by
 have hl:=h.len
 have k1:=h.h1;have k2:=h.h2;have k4:=h.h4;have k5:=h.h5
 obtain⟨c1,c2⟩:=chM_in h
 have hr:revP l x y=true:=by
  show(decide (0≤(x:Int))&&(decide ((x:Int)<y)&&(decide ((y:Int)≤(List.length l:Int))&&Nat.ble (List.length l) 1000000)))=true
  simp only[andd,dec_iff,ble_iff];omega
 have hrev:permL x y l (revV l x y):=by
  show Go.Sort.PermIn x y l.toArray (onL (fun d=>Go.Sort.reverseRange d (x:Int).toNat (y:Int).toNat) l).toArray
  rw[onL_arr,Int.toNat_natCast,Int.toNat_natCast]
  exact Go.Sort.reverseRange_holds _ _ _ (by omega) (by show y≤l.length;omega)
 unfold pd1
 simp only[h.brk,hr]
 generalize (chM l x y).1=p at *
 generalize hintV (chM l x y).2=t
 have w1:W64 ((y:Int)-1)=(y:Int)-1:=wrap_small (by omega) (by omega)
 have w2:W64 (p-x)=p-x:=wrap_small (by omega) (by omega)
 have w3:W64 ((y:Int)-1-(p-x))=(y:Int)-1-(p-x):=wrap_small (by omega) (by omega)
 rw[w1,w2,w3]
 by_cases hc:t=2
 ·rw[decide_eq_true hc]
  exact pd2_ok (h.step hrev h.h6 h.h7) (by omega) (by omega) wb wp K
 ·rw[decide_eq_false hc]
  exact pd2_ok h (by omega) (by omega) wb wp K
theorem r_pdq (n:Nat) (a b lim:Int) (wb wp:Bool) (l:List Int) (K:Cont) (hI:pdP (n+1) l a b lim=true) :
  (∀R,evC ((cb_pdq n).withLoops (look [])) (loopOf Tryz.f156 0) (stP a b lim wb wp l) (onward (headAt ((cb_pdq n).withLoops (look [])) 2) R K)=K .ret (endP (srt a.toNat b.toNat l))) ∨
  ∃(a' b' lim':Int) (wb' wp':Bool) (l':List Int),pdP (n+1) l' a' b' lim'=true∧(b'-a').toNat<(b-a).toNat∧K .ret (endP (srt a'.toNat b'.toNat l'))=K .ret (endP (srt a.toNat b.toNat l)) ∧
   ∀R,evC ((cb_pdq n).withLoops (look [])) (loopOf Tryz.f156 0) (stP a b lim wb wp l) (onward (headAt ((cb_pdq n).withLoops (look [])) 2) R K)=R (stP a' b' lim' wb' wp' l'):=by
 obtain⟨h0,h1,h2,h3,h4,h5,h6,h7,h8⟩:=pdP_iff.1 hI
 obtain⟨x,rfl⟩:=Int.eq_ofNat_of_zero_le h0
 obtain⟨y,rfl⟩:=Int.eq_ofNat_of_zero_le (Int.le_trans h0 h1)
 have hx:=fun R=>x_pdq n l x y lim wb wp R K
 simp only[Int.toNat_natCast]at h8 hx ⊢
 have w:W64 ((y:Int)-x)=(y:Int)-x:=wrap_small (by omega) (by omega)
 have hi:insP l x y=true:=by
  show(decide (0≤(x:Int))&&(decide ((x:Int)≤1000000)&&(decide ((y:Int)≤(List.length l:Int))&&Nat.ble (List.length l) 1000000)))=true
  simp only[andd,dec_iff,ble_iff];omega
 have hh:heaP l x y=true:=by
  show(decide (0≤(x:Int))&&(decide ((x:Int)≤y)&&(decide ((y:Int)≤(List.length l:Int))&&Nat.ble (List.length l) 1000000)))=true
  simp only[andd,dec_iff,ble_iff];omega
 rw[w,hi,hh]at hx
 by_cases c1:(y:Int)-x≤12
 ·left
  intro R
  refine(hx R).trans ?_
  rw[decide_eq_true c1];rfl
 ·simp only[decide_eq_false c1,branch_false]at hx
  by_cases c2:lim=0
  ·left
   intro R
   refine(hx R).trans ?_
   rw[decide_eq_true c2];rfl
  ·simp only[decide_eq_false c2,branch_false]at hx
   have H:PdH n x y lim l l:=⟨by omega,by omega,by omega,by omega,h3,h6,h7,h8,permL_refl _ _ _⟩
   have G:∃f,PdG n x y l K f∧∀R,evC ((cb_pdq n).withLoops (look [])) (loopOf Tryz.f156 0) (stP x y lim wb wp l) (onward (headAt ((cb_pdq n).withLoops (look [])) 2) R K)=f R:=by
    cases wb
    ·have hb:=brk_perm H.brk
     simp only[Int.toNat_natCast]at hb
     have w2:W64 (lim-1)=lim-1:=wrap_small (by omega) (by omega)
     refine⟨_,pd1_ok (lim:=lim-1) (len:=(y:Int)-x) (H.step hb (by omega) (by omega)) false wp K,fun R=>(hx R).trans ?_⟩
     rw[H.brk,w2];rfl
    ·exact ⟨_,pd1_ok (len:=(y:Int)-x) H true wp K,fun R=>(hx R).trans rfl⟩
   obtain⟨f,G,hf⟩:=G
   rcases G with G | ⟨a',b',lim',wb',wp',l',q1,q2,q3,q4⟩
   ·exact .inl fun R=>(hf R).trans (G R)
   ·exact .inr ⟨a',b',lim',wb',wp',l',q1,by omega,by rw[q3],fun R=>(hf R).trans (q4 R)⟩
def sh_pdq:Sh:=([(0, .own 0),(1, .d TI64),(2, .d TI64),(3, .d TI64),(8, .d .bool),(9, .d .bool)],[(0, .lis 5 TU8)])
def g_pdq (n:Nat):St→Cont→Option Fin:=gP sh_pdq (fun v=>match v with | ((a,b,lim,_wb,_wp,()),(l,()))=>pdP (n+1) l a b lim) (fun v K=>match v with | ((a,b,_lim,_wb,_wp,()),(l,()))=>K .ret (endP (srt (Int.toNat a) (Int.toNat b) l)))
def L_pdq (n:Nat):List (Nat×(St→Cont→Option Fin)):=(2,g_pdq n)::[]
def cx_pdq (n:Nat):Cx:=(cb_pdq n).withLoops (look (L_pdq n))
theorem l_pdq (n:Nat):∀st K r,g_pdq n st K=some r→∃N,iter (evC (cx_pdq n) (loopOf Tryz.f156 0)) (headAt (cx_pdq n) 2) N st K=some r :=
 with_drop (n:=1) (L:=L_pdq n) (m:=[]) (cb:=cb_pdq n) rfl (by kernel_rfl) (gP_ok (fun v=>match v with | ((a,b,_lim,_wb,_wp,()),(_l,()))=>((show Int from b)-(show Int from a)).toNat) fun v K hI=>by
  obtain⟨⟨(a:Int),(b:Int),(lim:Int),(wb:Bool),(wp:Bool),⟨⟩⟩,⟨(l:List Int),⟨⟩⟩⟩:=v
  rcases r_pdq n a b lim wb wp l K hI with h1 | ⟨a',b',lim',wb',wp',l',h1,h2,h3,h4⟩
  ·exact .inl h1
  ·exact .inr ⟨((a',b',lim',wb',wp',()),(l',())),h1,h2,h3,h4⟩)
theorem y_pdq (n:Nat) (l:List Int) (a b lim:Int):evFn (cx_pdq n) Tryz.f156 false [.one (.own 0),ofD TI64 a,ofD TI64 b,ofD TI64 lim] [.lis 5 TU8 l]=need (pdP (n+1) l a b lim) (some (.tup [],[(0,some (.lis 5 TU8 (srt a.toNat b.toNat l)))])):=by kernel_rfl
theorem k_pdq:∀n,ConOk Tryz.prog 156 (c_pdq n)
 |0=>conL_ok rfl Tryz.call156 fun l hl a ha b hb lim hlim hqq=>by
  obtain⟨_,h1,_,_,_,h5,_⟩:=pdP_iff.1 (pre_of hqq)
  omega
 |n+1=>conL_ok rfl Tryz.call156 fun l hl a ha b hb lim hlim hqq =>
  fn_sound (cx:=cx_pdq n) Tryz.func156 rfl ttOk (.cons (k_pdq n) Γ46ok) mixed (fun c hc=>LoopsOk.all (l:=[(2,loopOf Tryz.f156 0)]) (by cases hc;kernel_rfl) ⟨atLoop rfl (l_pdq n),trivial⟩) (ro:=false) (by
   have hp:pdP (n+1) l a b lim=true:=pre_of hqq
   exact(y_pdq n l a b lim).trans (by rw[hp];rfl))
def c_slices_pdqsortOrdered_byte:Con:=c_pdq 50
theorem k_slices_pdqsortOrdered_byte:ConOk Tryz.prog 156 c_slices_pdqsortOrdered_byte:=k_pdq 50
def Γ47:GL:=(156,c_slices_pdqsortOrdered_byte)::Γ46
theorem Γ47ok:GO Γ47 := .cons k_slices_pdqsortOrdered_byte Γ46ok
theorem y_slices_Sort_byte_byte (l:List Int) :evFn (cxOf Γ47 Tryz.f133.ntmps [] [] [] []) Tryz.f133 false [.one (.own 0)] [.lis 5 TU8 l]=(
need (decide (0≤IntKind.u64.wrap (l.length:Int))&&decide (IntKind.u64.wrap (l.length:Int)<64)) <|
need (pdP 50 l 0 ((l.length:Int)) (lenV (IntKind.u64.wrap (l.length:Int)))) <| some ((.tup []),[(0,(.some (.lis 5 TU8 (srt ((0:Int).toNat) ((l.length:Int)).toNat l))))])):=by kernel_rfl
abbrev sortL (l:List Int):List Int:=srt 0 l.length l
theorem s_slices_Sort_byte_byte (l:List (Int)) (_hl:Fit (.list TU8) l)  (hpre:(Nat.blt (List.length l) 50)=true):Sat Tryz.prog 133 [.one (.own 0)] [.lis 5 TU8 l] (.tup []) [(0,some (.lis 5 TU8 (sortL l)))] :=
 fn_sound (cx:=cxOf Γ47 Tryz.f133.ntmps [] [] [] []) Tryz.func133 rfl ttOk Γ47ok mixed (fun _ _=>LoopsOk.no fun _=>rfl) (ro:=false) (by
  have h:l.length<50:=Nat.le_of_ble_eq_true hpre
  have w:IntKind.u64.wrap (l.length:Int)=(l.length:Int):=by simp only[IntKind.wrap,IntKind.bits,IntKind.signed];simp;omega
  have hlt:=(len_tab l.length (by omega)).1
  have hb:lenV (l.length:Int)≤64:=by
   have key:∀m:_root_.Fin 64,lenV ((m:Nat):Int)≤64:=by decide +kernel
   exact key ⟨l.length,by omega⟩
  have hp:pdP 50 l 0 (l.length:Int) (lenV (l.length:Int))=true:=pdP_iff.2 ⟨by omega,by omega,by omega,by omega,by omega,by omega,by omega,by omega,Or.inl rfl⟩
  rw[y_slices_Sort_byte_byte,w,decide_eq_true (by omega:(0:Int)≤(l.length:Int)),decide_eq_true (by omega:(l.length:Int)<64),hp];rfl)
def c_slices_Sort_byte_byte:Con:=conL 5 TU8 [] fun(l:List (Int))=>(some (Nat.blt (List.length l) 50), .tup [],sortL l)
theorem k_slices_Sort_byte_byte:ConOk Tryz.prog 133 c_slices_Sort_byte_byte:=conL_ok rfl Tryz.call133 fun l hl  hqq=>s_slices_Sort_byte_byte l hl  (pre_of hqq)
def Γ48:GL:=(133,c_slices_Sort_byte_byte)::Γ47
theorem Γ48ok:GO Γ48 := .cons k_slices_Sort_byte_byte Γ47ok
theorem ext_all {xs:Array Int} {n:Nat} (h:xs.size=n):xs.extract 0 n=xs:=by subst h;exact Array.extract_size
theorem sortL_perm (l:List Int):(sortL l).Perm l:=by
 obtain⟨h1,_⟩:=srt_spec (x:=0) (y:=l.length) (l:=l) (Nat.zero_le _) (Nat.le_refl _)
 have h:=h1.2.2
 rw[ext_all (n:=l.length) h1.1,ext_all (n:=l.length) rfl]at h
 exact h
theorem sortL_sorted (l:List Int):(sortL l).Pairwise (· ≤ ·):=by
 obtain⟨h1,h2⟩:=srt_spec (x:=0) (y:=l.length) (l:=l) (Nat.zero_le _) (Nat.le_refl _)
 have hs:(sortL l).length=l.length:=srt_len' (Nat.zero_le _) (Nat.le_refl _)
 rw[List.pairwise_iff_getElem]
 intro i j hi hj hij
 have:=h2 i j (Nat.zero_le _) hij (by omega)
 rw[at_arr,at_arr,getD_at hi,getD_at hj]at this
 have:=of_decide_eq_false this
 omega
theorem sortL_len (l:List Int):(sortL l).length=l.length:=srt_len' (Nat.zero_le _) (Nat.le_refl _)
end
end Go.Proofs.YtmeiebnfmhddnaaGreatDoor.Ev
