/-
  Sorting of bytes: the recursion.
-/
import Derived.Test.YtmeiebnfmhddnaaGreatDoorGk
import Derived.Lib.Bytealg
namespace Go.Proofs.YtmeiebnfmhddnaaGreatDoor.Ev
open Go
open List (length length_append length_cons length_singleton length_replicate length_set length_take length_drop mem_cons_of_mem mem_cons_self getD replicate mem_append_left mem_append_right all_eq_true drop_eq_getElem_cons drop_eq_nil_of_le append_assoc mem_singleton getElem?_append_left getElem?_append_right getElem?_eq_none getElem?_take mem_append)
noncomputable section
set_option maxHeartbeats 1000000
def belB (l:List Int) (a b:Int):Bool:=@decide (Go.Sort.Below ltI a.toNat b.toNat l.toArray) (Classical.propDecidable _)
def pdP (n:Nat) (l:List Int) (a b lim:Int):Bool:=decide (0≤a)&&(decide (a≤b)&&(decide (b≤(length l:Int))&&(Nat.ble (length l) 1000000&&(decide (b-a<50)&&(decide (b-a<(n:Int))&&(decide (0≤lim)&&(decide (lim≤1000)&&belB l a b)))))))
theorem pdP_iff {n:Nat} {l:List Int} {a b lim:Int}:pdP n l a b lim=true↔0≤a∧a≤b∧b≤(l.length:Int)∧l.length≤1000000∧b-a<50∧b-a<(n:Int)∧0≤lim∧lim≤1000∧Go.Sort.Below ltI a.toNat b.toNat l.toArray:=by
 unfold pdP belB;simp only[andd,dec_iff,ble_iff,@decide_eq_true_iff _ (Classical.propDecidable _)]
def c_pdq (n:Nat):Con:=conL 5 TU8 [TI64,TI64,TI64] fun(l:List Int) (a b lim:Int)=>(some (pdP n l a b lim), .tup [],srt a.toNat b.toNat l)
def Γp (n:Nat):List (Nat×Con):=(156,c_pdq n)::Γ44
def cb_pdq (n:Nat):Cx:=cxOf (Γp n) Tryz.f156.ntmps [(2,[0,1,2,3,8,9])] [(0,[]),(1,[0,1,2,3,8,9]),(1000000,[])] [] []
abbrev insP (l:List Int) (a b:Int):Bool:=decide (0≤a)&&(decide (a≤1000000)&&(decide (b≤(length l:Int))&&Nat.ble (length l) 1000000))
abbrev heaP (l:List Int) (a b:Int):Bool:=decide (0≤a)&&(decide (a≤b)&&(decide (b≤(length l:Int))&&Nat.ble (length l) 1000000))
abbrev revP (l:List Int) (a b:Int):Bool:=decide (0≤a)&&(decide (a<b)&&(decide (b≤(length l:Int))&&Nat.ble (length l) 1000000))
abbrev revV (l:List Int) (a b:Int):List Int:=onL (fun d=>Go.Sort.reverseRange d a.toNat b.toNat) l
abbrev stP (a b lim:Int) (wb wp:Bool) (l:List Int):St:=⟨[(0, .d (.one (.own 0))),(1,vI a),(2,vI b),(3,vI lim),(8,vB wb),(9,vB wp)],[(0,some (.lis 5 TU8 l))]⟩
abbrev endP (l:List Int):St:=⟨[],[(0,some (.lis 5 TU8 l))]⟩
def pd3 (n:Nat) (l:List Int) (a b lim pv:Int) (wb wp:Bool) (len:Int) (R:St→Option Fin):Option Fin :=
 need (bif decide (decide (0<a)=true)then inb (W64 (a-1)) l.length else true) <|
 need (bif decide (decide (0<a)=true)then inb pv l.length else true) <|
 branch (bif decide (0<a)then !ltI (l.getD (W64 (a-1)).toNat 0) (l.getD pv.toNat 0)else false)
  (need (parP l a b pv) <| R (stP (parE l a b pv).1 b lim wb wp (parE l a b pv).2))
  (need (parP l a b pv) <|
   branch (decide (W64 ((parN l a b pv).1-a)<W64 (b-(parN l a b pv).1)))
    (need (pdP n (parN l a b pv).2.2 a (parN l a b pv).1 lim) <| R (stP (W64 ((parN l a b pv).1+1)) b lim (decide (W64 (len.tdiv 8)≤W64 ((parN l a b pv).1-a))) (parN l a b pv).2.1 (srt a.toNat ((parN l a b pv).1:Int).toNat (parN l a b pv).2.2)))
    (need (pdP n (parN l a b pv).2.2 (W64 ((parN l a b pv).1+1)) b lim) <| R (stP a (parN l a b pv).1 lim (decide (W64 (len.tdiv 8)≤W64 (b-(parN l a b pv).1))) (parN l a b pv).2.1 (srt (W64 ((parN l a b pv).1+1)).toNat b.toNat (parN l a b pv).2.2))))
def pd2 (n:Nat) (l:List Int) (a b lim pv hint:Int) (wb wp:Bool) (len:Int) (R:St→Option Fin) (K:Cont):Option Fin :=
 branch (bif (bif wb then wp else false)then decide (hint=1)else false)
  (need (brkP l a b) <| branch (isSrt l a b) (K .ret (endP l)) (pd3 n l a b lim pv wb wp len R)) (pd3 n l a b lim pv wb wp len R)
def pd1 (n:Nat) (l:List Int) (a b lim:Int) (wb wp:Bool) (len:Int) (R:St→Option Fin) (K:Cont):Option Fin :=
 need (brkP l a b) <| branch (decide (hintV (chM l a b).2=2))
  (need (revP l a b) <| pd2 n (revV l a b) a b lim (W64 (W64 (b-1)-W64 ((chM l a b).1-a))) 1 wb wp len R K)
  (pd2 n l a b lim (chM l a b).1 (hintV (chM l a b).2) wb wp len R K)
theorem x_pdq (n:Nat) (l:List Int) (a b lim:Int) (wb wp:Bool) (R:St→Option Fin) (K:Cont):evC ((cb_pdq n).withLoops (look [])) (loopOf Tryz.f156 0) (stP a b lim wb wp l) (onward (headAt ((cb_pdq n).withLoops (look [])) 2) R K)=(
 branch (decide (W64 (b-a)≤12)) (need (insP l a b) <| K .ret (endP (srt a.toNat b.toNat l))) <|
 branch (decide (lim=0)) (need (heaP l a b) <| K .ret (endP (srt a.toNat b.toNat l))) <|
 branch (!wb) (need (brkP l a b) <| pd1 n (brkV l a b) a b (W64 (lim-1)) wb wp (W64 (b-a)) R K) (pd1 n l a b lim wb wp (W64 (b-a)) R K)):=by kernel_rfl
theorem srt_spec {x y:Nat} {l:List Int} (h1:x≤y) (h2:y≤l.length):Go.Sort.PermIn x y l.toArray (srt x y l).toArray∧Go.Sort.SortedIn ltI x y (srt x y l).toArray:=by
 rw[onL_arr];exact Go.Sort.insertionSort_holds swo l.toArray x y h1 h2
theorem srt_perm {x y:Nat} {l m:List Int} (h1:x≤y) (h2:y≤l.length) (h:permL x y l m):srt x y m=srt x y l:=by
 have hm:y≤m.length:=by rw[permL_len h];exact h2
 obtain⟨q1,q2⟩:=srt_spec h1 hm;exact(show (srt x y m).toArray.toList=srt x y l from srt_of h1 h2 (Go.Sort.permIn_trans _ _ _ _ _ h q1) q2)
theorem srt_len' {x y:Nat} {l:List Int} (h1:x≤y) (h2:y≤l.length):(srt x y l).length=l.length:=(srt_spec h1 h2).1.1
structure PdH (n:Nat) (x y:Nat) (lim:Int) (l0 l:List Int):Prop where
 h1:x+12<y
 h2:y<x+50
 h3:y-x<n+1
 h4:y≤l0.length
 h5:l0.length≤1000000
 h6:0≤lim
 h7:lim≤1000
 bel:Go.Sort.Below ltI x y l.toArray
 per:permL x y l0 l
theorem PdH.len {n x y:Nat} {lim:Int} {l0 l:List Int} (h:PdH n x y lim l0 l):l.length=l0.length:=permL_len h.per
theorem PdH.step {n x y:Nat} {lim lim':Int} {l0 l m:List Int} (h:PdH n x y lim l0 l) (g:permL x y l m) (h6:0≤lim') (h7:lim'≤1000):PdH n x y lim' l0 m :=
 ⟨h.h1,h.h2,h.h3,h.h4,h.h5,h6,h7,h.bel.perm (by show y≤l.length;rw[h.len];exact h.h4) g,permL_trans h.per g⟩
def PdG (n x y:Nat) (l0:List Int) (K:Cont) (f:(St→Option Fin)→Option Fin):Prop :=
 (∀R,f R=K .ret (endP (srt x y l0))) ∨
 ∃(a' b' lim':Int) (wb' wp':Bool) (l':List Int),pdP (n+1) l' a' b' lim'=true∧(b'-a').toNat<y-x∧srt a'.toNat b'.toNat l'=srt x y l0∧∀R,f R=R (stP a' b' lim' wb' wp' l')
theorem pd3_ok {n x y p:Nat} {lim len:Int} {l0 l:List Int} (h:PdH n x y lim l0 l) (hp1:x≤p) (hp2:p<y) (wb wp:Bool) (K:Cont):PdG n x y l0 K fun R=>pd3 n l x y lim p wb wp len R:=by
 have hl:=h.len;have hb:y≤l.toArray.size:=by show y≤l.length;rw[hl];exact h.h4
 have hlen:y≤l.length:=hb;have k1:=h.h1;have k2:=h.h2;have k3:=h.h3;have k5:=h.h5;have k6:=h.h6;have k7:=h.h7;have w1:W64 ((x:Int)-1)=(x:Int)-1:=wrap_small (by omega) (by omega);have hP:parP l x y p=true:=parP_iff.2 (by omega);have i1:(bif decide (decide ((0:Int)<x)=true)then inb ((x:Int)-1) l.length else true)=true:=by
  by_cases g:(0:Int)<x
  ·rw[zT g,inb_ok (by omega) (by omega)];rfl
  ·rw[zF g];rfl
 have i2:(bif decide (decide ((0:Int)<x)=true)then inb (p:Int) l.length else true)=true:=by
  rw[inb_ok (by omega) (by omega)];cases decide (decide ((0:Int)<x)=true)<;>rfl
 have hz:srt x y l=srt x y l0:=srt_perm (by omega) h.h4 h.per
 cases hc:(bif decide ((0:Int)<x)then !ltI (l.getD ((x:Int)-1).toNat 0) (l.getD (p:Int).toNat 0)else false)
 ·right;obtain⟨mid,ap,d4,hx⟩:∃mid ap d4,Go.Sort.partition ltI l.toArray x y p=(mid,ap,d4):=⟨_,_,_,rfl⟩;obtain⟨g1,g2,g3,gA,gB,gL,gR⟩:=Go.Sort.round_part swo (Go.Sort.partition_holds ltI) hp1 hp2 hb h.bel hx;have e1:(parN l x y p).1=mid:=by rw[parN_fst];simp only[Int.toNat_natCast];rw[hx]
  have e2:(parN l x y p).2.2=d4.toList:=by rw[parN_lst];simp only[Int.toNat_natCast];rw[hx]
  have g3':d4.toList.length=l.length:=g3;have w2:W64 ((mid:Int)+1)=(mid:Int)+1:=wrap_small (by omega) (by omega)
  by_cases hlr:W64 ((mid:Int)-x)<W64 ((y:Int)-mid)
  ·obtain ⟨s1,s2⟩:=srt_spec (l:=d4.toList) g1 (by omega);obtain⟨t1,t2⟩:=gL _ s1 s2;have sl:=srt_len' (l:=d4.toList) g1 (by omega);have hq:pdP n d4.toList x mid lim=true:=pdP_iff.2 ⟨by omega,by omega,by omega,by omega,by omega,by omega,k6,k7,gA⟩;obtain⟨u1,u2⟩:=srt_spec (x:=mid+1) (y:=y) (l:=srt x mid d4.toList) (by omega) (by omega);obtain⟨v1,v2⟩:=t2 _ u1 u2;refine⟨(mid:Int)+1,y,lim,decide (W64 (len.tdiv 8)≤W64 ((mid:Int)-x)),(parN l x y p).2.1,srt x mid d4.toList,pdP_iff.2 ⟨by omega,by omega,by omega,by omega,by omega,by omega,k6,k7, ?_⟩,by omega, ?_,fun R => ?_⟩
   ·rw[show ((mid:Int)+1).toNat=mid+1 by omega];exact t1
   ·rw[show ((mid:Int)+1).toNat=mid+1 by omega,Int.toNat_natCast,← hz];exact srt_of (d':=(srt (mid+1) y (srt x mid d4.toList)).toArray) (by omega) hlen v1 v2
   ·unfold pd3;rw[w1,i1,i2,hc,hP,e1,e2,w2,zT hlr];simp only[Int.toNat_natCast];rw[hq];rfl
  ·obtain ⟨s1,s2⟩:=srt_spec (x:=mid+1) (y:=y) (l:=d4.toList) (by omega) (by omega);obtain⟨t1,t2⟩:=gR _ s1 s2;have sl:=srt_len' (x:=mid+1) (y:=y) (l:=d4.toList) (by omega) (by omega);have hq:pdP n d4.toList ((mid:Int)+1) y lim=true:=pdP_iff.2 ⟨by omega,by omega,by omega,by omega,by omega,by omega,k6,k7,by rw[show ((mid:Int)+1).toNat=mid+1 by omega];exact gB⟩;obtain⟨u1,u2⟩:=srt_spec (x:=x) (y:=mid) (l:=srt (mid+1) y d4.toList) (by omega) (by omega);obtain⟨v1,v2⟩:=t2 _ u1 u2;refine⟨x,mid,lim,decide (W64 (len.tdiv 8)≤W64 ((y:Int)-mid)),(parN l x y p).2.1,srt (mid+1) y d4.toList,pdP_iff.2 ⟨by omega,by omega,by omega,by omega,by omega,by omega,k6,k7,t1⟩,by omega, ?_,fun R => ?_⟩
   ·rw[Int.toNat_natCast,Int.toNat_natCast,← hz];exact srt_of (d':=(srt x mid (srt (mid+1) y d4.toList)).toArray) (by omega) hlen v1 v2
   ·unfold pd3;rw[w1,i1,i2,hc,hP,e1,e2,w2,zF hlr,hq,show ((mid:Int)+1).toNat=mid+1 by omega];simp only[Int.toNat_natCast];rfl
 ·right;have hx0:(0:Int)<x:=by
   by_cases g:(0:Int)<x
   ·exact g
   ·rw[zF g]at hc;cases hc
  have hnl:ltI l.toArray[x-1]! l.toArray[p]! = false:=by
   rw[zT hx0,show ((x:Int)-1).toNat=x-1 by omega,Int.toNat_natCast]at hc;rw[at_arr,at_arr]
   simpa using hc
  obtain⟨mid,d4,hx⟩:∃mid d4,Go.Sort.partitionEqual ltI l.toArray x y p=(mid,d4):=⟨_,_,rfl⟩;obtain⟨g1,g2,g3,gB,gF⟩:=Go.Sort.round_eq swo (Go.Sort.partitionEqual_holds ltI) (by omega) hp1 hp2 hb h.bel hnl hx;have e:parE l x y p=(mid,d4.toList):=by unfold parE;simp only[Int.toNat_natCast];rw[hx]
  have g3':d4.toList.length=l.length:=g3;obtain⟨u1,u2⟩:=srt_spec (x:=mid) (y:=y) (l:=d4.toList) (by omega) (by omega);obtain⟨v1,v2⟩:=gF _ u1 u2;refine⟨mid,y,lim,wb,wp,d4.toList,pdP_iff.2 ⟨by omega,by omega,by omega,by omega,by omega,by omega,k6,k7,gB⟩,by omega, ?_,fun R => ?_⟩
  ·rw[Int.toNat_natCast,Int.toNat_natCast,← hz];exact srt_of (d':=(srt mid y d4.toList).toArray) (by omega) hlen v1 v2
  ·unfold pd3;rw[w1,i1,i2,hc,hP,e];rfl
theorem PdH.brk {n x y:Nat} {lim:Int} {l0 l:List Int} (h:PdH n x y lim l0 l):brkP l x y=true:=by
 have hl:=h.len;have k1:=h.h1;have k2:=h.h2;have k4:=h.h4;have k5:=h.h5;unfold brkP;simp only[andd,dec_iff,ble_iff];omega
theorem pd2_ok {n x y:Nat} {lim len pv hint:Int} {l0 l:List Int} (h:PdH n x y lim l0 l) (hp1:(x:Int)≤pv) (hp2:pv<(y:Int)) (wb wp:Bool) (K:Cont):PdG n x y l0 K fun R=>pd2 n l x y lim pv hint wb wp len R K:=by
 obtain⟨p,rfl⟩:=Int.eq_ofNat_of_zero_le (show 0≤pv by omega);have key:=pd3_ok (len:=len) h (p:=p) (by omega) (by omega) wb wp K;unfold pd2
 cases (bif (bif wb then wp else false)then decide (hint=1)else false)
 ·exact key
 ·cases hs:isSrt l x y
  ·rcases key with key | ⟨a',b',lim',wb',wp',l',q1,q2,q3,q4⟩
   ·exact .inl fun R=>by show need (brkP l x y) _=_;rw[h.brk];exact key R
   ·exact .inr ⟨a',b',lim',wb',wp',l',q1,q2,q3,fun R=>by show need (brkP l x y) _=_;rw[h.brk];exact q4 R⟩
  ·left;intro R;have k1:=h.h1;have hl:=h.len;have k4:=h.h4;have hs':(scanN l y (x+1):Int)=y:=by
    unfold isSrt at hs
    simpa using hs
   have sp:=Go.Sort.scanSorted_spec swo x y l.toArray _ (x+1) rfl (by omega) (fun i j g1 g2 g3=>by omega);have hso:Go.Sort.SortedIn ltI x y l.toArray:=by
    have:Go.Sort.scanSorted ltI l.toArray y (x+1)=y:=by exact_mod_cast hs'
    rw[this]at sp;exact sp.2.2
   have e:l=srt x y l:=srt_of (d':=l.toArray) (by omega) (by omega) (Go.Sort.permIn_refl _ _ _) hso;have e2:srt x y l=srt x y l0:=srt_perm (by omega) h.h4 h.per;show need (brkP l x y) _=_;rw[h.brk,← e2,← e];rfl
theorem chM_in {n x y:Nat} {lim:Int} {l0 l:List Int} (h:PdH n x y lim l0 l):(x:Int)≤(chM l x y).1∧(chM l x y).1<(y:Int):=by
 have k1:=h.h1;have k4:=h.h4;have k5:=h.h5;have q:∀k:Int,0≤k→k≤3→(x:Int)≤chI x y k∧chI x y k<(y:Int):=fun k g1 g2=>by
  obtain⟨_,g3,g4⟩:=chI_eq (a:=(x:Int)) (b:=(y:Int)) (by omega) (by omega) (by omega) g1 g2;exact⟨g3,g4 (by omega)⟩
 exact med_in l _ _ _ 0 (fun z=>(x:Int)≤z∧z<(y:Int)) (q 1 (by omega) (by omega)) (q 2 (by omega) (by omega)) (q 3 (by omega) (by omega))
theorem pd1_ok {n x y:Nat} {lim len:Int} {l0 l:List Int} (h:PdH n x y lim l0 l) (wb wp:Bool) (K:Cont):PdG n x y l0 K fun R=>pd1 n l x y lim wb wp len R K:=by
 have hl:=h.len;have k1:=h.h1;have k2:=h.h2;have k4:=h.h4;have k5:=h.h5;obtain⟨c1,c2⟩:=chM_in h;have hr:revP l x y=true:=by
  show(decide (0≤(x:Int))&&(decide ((x:Int)<y)&&(decide ((y:Int)≤(length l:Int))&&Nat.ble (length l) 1000000)))=true;simp only[andd,dec_iff,ble_iff];omega
 have hrev:permL x y l (revV l x y):=by
  show Go.Sort.PermIn x y l.toArray (onL (fun d=>Go.Sort.reverseRange d (x:Int).toNat (y:Int).toNat) l).toArray;rw[onL_arr,Int.toNat_natCast,Int.toNat_natCast];exact Go.Sort.reverseRange_holds _ _ _ (by omega) (by show y≤l.length;omega)
 unfold pd1;simp only[h.brk,hr]
 generalize (chM l x y).1=p at *
 generalize hintV (chM l x y).2=t
 have w1:W64 ((y:Int)-1)=(y:Int)-1:=wrap_small (by omega) (by omega);have w2:W64 (p-x)=p-x:=wrap_small (by omega) (by omega);have w3:W64 ((y:Int)-1-(p-x))=(y:Int)-1-(p-x):=wrap_small (by omega) (by omega);rw[w1,w2,w3]
 by_cases hc:t=2
 ·rw[zT hc];exact pd2_ok (h.step hrev h.h6 h.h7) (by omega) (by omega) wb wp K
 ·rw[zF hc];exact pd2_ok h (by omega) (by omega) wb wp K
theorem r_pdq (n:Nat) (a b lim:Int) (wb wp:Bool) (l:List Int) (K:Cont) (hI:pdP (n+1) l a b lim=true) :
  (∀R,evC ((cb_pdq n).withLoops (look [])) (loopOf Tryz.f156 0) (stP a b lim wb wp l) (onward (headAt ((cb_pdq n).withLoops (look [])) 2) R K)=K .ret (endP (srt a.toNat b.toNat l))) ∨
  ∃(a' b' lim':Int) (wb' wp':Bool) (l':List Int),pdP (n+1) l' a' b' lim'=true∧(b'-a').toNat<(b-a).toNat∧K .ret (endP (srt a'.toNat b'.toNat l'))=K .ret (endP (srt a.toNat b.toNat l)) ∧
   ∀R,evC ((cb_pdq n).withLoops (look [])) (loopOf Tryz.f156 0) (stP a b lim wb wp l) (onward (headAt ((cb_pdq n).withLoops (look [])) 2) R K)=R (stP a' b' lim' wb' wp' l'):=by
 obtain⟨h0,h1,h2,h3,h4,h5,h6,h7,h8⟩:=pdP_iff.1 hI;obtain⟨x,rfl⟩:=Int.eq_ofNat_of_zero_le h0;obtain⟨y,rfl⟩:=Int.eq_ofNat_of_zero_le (Int.le_trans h0 h1);have hx:=fun R=>x_pdq n l x y lim wb wp R K;simp only[Int.toNat_natCast]at h8 hx ⊢;have w:W64 ((y:Int)-x)=(y:Int)-x:=wrap_small (by omega) (by omega);have hi:insP l x y=true:=by
  show(decide (0≤(x:Int))&&(decide ((x:Int)≤1000000)&&(decide ((y:Int)≤(length l:Int))&&Nat.ble (length l) 1000000)))=true;simp only[andd,dec_iff,ble_iff];omega
 have hh:heaP l x y=true:=by
  show(decide (0≤(x:Int))&&(decide ((x:Int)≤y)&&(decide ((y:Int)≤(length l:Int))&&Nat.ble (length l) 1000000)))=true;simp only[andd,dec_iff,ble_iff];omega
 rw[w,hi,hh]at hx
 by_cases c1:(y:Int)-x≤12
 ·left;intro R;refine(hx R).trans ?_;rw[zT c1];rfl
 ·simp only[zF c1,branch_false]at hx
  by_cases c2:lim=0
  ·left;intro R;refine(hx R).trans ?_;rw[zT c2];rfl
  ·simp only[zF c2,branch_false]at hx;have H:PdH n x y lim l l:=⟨by omega,by omega,by omega,by omega,h3,h6,h7,h8,permL_refl _ _ _⟩;have G:∃f,PdG n x y l K f∧∀R,evC ((cb_pdq n).withLoops (look [])) (loopOf Tryz.f156 0) (stP x y lim wb wp l) (onward (headAt ((cb_pdq n).withLoops (look [])) 2) R K)=f R:=by
    cases wb
    ·have hb:=brk_perm H.brk;simp only[Int.toNat_natCast]at hb;have w2:W64 (lim-1)=lim-1:=wrap_small (by omega) (by omega);refine⟨_,pd1_ok (lim:=lim-1) (len:=(y:Int)-x) (H.step hb (by omega) (by omega)) false wp K,fun R=>(hx R).trans ?_⟩;rw[H.brk,w2];rfl
    ·exact ⟨_,pd1_ok (len:=(y:Int)-x) H true wp K,fun R=>(hx R).trans rfl⟩
   obtain⟨f,G,hf⟩:=G;rcases G with G | ⟨a',b',lim',wb',wp',l',q1,q2,q3,q4⟩
   ·exact .inl fun R=>(hf R).trans (G R)
   ·exact .inr ⟨a',b',lim',wb',wp',l',q1,by omega,by rw[q3],fun R=>(hf R).trans (q4 R)⟩
def sh_pdq:Sh:=([(0, .own 0),(1, .d TI64),(2, .d TI64),(3, .d TI64),(8, .d .bool),(9, .d .bool)],[(0, .lis 5 TU8)])
def g_pdq (n:Nat):St→Cont→Option Fin:=gP sh_pdq (fun v=>match v with | ((a,b,lim,_wb,_wp,()),(l,()))=>pdP (n+1) l a b lim) (fun v K=>match v with | ((a,b,_lim,_wb,_wp,()),(l,()))=>K .ret (endP (srt (Int.toNat a) (Int.toNat b) l)))
def L_pdq (n:Nat):List (Nat×(St→Cont→Option Fin)):=(2,g_pdq n)::[]
def cx_pdq (n:Nat):Cx:=(cb_pdq n).withLoops (look (L_pdq n))
theorem l_pdq (n:Nat):∀st K r,g_pdq n st K=some r→∃N,iter (evC (cx_pdq n) (loopOf Tryz.f156 0)) (headAt (cx_pdq n) 2) N st K=some r :=
 with_drop (n:=1) (L:=L_pdq n) (m:=[]) (cb:=cb_pdq n) rfl (by kernel_rfl) (gP_ok (fun v=>match v with | ((a,b,_lim,_wb,_wp,()),(_l,()))=>((show Int from b)-(show Int from a)).toNat) fun v K hI=>by
  obtain⟨⟨(a:Int),(b:Int),(lim:Int),(wb:Bool),(wp:Bool),⟨⟩⟩,⟨(l:List Int),⟨⟩⟩⟩:=v;rcases r_pdq n a b lim wb wp l K hI with h1 | ⟨a',b',lim',wb',wp',l',h1,h2,h3,h4⟩
  ·exact .inl h1
  ·exact .inr ⟨((a',b',lim',wb',wp',()),(l',())),h1,h2,h3,h4⟩)
theorem y_pdq (n:Nat) (l:List Int) (a b lim:Int):evFn (cx_pdq n) Tryz.f156 false [.one (.own 0),ofD TI64 a,ofD TI64 b,ofD TI64 lim] [.lis 5 TU8 l]=need (pdP (n+1) l a b lim) (some (.tup [],[(0,some (.lis 5 TU8 (srt a.toNat b.toNat l)))])):=by kernel_rfl
theorem k_pdq:∀n,ConOk Tryz.prog 156 (c_pdq n)
 |0=>conL_ok rfl Tryz.call156 fun l hl a ha b hb lim hlim hqq=>by
  obtain⟨_,h1,_,_,_,h5,_⟩:=pdP_iff.1 (pre_of hqq);omega
 |n+1=>conL_ok rfl Tryz.call156 fun l hl a ha b hb lim hlim hqq =>
  fn_sound (cx:=cx_pdq n) Tryz.func156 rfl ttOk (.cons (k_pdq n) Γ44ok) mixed (fun c hc=>LoopsOk.all (l:=[(2,loopOf Tryz.f156 0)]) (by cases hc;kernel_rfl) ⟨atLoop rfl (l_pdq n),trivial⟩) (ro:=false) (by
   have hp:pdP (n+1) l a b lim=true:=pre_of hqq;exact(y_pdq n l a b lim).trans (by rw[hp];rfl))
def c_slices_pdqsortOrdered_byte:Con:=c_pdq 50
theorem k_slices_pdqsortOrdered_byte:ConOk Tryz.prog 156 c_slices_pdqsortOrdered_byte:=k_pdq 50
def Γ45:GL:=(156,c_slices_pdqsortOrdered_byte)::Γ44
theorem Γ45ok:GO Γ45 := .cons k_slices_pdqsortOrdered_byte Γ44ok
theorem y_slices_Sort_byte_byte (l:List Int) :evFn (cxOf Γ45 Tryz.f133.ntmps [] [] [] []) Tryz.f133 false [.one (.own 0)] [.lis 5 TU8 l]=(
need (decide (0≤IntKind.u64.wrap (l.length:Int))&&decide (IntKind.u64.wrap (l.length:Int)<64)) <|
need (pdP 50 l 0 ((l.length:Int)) (lenV (IntKind.u64.wrap (l.length:Int)))) <| some ((.tup []),[(0,(.some (.lis 5 TU8 (srt ((0:Int).toNat) ((l.length:Int)).toNat l))))])):=by kernel_rfl
abbrev sortL (l:List Int):List Int:=srt 0 l.length l
theorem s_slices_Sort_byte_byte (l:List (Int)) (_hl:Fit (.list TU8) l)  (hpre:(Nat.blt (length l) 50)=true):Sat Tryz.prog 133 [.one (.own 0)] [.lis 5 TU8 l] (.tup []) [(0,some (.lis 5 TU8 (sortL l)))] :=
 fn_sound (cx:=cxOf Γ45 Tryz.f133.ntmps [] [] [] []) Tryz.func133 rfl ttOk Γ45ok mixed (fun _ _=>LoopsOk.no fun _=>rfl) (ro:=false) (by
  have h:l.length<50:=Nat.le_of_ble_eq_true hpre;have w:IntKind.u64.wrap (l.length:Int)=(l.length:Int):=by simp only[IntKind.wrap,IntKind.bits,IntKind.signed];simp;omega
  have hlt:=(len_tab l.length (by omega)).1;have hb:lenV (l.length:Int)≤64:=by
   have key:∀m:_root_.Fin 64,lenV ((m:Nat):Int)≤64:=by decide +kernel
   exact key ⟨l.length,by omega⟩
  have hp:pdP 50 l 0 (l.length:Int) (lenV (l.length:Int))=true:=pdP_iff.2 ⟨by omega,by omega,by omega,by omega,by omega,by omega,by omega,by omega,Or.inl rfl⟩;rw[y_slices_Sort_byte_byte,w,zT (by omega:(0:Int)≤(l.length:Int)),zT (by omega:(l.length:Int)<64),hp];rfl)
def c_slices_Sort_byte_byte:Con:=conL 5 TU8 [] fun(l:List (Int))=>(some (Nat.blt (length l) 50), .tup [],sortL l)
theorem k_slices_Sort_byte_byte:ConOk Tryz.prog 133 c_slices_Sort_byte_byte:=conL_ok rfl Tryz.call133 fun l hl  hqq=>s_slices_Sort_byte_byte l hl  (pre_of hqq)
def Γ46:GL:=(133,c_slices_Sort_byte_byte)::Γ45
theorem Γ46ok:GO Γ46 := .cons k_slices_Sort_byte_byte Γ45ok
theorem ext_all {xs:Array Int} {n:Nat} (h:xs.size=n):xs.extract 0 n=xs:=by subst h;exact Array.extract_size
theorem sortL_perm (l:List Int):(sortL l).Perm l:=by
 obtain⟨h1,_⟩:=srt_spec (x:=0) (y:=l.length) (l:=l) (Nat.zero_le _) (Nat.le_refl _);have h:=h1.2.2;rw[ext_all (n:=l.length) h1.1,ext_all (n:=l.length) rfl]at h;exact h
theorem sortL_sorted (l:List Int):(sortL l).Pairwise (· ≤ ·):=by
 obtain⟨h1,h2⟩:=srt_spec (x:=0) (y:=l.length) (l:=l) (Nat.zero_le _) (Nat.le_refl _);have hs:(sortL l).length=l.length:=srt_len' (Nat.zero_le _) (Nat.le_refl _);rw[List.pairwise_iff_getElem];intro i j hi hj hij;have:=h2 i j (Nat.zero_le _) hij (by omega);rw[at_arr,at_arr,getD_at hi,getD_at hj]at this;have:=of_decide_eq_false this;omega
theorem sortL_len (l:List Int):(sortL l).length=l.length:=srt_len' (Nat.zero_le _) (Nat.le_refl _)
set_option maxHeartbeats 1000000
theorem sat_move {P:Program} {f:FuncId} {ds:List D} {o0:Obj} {t:TypeId} {e:Ty} {l:List (Den e)} (S:Sat P f ds [o0] (.d (.one (.own 0))) [(0,some (.lis t e l))]) :
  Sat P f ds [o0] (.d (.one (.own 1000))) [(1000,some (.lis t e l)),(0,none)]:=by
 intro w F β args H hds;refine(S w F β args H hds).mono ?_;rintro ex w' ⟨v,F',β',r1,r2,r3,r4,r5,r6⟩;have h0:look [(0,some (Obj.lis t e l))] 0=some (some (.lis t e l)):=rfl;obtain⟨H1,_⟩:=r2.kill 0;rw[setB_self]at H1;have hs1:setH (look [(0,some (Obj.lis t e l))]) 0 none 1000=none:=rfl;have hone:∀b j o',j≠1000→setH (look [(0,some (Obj.lis t e l))]) 0 none j=some (some o')→¬Blk (β' j) b:=by
  intro b j o' _ hj
  cases j with
  |zero=>cases hj
  |succ j=>cases hj
 have T:=H1.turn (w':=w') (F':=F') 1000 (some (.lis t e l)) (β' 0) rfl rfl rfl (Nat.le_refl _) (fun b=>Blk (β' 0) b)
  (fun b hb=>⟨r2.notF 0 _ b h0 hb,hone b,r2.fromO 0 _ b h0 hb⟩)
  (fun _ _ _=>rfl) (fun _ hf=>hf) (fun _ hf => .inl hf) (fun q0 _ h0=>by rw[hs1]at h0;cases h0)
  (fun _ ob hob=>by
   cases hob
   refine⟨RepO.leaf.2 ?_,fun b hb => .inl hb⟩;have:=RepO.leaf.1 (r2.obj 0 _ h0)
   simpa [setB]using this)
 have hcomm:setH (setH (look [(0,some (Obj.lis t e l))]) 0 none) 1000 (some (.lis t e l))=look [(1000,some (Obj.lis t e l)),(0,none)]:=by
  funext j
  simp only[setH,look]
  by_cases h1:j=1000
  ·subst h1;rfl
  ·by_cases h2:j=0
   ·subst h2;rfl
   ·rw[if_neg h1,if_neg h2];have e1:Nat.beq 0 j=false:=by cases h:Nat.beq 0 j with | false=>rfl | true=>exact absurd (zB h).symm h2
    have e2:Nat.beq 1000 j=false:=by cases h:Nat.beq 1000 j with | false=>rfl | true=>exact absurd (zB h).symm h1
    rw[e1,e2];rfl
 rw[hcomm]at T;have hv:v=β' 0:=r6.2.2 _ h0;refine⟨v,F',_,r1,T.1,fun i hi => ?_,fun i o hi ho => ?_,fun _ _ _=>by simp, ?_⟩
 ·have:i=0:=by simpa using hi
  subst this;exact ⟨none,rfl⟩
 ·have:i=0:=by simpa using hi
  subst this;cases ho
 ·exact ⟨r6.1,⟨_,rfl⟩,fun o ho=>by rw[hv];simp[setB]⟩
def cb_cpt:Cx:=cxOf Γ46 Tryz.f135.ntmps [(9,[0,3,4,5]),(4,[0,3])] [(0,[0]),(1,[0,3]),(2,[0,3]),(3,[0,3,4,5]),(1000000,[2])] [] []
theorem x_cptIn (l:List Int) (k j:Int) (w:Nat) (R:St→Option Fin) (K:Cont):evC (cb_cpt.withLoops (look [])) (loopOf Tryz.f135 1) ⟨[(0, .d (.one (.own 0))),(3,vI k),(4, .d (.one (.win 0 1 w))),(5,vI j)],[(0,some (.lis 5 TU8 l))]⟩ (onward (headAt (cb_cpt.withLoops (look [])) 9) R K)=(
branch (decide (j<((l.length-w:Nat):Int))) (
 need (inb j (l.length-w)) <|
 need (inb (W64 (j-1)) (l.length-w)) <|
 branch (!decide (l.getD (w+j.toNat) 0=l.getD (w+(W64 (j-1)).toNat) 0)) (
 need (inb j (l.length-w)) <|
 need (inb k l.length) <| R ⟨[(0, .d (.one (.own 0))),(3,vI (W64 (k+1))),(4, .d (.one (.win 0 1 w))),(5,vI (W64 (j+1)))],[(0,some (.lis 5 TU8 (l.set k.toNat (l.getD (w+j.toNat) 0))))]⟩)
 (R ⟨[(0, .d (.one (.own 0))),(3,vI k),(4, .d (.one (.win 0 1 w))),(5,vI (W64 (j+1)))],[(0,some (.lis 5 TU8 l))]⟩))
 (K (.exit 2) ⟨[(0, .d (.one (.own 0))),(3,vI k)],[(0,some (.lis 5 TU8 l))]⟩)):=by kernel_rfl
def cpL:Nat→List Int→Nat→Nat→List Int×Nat
 |0,l,k,_=>(l,k)
 |m+1,l,k,p=>bif decide (l.getD p 0=l.getD (p-1) 0)then cpL m l k (p+1)else cpL m (l.set k (l.getD p 0)) (k+1) (p+1)
def cx0_cptIn:Cx:=(cb_cpt).withLoops (look [])
def sh_cptIn:Sh:=([(0, .own 0),(3, .d TI64),(4, .win 0 1),(5, .d TI64)],[(0, .lis 5 TU8)])
abbrev st_cptIn (k:Int) (w:Nat) (j:Int) (l:List (Int)):St:=⟨[(0, .d (.one (.own 0))),(3,vI k),(4, .d (.one (.win 0 1 w))),(5,vI j)],[(0,some (.lis 5 TU8 l))]⟩
def pre_cptIn (k:Int) (w:Nat) (j:Int) (l:List (Int)):Bool:=decide (0≤k)&&(decide (1≤j)&&(decide (k<(w:Int)+j)&&(decide (j≤1000001)&&(Nat.ble w (length l)&&Nat.ble (length l) 1000000))))
def res_cptIn (k:Int) (w:Nat) (j:Int) (l:List (Int)) (K:Cont):Option Fin:=K (.exit 2) ⟨[(0, .d (.one (.own 0))),(3,vI ((cpL (l.length-(w+j.toNat)) l k.toNat (w+j.toNat)).2:Nat))],[(0,some (.lis 5 TU8 (cpL (l.length-(w+j.toNat)) l k.toNat (w+j.toNat)).1))]⟩
def mu_cptIn (_k:Int) (w:Nat) (j:Int) (l:List (Int)):Nat:=l.length-(w+j.toNat)
theorem r_cptIn (k:Int) (w:Nat) (j:Int) (l:List (Int)) (K:Cont) (hI:pre_cptIn k w j l=true):(∀R:St→Option Fin,evC cx0_cptIn (loopOf Tryz.f135 1) (st_cptIn k w j l) (onward (headAt cx0_cptIn 9) R K)=res_cptIn k w j l K) ∨
  (∃(k':Int) (w':Nat) (j':Int) (l':List (Int)),pre_cptIn k' w' j' l'=true∧mu_cptIn k' w' j' l'<mu_cptIn k w j l∧res_cptIn k' w' j' l' K=res_cptIn k w j l K∧∀R:St→Option Fin,evC cx0_cptIn (loopOf Tryz.f135 1) (st_cptIn k w j l) (onward (headAt cx0_cptIn 9) R K)=R (st_cptIn k' w' j' l')):=by
 have hx:=fun R=>x_cptIn l k j w R K;simp only[pre_cptIn,andd,dec_iff,ble_iff]at hI;obtain⟨h0,h1,h2,h3,h4,h5⟩:=hI;have w1:W64 (j-1)=j-1:=wrap_small (by omega) (by omega);have w2:W64 (j+1)=j+1:=wrap_small (by omega) (by omega);have t1:w+(j-1).toNat=w+j.toNat-1:=by omega
 have t2:w+(j+1).toNat=w+j.toNat+1:=by omega
 rw[w1,w2,t1]at hx
 by_cases hi:j<((l.length-w:Nat):Int)
 ·have b1:inb j (l.length-w)=true:=inb_ok (by omega) hi;have b2:inb (j-1) (l.length-w)=true:=inb_ok (by omega) (by omega);have b3:inb k l.length=true:=inb_ok (by omega) (by omega);have w3:W64 (k+1)=k+1:=wrap_small (by omega) (by omega);obtain⟨m,hm⟩:∃m,l.length-(w+j.toNat)=m+1:=⟨l.length-(w+j.toNat)-1,by omega⟩;have hm':l.length-(w+j.toNat+1)=m:=by omega
  simp only[hi,decide_true,b1,b2,b3,w3]at hx;right
  cases hc:decide (l.getD (w+j.toNat) 0=l.getD (w+j.toNat-1) 0)
  ·refine ⟨k+1,w,j+1,l.set k.toNat (l.getD (w+j.toNat) 0), ?_, ?_, ?_,fun R=>(hx R).trans ?_⟩
   ·simp only[pre_cptIn,andd,dec_iff,ble_iff,length_set];omega
   ·simp only[mu_cptIn,length_set];omega
   ·simp only[res_cptIn,length_set,t2,hm,hm',show (k+1).toNat=k.toNat+1 by omega,cpL,hc];rfl
   ·rw[hc];rfl
  ·refine ⟨k,w,j+1,l, ?_, ?_, ?_,fun R=>(hx R).trans ?_⟩
   ·simp only[pre_cptIn,andd,dec_iff,ble_iff];omega
   ·simp only[mu_cptIn];omega
   ·simp only[res_cptIn,t2,hm,hm',cpL,hc];rfl
   ·rw[hc];rfl
 ·left;intro R;refine(hx R).trans ?_;simp only[hi,decide_false,res_cptIn,show l.length-(w+j.toNat)=0 by omega,cpL,Int.toNat_of_nonneg h0];rfl
def g_cptIn:St→Cont→Option Fin:=gP sh_cptIn (fun v=>match v with | ((k,w,j,()),(l,()))=>pre_cptIn k w j l) (fun v K=>match v with | ((k,w,j,()),(l,()))=>res_cptIn k w j l K)
def L_cptIn:LpL:=(9,g_cptIn)::[]
def cx_cptIn:Cx:=(cb_cpt).withLoops (look L_cptIn)
theorem l_cptIn {L:LpL} (n:Nat) (h1:L.drop n=[]) (h2:idsFree (L.take n) (loopOf Tryz.f135 1)=true):LoopsTo g_cptIn (cb_cpt) (loopOf Tryz.f135 1) 9 L :=
 with_drop h1 h2 (gP_ok (fun v=>match v with | ((k,w,j,()),(l,()))=>mu_cptIn k w j l) fun v K hI=>by
  obtain⟨⟨k,w,j,⟨⟩⟩,⟨l,⟨⟩⟩⟩:=v;exact(r_cptIn k w j l K hI).imp id fun⟨k',w',j',l',h⟩=>⟨((k',w',j',()),(l',())),h⟩)
abbrev cpE (l:List Int) (k:Nat):List Int×Nat:=cpL (l.length-(k+1)) l k (k+1)
abbrev cpO (l:List Int) (k:Nat):List Int:=List.take (cpE l k).2 (clrL (e:=TU8) (cpE l k).1 (cpE l k).2)
theorem cpL_len:∀(m:Nat) (l:List Int) (k p:Nat),(cpL m l k p).1.length=l.length∧k≤(cpL m l k p).2∧(cpL m l k p).2≤k+m
 |0,l,k,p=>⟨rfl,Nat.le_refl _,Nat.le_refl _⟩
 |m+1,l,k,p=>by
  unfold cpL
  cases decide (l.getD p 0=l.getD (p-1) 0)
  ·obtain ⟨h1,h2,h3⟩:=cpL_len m (l.set k (l.getD p 0)) (k+1) (p+1);rw[length_set]at h1;simp only[cond_false];omega
  ·obtain ⟨h1,h2,h3⟩:=cpL_len m l k (p+1);simp only[cond_true];omega
theorem clr_len {l:List Int} {k:Nat} (h:k≤l.length):length (clrL (e:=TU8) l k)=l.length:=by
 show length (List.take k l++replicate (l.length-k) (0:Int))=_;rw[length_append,length_take,length_replicate];omega
theorem x_cptOut (l:List Int) (k:Int) (R:St→Option Fin) (K:Cont):evC cx_cptIn (loopOf Tryz.f135 0) ⟨[(0, .d (.one (.own 0))),(3,vI k)],[(0,some (.lis 5 TU8 l))]⟩ (onward (headAt cx_cptIn 4) R K)=(
branch (decide (k<(l.length:Int))) (
 need (inb k l.length) <|
 need (inb (W64 (k-1)) l.length) <|
 branch (decide (l.getD k.toNat 0=l.getD (W64 (k-1)).toNat 0)) (
 need (inr k (l.length:Int) l.length&&Nat.blt 0 l.length) <|
 need (pre_cptIn k k.toNat 1 l) <|
 need (inr ((cpE l k.toNat).2:Nat) ((cpE l k.toNat).1.length:Int) (cpE l k.toNat).1.length&&Nat.blt 0 (cpE l k.toNat).1.length) <|
 need (Nat.blt (cpE l k.toNat).2 (cpE l k.toNat).1.length) <|
 need (inr 0 ((cpE l k.toNat).2:Nat) (clrL (e:=TU8) (cpE l k.toNat).1 (cpE l k.toNat).2).length) <|
 K .ret ⟨[(2, ko0)],[(500000,some (.lis 5 TU8 (cpO l k.toNat)))]⟩)
 (R ⟨[(0, .d (.one (.own 0))),(3,vI (W64 (k+1)))],[(0,some (.lis 5 TU8 l))]⟩))
 (K (.exit 0) ⟨[(0, .d (.one (.own 0)))],[(0,some (.lis 5 TU8 l))]⟩)):=by kernel_rfl
def dupF (l:List Int):Nat→Nat→Option Nat
 |0,_=>none
 |m+1,k=>bif decide (l.getD k 0=l.getD (k-1) 0)then some k else dupF l m (k+1)
def cpRes (l:List Int) (K:Cont):Option Nat→Option Fin
 |some q=>K .ret ⟨[(2, ko0)],[(500000,some (.lis 5 TU8 (cpO l q)))]⟩
 |none=>K (.exit 0) ⟨[(0, .d (.one (.own 0)))],[(0,some (.lis 5 TU8 l))]⟩
def cx0_cptOut:Cx:=(cb_cpt).withLoops (look L_cptIn)
def sh_cptOut:Sh:=([(0, .own 0),(3, .d TI64)],[(0, .lis 5 TU8)])
abbrev st_cptOut (k:Int) (l:List (Int)):St:=⟨[(0, .d (.one (.own 0))),(3,vI k)],[(0,some (.lis 5 TU8 l))]⟩
def pre_cptOut (k:Int) (l:List (Int)):Bool:=decide (1≤k)&&(decide (k≤1000001)&&Nat.ble (length l) 1000000)
def res_cptOut (k:Int) (l:List (Int)) (K:Cont):Option Fin:=cpRes l K (dupF l (l.length-k.toNat) k.toNat)
def mu_cptOut (k:Int) (l:List (Int)):Nat:=l.length-k.toNat
theorem r_cptOut (k:Int) (l:List (Int)) (K:Cont) (hI:pre_cptOut k l=true):(∀R:St→Option Fin,evC cx0_cptOut (loopOf Tryz.f135 0) (st_cptOut k l) (onward (headAt cx0_cptOut 4) R K)=res_cptOut k l K) ∨
  (∃(k':Int) (l':List (Int)),pre_cptOut k' l'=true∧mu_cptOut k' l'<mu_cptOut k l∧res_cptOut k' l' K=res_cptOut k l K∧∀R:St→Option Fin,evC cx0_cptOut (loopOf Tryz.f135 0) (st_cptOut k l) (onward (headAt cx0_cptOut 4) R K)=R (st_cptOut k' l')):=by
 have hx:=fun R=>x_cptOut l k R K;simp only[pre_cptOut,andd,dec_iff,ble_iff]at hI;obtain⟨h0,h1,h2⟩:=hI;obtain⟨q,rfl⟩:=Int.eq_ofNat_of_zero_le (show 0≤k by omega);have w1:W64 ((q:Int)-1)=(q:Int)-1:=wrap_small (by omega) (by omega);have t1:((q:Int)-1).toNat=q-1:=by omega
 simp only[w1,t1,Int.toNat_natCast]at hx
 by_cases hi:q<l.length
 ·have b1:inb (q:Int) l.length=true:=inb_ok (by omega) (by omega);have b2:inb ((q:Int)-1) l.length=true:=inb_ok (by omega) (by omega);obtain⟨m,hm⟩:∃m,l.length-q=m+1:=⟨l.length-q-1,by omega⟩;simp only[show (q:Int)<(l.length:Int)by omega,decide_true,b1,b2]at hx
  cases hc:decide (l.getD q 0=l.getD (q-1) 0)
  ·right;have w2:W64 ((q:Int)+1)=(q:Int)+1:=wrap_small (by omega) (by omega);refine⟨(q:Int)+1,l, ?_, ?_, ?_,fun R=>(hx R).trans ?_⟩
   ·simp only[pre_cptOut,andd,dec_iff,ble_iff];omega
   ·simp only[mu_cptOut];omega
   ·simp only[res_cptOut,Int.toNat_natCast,show ((q:Int)+1).toNat=q+1 by omega,hm,show l.length-(q+1)=m by omega,dupF,hc];rfl
   ·rw[hc,w2];rfl
  ·left;intro R;obtain⟨c1,c2,c3⟩:(cpE l q).1.length=l.length∧q≤(cpE l q).2∧(cpE l q).2≤q+(l.length-(q+1)):=cpL_len _ _ _ _;have p1:(inr (q:Int) (l.length:Int) l.length&&Nat.blt 0 l.length)=true:=andd.2 ⟨inr_iff.2 (by omega),Nat.ble_eq_true_of_le (by omega)⟩;have p2:pre_cptIn (q:Int) q 1 l=true:=by simp only[pre_cptIn,andd,dec_iff,ble_iff];omega
   have p3:(inr ((cpE l q).2:Nat) ((cpE l q).1.length:Int) (cpE l q).1.length&&Nat.blt 0 (cpE l q).1.length)=true:=andd.2 ⟨inr_iff.2 (by omega),Nat.ble_eq_true_of_le (by omega)⟩;have p4:Nat.blt (cpE l q).2 (cpE l q).1.length=true:=Nat.ble_eq_true_of_le (by omega);have p5:inr 0 ((cpE l q).2:Nat) (clrL (e:=TU8) (cpE l q).1 (cpE l q).2).length=true:=by
    refine inr_iff.2 ?_;rw[clr_len (by omega)];omega
   refine(hx R).trans ?_;rw[hc,p1,p2,p3,p4,p5];simp only[res_cptOut,Int.toNat_natCast,hm,dupF,hc];rfl
 ·left;intro R;refine(hx R).trans ?_;simp only[show ¬(q:Int)<(l.length:Int)by omega,decide_false,res_cptOut,Int.toNat_natCast,show l.length-q=0 by omega,dupF];rfl
def g_cptOut:St→Cont→Option Fin:=gP sh_cptOut (fun v=>match v with | ((k,()),(l,()))=>pre_cptOut k l) (fun v K=>match v with | ((k,()),(l,()))=>res_cptOut k l K)
def L_cptOut:LpL:=(4,g_cptOut)::L_cptIn
def cx_cptOut:Cx:=(cb_cpt).withLoops (look L_cptOut)
theorem l_cptOut {L:LpL} (n:Nat) (h1:L.drop n=L_cptIn) (h2:idsFree (L.take n) (loopOf Tryz.f135 0)=true):LoopsTo g_cptOut (cb_cpt) (loopOf Tryz.f135 0) 4 L :=
 with_drop h1 h2 (gP_ok (fun v=>match v with | ((k,()),(l,()))=>mu_cptOut k l) fun v K hI=>by
  obtain⟨⟨k,⟨⟩⟩,⟨l,⟨⟩⟩⟩:=v;exact(r_cptOut k l K hI).imp id fun⟨k',l',h⟩=>⟨((k',()),(l',())),h⟩)
def cpFin (l:List Int):Option Nat→Option Fin
 |some q=>some (.d (.one (.own 1000)),[(1000,some (.lis 5 TU8 (cpO l q))),(0,none)])
 |none=>some (.d (.one (.own 0)),[(0,some (.lis 5 TU8 l))])
theorem y_Compact (l:List Int):evFn cx_cptOut Tryz.f135 false [.one (.own 0)] [.lis 5 TU8 l]=(
branch (decide ((l.length:Int)<2)) (some (.d (.one (.own 0)),[(0,some (.lis 5 TU8 l))])) (
 need (pre_cptOut 1 l) <| cpFin l (dupF l (l.length-1) 1))):=by kernel_rfl
def cptV (l:List Int):List Int:=bif decide ((l.length:Int)<2)then l else match dupF l (l.length-1) 1 with
 |some q=>cpO l q
 |none=>l
def conLN (t:TypeId) (s:Ty) (ts:List Ty) (G:List (Den s)→Fn ts (Option Bool×List (Den s))):Con:=⟨false,fun ds os=>match ds,os with
 | .one (.own 0)::ds,[o]=>match exLis t s (some o)with
  |some l=>match applyD ts (G l) ds with
   |some (c,m)=>some (c, .d (.one (.own 1000)),[(1000,some (.lis t s m)),(0,none)])
   |none=>none
  |none=>none
 |_,_=>none⟩
theorem conLN_ok {P:Program} {f:FuncId} {t:TypeId} {s:Ty} {ts:List Ty} {G:List (Den s)→Fn ts (Option Bool×List (Den s))} (hs:tyFlat s=true) (hin:∀args w,(callFunc f args).run P w = .ok (.enter f args) w)
  (he:∀l,Fit (.list s) l→EachF ts (G l) fun ds r=>(r.1=none∨r.1=some true)→Sat P f (.one (.own 0)::ds) [.lis t s l] (.d (.one (.own 1000))) [(1000,some (.lis t s r.2)),(0,none)]):ConOk P f (conLN t s ts G):=by
 refine⟨hin,fun ds os c x objs hc hok => ?_⟩;simp only[conLN]at hc
 split at hc
 ·rename_i ds o
  split at hc
  ·rename_i l e2;have e2:=Option.some.inj (exLis_some e2);subst e2
   split at hc
   ·rename_i c' m hap
    cases hc
    refine lis_fit hs fun hf => ?_;intro w F β args H hds
    cases hds with
    |cons g1 g2 =>
     obtain⟨ds',q1,q2⟩:=each_of (he l hf) hap g2;exact q1 hok w F β _ H (.cons g1 q2)
   ·cases hc
  ·cases hc
 ·cases hc
theorem s_Compact (l:List Int) (h:l.length≤1000000):Sat Tryz.prog 135 [.one (.own 0)] [.lis 5 TU8 l] (.d (.one (.own 1000))) [(1000,some (.lis 5 TU8 (cptV l))),(0,none)]:=by
 have snd:∀ {x:T} {objs:Heap},evFn cx_cptOut Tryz.f135 false [.one (.own 0)] [.lis 5 TU8 l]=some (x,objs)→Sat Tryz.prog 135 [.one (.own 0)] [.lis 5 TU8 l] x objs:=fun he =>
  fn_sound (cx:=cx_cptOut) Tryz.func135 rfl ttOk Γ46ok mixed (fun c hc=>LoopsOk.all (l:=[(4,loopOf Tryz.f135 0),(9,loopOf Tryz.f135 1)]) (by cases hc;kernel_rfl) ⟨atLoop rfl (l_cptOut 1 rfl (by kernel_rfl)),atLoop rfl (l_cptIn 2 rfl (by kernel_rfl)),trivial⟩) (ro:=false) he
 have y:=y_Compact l;have hp:pre_cptOut 1 l=true:=by simp only[pre_cptOut,andd,dec_iff,ble_iff];omega
 rw[hp]at y;unfold cptV
 by_cases hl:(l.length:Int)<2
 ·rw[zT hl]at y ⊢;exact sat_move (snd y)
 ·rw[zF hl]at y ⊢
  cases hd:dupF l (l.length-1) 1 with
  |none=>rw[hd]at y;exact sat_move (snd y)
  |some q=>rw[hd]at y;exact snd y
def c_slices_Compact_byte_byte:Con:=conLN 5 TU8 [] fun(l:List Int)=>(some (Nat.ble (length l) 1000000),cptV l)
theorem k_slices_Compact_byte_byte:ConOk Tryz.prog 135 c_slices_Compact_byte_byte:=conLN_ok rfl Tryz.call135 fun l _ hqq=>s_Compact l (Nat.le_of_ble_eq_true (pre_of hqq))
def Γ47:GL:=(135,c_slices_Compact_byte_byte)::Γ46
theorem Γ47ok:GO Γ47 := .cons k_slices_Compact_byte_byte Γ46ok
def dd:Int→List Int→List Int
 |_,[]=>[]
 |a,x::l=>bif decide (x=a)then dd a l else x::dd x l
theorem drop_at {l:List Int} {p:Nat} (h:p<l.length):l.drop p=l.getD p 0::l.drop (p+1):=by
 rw[drop_eq_getElem_cons h,getD_at h]
theorem cpL_dd:∀(m:Nat) (l:List Int) (k p:Nat),k<p→p+m=l.length→(cpL m l k p).1.take (cpL m l k p).2=l.take k++dd (l.getD (p-1) 0) (l.drop p)
 |0,l,k,p,h1,h2=>by
  rw[drop_eq_nil_of_le (by omega)];show l.take k=_;simp[dd]
 |m+1,l,k,p,h1,h2=>by
  rw[drop_at (show p<l.length by omega)];unfold cpL dd
  cases hc:decide (l.getD p 0=l.getD (p-1) 0)
  ·simp only[cond_false];rw[cpL_dd m (l.set k (l.getD p 0)) (k+1) (p+1) (by omega) (by rw[length_set];omega)];have e1:(l.set k (l.getD p 0)).getD (p+1-1) 0=l.getD p 0:=by
    rw[zG,List.getElem?_set_ne (by omega),← zG];rfl
   have e2:(l.set k (l.getD p 0)).drop (p+1)=l.drop (p+1):=List.drop_set_of_lt (by omega);have e3:(l.set k (l.getD p 0)).take (k+1)=l.take k++[l.getD p 0]:=by
    rw[List.take_succ_eq_append_getElem (by rw[length_set];omega),List.take_set_of_le (Nat.le_refl _)];simp
   rw[e1,e2,e3];simp
  ·simp only[cond_true];rw[cpL_dd m l k (p+1) (by omega) (by omega)];have:=of_decide_eq_true hc;rw[show p+1-1=p by omega,this]
def ddV (l:List Int) (k:Nat):List Int:=l.take k++dd (l.getD (k-1) 0) (l.drop k)
theorem ddV_step {l:List Int} {k:Nat} (hk:1≤k) (h:k<l.length) (hc:decide (l.getD k 0=l.getD (k-1) 0)=false):ddV l k=ddV l (k+1):=by
 have e:dd (l.getD (k-1) 0) (l.getD k 0::l.drop (k+1))=l.getD k 0::dd (l.getD k 0) (l.drop (k+1)):=by rw[dd,hc];rfl
 unfold ddV;rw[drop_at h,e,show k+1-1=k by omega,List.take_succ_eq_append_getElem h,← getD_at h 0,append_assoc];rfl
theorem cpO_eq {l:List Int} {q:Nat} (h1:1≤q) (h:q<l.length) (hc:decide (l.getD q 0=l.getD (q-1) 0)=true):cpO l q=ddV l q:=by
 obtain⟨c1,c2,c3⟩:(cpE l q).1.length=l.length∧q≤(cpE l q).2∧(cpE l q).2≤q+(l.length-(q+1)):=cpL_len _ _ _ _;have e:cpO l q=(cpE l q).1.take (cpE l q).2:=by
  show List.take (cpE l q).2 (List.take (cpE l q).2 (cpE l q).1++replicate ((cpE l q).1.length-(cpE l q).2) (0:Int))=_;rw[List.take_append_of_le_length (by rw[length_take];omega),List.take_take,Nat.min_self]
 rw[e];show(cpL (l.length-(q+1)) l q (q+1)).1.take _=_;rw[cpL_dd _ l q (q+1) (by omega) (by omega)];unfold ddV;have hq:=of_decide_eq_true hc;rw[drop_at h,show q+1-1=q by omega]
 conv=>rhs;unfold dd
 rw[hc,← hq];rfl
theorem dupF_eq (l:List Int):∀(m k:Nat),1≤k→k+m=l.length→(match dupF l m k with | some q=>cpO l q | none=>l)=ddV l k
 |0,k,h1,h2=>by
  show l=_;unfold ddV;rw[drop_eq_nil_of_le (by omega),List.take_of_length_le (by omega)];simp[dd]
 |m+1,k,h1,h2=>by
  unfold dupF
  cases hc:decide (l.getD k 0=l.getD (k-1) 0)
  ·simp only[cond_false];rw[dupF_eq l m (k+1) (by omega) (by omega),← ddV_step h1 (by omega) hc]
  ·simp only[cond_true];exact cpO_eq h1 (by omega) hc
theorem cptV_eq (l:List Int):cptV l=ddV l 1:=by
 unfold cptV
 by_cases h:(l.length:Int)<2
 ·rw[zT h]
  match l,h with
  | [],_=>rfl
  | [x],_=>rfl
  |x::y::l,h=>simp at h;omega
 ·rw[zF h];exact dupF_eq l (l.length-1) 1 (Nat.le_refl _) (by omega)
theorem cptV_cons (x:Int) (l:List Int):cptV (x::l)=x::dd x l:=by rw[cptV_eq];rfl
theorem dd_sub {y:Int}:∀ {a:Int} {l:List Int},y∈dd a l→y∈l
 |_,[],h=>h
 |a,x::l,h=>by
  unfold dd at h
  cases hc:decide (x=a)<;>rw[hc]at h
  ·rcases List.mem_cons.1 h with h | h
   ·exact h ▸ mem_cons_self
   ·exact mem_cons_of_mem _ (dd_sub h)
  ·exact mem_cons_of_mem _ (dd_sub h)
theorem dd_mem {y:Int}:∀ {a:Int} {l:List Int},y∈l→y=a∨y∈dd a l
 |a,x::l,h=>by
  unfold dd
  cases hc:decide (x=a)
  ·rcases List.mem_cons.1 h with h | h
   ·exact .inr (h ▸ mem_cons_self)
   ·rcases dd_mem (a:=x) h with h | h
    ·exact .inr (h ▸ mem_cons_self)
    ·exact .inr (mem_cons_of_mem _ h)
  ·have hx:=of_decide_eq_true hc;rcases List.mem_cons.1 h with h | h
   ·exact .inl (h.trans hx)
   ·exact dd_mem h
theorem dd_asc:∀ {a:Int} {l:List Int},(a::l).Pairwise (· ≤ ·)→(a::dd a l).Pairwise (· < ·)
 |a,[],_=>by simp[dd]
 |a,x::l,h=>by
  rw[List.pairwise_cons,List.pairwise_cons]at h;obtain⟨h1,h2,h3⟩:=h;unfold dd
  cases hc:decide (x=a)
  ·have hx:=of_decide_eq_false hc;have hax:=h1 x mem_cons_self;have ih:=dd_asc (a:=x) (l:=l) (List.pairwise_cons.2 ⟨h2,h3⟩);refine List.pairwise_cons.2 ⟨fun y hy => ?_,ih⟩;rcases List.mem_cons.1 hy with rfl | hy
   ·omega
   ·have:=(List.pairwise_cons.1 ih).1 y hy;omega
  ·have hx:=of_decide_eq_true hc;exact dd_asc (a:=a) (l:=l) (List.pairwise_cons.2 ⟨fun y hy=>h1 y (mem_cons_of_mem _ hy),h3⟩)
theorem cptV_mem {y:Int} {l:List Int}:y∈cptV l↔y∈l:=by
 cases l with
 |nil=>rw[cptV_eq];rfl
 |cons x l =>
  rw[cptV_cons];refine⟨fun h => ?_,fun h => ?_⟩
  ·rcases List.mem_cons.1 h with h | h
   ·exact h ▸ mem_cons_self
   ·exact mem_cons_of_mem _ (dd_sub h)
  ·rcases List.mem_cons.1 h with h | h
   ·exact h ▸ mem_cons_self
   ·rcases dd_mem (a:=x) h with h | h
    ·exact h ▸ mem_cons_self
    ·exact mem_cons_of_mem _ h
theorem cptV_asc {l:List Int} (h:l.Pairwise (· ≤ ·)):(cptV l).Pairwise (· < ·):=by
 cases l with
 |nil=>rw[cptV_eq];exact .nil
 |cons x l=>rw[cptV_cons];exact dd_asc h
theorem s_impl_union_1 (s:Str) (_hs:Fit .str s):Sat Tryz.prog 115 [ofD .str s] [] (.d (ofD .bool true)) [] :=
 fn_sound (cx:=cxOf Γ47 Tryz.f115.ntmps [] [] [] []) Tryz.func115 rfl ttOk Γ47ok mixed (fun _ _=>LoopsOk.no fun _=>rfl) (ro:=true) (by
  have y:evFn (cxOf Γ47 Tryz.f115.ntmps [] [] [] []) Tryz.f115 true [ofD .str s] []=some (vB true,[]):=by kernel_rfl
  rw[y];rfl)
def c_impl_union_1:Con:=conT [.str] fun(_s:Str)=>(none, .d (ofD .bool true))
theorem k_impl_union_1:ConOk Tryz.prog 115 c_impl_union_1:=conT_ok Tryz.call115 fun s hs _=>s_impl_union_1 s hs
def Γ48:GL:=(115,c_impl_union_1)::Γ47
theorem Γ48ok:GO Γ48 := .cons k_impl_union_1 Γ47ok
def isUni (f:FuncId):Bool:=Nat.beq f 115
theorem y_setOf1U0 (t:TypeId) (c:Int):evFn (cxOf Γ48 Tryz.f136.ntmps [] [] [] []) Tryz.f136 false [ofD TU8 c, .one (.ptr 0 0)] [.box t [.fn 115 []]]=some (vB (!true),[(0,some (.box t [.fn 115 []]))]):=by kernel_rfl
theorem y_setOf1U {f:FuncId} (h:isUni f=true) (t:TypeId) (c:Int):evFn (cxOf Γ48 Tryz.f136.ntmps [] [] [] []) Tryz.f136 false [ofD TU8 c, .one (.ptr 0 0)] [.box t [.fn f []]]=some (vB (!true),[(0,some (.box t [.fn f []]))]):=by
 have:=zB h;subst this;exact y_setOf1U0 t c
def chrS (c:Int):Str:=(Utf8.encode (IntKind.i32.wrap c)).data.toList
theorem y_setOf1B (t:TypeId) (c:Int):evFn (cxOf Γ48 Tryz.f136.ntmps [] [] [] []) Tryz.f136 false [ofD TU8 c, .one (.ptr 0 0)] [.box t [.fn 42 []]]=some (vB (!bigS (chrS c)),[(0,some (.box t [.fn 42 []]))]):=by kernel_rfl
theorem y_setOf1S (t:TypeId) (c:Int):evFn (cxOf Γ48 Tryz.f136.ntmps [] [] [] []) Tryz.f136 false [ofD TU8 c, .one (.ptr 0 0)] [.box t [.fn 55 []]]=some (vB (!smallS (chrS c)),[(0,some (.box t [.fn 55 []]))]):=by kernel_rfl
def holdF (f:FuncId):Option (Str→Bool):=bif Nat.beq f 42 then some bigS else bif Nat.beq f 55 then some smallS else bif isUni f then some (fun _=>true)else none
theorem s_setOf1 {f:FuncId} {p:Str→Bool} (h:holdF f=some p) (t:TypeId) (c:Int):Sat Tryz.prog 136 [ofD TU8 c, .one (.ptr 0 0)] [.box t [.fn f []]] (vB (!p (chrS c))) [(0,some (.box t [.fn f []]))]:=by
 have snd:∀ {x:T} {objs:Heap},evFn (cxOf Γ48 Tryz.f136.ntmps [] [] [] []) Tryz.f136 false [ofD TU8 c, .one (.ptr 0 0)] [.box t [.fn f []]]=some (x,objs)→Sat Tryz.prog 136 [ofD TU8 c, .one (.ptr 0 0)] [.box t [.fn f []]] x objs:=fun he =>
  fn_sound (cx:=cxOf Γ48 Tryz.f136.ntmps [] [] [] []) Tryz.func136 rfl ttOk Γ48ok mixed (fun _ _=>LoopsOk.no fun _=>rfl) (ro:=false) he
 refine snd ?_;unfold holdF at h
 cases h1:Nat.beq f 42<;>rw[h1]at h
 ·cases h2:Nat.beq f 55<;>rw[h2]at h
  ·cases h3:isUni f<;>rw[h3]at h
   ·cases h
   ·cases h
    exact y_setOf1U h3 t c
  ·cases h
   have:=zB h2;subst this;exact y_setOf1S t c
 ·cases h
  have:=zB h1;subst this;exact y_setOf1B t c
def pF (f:FuncId):Str→Bool:=(holdF f).getD fun _=>false
def c_impl_setOf_1:Con:=⟨false,fun ds os=>match ds,os with
 | [.one (.r (.v (.int .u8 c))), .one (.ptr 0 0)],[.box t [.fn f []]]=>some (some (holdF f).isSome,vB (!pF f (chrS c)),[(0,some (.box t [.fn f []]))])
 |_,_=>none⟩
theorem k_impl_setOf_1:ConOk Tryz.prog 136 c_impl_setOf_1:=by
 refine⟨Tryz.call136,fun ds os c x objs hc hok => ?_⟩;unfold c_impl_setOf_1 at hc;dsimp only at hc
 split at hc
 ·rename_i c0 t f
  cases hc
  have hp:=pre_of hok
  cases h:holdF f with
  |none=>rw[h]at hp;cases hp
  |some p =>
   have:=s_setOf1 h t c0;unfold pF;rw[h];exact this
 ·cases hc
def Γ49:GL:=(136,c_impl_setOf_1)::Γ48
theorem Γ49ok:GO Γ49 := .cons k_impl_setOf_1 Γ48ok
def cb_ixF:Cx:=cxOf Γ49 Tryz.f158.ntmps [(2,[0,1,7,8])] [(0,[]),(1,[0,1,7,8]),(1000000,[4])] [] []
theorem x_ixF (l:List Int) (t:TypeId) (f:FuncId) (n i:Int) (R:St→Option Fin) (K:Cont):evC (cb_ixF.withLoops (look [])) (loopOf Tryz.f158 0) ⟨[(0, .d (.one (.own 0))),(1, .d (.one (.fn 136 [1]))),(7,vI n),(8,vI i)],[(0,some (.lis 5 TU8 l)),(1,some (.box t [.fn f []]))]⟩ (onward (headAt (cb_ixF.withLoops (look [])) 2) R K)=(
branch (decide (i<n)) (
 need (inb i l.length) <|
 need ((holdF f).isSome) <|
 branch (!pF f (chrS (l.getD i.toNat 0))) ( K (.ret) (.mk [(4,vI i)] [(1,(.some (.box t [(.fn f [])]))),(0,some (.lis 5 TU8 l))])) ( R (.mk [(0,(.d (.one (.own 0)))),(1,(.d (.one (.fn 136 [1])))),(7,vI n),(8,vI (W64 (i+1)))] [(0,some (.lis 5 TU8 l)),(1,(.some (.box t [(.fn f [])])))]))) ( K (.exit 0) (.mk [] [(0,some (.lis 5 TU8 l)),(1,(.some (.box t [(.fn f [])])))]))):=by kernel_rfl
def ixV (f:FuncId):List Int→Nat→Option Nat
 | [],_=>none
 |x::l,k=>bif !pF f (chrS x)then some k else ixV f l (k+1)
theorem ixV_at {f:FuncId} {l:List Int} {i:Nat} (h:i<l.length):ixV f (l.drop i) i=bif !pF f (chrS (l.getD i 0))then some i else ixV f (l.drop (i+1)) (i+1):=by
 rw[drop_eq_getElem_cons h,getD_at h];rfl
def cx0_ixF:Cx:=(cb_ixF).withLoops (look [])
def sh_ixF:Sh:=([(0, .own 0),(1, .fn 136 [1]),(7, .d TI64),(8, .d TI64)],[(0, .lis 5 TU8),(1, .mix 61 [.fnv])])
abbrev st_ixF (n i:Int) (l:List (Int)) (f:Nat):St:=⟨[(0, .d (.one (.own 0))),(1, .d (.one (.fn 136 [1]))),(7,vI n),(8,vI i)],[(0,some (.lis 5 TU8 l)),(1,some (.box 61 ([.fn f []])))]⟩
def pre_ixF (n i:Int) (l:List (Int)) (f:Nat):Bool:=decide (0≤i)&&(decide (n=(length l:Int))&&(Nat.ble (length l) 1000000&&(holdF f).isSome))
def res_ixF (_n i:Int) (l:List (Int)) (f:Nat) (K:Cont):Option Fin:=branch (ixV f (l.drop i.toNat) i.toNat).isSome (K .ret ⟨[(4,vI (((ixV f (l.drop i.toNat) i.toNat).getD 0:Nat):Int))],[(1,some (.box 61 [.fn f []])),(0,some (.lis 5 TU8 l))]⟩) (K (.exit 0) ⟨[],[(0,some (.lis 5 TU8 l)),(1,some (.box 61 [.fn f []]))]⟩)
def mu_ixF (_n i:Int) (l:List (Int)) (_f:Nat):Nat:=l.length-i.toNat
theorem r_ixF (n i:Int) (l:List (Int)) (f:Nat) (K:Cont) (hI:pre_ixF n i l f=true):(∀R:St→Option Fin,evC cx0_ixF (loopOf Tryz.f158 0) (st_ixF n i l f) (onward (headAt cx0_ixF 2) R K)=res_ixF n i l f K) ∨
  (∃(n' i':Int) (l':List (Int)) (f':Nat),pre_ixF n' i' l' f'=true∧mu_ixF n' i' l' f'<mu_ixF n i l f∧res_ixF n' i' l' f' K=res_ixF n i l f K∧∀R:St→Option Fin,evC cx0_ixF (loopOf Tryz.f158 0) (st_ixF n i l f) (onward (headAt cx0_ixF 2) R K)=R (st_ixF n' i' l' f')):=by
 have hx:=fun R=>x_ixF l 61 f n i R K;simp only[pre_ixF,andd,dec_iff,ble_iff]at hI;obtain⟨h0,rfl,h2,h3⟩:=hI
 by_cases hi:i<(l.length:Int)
 ·have e:=ixV_at (f:=f) (l:=l) (i:=i.toNat) (by omega);have w:W64 (i+1)=i+1:=wrap_small (by omega) (by omega);simp only[hi,decide_true,inb_ok h0 hi,h3,w]at hx
  cases hc : !pF f (chrS (l.getD i.toNat 0))
  ·right;rw[hc]at e;refine⟨(l.length:Int),i+1,l,f, ?_, ?_, ?_,fun R=>(hx R).trans ?_⟩
   ·simp only[pre_ixF,andd,dec_iff,ble_iff,true_and];exact ⟨by omega,h2,h3⟩
   ·simp only[mu_ixF];omega
   ·simp only[res_ixF,e,show (i+1).toNat=i.toNat+1 by omega];rfl
   ·rw[hc];rfl
  ·left;intro R;rw[hc]at e;refine(hx R).trans ?_;rw[hc];simp only[res_ixF,e];show K .ret _=K .ret _;simp only[cond_true,Option.getD_some,Int.toNat_of_nonneg h0]
 ·left;intro R;refine(hx R).trans ?_;simp only[hi,decide_false,res_ixF,drop_eq_nil_of_le (show l.length≤i.toNat by omega)];rfl
def g_ixF:St→Cont→Option Fin:=gP sh_ixF (fun v=>match v with | ((n,i,()),(l,(f,()),()))=>pre_ixF n i l f) (fun v K=>match v with | ((n,i,()),(l,(f,()),()))=>res_ixF n i l f K)
def L_ixF:LpL:=(2,g_ixF)::[]
def cx_ixF:Cx:=(cb_ixF).withLoops (look L_ixF)
theorem l_ixF {L:LpL} (n:Nat) (h1:L.drop n=[]) (h2:idsFree (L.take n) (loopOf Tryz.f158 0)=true):LoopsTo g_ixF (cb_ixF) (loopOf Tryz.f158 0) 2 L :=
 with_drop h1 h2 (gP_ok (fun v=>match v with | ((n,i,()),(l,(f,()),()))=>mu_ixF n i l f) fun v K hI=>by
  obtain⟨⟨n,i,⟨⟩⟩,⟨l,⟨f,⟨⟩⟩,⟨⟩⟩⟩:=v;exact(r_ixF n i l f K hI).imp id fun⟨n',i',l',f',h⟩=>⟨((n',i',()),(l',(f',()),())),h⟩)
abbrev hLF (l:List Int) (f:FuncId):Heap:=[(0,some (.lis 5 TU8 l)),(1,some (.box 61 [.fn f []]))]
def ixI (f:FuncId) (l:List Int):Int:=bif (ixV f l 0).isSome then(((ixV f l 0).getD 0:Nat):Int)else -1
theorem y_ixF (l:List Int) (f:FuncId):evFn cx_ixF Tryz.f158 false [.one (.own 0), .one (.fn 136 [1])] [.lis 5 TU8 l, .box 61 [.fn f []]] =
 need (pre_ixF (l.length:Int) 0 l f) (branch (ixV f l 0).isSome (some (vI (((ixV f l 0).getD 0:Nat):Int),hLF l f)) (some (vI (-1),hLF l f))):=by kernel_rfl
theorem s_ixF (l:List Int) (f:FuncId) (h:(Nat.ble l.length 1000000&&(holdF f).isSome)=true):Sat Tryz.prog 158 [.one (.own 0), .one (.fn 136 [1])] [.lis 5 TU8 l, .box 61 [.fn f []]] (vI (ixI f l)) (hLF l f) :=
 fn_sound (cx:=cx_ixF) Tryz.func158 rfl ttOk Γ49ok mixed (fun c hc=>LoopsOk.all (l:=[(2,loopOf Tryz.f158 0)]) (by cases hc;kernel_rfl) ⟨atLoop rfl (l_ixF 1 rfl (by kernel_rfl)),trivial⟩) (ro:=false) (by
  have hp:pre_ixF (l.length:Int) 0 l f=true:=andd.2 ⟨rfl,andd.2 ⟨zT rfl,h⟩⟩;rw[y_ixF,hp];unfold ixI
  cases (ixV f l 0).isSome<;>rfl)
def c_slices_IndexFunc_byte_byte:Con:=⟨false,fun ds os=>match ds,os with
 | [.one (.own 0), .one (.fn g [1])],[o, .box t [.fn f []]]=>match exLis 5 TU8 (some o),Nat.beq g 136&&Nat.beq t 61 with
  |some l,true=>some (some (Nat.ble (length l) 1000000&&(holdF f).isSome),vI (ixI f l),hLF l f)
  |_,_=>none
 |_,_=>none⟩
theorem k_slices_IndexFunc_byte_byte:ConOk Tryz.prog 158 c_slices_IndexFunc_byte_byte:=by
 refine⟨Tryz.call158,fun ds os c x objs hc hok => ?_⟩;unfold c_slices_IndexFunc_byte_byte at hc;dsimp only at hc
 split at hc
 ·split at hc
  ·rename_i l e1 e2
   cases hc
   have e1:=Option.some.inj (exLis_some e1);subst e1;obtain⟨h1,h2⟩:=andd.1 e2;have h1:=zB h1;have h2:=zB h2;subst h1;subst h2;exact s_ixF l _ (pre_of hok)
  ·cases hc
 ·cases hc
def Γ50:GL:=(158,c_slices_IndexFunc_byte_byte)::Γ49
theorem Γ50ok:GO Γ50 := .cons k_slices_IndexFunc_byte_byte Γ49ok
set_option maxHeartbeats 1000000
def cb_del:Cx:=cxOf Γ50 Tryz.f134.ntmps [(5,[0,1,5,6])] [(0,[0,5]),(1,[0,1,5,6]),(1000000,[4])] [] []
theorem x_del (l:List Int) (f:FuncId) (i j:Int) (R:St→Option Fin) (K:Cont):evC (cb_del.withLoops (look [])) (loopOf Tryz.f134 0) ⟨[(0, .d (.one (.own 0))),(1, .d (.one (.fn 136 [1]))),(5,vI i),(6,vI j)],[(0,some (.lis 5 TU8 l)),(1,some (.box 61 [.fn f []]))]⟩ (onward (headAt (cb_del.withLoops (look [])) 5) R K)=(
branch (decide (j<(l.length:Int))) (
 need (inb j l.length) <|
 need ((holdF f).isSome) <|
 branch (!!pF f (chrS (l.getD j.toNat 0))) (
 need (inb i l.length) <| R (.mk [(0,(.d (.one (.own 0)))),(1,(.d (.one (.fn 136 [1])))),(5,vI (W64 (i+1))),(6,vI (W64 (j+1)))] [(0,(.some (.lis 5 TU8 (l.set i.toNat (l.getD j.toNat 0))))),(1,(.some (.box 61 [(.fn f [])])))])) ( R (.mk [(0,(.d (.one (.own 0)))),(1,(.d (.one (.fn 136 [1])))),(5,vI i),(6,vI (W64 (j+1)))] [(0,some (.lis 5 TU8 l)),(1,(.some (.box 61 [(.fn f [])])))]))) ( K (.exit 0) (.mk [(0,(.d (.one (.own 0)))),(5,vI i)] [(0,some (.lis 5 TU8 l)),(1,(.some (.box 61 [(.fn f [])])))]))):=by kernel_rfl
def dlL (f:FuncId):Nat→List Int→Nat→Nat→List Int×Nat
 |0,l,i,_=>(l,i)
 |m+1,l,i,j=>bif pF f (chrS (l.getD j 0))then dlL f m (l.set i (l.getD j 0)) (i+1) (j+1)else dlL f m l i (j+1)
def cx0_del:Cx:=(cb_del).withLoops (look [])
def sh_del:Sh:=([(0, .own 0),(1, .fn 136 [1]),(5, .d TI64),(6, .d TI64)],[(0, .lis 5 TU8),(1, .mix 61 [.fnv])])
abbrev st_del (i j:Int) (l:List (Int)) (f:Nat):St:=⟨[(0, .d (.one (.own 0))),(1, .d (.one (.fn 136 [1]))),(5,vI i),(6,vI j)],[(0,some (.lis 5 TU8 l)),(1,some (.box 61 ([.fn f []])))]⟩
def pre_del (i j:Int) (l:List (Int)) (f:Nat):Bool:=decide (0≤i)&&(decide (i<j)&&(decide (j≤1000001)&&(Nat.ble (length l) 1000000&&(holdF f).isSome)))
def res_del (i j:Int) (l:List (Int)) (f:Nat) (K:Cont):Option Fin:=K (.exit 0) ⟨[(0, .d (.one (.own 0))),(5,vI ((dlL f (l.length-j.toNat) l i.toNat j.toNat).2:Nat))],[(0,some (.lis 5 TU8 (dlL f (l.length-j.toNat) l i.toNat j.toNat).1)),(1,some (.box 61 [.fn f []]))]⟩
def mu_del (_i j:Int) (l:List (Int)) (_f:Nat):Nat:=l.length-j.toNat
theorem r_del (i j:Int) (l:List (Int)) (f:Nat) (K:Cont) (hI:pre_del i j l f=true):(∀R:St→Option Fin,evC cx0_del (loopOf Tryz.f134 0) (st_del i j l f) (onward (headAt cx0_del 5) R K)=res_del i j l f K) ∨
  (∃(i' j':Int) (l':List (Int)) (f':Nat),pre_del i' j' l' f'=true∧mu_del i' j' l' f'<mu_del i j l f∧res_del i' j' l' f' K=res_del i j l f K∧∀R:St→Option Fin,evC cx0_del (loopOf Tryz.f134 0) (st_del i j l f) (onward (headAt cx0_del 5) R K)=R (st_del i' j' l' f')):=by
 have hx:=fun R=>x_del l f i j R K;simp only[pre_del,andd,dec_iff,ble_iff]at hI;obtain⟨h0,h1,h2,h3,h4⟩:=hI
 by_cases hj:j<(l.length:Int)
 ·have w1:W64 (j+1)=j+1:=wrap_small (by omega) (by omega);have w2:W64 (i+1)=i+1:=wrap_small (by omega) (by omega);obtain⟨m,hm⟩:∃m,l.length-j.toNat=m+1:=⟨l.length-j.toNat-1,by omega⟩;have hm':l.length-(j.toNat+1)=m:=by omega
  have t1:(j+1).toNat=j.toNat+1:=by omega
  have t2:(i+1).toNat=i.toNat+1:=by omega
  simp only[hj,decide_true,inb_ok (by omega:0≤j) hj,inb_ok h0 (by omega:i<(l.length:Int)),h4,w1,w2]at hx;right
  cases hc:pF f (chrS (l.getD j.toNat 0))
  ·refine ⟨i,j+1,l,f, ?_, ?_, ?_,fun R=>(hx R).trans ?_⟩
   ·simp only[pre_del,andd,dec_iff,ble_iff];exact ⟨h0,by omega,by omega,h3,h4⟩
   ·simp only[mu_del];omega
   ·simp only[res_del,t1,hm,hm',dlL,hc];rfl
   ·rw[hc];rfl
  ·refine ⟨i+1,j+1,l.set i.toNat (l.getD j.toNat 0),f, ?_, ?_, ?_,fun R=>(hx R).trans ?_⟩
   ·simp only[pre_del,andd,dec_iff,ble_iff,length_set];exact ⟨by omega,by omega,by omega,h3,h4⟩
   ·simp only[mu_del,length_set];omega
   ·simp only[res_del,length_set,t1,t2,hm,hm',dlL,hc];rfl
   ·rw[hc];rfl
 ·left;intro R;refine(hx R).trans ?_;simp only[hj,decide_false,res_del,show l.length-j.toNat=0 by omega,dlL,Int.toNat_of_nonneg h0];rfl
def g_del:St→Cont→Option Fin:=gP sh_del (fun v=>match v with | ((i,j,()),(l,(f,()),()))=>pre_del i j l f) (fun v K=>match v with | ((i,j,()),(l,(f,()),()))=>res_del i j l f K)
def L_del:LpL:=(5,g_del)::[]
def cx_del:Cx:=(cb_del).withLoops (look L_del)
theorem l_del {L:LpL} (n:Nat) (h1:L.drop n=[]) (h2:idsFree (L.take n) (loopOf Tryz.f134 0)=true):LoopsTo g_del (cb_del) (loopOf Tryz.f134 0) 5 L :=
 with_drop h1 h2 (gP_ok (fun v=>match v with | ((i,j,()),(l,(f,()),()))=>mu_del i j l f) fun v K hI=>by
  obtain⟨⟨i,j,⟨⟩⟩,⟨l,⟨f,⟨⟩⟩,⟨⟩⟩⟩:=v;exact(r_del i j l f K hI).imp id fun⟨i',j',l',f',h⟩=>⟨((i',j',()),(l',(f',()),())),h⟩)
abbrev dlE (f:FuncId) (l:List Int) (i:Int):List Int×Nat:=dlL f (l.length-(W64 (i+1)).toNat) l i.toNat (W64 (i+1)).toNat
def delOut (f:FuncId) (r:List Int×Nat):Option Fin :=
 need (inr (r.2:Nat) (r.1.length:Int) r.1.length&&Nat.blt 0 r.1.length) <| need (Nat.blt r.2 r.1.length) <| need (inr 0 (r.2:Nat) (clrL (e:=TU8) r.1 r.2).length) <|
 some (.d (.one (.own 1000)),[(1000,some (.lis 5 TU8 (List.take r.2 (clrL (e:=TU8) r.1 r.2)))),(1,some (.box 61 [.fn f []])),(0,none)])
theorem y_del (l:List Int) (f:FuncId):evFn cx_del Tryz.f134 false [.one (.own 0), .one (.fn 136 [1])] [.lis 5 TU8 l, .box 61 [.fn f []]] =
 need (Nat.ble l.length 1000000&&(holdF f).isSome) (branch (decide (ixI f l = -1)) (some (.d (.one (.own 0)),hLF l f)) (need (pre_del (ixI f l) (W64 (ixI f l+1)) l f) (delOut f (dlE f l (ixI f l))))):=by kernel_rfl
theorem sat_move2 {P:Program} {f:FuncId} {ds:List D} {o0 o1 p1:Obj} {t:TypeId} {e:Ty} {l:List (Den e)} (S:Sat P f ds [o0,o1] (.d (.one (.own 0))) [(0,some (.lis t e l)),(1,some p1)]) :
  Sat P f ds [o0,o1] (.d (.one (.own 1000))) [(1000,some (.lis t e l)),(1,some p1),(0,none)]:=by
 intro w F β args H hds;refine(S w F β args H hds).mono ?_;rintro ex w' ⟨v,F',β',r1,r2,r3,r4,r5,r6⟩;have h0:look [(0,some (Obj.lis t e l)),(1,some p1)] 0=some (some (.lis t e l)):=rfl;obtain⟨H1,_⟩:=r2.kill 0;rw[setB_self]at H1;have hs1:setH (look [(0,some (Obj.lis t e l)),(1,some p1)]) 0 none 1000=none:=rfl;have T:=H1.turn (w':=w') (F':=F') 1000 (some (.lis t e l)) (β' 0) rfl rfl rfl (Nat.le_refl _) (fun b=>Blk (β' 0) b)
  (fun b hb=>⟨r2.notF 0 _ b h0 hb,fun j o' _ hj hb'=>by
   simp only[setH]at hj
   split at hj
   ·cases hj
   ·rename_i hne;exact hne (r2.apart j 0 o' _ b hj h0 hb' hb),r2.fromO 0 _ b h0 hb⟩)
  (fun _ _ _=>rfl) (fun _ hf=>hf) (fun _ hf => .inl hf) (fun q0 _ h0=>by rw[hs1]at h0;cases h0)
  (fun _ ob hob=>by
   cases hob
   refine⟨RepO.leaf.2 ?_,fun b hb => .inl hb⟩;have:=RepO.leaf.1 (r2.obj 0 _ h0)
   simpa [setB]using this)
 have hcomm:setH (setH (look [(0,some (Obj.lis t e l)),(1,some p1)]) 0 none) 1000 (some (.lis t e l))=look [(1000,some (Obj.lis t e l)),(1,some p1),(0,none)]:=by
  funext j
  simp only[setH,look]
  by_cases h1:j=1000
  ·subst h1;rfl
  ·by_cases h2:j=0
   ·subst h2;rfl
   ·rw[if_neg h1,if_neg h2];have e1:Nat.beq 0 j=false:=by cases h:Nat.beq 0 j with | false=>rfl | true=>exact absurd (zB h).symm h2
    have e2:Nat.beq 1000 j=false:=by cases h:Nat.beq 1000 j with | false=>rfl | true=>exact absurd (zB h).symm h1
    rw[e1,e2];rfl
 rw[hcomm]at T;have hv:v=β' 0:=r6.2.2 _ h0;have h2:∀i,i<2→i=0∨i=1:=fun i hi=>by omega
 refine⟨v,F',_,r1,T.1,fun i hi => ?_,fun i o hi ho => ?_,fun _ _ _=>by simp, ?_⟩
 ·rcases h2 i hi with rfl | rfl
  ·exact ⟨none,rfl⟩
  ·exact ⟨some p1,rfl⟩
 ·rcases h2 i hi with rfl | rfl
  ·cases ho
  ·show setB β' 1000 (β' 0) 1=β 1;exact r4 1 p1 hi rfl
 ·exact ⟨r6.1,⟨_,rfl⟩,fun o ho=>by rw[hv];simp[setB]⟩
theorem ixV_lt {f:FuncId}:∀ {l:List Int} {k q:Nat},ixV f l k=some q→k≤q∧q<k+l.length
 | [],k,q,h=>by cases h
 |x::l,k,q,h=>by
  unfold ixV at h
  cases hc : !pF f (chrS x)<;>rw[hc]at h
  ·have:=ixV_lt (l:=l) (k:=k+1) (q:=q) h;simp only[length_cons];omega
  ·cases h
   simp only[length_cons];omega
theorem dlL_len (f:FuncId):∀(m:Nat) (l:List Int) (i j:Nat),(dlL f m l i j).1.length=l.length∧i≤(dlL f m l i j).2∧(dlL f m l i j).2≤i+m
 |0,l,i,j=>⟨rfl,Nat.le_refl _,Nat.le_refl _⟩
 |m+1,l,i,j=>by
  unfold dlL
  cases pF f (chrS (l.getD j 0))
  ·obtain ⟨h1,h2,h3⟩:=dlL_len f m l i (j+1);simp only[cond_false];omega
  ·obtain ⟨h1,h2,h3⟩:=dlL_len f m (l.set i (l.getD j 0)) (i+1) (j+1);rw[length_set]at h1;simp only[cond_true];omega
def delV (f:FuncId) (l:List Int):List Int:=bif decide (ixI f l = -1)then l else List.take (dlE f l (ixI f l)).2 (clrL (e:=TU8) (dlE f l (ixI f l)).1 (dlE f l (ixI f l)).2)
theorem s_del (l:List Int) (f:FuncId) (h:(Nat.ble l.length 1000000&&(holdF f).isSome)=true):Sat Tryz.prog 134 [.one (.own 0), .one (.fn 136 [1])] [.lis 5 TU8 l, .box 61 [.fn f []]] (.d (.one (.own 1000))) [(1000,some (.lis 5 TU8 (delV f l))),(1,some (.box 61 [.fn f []])),(0,none)]:=by
 have snd:∀ {x:T} {objs:Heap},evFn cx_del Tryz.f134 false [.one (.own 0), .one (.fn 136 [1])] [.lis 5 TU8 l, .box 61 [.fn f []]]=some (x,objs)→Sat Tryz.prog 134 [.one (.own 0), .one (.fn 136 [1])] [.lis 5 TU8 l, .box 61 [.fn f []]] x objs:=fun he =>
  fn_sound (cx:=cx_del) Tryz.func134 rfl ttOk Γ50ok mixed (fun c hc=>LoopsOk.all (l:=[(5,loopOf Tryz.f134 0)]) (by cases hc;kernel_rfl) ⟨atLoop rfl (l_del 1 rfl (by kernel_rfl)),trivial⟩) (ro:=false) he
 have y:=y_del l f;rw[h]at y;obtain⟨h1,h2⟩:=andd.1 h;have h1:=ble_iff.1 h1;unfold delV
 cases hc:decide (ixI f l = -1)
 ·rw[hc]at y;have hb:0≤ixI f l∧ixI f l<(l.length:Int):=by
   have hne:=of_decide_eq_false hc;unfold ixI at hne ⊢
   cases hv:ixV f l 0 with
   |none=>rw[hv]at hne;exact absurd rfl hne
   |some q =>
    have:=ixV_lt hv;show 0≤(q:Int)∧(q:Int)<_;omega
  have w:W64 (ixI f l+1)=ixI f l+1:=wrap_small (by omega) (by omega);have hp:pre_del (ixI f l) (W64 (ixI f l+1)) l f=true:=by
   rw[w];simp only[pre_del,andd,dec_iff,ble_iff];exact ⟨hb.1,by omega,by omega,h1,h2⟩
  obtain⟨c1,c2,c3⟩:(dlE f l (ixI f l)).1.length=l.length∧(ixI f l).toNat≤(dlE f l (ixI f l)).2∧(dlE f l (ixI f l)).2≤(ixI f l).toNat+(l.length-(W64 (ixI f l+1)).toNat):=dlL_len f _ _ _ _;rw[w]at c3;rw[hp]at y;refine snd (y.trans ?_);show delOut f (dlE f l (ixI f l))=_
  generalize dlE f l (ixI f l)=r at c1 c2 c3
  unfold delOut;have p3:(inr (r.2:Nat) (r.1.length:Int) r.1.length&&Nat.blt 0 r.1.length)=true:=andd.2 ⟨inr_iff.2 (by omega),Nat.ble_eq_true_of_le (by omega)⟩;have p4:Nat.blt r.2 r.1.length=true:=Nat.ble_eq_true_of_le (by omega);have p5:inr 0 (r.2:Nat) (clrL (e:=TU8) r.1 r.2).length=true:=inr_iff.2 (by rw[clr_len (by omega)];omega);rw[p3,p4,p5];rfl
 ·rw[hc]at y;exact sat_move2 (snd y)
def c_slices_DeleteFunc_byte_byte:Con:=⟨false,fun ds os=>match ds,os with
 | [.one (.own 0), .one (.fn g [1])],[o, .box t [.fn f []]]=>match exLis 5 TU8 (some o),Nat.beq g 136&&Nat.beq t 61 with
  |some l,true=>some (some (Nat.ble (length l) 1000000&&(holdF f).isSome), .d (.one (.own 1000)),[(1000,some (.lis 5 TU8 (delV f l))),(1,some (.box 61 [.fn f []])),(0,none)])
  |_,_=>none
 |_,_=>none⟩
theorem k_slices_DeleteFunc_byte_byte:ConOk Tryz.prog 134 c_slices_DeleteFunc_byte_byte:=by
 refine⟨Tryz.call134,fun ds os c x objs hc hok => ?_⟩;unfold c_slices_DeleteFunc_byte_byte at hc;dsimp only at hc
 split at hc
 ·split at hc
  ·rename_i l e1 e2
   cases hc
   have e1:=Option.some.inj (exLis_some e1);subst e1;obtain⟨h1,h2⟩:=andd.1 e2;have h1:=zB h1;have h2:=zB h2;subst h1;subst h2;exact s_del l _ (pre_of hok)
  ·cases hc
 ·cases hc
def Γ51:GL:=(134,c_slices_DeleteFunc_byte_byte)::Γ50
theorem Γ51ok:GO Γ51 := .cons k_slices_DeleteFunc_byte_byte Γ50ok
abbrev hQf (f:FuncId) (c:Int):Bool:=pF f (chrS c)
theorem dlL_fil (f:FuncId):∀(m:Nat) (l:List Int) (i j:Nat),i<j→j+m=l.length→(dlL f m l i j).1.take (dlL f m l i j).2=l.take i++(l.drop j).filter (hQf f)
 |0,l,i,j,h1,h2=>by
  rw[drop_eq_nil_of_le (by omega)];show l.take i=_;simp
 |m+1,l,i,j,h1,h2=>by
  rw[drop_at (show j<l.length by omega)];unfold dlL
  cases hc:pF f (chrS (l.getD j 0))
  ·simp only[cond_false];rw[dlL_fil f m l i (j+1) (by omega) (by omega),List.filter_cons_of_neg (by show ¬pF f (chrS (l.getD j 0))=true;rw[hc];exact Bool.false_ne_true)]
  ·simp only[cond_true];rw[dlL_fil f m (l.set i (l.getD j 0)) (i+1) (j+1) (by omega) (by rw[length_set];omega),List.filter_cons_of_pos (p:=hQf f) (a:=l.getD j 0) hc];have e2:(l.set i (l.getD j 0)).drop (j+1)=l.drop (j+1):=List.drop_set_of_lt (by omega);have e3:(l.set i (l.getD j 0)).take (i+1)=l.take i++[l.getD j 0]:=by
    rw[List.take_succ_eq_append_getElem (by rw[length_set];omega),List.take_set_of_le (Nat.le_refl _)];simp
   rw[e2,e3];simp
theorem ixV_none {f:FuncId}:∀ {l:List Int} {k:Nat},ixV f l k=none→l.filter (hQf f)=l
 | [],_,_=>rfl
 |x::l,k,h=>by
  unfold ixV at h
  cases hc:pF f (chrS x)<;>rw[hc]at h
  ·cases h
  ·rw[List.filter_cons_of_pos (by simp[hQf,hc]),ixV_none (k:=k+1) h]
theorem ixV_some {f:FuncId}:∀ {l:List Int} {k q:Nat},ixV f l k=some q→(l.take (q-k)).filter (hQf f)=l.take (q-k)∧hQf f (l.getD (q-k) 0)=false
 | [],_,_,h=>by cases h
 |x::l,k,q,h=>by
  unfold ixV at h
  cases hc:pF f (chrS x)<;>rw[hc]at h
  ·cases h
   rw[Nat.sub_self];exact⟨rfl,hc⟩
  ·have hlt:=ixV_lt (l:=l) (k:=k+1) h;obtain⟨h1,h2⟩:=ixV_some (l:=l) (k:=k+1) h;rw[show q-k=q-(k+1)+1 by omega,List.take_succ_cons,List.filter_cons_of_pos (by simp[hQf,hc]),h1];exact⟨rfl,h2⟩
theorem delV_eq {f:FuncId} {l:List Int} (hl:l.length≤1000000):delV f l=l.filter (hQf f):=by
 unfold delV
 cases hv:ixV f l 0 with
 |none =>
  have h1:ixI f l = -1:=by unfold ixI;rw[hv];rfl
  rw[zT h1];exact(ixV_none hv).symm
 |some q =>
  have h1:ixI f l=(q:Int):=by unfold ixI;rw[hv];rfl
  have hlt:=ixV_lt hv;obtain⟨h2,h3⟩:=ixV_some hv;rw[h1,zF (show ¬(q:Int) = -1 by omega)];have w:W64 ((q:Int)+1)=q+1:=wrap_small (by omega) (by omega);have e0:dlE f l (q:Int)=dlL f (l.length-(q+1)) l q (q+1):=by
   show dlL f (l.length-(W64 ((q:Int)+1)).toNat) l (q:Int).toNat (W64 ((q:Int)+1)).toNat=_;rw[w,show ((q:Int)+1).toNat=q+1 by omega,show (q:Int).toNat=q by omega]
  rw[e0];obtain⟨c1,c2,c3⟩:=dlL_len f (l.length-(q+1)) l q (q+1);have e1:=dlL_fil f (l.length-(q+1)) l q (q+1) (by omega) (by omega)
  generalize dlL f (l.length-(q+1)) l q (q+1)=r at c1 c2 c3 e1
  show List.take r.2 (clrL (e:=TU8) r.1 r.2)=_;have e2:List.take r.2 (clrL (e:=TU8) r.1 r.2)=r.1.take r.2:=by
   show List.take r.2 (List.take r.2 r.1++replicate (r.1.length-r.2) (0:Int))=_;rw[List.take_append_of_le_length (by rw[length_take];omega),List.take_take,Nat.min_self]
  rw[e2,e1];have h2':(l.take q).filter (hQf f)=l.take q:=h2;have h3':hQf f (l.getD q 0)=false:=h3;have e3:l=l.take q++l.getD q 0::l.drop (q+1):=by rw[← drop_at (show q<l.length by omega),List.take_append_drop]
  conv=>rhs;rw[e3]
  rw[List.filter_append,h2',List.filter_cons_of_neg (by rw[h3'];exact Bool.false_ne_true)]
/-! ### sets of signs -/
abbrev Asc (s:Str):Prop:=s.Pairwise fun a b=>a.toNat<b.toNat
theorem asc_ext:∀ {s t:Str},Asc s→Asc t→(∀c,c∈s↔c∈t)→s=t
 | [],[],_,_,_=>rfl
 | [],b::t,_,_,h=>absurd ((h b).2 mem_cons_self) (by simp)
 |a::s,[],_,_,h=>absurd ((h a).1 mem_cons_self) (by simp)
 |a::s,b::t,hs,ht,h=>by
  obtain⟨s1,s2⟩:=List.pairwise_cons.1 hs;obtain⟨t1,t2⟩:=List.pairwise_cons.1 ht;have hab:a=b:=by
   rcases List.mem_cons.1 ((h a).1 mem_cons_self)with h1 | h1
   ·exact h1
   ·rcases List.mem_cons.1 ((h b).2 mem_cons_self)with h2 | h2
    ·exact h2.symm
    ·have:=t1 a h1;have:=s1 b h2;omega
  subst hab;refine congrArg (a::·) (asc_ext s2 t2 fun c=>⟨fun hc => ?_,fun hc => ?_⟩)
  ·rcases List.mem_cons.1 ((h c).1 (mem_cons_of_mem _ hc))with h1 | h1
   ·subst h1;have:=s1 c hc;omega
   ·exact h1
  ·rcases List.mem_cons.1 ((h c).2 (mem_cons_of_mem _ hc))with h1 | h1
   ·subst h1;have:=t1 c hc;omega
   ·exact h1
def addS (c:UInt8):Str→Str
 | []=>[c]
 |x::s=>bif Nat.blt x.toNat c.toNat then x::addS c s else bif Nat.beq x.toNat c.toNat then x::s else c::x::s
theorem addS_mem {c y:UInt8}:∀ {s:Str},y∈addS c s↔y=c∨y∈s
 | []=>by simp[addS]
 |x::s=>by
  unfold addS
  cases h1:Nat.blt x.toNat c.toNat
  ·cases h2:Nat.beq x.toNat c.toNat
   ·simp
   ·have e:x=c:=UInt8.toNat_inj.1 (zB h2);subst e;simp
  ·simp only[cond_true,List.mem_cons,addS_mem (s:=s)]
   constructor
   ·rintro (h | h | h)
    ·exact .inr (.inl h)
    ·exact .inl h
    ·exact .inr (.inr h)
   ·rintro (h | h | h)
    ·exact .inr (.inl h)
    ·exact .inl h
    ·exact .inr (.inr h)
theorem addS_asc {c:UInt8}:∀ {s:Str},Asc s→Asc (addS c s)
 | [],_=>by simp[addS,Asc]
 |x::s,h=>by
  obtain⟨h1,h2⟩:=List.pairwise_cons.1 h;unfold addS
  cases e1:Nat.blt x.toNat c.toNat
  ·cases e2:Nat.beq x.toNat c.toNat
   ·have hc:c.toNat<x.toNat:=by
     have n1:¬x.toNat<c.toNat:=fun hh=>by
      have hb:Nat.blt x.toNat c.toNat=true:=Nat.ble_eq_true_of_le hh;rw[hb]at e1;cases e1
     have n2:x.toNat≠c.toNat:=fun hh=>by rw[hh,Nat.beq_refl]at e2;cases e2
     omega
    refine List.pairwise_cons.2 ⟨fun y hy => ?_,h⟩;rcases List.mem_cons.1 hy with rfl | hy
    ·exact hc
    ·have:=h1 y hy;omega
   ·exact h
  ·have hx:x.toNat<c.toNat:=Nat.le_of_ble_eq_true e1;refine List.pairwise_cons.2 ⟨fun y hy => ?_,addS_asc h2⟩;rcases addS_mem.1 hy with rfl | hy
   ·exact hx
   ·exact h1 y hy
theorem addS_len {c:UInt8}:∀ {s:Str},(addS c s).length≤s.length+1
 | []=>Nat.le_refl _
 |x::s=>by
  unfold addS;have:=addS_len (c:=c) (s:=s)
  cases Nat.blt x.toNat c.toNat
  ·cases Nat.beq x.toNat c.toNat<;>simp
  ·simp only[cond_true,length_cons];omega
def putS (p:UInt8→Bool) (o:Str):Str→Str
 | []=>o
 |x::s=>putS p (bif p x then addS x o else o) s
theorem putS_mem {p:UInt8→Bool} {y:UInt8}:∀ {s o:Str},y∈putS p o s↔y∈o∨(y∈s∧p y=true)
 | [],o=>by simp[putS]
 |x::s,o=>by
  unfold putS;rw[putS_mem]
  cases hp:p x
  ·simp only[cond_false,List.mem_cons]
   constructor
   ·rintro (h | h)
    ·exact .inl h
    ·exact .inr ⟨.inr h.1,h.2⟩
   ·rintro (h | ⟨rfl | h,h2⟩)
    ·exact .inl h
    ·rw[hp]at h2;cases h2
    ·exact .inr ⟨h,h2⟩
  ·simp only[cond_true,addS_mem,List.mem_cons]
   constructor
   ·rintro ((rfl | h) | h)
    ·exact .inr ⟨.inl rfl,hp⟩
    ·exact .inl h
    ·exact .inr ⟨.inr h.1,h.2⟩
   ·rintro (h | ⟨rfl | h,h2⟩)
    ·exact .inl (.inr h)
    ·exact .inl (.inl rfl)
    ·exact .inr ⟨h,h2⟩
theorem putS_asc {p:UInt8→Bool}:∀ {s o:Str},Asc o→Asc (putS p o s)
 | [],_,h=>h
 |x::s,o,h=>by
  unfold putS;refine putS_asc ?_
  cases p x
  ·exact h
  ·exact addS_asc h
def setS (p:UInt8→Bool) (s:Str):Str:=putS p [] s
theorem setS_mem {p:UInt8→Bool} {y:UInt8} {s:Str}:y∈setS p s↔y∈s∧p y=true:=by
 unfold setS;rw[putS_mem];simp
theorem setS_asc {p:UInt8→Bool} {s:Str}:Asc (setS p s):=putS_asc .nil
theorem setS_eq {p:UInt8→Bool} {s t:Str} (ha:Asc t) (h:∀y,y∈t↔y∈s∧p y=true):t=setS p s:=asc_ext ha setS_asc fun y=>by rw[h,setS_mem]
theorem chr_big:∀n:Nat,n<256→bigS (chrS (n:Int))=(Nat.ble 65 n&&Nat.ble n 69):=by decide +kernel
theorem chr_small:∀n:Nat,n<256→smallS (chrS (n:Int))=(Nat.ble 97 n&&Nat.ble n 100):=by decide +kernel
def pB (f:FuncId):UInt8→Bool:=bif Nat.beq f 42 then bigc else bif Nat.beq f 55 then small else fun _=>true
theorem pB_eq {f:FuncId} (h:(holdF f).isSome=true) (c:UInt8):hQf f (c.toNat:Int)=pB f c:=by
 unfold hQf pF pB;unfold holdF at h ⊢
 cases h1:Nat.beq f 42
 ·cases h2:Nat.beq f 55
  ·cases h3:isUni f
   ·rw[h1,h2,h3]at h;cases h
   ·rfl
  ·exact chr_small c.toNat c.toNat_lt
 ·exact chr_big c.toNat c.toNat_lt
noncomputable def setV (f:FuncId) (s:Str):Str:=byteL (delV f (cptV (sortL (intL s))))
theorem cpt_len (s:Str):(cptV (sortL (intL s))).length≤s.length:=by
 have ha:=cptV_asc (sortL_sorted (intL s));have hnd:(cptV (sortL (intL s))).Nodup:=ha.imp fun hh=>by omega
 have:=hnd.length_le_of_subset (l₂:=sortL (intL s)) fun x hx=>cptV_mem.1 hx;rw[sortL_len]at this;have h2:(intL s).length=s.length:=by unfold intL;rw[List.length_map]
 omega
theorem setV_eq {f:FuncId} {s:Str} (h:(holdF f).isSome=true) (hl:s.length<50):setV f s=setS (pB f) s:=by
 have h0:∀n∈cptV (sortL (intL s)),∃b∈s,n=(b.toNat:Int):=fun n hn=>by
  have:=(sortL_perm _).mem_iff.1 (cptV_mem.1 hn);unfold intL at this;obtain⟨b,h1,h2⟩:=List.mem_map.1 this;exact⟨b,h1,h2.symm⟩
 have hlen:(cptV (sortL (intL s))).length≤1000000:=by have:=cpt_len s;omega
 unfold setV;rw[delV_eq hlen];have h1:∀n∈(cptV (sortL (intL s))).filter (hQf f),∃b∈s,n=(b.toNat:Int):=fun n hn=>h0 n (List.mem_filter.1 hn).1;refine setS_eq ?_ fun y=>⟨fun hy => ?_,fun hy => ?_⟩
 ·show (byteL _).Pairwise _;unfold byteL;rw[List.pairwise_map];refine((cptV_asc (sortL_sorted (intL s))).filter _).imp_of_mem fun {a b} ha hb hab => ?_;obtain⟨x,_,rfl⟩:=h1 a ha;obtain⟨z,_,rfl⟩:=h1 b hb;rw[byteL_nat,byteL_nat];omega
 ·unfold byteL at hy;obtain⟨n,hn,rfl⟩:=List.mem_map.1 hy;obtain⟨b,hb,rfl⟩:=h1 n hn;have:=(List.mem_filter.1 hn).2;rw[byteL_nat];exact⟨hb,by rw[← pB_eq h];exact this⟩
 ·unfold byteL;refine List.mem_map.2 ⟨(y.toNat:Int),List.mem_filter.2 ⟨?_,by rw[pB_eq h];exact hy.2⟩,byteL_nat y⟩;refine cptV_mem.2 ((sortL_perm _).mem_iff.2 ?_);unfold intL;exact List.mem_map.2 ⟨y,hy.1,rfl⟩
def cb_l1In:Cx:=cxOf Γ51 Tryz.f85.ntmps [(2,[0,1,5])] [(0,[]),(1,[0,1,5]),(1000000,[4])] [] []
abbrev st_l1In (s:Str) (c i:Int):St:=⟨[(0,vS s),(1, .d (ofD TU8 c)),(5,vI i)],[]⟩
theorem x_spec_l1In (s:Str) (c i:Int) (R:St→Option Fin) (K:Cont):evC (cb_l1In.withLoops (look [])) (loopOf Tryz.f85 0) (st_l1In s c i) (onward (headAt (cb_l1In.withLoops (look [])) 2) R K)=(
branch (decide (i<(s.length:Int))) (
 need (inb i s.length) <|
 branch (decide (byteAt s i=c)) ( K (.ret) (.mk [(4,vB true)] [])) ( R (.mk [(0,vS s),(1,(.d (.one (.r (.v (Value.int IntKind.u8 c)))))),(5,vI (W64 (i+1)))] []))) ( K (.exit 0) (.mk [] []))):=by kernel_rfl
def cx0_l1In:Cx:=(cb_l1In).withLoops (look [])
def sh_l1In:Sh:=([(0, .d .str),(1, .d TU8),(5, .d TI64)],[])
def pre_l1In (s:Str) (_c i:Int):Bool:=decide (0≤i)&&Nat.ble s.length big
def res_l1In (s:Str) (c i:Int) (K:Cont):Option Fin:=branch (inS (s.drop i.toNat) c) (K .ret ⟨[(4,vB true)],[]⟩) (K (.exit 0) ⟨[],[]⟩)
def mu_l1In (s:Str) (_c i:Int):Nat:=s.length-i.toNat
theorem r_l1In (s:Str) (c i:Int) (K:Cont) (hI:pre_l1In s c i=true):(∀R:St→Option Fin,evC cx0_l1In (loopOf Tryz.f85 0) (st_l1In s c i) (onward (headAt cx0_l1In 2) R K)=res_l1In s c i K) ∨
  (∃(s':Str) (c' i':Int),pre_l1In s' c' i'=true∧mu_l1In s' c' i'<mu_l1In s c i∧res_l1In s' c' i' K=res_l1In s c i K∧∀R:St→Option Fin,evC cx0_l1In (loopOf Tryz.f85 0) (st_l1In s c i) (onward (headAt cx0_l1In 2) R K)=R (st_l1In s' c' i')):=by
 have hx:=fun R=>x_spec_l1In s c i R K;simp only[pre_l1In,andd,dec_iff,ble_iff]at hI;obtain⟨h0,h1⟩:=hI
 by_cases hi:i<(s.length:Int)
 ·have hg:=inS_at (c:=c) h0 hi;simp only[hi,decide_true,inb_ok h0 hi,branch_true,W1 h0 hi h1]at hx
  cases hc:decide (byteAt s i=c)
  ·right;rw[hc]at hg;refine⟨s,c,i+1, ?_, ?_, ?_,fun R=>(hx R).trans ?_⟩
   ·exact andd.2 ⟨dec_iff.2 (by omega),ble_iff.2 h1⟩
   ·simp only[mu_l1In];omega
   ·simp only[res_l1In,hg];rfl
   ·rw[hc];rfl
  ·left;intro R;rw[hc]at hg;refine(hx R).trans ?_;rw[hc];simp only[res_l1In,hg];rfl
 ·left;intro R;refine(hx R).trans ?_;simp only[hi,decide_false,branch_false,res_l1In];rw[drop_eq_nil_of_le (by omega)];rfl
def g_l1In:St→Cont→Option Fin:=gP sh_l1In (fun v=>match v with | ((s,c,i,()),())=>pre_l1In s c i) (fun v K=>match v with | ((s,c,i,()),())=>res_l1In s c i K)
def L_l1In:LpL:=(2,g_l1In)::[]
def cx_l1In:Cx:=(cb_l1In).withLoops (look L_l1In)
theorem l_l1In {L:LpL} (n:Nat) (h1:L.drop n=[]) (h2:idsFree (L.take n) (loopOf Tryz.f85 0)=true):LoopsTo g_l1In (cb_l1In) (loopOf Tryz.f85 0) 2 L :=
 with_drop h1 h2 (gP_ok (fun v=>match v with | ((s,c,i,()),())=>mu_l1In s c i) fun v K hI=>by
  obtain⟨⟨s,c,i,⟨⟩⟩,⟨⟩⟩:=v;exact(r_l1In s c i K hI).imp id fun⟨s',c',i',h⟩=>⟨((s',c',i',()),()),h⟩)
theorem y_spec_l1In (s:Str) (c:Int):evFn cx_l1In Tryz.f85 true [ofD .str s,ofD TU8 c] []=(
need (pre_l1In s c 0) <|
branch (inS s c) ( some ((vB true),[])) ( some ((vB false),[]))):=by kernel_rfl
theorem s_spec_l1In (s:Str) (hs:Fit .str s) (c:Int) (_hc:Fit TU8 c):Sat Tryz.prog 85 [ofD .str s,ofD TU8 c] [] (.d (ofD .bool (inS s c))) [] :=
 fn_sound (cx:=cx_l1In) Tryz.func85 rfl ttOk Γ51ok mixed (fun c hc=>LoopsOk.all (l:=[(2,loopOf Tryz.f85 0)]) (by cases hc;kernel_rfl) ⟨atLoop rfl (l_l1In 1 rfl (by kernel_rfl)),trivial⟩) (ro:=true) (by
  have h:pre_l1In s c 0=true:=andd.2 ⟨rfl,ble_iff.2 hs⟩;rw[y_spec_l1In,h];show branch (inS s c) _ _=_
  cases inS s c<;>rfl)
def c_spec_l1In:Con:=conT [.str,TU8] fun(s:Str) (c:Int)=>(none, .d (ofD .bool (inS s c)))
theorem k_spec_l1In:ConOk Tryz.prog 85 c_spec_l1In:=conT_ok Tryz.call85 fun s hs c hc _=>s_spec_l1In s hs c hc
def Γ52:GL:=(85,c_spec_l1In)::Γ51
theorem Γ52ok:GO Γ52 := .cons k_spec_l1In Γ51ok
def lowN (c:Int):Str→Nat
 | []=>0
 |x::s=>bif decide ((x.toNat:Int)<c)then lowN c s+1 else 0
theorem lowN_le {c:Int}:∀ {s:Str},lowN c s≤s.length
 | []=>Nat.le_refl _
 |x::s=>by
  unfold lowN;have:=lowN_le (c:=c) (s:=s)
  cases decide ((x.toNat:Int)<c)<;>simp<;>omega
theorem lowN_at {s:Str} {i c:Int} (h0:0≤i) (h1:i<(s.length:Int)):lowN c (s.drop i.toNat)=bif decide (byteAt s i<c)then lowN c (s.drop (i+1).toNat)+1 else 0:=by
 have hn:i.toNat<s.length:=by omega
 rw[drop_eq_getElem_cons hn,show (i+1).toNat=i.toNat+1 by omega,byteAt_get h0 hn];rfl
theorem add_low {c:UInt8}:∀(s:Str),addS c s=bif (bif Nat.blt (lowN c.toNat s) s.length then Nat.beq (s.getD (lowN c.toNat s) 0).toNat c.toNat else false)then s else s.take (lowN c.toNat s)++c::s.drop (lowN c.toNat s)
 | []=>rfl
 |x::s=>by
  unfold addS lowN;have e:decide ((x.toNat:Int)<(c.toNat:Int))=Nat.blt x.toNat c.toNat:=by
   show _=Nat.ble (x.toNat+1) c.toNat;rw[ble_dec,decide_eq_decide];omega
  rw[e]
  cases h1:Nat.blt x.toNat c.toNat
  ·show _=bif (bif Nat.blt 0 (s.length+1)then Nat.beq x.toNat c.toNat else false)then x::s else c::x::s;rw[show Nat.blt 0 (s.length+1)=true from ble_iff.2 (by omega)];rfl
  ·have ih:=add_low (c:=c) s;show x::addS c s=bif (bif Nat.blt (lowN c.toNat s+1) (s.length+1)then Nat.beq (s.getD (lowN c.toNat s) 0).toNat c.toNat else false)then x::s else x::(s.take (lowN c.toNat s)++c::s.drop (lowN c.toNat s));rw[ih,show Nat.blt (lowN c.toNat s+1) (s.length+1)=Nat.blt (lowN c.toNat s) s.length from rfl]
   cases (bif Nat.blt (lowN c.toNat s) s.length then Nat.beq (s.getD (lowN c.toNat s) 0).toNat c.toNat else false)<;>rfl
def cb_l1Add:Cx:=cxOf Γ52 Tryz.f117.ntmps [(2,[0,1,5])] [(0,[0,1,5]),(1,[0,1,5]),(1000000,[4])] [] []
abbrev st_l1Add (s:Str) (c i:Int):St:=⟨[(0,vS s),(1, .d (ofD TU8 c)),(5,vI i)],[]⟩
theorem x_spec_l1Add (s:Str) (c i:Int) (R:St→Option Fin) (K:Cont):evC (cb_l1Add.withLoops (look [])) (loopOf Tryz.f117 0) (st_l1Add s c i) (onward (headAt (cb_l1Add.withLoops (look [])) 2) R K)=(
need (bif decide (decide (i<(s.length:Int))=true)then inb i s.length else true) <|
branch (bif decide (i<(s.length:Int))then decide (byteAt s i<c)else false) ( R (.mk [(0,vS s),(1,(.d (.one (.r (.v (Value.int IntKind.u8 c)))))),(5,vI (W64 (i+1)))] [])) ( K (.exit 0) (.mk [(0,vS s),(1,(.d (.one (.r (.v (Value.int IntKind.u8 c)))))),(5,vI i)] []))):=by kernel_rfl
def cx0_l1Add:Cx:=(cb_l1Add).withLoops (look [])
def sh_l1Add:Sh:=([(0, .d .str),(1, .d TU8),(5, .d TI64)],[])
def pre_l1Add (s:Str) (_c i:Int):Bool:=decide (0≤i)&&Nat.ble s.length big
def res_l1Add (s:Str) (c i:Int) (K:Cont):Option Fin:=K (.exit 0) ⟨[(0,vS s),(1, .d (ofD TU8 c)),(5,vI (i+lowN c (s.drop i.toNat)))],[]⟩
def mu_l1Add (s:Str) (_c i:Int):Nat:=s.length-i.toNat
theorem r_l1Add (s:Str) (c i:Int) (K:Cont) (hI:pre_l1Add s c i=true):(∀R:St→Option Fin,evC cx0_l1Add (loopOf Tryz.f117 0) (st_l1Add s c i) (onward (headAt cx0_l1Add 2) R K)=res_l1Add s c i K) ∨
  (∃(s':Str) (c' i':Int),pre_l1Add s' c' i'=true∧mu_l1Add s' c' i'<mu_l1Add s c i∧res_l1Add s' c' i' K=res_l1Add s c i K∧∀R:St→Option Fin,evC cx0_l1Add (loopOf Tryz.f117 0) (st_l1Add s c i) (onward (headAt cx0_l1Add 2) R K)=R (st_l1Add s' c' i')):=by
 have hx:=fun R=>x_spec_l1Add s c i R K;simp only[pre_l1Add,andd,dec_iff,ble_iff]at hI;obtain⟨h0,h1⟩:=hI
 by_cases hi:i<(s.length:Int)
 ·have hg:=lowN_at (c:=c) h0 hi;simp only[hi,decide_true,inb_ok h0 hi,Bool.cond_self,branch_true,W1 h0 hi h1]at hx
  cases hc:decide (byteAt s i<c)
  ·left;intro R;rw[hc]at hg;refine(hx R).trans ?_;rw[hc];simp only[res_l1Add,hg,cond_false];rw[show i+((0:Nat):Int)=i by omega];rfl
  ·right;rw[hc]at hg;refine⟨s,c,i+1, ?_, ?_, ?_,fun R=>(hx R).trans ?_⟩
   ·exact andd.2 ⟨dec_iff.2 (by omega),ble_iff.2 h1⟩
   ·simp only[mu_l1Add];omega
   ·simp only[res_l1Add,hg,cond_true];rw[show i+1+(lowN c (s.drop (i+1).toNat):Int)=i+((lowN c (s.drop (i+1).toNat)+1:Nat):Int)by omega]
   ·rw[hc];rfl
 ·left;intro R;refine(hx R).trans ?_;simp only[hi,decide_false,res_l1Add];rw[drop_eq_nil_of_le (by omega)];show _=K (.exit 0) ⟨[(0,vS s),(1, .d (ofD TU8 c)),(5,vI (i+((0:Nat):Int)))],[]⟩;rw[show i+((0:Nat):Int)=i by omega];rfl
def g_l1Add:St→Cont→Option Fin:=gP sh_l1Add (fun v=>match v with | ((s,c,i,()),())=>pre_l1Add s c i) (fun v K=>match v with | ((s,c,i,()),())=>res_l1Add s c i K)
def L_l1Add:LpL:=(2,g_l1Add)::[]
def cx_l1Add:Cx:=(cb_l1Add).withLoops (look L_l1Add)
theorem l_l1Add {L:LpL} (n:Nat) (h1:L.drop n=[]) (h2:idsFree (L.take n) (loopOf Tryz.f117 0)=true):LoopsTo g_l1Add (cb_l1Add) (loopOf Tryz.f117 0) 2 L :=
 with_drop h1 h2 (gP_ok (fun v=>match v with | ((s,c,i,()),())=>mu_l1Add s c i) fun v K hI=>by
  obtain⟨⟨s,c,i,⟨⟩⟩,⟨⟩⟩:=v;exact(r_l1Add s c i K hI).imp id fun⟨s',c',i',h⟩=>⟨((s',c',i',()),()),h⟩)
theorem y_spec_l1Add (s:Str) (c:Int):evFn cx_l1Add Tryz.f117 true [ofD .str s,ofD TU8 c] []=(
need (pre_l1Add s c 0) <|
need (bif decide (decide (0+(lowN c s:Int)<(s.length:Int))=true)then inb (0+(lowN c s:Int)) s.length else true) <|
branch (bif decide (0+(lowN c s:Int)<(s.length:Int))then decide (byteAt s (0+(lowN c s:Int))=c)else false) ( some ((vS s),[])) (
 need (inr 0 (0+(lowN c s:Int)) s.length) <|
 need (decide (((List.take ((0+(lowN c s:Int)).toNat-(0:Int).toNat) s).length+(byteL [c]).length)≤9223372036854775807)) <|
 need (inr (0+(lowN c s:Int)) ((s.length:Int)) s.length) <|
 need (decide ((((List.take ((0+(lowN c s:Int)).toNat-(0:Int).toNat) s).append (byteL [c])).length+(List.take (((s.length:Int)).toNat-(0+(lowN c s:Int)).toNat) (List.drop (0+(lowN c s:Int)).toNat s)).length)≤9223372036854775807)) <| some ((vS (((List.take ((0+(lowN c s:Int)).toNat-(0:Int).toNat) s).append (byteL [c])).append (List.take (((s.length:Int)).toNat-(0+(lowN c s:Int)).toNat) (List.drop (0+(lowN c s:Int)).toNat s)))),[]))):=by kernel_rfl
theorem s_spec_l1Add (s:Str) (hs:Fit .str s) (c:Int) (hc:Fit TU8 c) (hpre:(Nat.ble s.length 1000000)=true):Sat Tryz.prog 117 [ofD .str s,ofD TU8 c] [] (.d (ofD .str (addS (UInt8.ofNat c.toNat) s))) [] :=
 fn_sound (cx:=cx_l1Add) Tryz.func117 rfl ttOk Γ52ok mixed (fun c hc=>LoopsOk.all (l:=[(2,loopOf Tryz.f117 0)]) (by cases hc;kernel_rfl) ⟨atLoop rfl (l_l1Add 1 rfl (by kernel_rfl)),trivial⟩) (ro:=true) (by
  have hn:=lowN_le (c:=c) (s:=s);have hb:=ble_iff.1 hpre;have h:pre_l1Add s c 0=true:=andd.2 ⟨rfl,ble_iff.2 hs⟩;have ha:=add_low (c:=UInt8.ofNat c.toNat) s;have hq:=u8_nat hc;rw[hq]at ha;rw[y_spec_l1Add,h,ha];clear ha
  generalize lowN c s=n at hn
  have e0:(0+(n:Int))=(n:Int):=Int.zero_add _;rw[e0];have e1:((n:Int)).toNat=n:=Int.toNat_natCast n;have e2:List.take (((s.length:Int)).toNat-n) (List.drop n s)=List.drop n s:=List.take_of_length_le (by rw[length_drop];omega);have hl:(byteL [c]).length=1:=rfl;have k3:inr 0 (n:Int) s.length=true:=inr_iff.2 (by omega);have k4:decide ((List.take (((n:Int)).toNat-(0:Int).toNat) s).length+(byteL [c]).length≤9223372036854775807)=true:=dec_iff.2 (by rw[length_take,hl];omega);have k5:inr (n:Int) ((s.length:Int)) s.length=true:=inr_iff.2 (by omega);have k6:decide (((List.take (((n:Int)).toNat-(0:Int).toNat) s).append (byteL [c])).length+(List.take (((s.length:Int)).toNat-((n:Int)).toNat) (List.drop ((n:Int)).toNat s)).length≤9223372036854775807)=true:=dec_iff.2 (by
   rw[e1,e2,List.append_eq,length_append,length_take,length_drop,hl];omega)
  have e3:((List.take (n-(0:Int).toNat) s).append (byteL [c])).append (List.drop n s)=List.take n s++UInt8.ofNat c.toNat::List.drop n s:=by
   show(List.take n s++[UInt8.ofNat c.toNat])++List.drop n s=_;rw[append_assoc];rfl
  rw[k3,k4,k5,k6,e1,e2,e3]
  by_cases hi:n<s.length
  ·have hi':(n:Int)<(s.length:Int):=by omega
   have hx:decide (byteAt s (n:Int)=c)=Nat.beq (s.getD n 0).toNat (UInt8.ofNat c.toNat).toNat:=by
    show decide (((s.getD n 0).toNat:Int)=c)=_
    cases hb':Nat.beq (s.getD n 0).toNat (UInt8.ofNat c.toNat).toNat
    ·refine zF fun hh => ?_;rw[show (s.getD n 0).toNat=(UInt8.ofNat c.toNat).toNat by omega,Nat.beq_refl]at hb'
     cases hb'
    ·have:=zB hb';exact zT (by omega)
   rw[hx,zT hi',inb_ok (by omega) hi',show Nat.blt n s.length=true from ble_iff.2 hi]
   cases Nat.beq (s.getD n 0).toNat (UInt8.ofNat c.toNat).toNat<;>rfl
  ·have hi':¬(n:Int)<(s.length:Int):=by omega
   have hb2:Nat.blt n s.length=false:=by
    cases hb':Nat.blt n s.length
    ·rfl
    ·exact absurd (ble_iff.1 hb') hi
   rw[zF hi',hb2];rfl)
def c_spec_l1Add:Con:=conT [.str,TU8] fun(s:Str) (c:Int)=>(some (Nat.ble s.length 1000000), .d (ofD .str (addS (UInt8.ofNat c.toNat) s)))
theorem k_spec_l1Add:ConOk Tryz.prog 117 c_spec_l1Add:=conT_ok Tryz.call117 fun s hs c hc hqq=>s_spec_l1Add s hs c hc (pre_of hqq)
def Γ53:GL:=(117,c_spec_l1Add)::Γ52
theorem Γ53ok:GO Γ53 := .cons k_spec_l1Add Γ52ok
def smallsG (g:Gram):Str:=setS small (signsG g)
theorem setS_congr {p q:UInt8→Bool} {s:Str} (h:∀c∈s,p c=q c):setS p s=setS q s:=setS_eq setS_asc fun y=>by
 rw[setS_mem];exact⟨fun ⟨h1,h2⟩=>⟨h1,(h y h1) ▸ h2⟩,fun ⟨h1,h2⟩=>⟨h1,(h y h1).symm ▸ h2⟩⟩
theorem smalls_eq {g:Gram} (h:okG g=true):setS (fun c=>bigc c==false) (signsG g)=smallsG g:=setS_congr fun c hc=>by
 have h1:=signs_all h c hc;have h2:=big_small c;unfold sign at h1
 cases hb:bigc c<;>rw[hb]at h1 h2
 ·exact h1.symm
 ·cases hs:small c
  ·rfl
  ·exact absurd ⟨rfl,hs⟩ h2
def cb_everySign:Cx:=cxOf Γ53 Tryz.f103.ntmps [(3,[3,9,10,11])] [(0,[3]),(1,[3,9,10,11]),(1000000,[2])] [] []
abbrev st_everySign (s:Str) (l:List Rule) (n i:Int):St:=⟨[(3,vS s),(9, .d (ofD TRL l)),(10,vI n),(11,vI i)],[]⟩
theorem x_impl_everySign (s:Str) (l:List Rule) (n i:Int) (R:St→Option Fin) (K:Cont):evC (cb_everySign.withLoops (look [])) (loopOf Tryz.f103 0) (st_everySign s l n i) (onward (headAt (cb_everySign.withLoops (look [])) 3) R K)=(
branch (decide (i<n)) (
 need (inb i l.length) <|
 need (decide ((length (l.getD i.toNat d0).fst+length (l.getD i.toNat d0).snd)≤9223372036854775807)) <|
 need (decide ((length s+(List.append (l.getD i.toNat d0).fst (l.getD i.toNat d0).snd).length)≤9223372036854775807)) <| R (st_everySign (List.append s (List.append (l.getD i.toNat d0).fst (l.getD i.toNat d0).snd)) l n (W64 (i+1)))) ( K (.exit 0) (.mk [(3,vS s)] []))):=by kernel_rfl
def cx0_everySign:Cx:=(cb_everySign).withLoops (look [])
def sh_everySign:Sh:=([(3, .d .str),(9, .d TRL),(10, .d TI64),(11, .d TI64)],[])
def pre_everySign (s:Str) (l:List Rule) (n i:Int):Bool:=decide (0≤i)&&(decide (n=(length l:Int))&&(Nat.ble (length l) big&&Nat.ble (s.length+(sgsOf (l.drop i.toNat)).length) 1000000))
def res_everySign (s:Str) (l:List Rule) (_n i:Int) (K:Cont):Option Fin:=K (.exit 0) ⟨[(3,vS (s++sgsOf (l.drop i.toNat)))],[]⟩
def mu_everySign (_s:Str) (l:List Rule) (_n i:Int):Nat:=length l-i.toNat
theorem r_everySign (s:Str) (l:List Rule) (n i:Int) (K:Cont) (hI:pre_everySign s l n i=true):(∀R:St→Option Fin,evC cx0_everySign (loopOf Tryz.f103 0) (st_everySign s l n i) (onward (headAt cx0_everySign 3) R K)=res_everySign s l n i K) ∨
  (∃(s':Str) (l':List Rule) (n' i':Int),pre_everySign s' l' n' i'=true∧mu_everySign s' l' n' i'<mu_everySign s l n i∧res_everySign s' l' n' i' K=res_everySign s l n i K∧∀R:St→Option Fin,evC cx0_everySign (loopOf Tryz.f103 0) (st_everySign s l n i) (onward (headAt cx0_everySign 3) R K)=R (st_everySign s' l' n' i')):=by
 have hx:=fun R=>x_impl_everySign s l n i R K;simp only[pre_everySign,andd,dec_iff,ble_iff]at hI;obtain⟨h0,rfl,h1,h2⟩:=hI
 by_cases hi:i<(l.length:Int)
 ·have hg:=sgs_at h0 hi;rw[hg,length_append,length_append]at h2;have k1:decide ((l.getD i.toNat d0).1.length+(l.getD i.toNat d0).2.length≤9223372036854775807)=true:=dec_iff.2 (by omega);have k2:decide (s.length+((l.getD i.toNat d0).1++(l.getD i.toNat d0).2).length≤9223372036854775807)=true:=dec_iff.2 (by rw[length_append];omega);simp only[hi,decide_true,inb_ok h0 hi,branch_true,W1 h0 hi h1]at hx;right;refine⟨s++((l.getD i.toNat d0).1++(l.getD i.toNat d0).2),l,(l.length:Int),i+1, ?_, ?_, ?_,fun R=>(hx R).trans ?_⟩
  ·simp only[pre_everySign,andd,dec_iff,ble_iff,length_append];exact⟨by omega,trivial,h1,by omega⟩
  ·simp only[mu_everySign];omega
  ·simp only[res_everySign,hg];simp only[append_assoc]
  ·exact (congrArg (need · _) k1).trans (congrArg (need · _) k2)
 ·left;intro R;refine(hx R).trans ?_;simp only[hi,decide_false,branch_false,res_everySign,sgs_end (show (l.length:Int)≤i by omega)];rw[List.append_nil]
def g_everySign:St→Cont→Option Fin:=gP sh_everySign (fun v=>match v with | ((s,l,n,i,()),())=>pre_everySign s l n i) (fun v K=>match v with | ((s,l,n,i,()),())=>res_everySign s l n i K)
def L_everySign:LpL:=(3,g_everySign)::[]
def cx_everySign:Cx:=(cb_everySign).withLoops (look L_everySign)
theorem l_everySign {L:LpL} (n:Nat) (h1:L.drop n=[]) (h2:idsFree (L.take n) (loopOf Tryz.f103 0)=true):LoopsTo g_everySign (cb_everySign) (loopOf Tryz.f103 0) 3 L :=
 with_drop h1 h2 (gP_ok (fun v=>match v with | ((s,l,n,i,()),())=>mu_everySign s l n i) fun v K hI=>by
  obtain⟨⟨s,l,n,i,⟨⟩⟩,⟨⟩⟩:=v;exact(r_everySign s l n i K hI).imp id fun⟨s',l',n',i',h⟩=>⟨((s',l',n',i',()),()),h⟩)
theorem y_impl_everySign (g:Gram):evFn cx_everySign Tryz.f103 true [ofD TG g] []=(
need (pre_everySign g.fst g.snd ((length g.snd:Int)) 0) <| some ((vS (List.append g.fst (sgsOf g.snd))),[])):=by kernel_rfl
theorem s_impl_everySign (g:Gram) (hg:Fit TG g) (hpre:(Nat.ble (length (signsG g)) 1000000)=true):Sat Tryz.prog 103 [ofD TG g] [] (.d (ofD .str (signsG g))) [] :=
 fn_sound (cx:=cx_everySign) Tryz.func103 rfl ttOk Γ53ok mixed (fun c hc=>LoopsOk.all (l:=[(3,loopOf Tryz.f103 0)]) (by cases hc;kernel_rfl) ⟨atLoop rfl (l_everySign 1 rfl (by kernel_rfl)),trivial⟩) (ro:=true) (by
  have h:pre_everySign g.1 g.2 (length g.2:Int) 0=true:=by
   simp only[pre_everySign,andd,dec_iff,ble_iff];refine⟨by omega,trivial,hg.2.1, ?_⟩;have:=ble_iff.1 hpre;unfold signsG at this;rw[length_append]at this;exact this
  rw[y_impl_everySign,h];rfl)
def c_impl_everySign:Con:=conT [TG] fun(g:Gram)=>(some (Nat.ble (length (signsG g)) 1000000), .d (ofD .str (signsG g)))
theorem k_impl_everySign:ConOk Tryz.prog 103 c_impl_everySign:=conT_ok Tryz.call103 fun g hg hqq=>s_impl_everySign g hg (pre_of hqq)
def Γ54:GL:=(103,c_impl_everySign)::Γ53
theorem Γ54ok:GO Γ54 := .cons k_impl_everySign Γ53ok
theorem y_impl_setOf (s:Str) (f:FuncId):evFn (cxOf Γ54 Tryz.f102.ntmps [] [] [] []) Tryz.f102 true [ofD .str s, .one (.fn f [])] []=(
need ((intL s).length.blt 50) <|
need ((sortL (intL s)).length.ble 1000000) <|
need ((cptV (sortL (intL s))).length.ble 1000000&&(holdF f).isSome) <| some ((vS (byteL (delV f (cptV (sortL (intL s)))))),[])):=by kernel_rfl
theorem s_impl_setOf (s:Str) (f:FuncId) (h:(Nat.blt (length s) 50&&(holdF f).isSome)=true):Sat Tryz.prog 102 [ofD .str s, .one (.fn f [])] [] (.d (ofD .str (setS (pB f) s))) [] :=
 fn_sound (cx:=cxOf Γ54 Tryz.f102.ntmps [] [] [] []) Tryz.func102 rfl ttOk Γ54ok mixed (fun _ _=>LoopsOk.no fun _=>rfl) (ro:=true) (by
  obtain⟨h1,h2⟩:=andd.1 h;have hl:length s<50:=ble_iff.1 h1;have hi:(intL s).length=length s:=by unfold intL;rw[List.length_map]
  have k1:(intL s).length.blt 50=true:=by rw[hi];exact h1
  have k2:(sortL (intL s)).length.ble 1000000=true:=by rw[sortL_len,hi,ble_iff];omega
  have k3:((cptV (sortL (intL s))).length.ble 1000000&&(holdF f).isSome)=true:=andd.2 ⟨ble_iff.2 (by have:=cpt_len s;omega),h2⟩;rw[y_impl_setOf,k1,k2,k3,← setV_eq h2 hl];rfl)
def c_impl_setOf:Con:=⟨false,fun ds os=>match ds,os with
 | [.one (.r (.v (.string s))), .one (.fn f [])],[]=>some (some (Nat.blt (length s.data.toList) 50&&(holdF f).isSome), .d (ofD .str (setS (pB f) s.data.toList)),[])
 |_,_=>none⟩
theorem k_impl_setOf:ConOk Tryz.prog 102 c_impl_setOf:=by
 refine⟨Tryz.call102,fun ds os c x objs hc hok => ?_⟩;unfold c_impl_setOf at hc;dsimp only at hc
 split at hc
 ·rename_i s f
  cases hc
  exact s_impl_setOf s.data.toList f (pre_of hok)
 ·cases hc
def Γ55:GL:=(102,c_impl_setOf)::Γ54
theorem Γ55ok:GO Γ55 := .cons k_impl_setOf Γ54ok
theorem y_impl_GramSmalls (g:Gram):evFn (cxOf Γ55 Tryz.f52.ntmps [] [] [] []) Tryz.f52 true [ofD TG g] []=(
branch (!okG g) ( some ((vS []),[])) (
 need ((length (signsG g)).ble 1000000) <|
 need ((length (signsG g)).blt 50&&(holdF 55).isSome) <| some ((vS (setS (pB 55) (signsG g))),[]))):=by kernel_rfl
theorem s_impl_GramSmalls (g:Gram) (_hg:Fit TG g):Sat Tryz.prog 52 [ofD TG g] [] (.d (ofD .str (bif okG g then smallsG g else []))) [] :=
 fn_sound (cx:=cxOf Γ55 Tryz.f52.ntmps [] [] [] []) Tryz.func52 rfl ttOk Γ55ok mixed (fun _ _=>LoopsOk.no fun _=>rfl) (ro:=true) (by
  rw[y_impl_GramSmalls]
  cases h:okG g
  ·rfl
  ·have hl:=signs_len h;have k1:(length (signsG g)).ble 1000000=true:=ble_iff.2 (by omega);have k2:((length (signsG g)).blt 50&&(holdF 55).isSome)=true:=andd.2 ⟨ble_iff.2 (by omega),rfl⟩;rw[k1,k2];rfl)
def c_impl_GramSmalls:Con:=conT [TG] fun(g:Gram)=>(none, .d (ofD .str (bif okG g then smallsG g else [])))
theorem k_impl_GramSmalls:ConOk Tryz.prog 52 c_impl_GramSmalls:=conT_ok Tryz.call52 fun g hg _=>s_impl_GramSmalls g hg
def Γ56:GL:=(52,c_impl_GramSmalls)::Γ55
theorem Γ56ok:GO Γ56 := .cons k_impl_GramSmalls Γ55ok
def cb_l1Signs:Cx:=cxOf Γ56 Tryz.f74.ntmps [(8,[1,5,6,8]),(4,[1,2,5,6,7])] [(2,[5]),(3,[1,5,6,8]),(0,[1,5,6]),(1,[1,2,5,6,7]),(1000000,[4])] [] []
abbrev st_l1SigB (b:Bool) (o a:Str) (i:Int):St:=⟨[(1,vB b),(5,vS o),(6,vS a),(8,vI i)],[]⟩
theorem x_spec_l1Signs_1 (b:Bool) (o a:Str) (i:Int) (R:St→Option Fin) (K:Cont):evC (cb_l1Signs.withLoops (look [])) (loopOf Tryz.f74 1) (st_l1SigB b o a i) (onward (headAt (cb_l1Signs.withLoops (look [])) 8) R K)=(
branch (decide (i<(a.length:Int))) (
 need (inb i a.length) <|
 branch (decide (bigI (byteAt a i)=b)) (
 need (inb i a.length) <|
 need (o.length.ble 1000000) <| R (st_l1SigB b (addS (UInt8.ofNat (byteAt a i).toNat) o) a (W64 (i+1)))) ( R (st_l1SigB b o a (W64 (i+1))))) ( K (.exit 2) (.mk [(5,vS o)] []))):=by kernel_rfl
def bigIs (b:Bool) (c:UInt8):Bool:=bigc c==b
theorem put_at {p:UInt8→Bool} {o a:Str} {i:Int} (h0:0≤i) (h1:i<(a.length:Int)):putS p o (a.drop i.toNat)=putS p (bif p (a.getD i.toNat 0)then addS (a.getD i.toNat 0) o else o) (a.drop (i+1).toNat):=by
 have hn:i.toNat<a.length:=by omega
 rw[drop_eq_getElem_cons hn,show (i+1).toNat=i.toNat+1 by omega,zG,zE hn];rfl
def cx0_l1SigB:Cx:=(cb_l1Signs).withLoops (look [])
def sh_l1SigB:Sh:=([(1, .d .bool),(5, .d .str),(6, .d .str),(8, .d TI64)],[])
def pre_l1SigB (_b:Bool) (o a:Str) (i:Int):Bool:=decide (0≤i)&&(Nat.ble (length a) 1000000&&decide ((length o:Int)≤i))
def res_l1SigB (b:Bool) (o a:Str) (i:Int) (K:Cont):Option Fin:=K (.exit 2) ⟨[(5,vS (putS (bigIs b) o (a.drop i.toNat)))],[]⟩
def mu_l1SigB (_b:Bool) (_o a:Str) (i:Int):Nat:=length a-i.toNat
theorem r_l1SigB (b:Bool) (o a:Str) (i:Int) (K:Cont) (hI:pre_l1SigB b o a i=true):(∀R:St→Option Fin,evC cx0_l1SigB (loopOf Tryz.f74 1) (st_l1SigB b o a i) (onward (headAt cx0_l1SigB 8) R K)=res_l1SigB b o a i K) ∨
  (∃(b':Bool) (o' a':Str) (i':Int),pre_l1SigB b' o' a' i'=true∧mu_l1SigB b' o' a' i'<mu_l1SigB b o a i∧res_l1SigB b' o' a' i' K=res_l1SigB b o a i K∧∀R:St→Option Fin,evC cx0_l1SigB (loopOf Tryz.f74 1) (st_l1SigB b o a i) (onward (headAt cx0_l1SigB 8) R K)=R (st_l1SigB b' o' a' i')):=by
 have hx:=fun R=>x_spec_l1Signs_1 b o a i R K;simp only[pre_l1SigB,andd,dec_iff,ble_iff]at hI;obtain⟨h0,h1,h2⟩:=hI
 by_cases hi:i<(a.length:Int)
 ·have hg:=put_at (p:=bigIs b) (o:=o) h0 hi;have hby:byteAt a i=((a.getD i.toNat 0).toNat:Int):=rfl;have hu:UInt8.ofNat (byteAt a i).toNat=a.getD i.toNat 0:=by rw[hby];exact byteL_nat _
  have hc0:decide (bigI (byteAt a i)=b)=bigIs b (a.getD i.toNat 0):=by
   rw[hby,bigI_nat];unfold bigIs
   cases bigc (a.getD i.toNat 0)<;>cases b<;>rfl
  have hol:o.length.ble 1000000=true:=ble_iff.2 (by omega);simp only[hi,decide_true,inb_ok h0 hi,branch_true,W1 h0 hi (show a.length≤big by unfold big;omega),hc0,hu,hol]at hx;right
  cases hc:bigIs b (a.getD i.toNat 0)
  ·rw[hc]at hg;refine⟨b,o,a,i+1, ?_, ?_, ?_,fun R=>(hx R).trans ?_⟩
   ·simp only[pre_l1SigB,andd,dec_iff,ble_iff];exact ⟨by omega,h1,by omega⟩
   ·simp only[mu_l1SigB];omega
   ·simp only[res_l1SigB,hg];rfl
   ·rw[hc];rfl
  ·rw[hc]at hg;refine⟨b,addS (a.getD i.toNat 0) o,a,i+1, ?_, ?_, ?_,fun R=>(hx R).trans ?_⟩
   ·simp only[pre_l1SigB,andd,dec_iff,ble_iff];have:=addS_len (c:=a.getD i.toNat 0) (s:=o);exact⟨by omega,h1,by omega⟩
   ·simp only[mu_l1SigB];omega
   ·simp only[res_l1SigB,hg];rfl
   ·rw[hc];rfl
 ·left;intro R;refine(hx R).trans ?_;simp only[hi,decide_false,branch_false,res_l1SigB];rw[drop_eq_nil_of_le (by omega)];rfl
def g_l1SigB:St→Cont→Option Fin:=gP sh_l1SigB (fun v=>match v with | ((b,o,a,i,()),())=>pre_l1SigB b o a i) (fun v K=>match v with | ((b,o,a,i,()),())=>res_l1SigB b o a i K)
def L_l1SigB:LpL:=(8,g_l1SigB)::[]
theorem l_l1SigB {L:LpL} (n:Nat) (h1:L.drop n=[]) (h2:idsFree (L.take n) (loopOf Tryz.f74 1)=true):LoopsTo g_l1SigB (cb_l1Signs) (loopOf Tryz.f74 1) 8 L :=
 with_drop h1 h2 (gP_ok (fun v=>match v with | ((b,o,a,i,()),())=>mu_l1SigB b o a i) fun v K hI=>by
  obtain⟨⟨b,o,a,i,⟨⟩⟩,⟨⟩⟩:=v;exact(r_l1SigB b o a i K hI).imp id fun⟨b',o',a',i',h⟩=>⟨((b',o',a',i',()),()),h⟩)
abbrev st_l1SigA (b:Bool) (o a:Str) (i:Int) (g:Gram):St:=⟨[(1,vB b),(2, kp0),(5,vS o),(6,vS a),(7,vI i)],[(500000,some (boxD 25 TG g))]⟩
theorem x_spec_l1Signs (g:Gram) (b:Bool) (o a:Str) (i:Int) (R:St→Option Fin) (K:Cont):evC (cb_l1Signs.withLoops (look L_l1SigB)) (loopOf Tryz.f74 0) (st_l1SigA b o a i g) (onward (headAt (cb_l1Signs.withLoops (look L_l1SigB)) 4) R K)=(
branch (decide (i<(length g.snd:Int))) (
 need (inb i (length g.snd)) <|
 need (decide ((length a+length (getD g.snd i.toNat d0).fst)≤9223372036854775807)) <|
 need (inb i (length g.snd)) <|
 need (decide (((List.append a (getD g.snd i.toNat d0).fst).length+length (getD g.snd i.toNat d0).snd)≤9223372036854775807)) <| R (st_l1SigA b o ((List.append a (getD g.snd i.toNat d0).fst).append (getD g.snd i.toNat d0).snd) (W64 (i+1)) g)) ( K (.exit 0) (.mk [(1,vB b),(5,vS o),(6,vS a)] []))):=by kernel_rfl
def cx0_l1SigA:Cx:=(cb_l1Signs).withLoops (look L_l1SigB)
def sh_l1SigA:Sh:=([(1, .d .bool),(2, .ptr 500000 0),(5, .d .str),(6, .d .str),(7, .d TI64)],[(500000, .box 25 TG)])
def pre_l1SigA (_b:Bool) (_o a:Str) (i:Int) (g:Gram):Bool:=decide (0≤i)&&(Nat.ble (length g.2) big&&Nat.ble (length a+(sgsOf (g.2.drop i.toNat)).length) 1000000)
def res_l1SigA (b:Bool) (o a:Str) (i:Int) (g:Gram) (K:Cont):Option Fin:=K (.exit 0) ⟨[(1,vB b),(5,vS o),(6,vS (a++sgsOf (g.2.drop i.toNat)))],[]⟩
def mu_l1SigA (_b:Bool) (_o _a:Str) (i:Int) (g:Gram):Nat:=length g.2-i.toNat
theorem r_l1SigA (b:Bool) (o a:Str) (i:Int) (g:Gram) (K:Cont) (hI:pre_l1SigA b o a i g=true):(∀R:St→Option Fin,evC cx0_l1SigA (loopOf Tryz.f74 0) (st_l1SigA b o a i g) (onward (headAt cx0_l1SigA 4) R K)=res_l1SigA b o a i g K) ∨
  (∃(b':Bool) (o' a':Str) (i':Int) (g':Gram),pre_l1SigA b' o' a' i' g'=true∧mu_l1SigA b' o' a' i' g'<mu_l1SigA b o a i g∧res_l1SigA b' o' a' i' g' K=res_l1SigA b o a i g K∧∀R:St→Option Fin,evC cx0_l1SigA (loopOf Tryz.f74 0) (st_l1SigA b o a i g) (onward (headAt cx0_l1SigA 4) R K)=R (st_l1SigA b' o' a' i' g')):=by
 have hx:=fun R=>x_spec_l1Signs g b o a i R K;simp only[pre_l1SigA,andd,dec_iff,ble_iff]at hI;obtain⟨h0,h1,h2⟩:=hI
 by_cases hi:i<(length g.2:Int)
 ·have hg:=sgs_at h0 hi;rw[hg,length_append,length_append]at h2;have k1:decide (length a+length (getD g.2 i.toNat d0).1≤9223372036854775807)=true:=dec_iff.2 (by omega);have k2:decide ((List.append a (getD g.2 i.toNat d0).1).length+length (getD g.2 i.toNat d0).2≤9223372036854775807)=true:=dec_iff.2 (by rw[List.append_eq,length_append];omega);simp only[hi,decide_true,inb_ok h0 hi,branch_true,W1 h0 hi h1]at hx;right;refine⟨b,o,a++(g.2.getD i.toNat d0).1++(g.2.getD i.toNat d0).2,i+1,g, ?_, ?_, ?_,fun R=>(hx R).trans ?_⟩
  ·simp only[pre_l1SigA,andd,dec_iff,ble_iff,length_append];exact⟨by omega,h1,by omega⟩
  ·simp only[mu_l1SigA];omega
  ·simp only[res_l1SigA,hg,append_assoc]
  ·exact (congrArg (need · _) k1).trans (congrArg (need · _) k2)
 ·left;intro R;refine(hx R).trans ?_;simp only[hi,decide_false,branch_false,res_l1SigA,sgs_end (show (length g.2:Int)≤i by omega)];rw[List.append_nil]
def g_l1SigA:St→Cont→Option Fin:=gP sh_l1SigA (fun v=>match v with | ((b,o,a,i,()),(g,()))=>pre_l1SigA b o a i g) (fun v K=>match v with | ((b,o,a,i,()),(g,()))=>res_l1SigA b o a i g K)
def L_l1SigA:LpL:=(4,g_l1SigA)::L_l1SigB
def cx_l1SigA:Cx:=(cb_l1Signs).withLoops (look L_l1SigA)
theorem l_l1SigA {L:LpL} (n:Nat) (h1:L.drop n=L_l1SigB) (h2:idsFree (L.take n) (loopOf Tryz.f74 0)=true):LoopsTo g_l1SigA (cb_l1Signs) (loopOf Tryz.f74 0) 4 L :=
 with_drop h1 h2 (gP_ok (fun v=>match v with | ((b,o,a,i,()),(g,()))=>mu_l1SigA b o a i g) fun v K hI=>by
  obtain⟨⟨b,o,a,i,⟨⟩⟩,⟨g,⟨⟩⟩⟩:=v;exact(r_l1SigA b o a i g K hI).imp id fun⟨b',o',a',i',g',h⟩=>⟨((b',o',a',i',()),(g',())),h⟩)
theorem y_spec_l1Signs (g:Gram) (b:Bool):evFn cx_l1SigA Tryz.f74 true [ofD TG g,ofD .bool b] []=(
need (pre_l1SigA b ([]:Str) g.fst 0 g) <|
need (pre_l1SigB b ([]:Str) (List.append g.fst (sgsOf g.snd)) 0) <| some ((vS (putS (bigIs b) ([]:Str) (id (List.append g.fst (sgsOf g.snd))))),[])):=by kernel_rfl
theorem s_spec_l1Signs (g:Gram) (hg:Fit TG g) (b:Bool) (_hb:Fit .bool b) (hpre:(okG g)=true):Sat Tryz.prog 74 [ofD TG g,ofD .bool b] [] (.d (ofD .str (setS (bigIs b) (signsG g)))) [] :=
 fn_sound (cx:=cx_l1SigA) Tryz.func74 rfl ttOk Γ56ok mixed (fun c hc=>LoopsOk.all (l:=[(4,loopOf Tryz.f74 0),(8,loopOf Tryz.f74 1)]) (by cases hc;kernel_rfl) ⟨atLoop rfl (l_l1SigA 1 rfl (by kernel_rfl)),atLoop rfl (l_l1SigB 2 rfl (by kernel_rfl)),trivial⟩) (ro:=true) (by
  have hl:=signs_len hpre;have e:(signsG g).length=length g.1+(sgsOf g.2).length:=by unfold signsG;rw[length_append]
  have h1:pre_l1SigA b ([]:Str) g.1 0 g=true:=andd.2 ⟨rfl,andd.2 ⟨ble_iff.2 hg.2.1,ble_iff.2 (show length g.1+(sgsOf g.2).length≤1000000 by omega)⟩⟩;have h2:pre_l1SigB b ([]:Str) (List.append g.1 (sgsOf g.2)) 0=true:=andd.2 ⟨rfl,andd.2 ⟨ble_iff.2 (show (signsG g).length≤1000000 by omega),rfl⟩⟩;rw[y_spec_l1Signs,h1,h2];rfl)
def c_spec_l1Signs:Con:=conT [TG, .bool] fun(g:Gram) (b:Bool)=>(some (okG g), .d (ofD .str (setS (bigIs b) (signsG g))))
theorem k_spec_l1Signs:ConOk Tryz.prog 74 c_spec_l1Signs:=conT_ok Tryz.call74 fun g hg b hb hqq=>s_spec_l1Signs g hg b hb (pre_of hqq)
def Γ57:GL:=(74,c_spec_l1Signs)::Γ56
theorem Γ57ok:GO Γ57 := .cons k_spec_l1Signs Γ56ok
theorem conT_val {P:Program} {f:FuncId} {ts:List Ty} {G:Fn ts (Option Bool×T)} (he:EachF ts G fun ds r=>(r.1=none∨r.1=some true)→SatX P f ds [] r.2 []):ConVal P f (conT ts G):=by
 intro ds os c x objs hc hok;simp only[conT]at hc
 split at hc
 ·split at hc
  ·rename_i c' r hap
   cases hc
   intro w F β args H hds;obtain⟨ds',h1,h2⟩:=each_of he hap hds;exact h1 hok w F β args H h2
  ·cases hc
 ·cases hc
theorem ixB_plain (s:Str) (c:UInt8) (hs:length s≤9223372036854775807):plain (.int .i64 (Lib.indexByte s c))=true:=by
 have h1:=Lib.indexByte_ge s c;have h2:∀t:Str,Lib.indexByte t c≤(t.length:Int):=fun t=>by
  induction t with
  |nil=>exact (by decide:(-1:Int)≤0)
  |cons b l ih =>
   unfold Lib.indexByte;simp only[length_cons]
   split
   ·omega
   ·split<;>omega
 have:=h2 s;exact plain_i64 (by omega) (by omega)
def c_internal_bytealg_IndexByteString:Con:=conT [.str,TU8] fun(s:Str) (c:Int)=>(none, .d (ofD TI64 (Lib.indexByte s c.toNat.toUInt8)))
theorem sx_IndexByteString (s:Str) (c:Int) (hs:length s≤9223372036854775807):SatX Tryz.prog 187 [ofD .str s,ofD TU8 c] [] (vI (Lib.indexByte s c.toNat.toUInt8)) []:=by
 intro w F β args H hds
 cases hds with | cons h1 h2=>cases h2 with | cons h2 h3 =>
 cases h3
 obtain⟨e1,_⟩:=h1;obtain⟨e2,_⟩:=h2;subst e1;subst e2;exact .inr ⟨.int .i64 (Lib.indexByte s c.toNat.toUInt8),w,(run_callFunc_extern Tryz.func187 (by kernel_rfl) (by kernel_rfl) (by kernel_rfl) (e:=Extern.BytealgIndexByte.indexByte) (by kernel_rfl) _ w).trans
   (congrArg (fun r=>Result.andThen r fun v w'=>Result.ok (Next.value v) w') (Lib.run_indexByteString (mk s) c w)),_,F,β,rfl,H,
  fun i hi=>absurd hi (Nat.not_lt_zero i),fun i o hi=>absurd hi (Nat.not_lt_zero i),fun _ _ _ hh=>(nomatch hh),rep_v (ixB_plain s _ hs)⟩
theorem k_internal_bytealg_IndexByteString:ConVal Tryz.prog 187 c_internal_bytealg_IndexByteString:=conT_val fun s hs c _ _=>sx_IndexByteString s c hs
def Γ58:GL:=(187,c_internal_bytealg_IndexByteString)::Γ57
theorem Γ58ok:GO Γ58 := .consV k_internal_bytealg_IndexByteString Γ57ok
theorem y_internal_stringslite_IndexByte (s:Str) (c:Int):evFn (cxOf Γ58 Tryz.f166.ntmps [] [] [] []) Tryz.f166 true [ofD .str s,ofD TU8 c] []=(
some ((vI (Lib.indexByte s c.toNat.toUInt8)),[])):=by kernel_rfl
theorem s_internal_stringslite_IndexByte (s:Str) (_hs:Fit .str s) (c:Int) (_hc:Fit TU8 c):Sat Tryz.prog 166 [ofD .str s,ofD TU8 c] [] (.d (ofD TI64 (Lib.indexByte s c.toNat.toUInt8))) [] :=
 fn_sound (cx:=cxOf Γ58 Tryz.f166.ntmps [] [] [] []) Tryz.func166 rfl ttOk Γ58ok mixed (fun _ _=>LoopsOk.no fun _=>rfl) (ro:=true) (by
  rw[y_internal_stringslite_IndexByte];rfl)
def c_internal_stringslite_IndexByte:Con:=conT [.str,TU8] fun(s:Str) (c:Int)=>(none, .d (ofD TI64 (Lib.indexByte s c.toNat.toUInt8)))
theorem k_internal_stringslite_IndexByte:ConOk Tryz.prog 166 c_internal_stringslite_IndexByte:=conT_ok Tryz.call166 fun s hs c hc _=>s_internal_stringslite_IndexByte s hs c hc
def Γ59:GL:=(166,c_internal_stringslite_IndexByte)::Γ58
theorem Γ59ok:GO Γ59 := .cons k_internal_stringslite_IndexByte Γ58ok
def metV (s:Str) (r:Rule):Str:=bif inS s ((r.1.getD 0 0).toNat:Int)then setS bigc r.2 else []
def unionV (a b:Str):Str:=setS (fun _=>true) (a++b)
theorem y_impl_union (a:Str) (b:Str):evFn (cxOf Γ59 Tryz.f70.ntmps [] [] [] []) Tryz.f70 true [ofD .str a,ofD .str b] []=(
need (decide ((length a+length b)≤9223372036854775807)) <|
need ((List.append a b).length.blt 50&&(holdF 115).isSome) <| some ((vS (setS (pB 115) (List.append a b))),[])):=by kernel_rfl
theorem s_impl_union (a:Str) (_ha:Fit .str a) (b:Str) (_hb:Fit .str b) (hpre:(Nat.blt (length a+length b) 50)=true):Sat Tryz.prog 70 [ofD .str a,ofD .str b] [] (.d (ofD .str (unionV a b))) [] :=
 fn_sound (cx:=cxOf Γ59 Tryz.f70.ntmps [] [] [] []) Tryz.func70 rfl ttOk Γ59ok mixed (fun _ _=>LoopsOk.no fun _=>rfl) (ro:=true) (by
  have h1:=ble_iff.1 hpre;have k1:decide (length a+length b≤9223372036854775807)=true:=dec_iff.2 (by omega);have k2:((List.append a b).length.blt 50&&(holdF 115).isSome)=true:=andd.2 ⟨ble_iff.2 (by rw[List.append_eq,length_append];exact h1),rfl⟩;rw[y_impl_union,k1,k2];rfl)
def c_impl_union:Con:=conT [.str, .str] fun(a:Str) (b:Str)=>(some (Nat.blt (length a+length b) 50), .d (ofD .str (unionV a b)))
theorem k_impl_union:ConOk Tryz.prog 70 c_impl_union:=conT_ok Tryz.call70 fun a ha b hb hqq=>s_impl_union a ha b hb (pre_of hqq)
def Γ60:GL:=(70,c_impl_union)::Γ59
theorem Γ60ok:GO Γ60 := .cons k_impl_union Γ59ok
theorem unionV_mem {a b:Str} {c:UInt8}:c∈unionV a b↔c∈a∨c∈b:=by
 unfold unionV;rw[setS_mem,mem_append];simp
theorem unionV_asc {a b:Str}:Asc (unionV a b):=setS_asc
theorem metV_mem {s:Str} {r:Rule} {c:UInt8}:c∈metV s r↔inS s ((r.1.getD 0 0).toNat:Int)=true∧c∈r.2∧bigc c=true:=by
 unfold metV
 cases inS s ((r.1.getD 0 0).toNat:Int)
 ·simp
 ·rw[cond_true,setS_mem];simp
theorem big_five {s:Str} (ha:Asc s) (hb:∀c∈s,bigc c=true):s.length≤5:=by
 have hnd:s.Nodup:=ha.imp fun hh e=>by subst e;omega
 refine hnd.length_le_of_subset (l₂:=[65,66,67,68,69]) fun c hc => ?_;have:=hb c hc;unfold bigc at this;rw[andd,ble_iff,ble_iff]at this;have h:c.toNat=65∨c.toNat=66∨c.toNat=67∨c.toNat=68∨c.toNat=69:=by omega
 have e:∀ {n:Nat} (d:UInt8),d.toNat=n→c.toNat=n→c=d:=fun d h1 h2=>UInt8.toNat_inj.1 (h2.trans h1.symm);rcases h with h | h | h | h | h
 ·rw[e 65 rfl h];decide
 ·rw[e 66 rfl h];decide
 ·rw[e 67 rfl h];decide
 ·rw[e 68 rfl h];decide
 ·rw[e 69 rfl h];decide
theorem asc_grow {s t:Str} (hs:Asc s) (ht:Asc t) (h:∀c∈s,c∈t) (hne:t≠s):s.length<t.length:=by
 rcases Nat.lt_or_ge s.length t.length with h1 | h1
 ·exact h1
 ·exfalso;refine hne (asc_ext ht hs fun c=>⟨fun hc => ?_,h c⟩)
  by_cases hcs:c∈s
  ·exact hcs
  ·exfalso;have hnd:(c::s).Nodup:=List.nodup_cons.2 ⟨hcs,hs.imp fun hh e=>by subst e;omega⟩;have:=hnd.length_le_of_subset (l₂:=t) fun x hx=>by
    rcases List.mem_cons.1 hx with rfl | hx
    ·exact hc
    ·exact h x hx
   simp only[length_cons]at this;omega
def growF (o:Str) (l:List Rule):Str:=l.foldl (fun o r=>unionV o (metV o r)) o
def growN (g:Gram):Nat→Str→Str
 |0,s=>s
 |n+1,s=>bif decide (growF s g.2=s)then s else growN g n (growF s g.2)
theorem growF_sub:∀ {l:List Rule} {o:Str},∀c∈o,c∈growF o l
 | [],_,_,h=>h
 |r::l,o,c,h=>growF_sub (l:=l) (o:=unionV o (metV o r)) c (unionV_mem.2 (.inl h))
theorem growF_asc:∀ {l:List Rule} {o:Str},Asc o→Asc (growF o l)
 | [],_,h=>h
 |r::l,o,_=>growF_asc (l:=l) (o:=unionV o (metV o r)) unionV_asc
theorem growF_inv {p:UInt8→Prop}:∀ {l:List Rule} {o:Str},(∀c∈o,p c)→(∀o r c,r∈l→(∀c∈o,p c)→c∈metV o r→p c)→∀c∈growF o l,p c
 | [],_,h,_,c,hc=>h c hc
 |r::l,o,h,h2,c,hc=>growF_inv (l:=l) (o:=unionV o (metV o r)) (fun c hc=>by
   rcases unionV_mem.1 hc with hc | hc
   ·exact h c hc
   ·exact h2 o r c mem_cons_self h hc) (fun o r c hr=>h2 o r c (mem_cons_of_mem _ hr)) c hc
theorem growF_big {l:List Rule} {o:Str} (h:∀c∈o,bigc c=true):∀c∈growF o l,bigc c=true:=growF_inv h fun _ _ _ _ _ hc=>(metV_mem.1 hc).2.2
theorem growF_step:∀ {l:List Rule} {o:Str} {r:Rule} {c:UInt8},r∈l→inS o ((r.1.getD 0 0).toNat:Int)=true→c∈r.2→bigc c=true→c∈growF o l
 |r0::l,o,r,c,hr,h1,h2,h3=>by
  show c∈growF (unionV o (metV o r0)) l;rcases List.mem_cons.1 hr with rfl | hr
  ·exact growF_sub c (unionV_mem.2 (.inr (metV_mem.2 ⟨h1,h2,h3⟩)))
  ·exact growF_step hr (inS_mem.2 (unionV_mem.2 (.inl (inS_mem.1 h1)))) h2 h3
inductive Met (g:Gram):UInt8→Prop
 | start {c:UInt8} (h:c∈g.1):Met g c
 | step {r:Rule} {c:UInt8} (hr:r∈g.2) (h1:Met g (r.1.getD 0 0)) (h2:c∈r.2) (h3:bigc c=true):Met g c
def closedR (s:Str) (r:Rule):Prop:=(r.1.getD 0 0)∈s→∀c∈r.2,bigc c=true→c∈s
theorem met_in {g:Gram} {s:Str} (h1:∀c∈g.1,c∈s) (h2:∀r∈g.2,closedR s r) {c:UInt8} (h:Met g c):c∈s:=by
 induction h with
 |start h=>exact h1 _ h
 |step hr _ g2 g3 ih=>exact h2 _ hr ih _ g2 g3
structure MetOk (g:Gram) (s:Str):Prop where
 asc:Asc s
 big:∀c∈s,bigc c=true
 start:∀c∈g.1,c∈s
 met:∀c∈s,Met g c
theorem MetOk.grow {g:Gram} {s:Str} (h:MetOk g s):MetOk g (growF s g.2) where
 asc:=growF_asc h.asc
 big:=growF_big h.big
 start:=fun c hc=>growF_sub c (h.start c hc)
 met:=growF_inv h.met fun o r c hr ho hc=>by
  obtain⟨h1,h2,h3⟩:=metV_mem.1 hc;exact .step hr (ho _ (inS_mem.1 h1)) h2 h3
theorem growN_fix {g:Gram}:∀ {n:Nat} {s:Str},MetOk g s→5<n+s.length→MetOk g (growN g n s)∧growF (growN g n s) g.2=growN g n s
 |0,s,h,hn=>by have:=big_five h.asc h.big;omega
 |n+1,s,h,hn=>by
  unfold growN
  by_cases e:growF s g.2=s
  ·rw[zT e];exact ⟨h,e⟩
  ·rw[zF e];have:=asc_grow h.asc h.grow.asc growF_sub e;exact growN_fix (n:=n) h.grow (by omega)
theorem fix_mem {g:Gram} {s:Str} (h:MetOk g s) (hf:growF s g.2=s) {c:UInt8}:c∈s↔Met g c :=
 ⟨h.met c,fun hc=>met_in h.start (fun r hr h1 c hc hb=>by
  have:=growF_step (l:=g.2) (o:=s) hr (inS_mem.2 h1) hc hb;rw[hf]at this;exact this) hc⟩
def metG (g:Gram):Str:=growN g 5 g.1
theorem start_ok {g:Gram} (h:bigS g.1=true):MetOk g g.1:=by
 obtain⟨c,h1,h2⟩:=bigS_one h;exact⟨by rw[h1];exact List.pairwise_singleton _ _,fun d hd=>by rw[h1]at hd;rw[mem_singleton.1 hd];exact h2,fun _ hc=>hc,fun _ hc => .start hc⟩
theorem metG_ok {g:Gram} (h:bigS g.1=true):MetOk g (metG g)∧growF (metG g) g.2=metG g:=growN_fix (start_ok h) (by
 obtain⟨c,h1,_⟩:=bigS_one h;rw[h1,length_singleton];omega)
theorem metG_mem {g:Gram} (h:bigS g.1=true) {c:UInt8}:c∈metG g↔Met g c:=fix_mem (metG_ok h).1 (metG_ok h).2
def okR0 (r:Rule):Bool:=Nat.beq (length r.1) 1&&Nat.ble (length r.2) 20
def okM (g:Gram):Bool:=bigS g.1&&(Nat.ble (length g.2) 1000&&List.all g.2 okR0)
theorem okM_iff {g:Gram} (h:okM g=true):bigS g.1=true∧length g.2≤1000∧List.all g.2 okR0=true:=by
 obtain⟨h1,h2⟩:=andd.1 h;obtain⟨h2,h3⟩:=andd.1 h2;exact⟨h1,ble_iff.1 h2,h3⟩
def metB (g:Gram) (s:Str):Bool:=okM g&&(List.all s bigc&&(decide (Asc s)&&(List.all s (fun c=>inS (metG g) (c.toNat:Int))&&List.all g.1 fun c=>inS s (c.toNat:Int))))
theorem metB_iff {g:Gram} {s:Str}:metB g s=true↔okM g=true∧MetOk g s:=by
 unfold metB;rw[andd,andd,andd,andd,dec_iff,all_eq_true,all_eq_true,all_eq_true]
 constructor
 ·rintro ⟨h1,h2,h3,h4,h5⟩;exact⟨h1,h3,h2,fun c hc=>inS_mem.1 (h5 c hc),fun c hc=>(metG_mem (okM_iff h1).1).1 (inS_mem.1 (h4 c hc))⟩
 ·rintro ⟨h1,h2⟩;exact⟨h1,h2.big,h2.asc,fun c hc=>inS_mem.2 ((metG_mem (okM_iff h1).1).2 (h2.met c hc)),fun c hc=>inS_mem.2 (h2.start c hc)⟩
def cb_l2Bigs:Cx:=cxOf Γ60 Tryz.f146.ntmps [(2,[0,1,5])] [(0,[0]),(1,[0,1,5]),(1000000,[4])] [] []
abbrev st_l2Bigs (o a:Str) (i:Int):St:=⟨[(0,vS o),(1,vS a),(5,vI i)],[]⟩
theorem x_spec_l2Bigs (o a:Str) (i:Int) (R:St→Option Fin) (K:Cont):evC (cb_l2Bigs.withLoops (look [])) (loopOf Tryz.f146 0) (st_l2Bigs o a i) (onward (headAt (cb_l2Bigs.withLoops (look [])) 2) R K)=(
branch (decide (i<(a.length:Int))) (
 need (inb i a.length) <|
 branch (bigI (byteAt a i)) (
 need (inb i a.length) <|
 need (o.length.ble 1000000) <| R (st_l2Bigs (addS (UInt8.ofNat (byteAt a i).toNat) o) a (W64 (i+1)))) ( R (st_l2Bigs o a (W64 (i+1))))) ( K (.exit 0) (.mk [(0,vS o)] []))):=by kernel_rfl
def cx0_l2Bigs:Cx:=(cb_l2Bigs).withLoops (look [])
def sh_l2Bigs:Sh:=([(0, .d .str),(1, .d .str),(5, .d TI64)],[])
def pre_l2Bigs (o a:Str) (i:Int):Bool:=decide (0≤i)&&(Nat.ble (length a) 999000&&decide ((length o:Int)≤i+100))
def res_l2Bigs (o a:Str) (i:Int) (K:Cont):Option Fin:=K (.exit 0) ⟨[(0,vS (putS bigc o (a.drop i.toNat)))],[]⟩
def mu_l2Bigs (_o a:Str) (i:Int):Nat:=length a-i.toNat
theorem r_l2Bigs (o a:Str) (i:Int) (K:Cont) (hI:pre_l2Bigs o a i=true):(∀R:St→Option Fin,evC cx0_l2Bigs (loopOf Tryz.f146 0) (st_l2Bigs o a i) (onward (headAt cx0_l2Bigs 2) R K)=res_l2Bigs o a i K) ∨
  (∃(o' a':Str) (i':Int),pre_l2Bigs o' a' i'=true∧mu_l2Bigs o' a' i'<mu_l2Bigs o a i∧res_l2Bigs o' a' i' K=res_l2Bigs o a i K∧∀R:St→Option Fin,evC cx0_l2Bigs (loopOf Tryz.f146 0) (st_l2Bigs o a i) (onward (headAt cx0_l2Bigs 2) R K)=R (st_l2Bigs o' a' i')):=by
 have hx:=fun R=>x_spec_l2Bigs o a i R K;simp only[pre_l2Bigs,andd,dec_iff,ble_iff]at hI;obtain⟨h0,h1,h2⟩:=hI
 by_cases hi:i<(a.length:Int)
 ·have hg:=put_at (p:=bigc) (o:=o) h0 hi;have hby:byteAt a i=((a.getD i.toNat 0).toNat:Int):=rfl;have hu:UInt8.ofNat (byteAt a i).toNat=a.getD i.toNat 0:=by rw[hby];exact byteL_nat _
  have hc0:bigI (byteAt a i)=bigc (a.getD i.toNat 0):=by rw[hby,bigI_nat]
  by_cases ho:length o≤1000000
  ·have hol:length o≤1000000:=ho;have hol:(length o).ble 1000000=true:=ble_iff.2 ho;simp only[hi,decide_true,inb_ok h0 hi,branch_true,W1 h0 hi (show a.length≤big by unfold big;omega),hc0,hu,hol]at hx;right
   cases hc:bigc (a.getD i.toNat 0)
   ·rw[hc]at hg;refine⟨o,a,i+1, ?_, ?_, ?_,fun R=>(hx R).trans ?_⟩
    ·simp only[pre_l2Bigs,andd,dec_iff,ble_iff];exact ⟨by omega,h1,by omega⟩
    ·simp only[mu_l2Bigs];omega
    ·simp only[res_l2Bigs,hg];rfl
    ·rw[hc];rfl
   ·rw[hc]at hg;refine⟨addS (a.getD i.toNat 0) o,a,i+1, ?_, ?_, ?_,fun R=>(hx R).trans ?_⟩
    ·simp only[pre_l2Bigs,andd,dec_iff,ble_iff];have:=addS_len (c:=a.getD i.toNat 0) (s:=o);exact⟨by omega,h1,by omega⟩
    ·simp only[mu_l2Bigs];omega
    ·simp only[res_l2Bigs,hg];rfl
    ·rw[hc];rfl
  ·omega
 ·left;intro R;refine(hx R).trans ?_;simp only[hi,decide_false,branch_false,res_l2Bigs];rw[drop_eq_nil_of_le (by omega)];rfl
def g_l2Bigs:St→Cont→Option Fin:=gP sh_l2Bigs (fun v=>match v with | ((o,a,i,()),())=>pre_l2Bigs o a i) (fun v K=>match v with | ((o,a,i,()),())=>res_l2Bigs o a i K)
def L_l2Bigs:LpL:=(2,g_l2Bigs)::[]
def cx_l2Bigs:Cx:=(cb_l2Bigs).withLoops (look L_l2Bigs)
theorem l_l2Bigs {L:LpL} (n:Nat) (h1:L.drop n=[]) (h2:idsFree (L.take n) (loopOf Tryz.f146 0)=true):LoopsTo g_l2Bigs (cb_l2Bigs) (loopOf Tryz.f146 0) 2 L :=
 with_drop h1 h2 (gP_ok (fun v=>match v with | ((o,a,i,()),())=>mu_l2Bigs o a i) fun v K hI=>by
  obtain⟨⟨o,a,i,⟨⟩⟩,⟨⟩⟩:=v;exact(r_l2Bigs o a i K hI).imp id fun⟨o',a',i',h⟩=>⟨((o',a',i',()),()),h⟩)
theorem y_spec_l2Bigs (o:Str) (a:Str):evFn cx_l2Bigs Tryz.f146 true [ofD .str o,ofD .str a] []=(
need (pre_l2Bigs o a 0) <| some ((vS (putS bigc o a)),[])):=by kernel_rfl
theorem s_spec_l2Bigs (o:Str) (_ho:Fit .str o) (a:Str) (_ha:Fit .str a) (hpre:(Nat.ble (length o) 100&&Nat.ble (length a) 999000)=true):Sat Tryz.prog 146 [ofD .str o,ofD .str a] [] (.d (ofD .str (putS bigc o a))) [] :=
 fn_sound (cx:=cx_l2Bigs) Tryz.func146 rfl ttOk Γ60ok mixed (fun c hc=>LoopsOk.all (l:=[(2,loopOf Tryz.f146 0)]) (by cases hc;kernel_rfl) ⟨atLoop rfl (l_l2Bigs 1 rfl (by kernel_rfl)),trivial⟩) (ro:=true) (by
  obtain⟨h1,h2⟩:=andd.1 hpre;have h1:=ble_iff.1 h1;have h2:=ble_iff.1 h2;have h:pre_l2Bigs o a 0=true:=andd.2 ⟨rfl,andd.2 ⟨ble_iff.2 (by omega),zT (by omega)⟩⟩;rw[y_spec_l2Bigs,h];rfl)
def c_spec_l2Bigs:Con:=conT [.str, .str] fun(o:Str) (a:Str)=>(some (Nat.ble (length o) 100&&Nat.ble (length a) 999000), .d (ofD .str (putS bigc o a)))
theorem k_spec_l2Bigs:ConOk Tryz.prog 146 c_spec_l2Bigs:=conT_ok Tryz.call146 fun o ho a ha hqq=>s_spec_l2Bigs o ho a ha (pre_of hqq)
def closedB (s:Str) (r:Rule):Bool:=bif inS s (((r.1.getD 0 0).toNat:Nat):Int)then r.2.all fun c=>bif bigc c then inS s (c.toNat:Int)else true else true
theorem closedB_iff {s:Str} {r:Rule}:closedB s r=true↔closedR s r:=by
 unfold closedB closedR
 cases h:inS s (((r.1.getD 0 0).toNat:Nat):Int)
 ·constructor
  ·intro _ h1;rw[inS_mem.2 h1]at h;cases h
  ·intro _;rfl
 ·have h0:=inS_mem.1 h;rw[cond_true,all_eq_true]
  constructor
  ·intro h1 _ c hc hb;have:=h1 c hc;rw[hb]at this;exact inS_mem.1 this
  ·intro h1 c hc
   cases hb:bigc c
   ·rfl
   ·exact inS_mem.2 (h1 h0 c hc hb)
theorem all_take {l:List Rule} {p:Rule→Bool} {i:Nat} (h:i<l.length):(l.take (i+1)).all p=((l.take i).all p&&p (l.getD i d0)):=by
 rw[List.take_succ_eq_append_getElem h,List.all_append,getD_at h,List.all_cons,List.all_nil,Bool.and_true]
def Γ61:GL:=(146,c_spec_l2Bigs)::Γ60
theorem Γ61ok:GO Γ61 := .cons k_spec_l2Bigs Γ60ok
def cb_l2Met:Cx:=cxOf Γ61 Tryz.f114.ntmps [(3,[1,3,4])] [(0,[3]),(1,[1,3,4]),(1000000,[2])] [] []
abbrev st_l2Met (s:Str) (i:Int) (g:Gram):St:=⟨[(1, kp0),(3,vS s),(4,vI i)],[(500000,some (boxD 25 TG g))]⟩
theorem x_spec_l2Met (g:Gram) (s:Str) (i:Int) (R:St→Option Fin) (K:Cont):evC (cb_l2Met.withLoops (look [])) (loopOf Tryz.f114 0) (st_l2Met s i g) (onward (headAt (cb_l2Met.withLoops (look [])) 3) R K)=(
branch (decide (i<(length g.snd:Int))) (
 need (inb i (length g.snd)) <|
 need (inb 0 (length (getD g.snd i.toNat d0).fst)) <|
 branch (inS s (byteAt (getD g.snd i.toNat d0).fst 0)) (
 need (inb i (length g.snd)) <|
 need (s.length.ble 100&&(length (getD g.snd i.toNat d0).snd).ble 999000) <|
 branch (!decide ((putS bigc s (getD g.snd i.toNat d0).snd)=s)) ( R (st_l2Met (putS bigc s (getD g.snd i.toNat d0).snd) (W64 (Int.neg 1+1)) g)) ( R (st_l2Met s (W64 (i+1)) g))) ( R (st_l2Met s (W64 (i+1)) g))) ( K (.exit 0) (.mk [(3,vS s)] []))):=by kernel_rfl
def cx0_l2Met:Cx:=(cb_l2Met).withLoops (look [])
def sh_l2Met:Sh:=([(1, .ptr 500000 0),(3, .d .str),(4, .d TI64)],[(500000, .box 25 TG)])
def pre_l2Met (s:Str) (i:Int) (g:Gram):Bool:=decide (0≤i)&&(metB g s&&List.all (List.take i.toNat g.2) (closedB s))
def res_l2Met (_s:Str) (_i:Int) (g:Gram) (K:Cont):Option Fin:=K (.exit 0) ⟨[(3,vS (metG g))],[]⟩
def mu_l2Met (s:Str) (i:Int) (_g:Gram):Nat:=(6-length s)*2000+(1001-i.toNat)
theorem r_l2Met (s:Str) (i:Int) (g:Gram) (K:Cont) (hI:pre_l2Met s i g=true):(∀R:St→Option Fin,evC cx0_l2Met (loopOf Tryz.f114 0) (st_l2Met s i g) (onward (headAt cx0_l2Met 3) R K)=res_l2Met s i g K) ∨
  (∃(s':Str) (i':Int) (g':Gram),pre_l2Met s' i' g'=true∧mu_l2Met s' i' g'<mu_l2Met s i g∧res_l2Met s' i' g' K=res_l2Met s i g K∧∀R:St→Option Fin,evC cx0_l2Met (loopOf Tryz.f114 0) (st_l2Met s i g) (onward (headAt cx0_l2Met 3) R K)=R (st_l2Met s' i' g')):=by
 have hx:=fun R=>x_spec_l2Met g s i R K;simp only[pre_l2Met,andd,dec_iff]at hI;obtain⟨h0,hm,hc⟩:=hI;obtain⟨h1,h2⟩:=metB_iff.1 hm;have hlen:length g.2≤1000:=(okM_iff h1).2.1;have h5:=big_five h2.asc h2.big
 by_cases hi:i<(length g.2:Int)
 ·have hn:i.toNat<length g.2:=by omega
  have hr:getD g.2 i.toNat d0∈g.2:=by rw[getD_at hn];exact List.getElem_mem hn
  have w1:W64 (i+1)=i+1:=wrap_small (by omega) (by omega);have ht:=all_take (p:=closedB s) hn;rw[hc,Bool.true_and]at ht;obtain⟨g1,g2⟩:=andd.1 (all_eq_true.1 (okM_iff h1).2.2 _ hr);have g1:=zB g1;have g2:=ble_iff.1 g2;have k1:inb 0 (length (getD g.2 i.toNat d0).1)=true:=by rw[g1];rfl
  have k2:((length s).ble 100&&(length (getD g.2 i.toNat d0).2).ble 999000)=true:=andd.2 ⟨ble_iff.2 (by omega),ble_iff.2 (by omega)⟩;simp only[hi,decide_true,inb_ok h0 hi,k1,k2,branch_true,w1]at hx;right;have stay:closedB s (getD g.2 i.toNat d0)=true→pre_l2Met s (i+1) g=true:=fun hcl=>by
   simp only[pre_l2Met,andd,dec_iff];exact⟨by omega,hm,by rw[show (i+1).toNat=i.toNat+1 by omega,ht];exact hcl⟩
  cases hin:inS s (byteAt (getD g.2 i.toNat d0).1 0)
  ·refine ⟨s,i+1,g,stay ?_,by simp only[mu_l2Met];omega,rfl,fun R=>(hx R).trans (by rw[hin];rfl)⟩;unfold closedB;rw[show inS s ((((getD g.2 i.toNat d0).1.getD 0 0).toNat:Nat):Int)=false from hin];rfl
  ·have hin':(getD g.2 i.toNat d0).1.getD 0 0∈s:=inS_mem.1 hin
   by_cases e:putS bigc s (getD g.2 i.toNat d0).2=s
   ·refine ⟨s,i+1,g,stay (closedB_iff.2 fun _ c hc1 hb => ?_),by simp only[mu_l2Met];omega,rfl,fun R=>(hx R).trans (by rw[hin,zT e];rfl)⟩;rw[← e,putS_mem];exact .inr ⟨hc1,hb⟩
   ·have hok:MetOk g (putS bigc s (getD g.2 i.toNat d0).2):=⟨putS_asc h2.asc,fun c hc1=>by
      rcases putS_mem.1 hc1 with h | h
      ·exact h2.big c h
      ·exact h.2,fun c hc1=>putS_mem.2 (.inl (h2.start c hc1)),fun c hc1=>by
      rcases putS_mem.1 hc1 with h | h
      ·exact h2.met c h
      ·exact .step hr (h2.met _ hin') h.1 h.2⟩
    have hgr:=asc_grow h2.asc hok.asc (fun c hc1=>putS_mem.2 (.inl hc1)) e;have h6:=big_five hok.asc hok.big;refine⟨putS bigc s (getD g.2 i.toNat d0).2,0,g, ?_, ?_,rfl,fun R=>(hx R).trans (by rw[hin,zF e];rfl)⟩
    ·simp only[pre_l2Met,andd,dec_iff];exact⟨by omega,metB_iff.2 ⟨h1,hok⟩,rfl⟩
    ·simp only[mu_l2Met];omega
 ·left;intro R;refine(hx R).trans ?_;have ht:List.take i.toNat g.2=g.2:=List.take_of_length_le (by omega);rw[ht]at hc;have he:s=metG g:=asc_ext h2.asc (metG_ok (okM_iff h1).1).1.asc fun c=>⟨fun hcs=>(metG_mem (okM_iff h1).1).2 (h2.met c hcs),fun hcs=>met_in h2.start (fun r hr=>closedB_iff.1 (all_eq_true.1 hc r hr)) ((metG_mem (okM_iff h1).1).1 hcs)⟩;simp only[hi,decide_false,branch_false,res_l2Met];rw[he]
def g_l2Met:St→Cont→Option Fin:=gP sh_l2Met (fun v=>match v with | ((s,i,()),(g,()))=>pre_l2Met s i g) (fun v K=>match v with | ((s,i,()),(g,()))=>res_l2Met s i g K)
def L_l2Met:LpL:=(3,g_l2Met)::[]
def cx_l2Met:Cx:=(cb_l2Met).withLoops (look L_l2Met)
theorem l_l2Met {L:LpL} (n:Nat) (h1:L.drop n=[]) (h2:idsFree (L.take n) (loopOf Tryz.f114 0)=true):LoopsTo g_l2Met (cb_l2Met) (loopOf Tryz.f114 0) 3 L :=
 with_drop h1 h2 (gP_ok (fun v=>match v with | ((s,i,()),(g,()))=>mu_l2Met s i g) fun v K hI=>by
  obtain⟨⟨s,i,⟨⟩⟩,⟨g,⟨⟩⟩⟩:=v;exact(r_l2Met s i g K hI).imp id fun⟨s',i',g',h⟩=>⟨((s',i',()),(g',())),h⟩)
theorem y_spec_l2Met (g:Gram):evFn cx_l2Met Tryz.f114 true [ofD TG g] []=(
need (pre_l2Met g.fst 0 g) <| some ((vS (metG g)),[])):=by kernel_rfl
theorem s_spec_l2Met (g:Gram) (_hg:Fit TG g) (hpre:(okM g)=true):Sat Tryz.prog 114 [ofD TG g] [] (.d (ofD .str (metG g))) [] :=
 fn_sound (cx:=cx_l2Met) Tryz.func114 rfl ttOk Γ61ok mixed (fun c hc=>LoopsOk.all (l:=[(3,loopOf Tryz.f114 0)]) (by cases hc;kernel_rfl) ⟨atLoop rfl (l_l2Met 1 rfl (by kernel_rfl)),trivial⟩) (ro:=true) (by
  have h:pre_l2Met g.1 0 g=true:=by
   simp only[pre_l2Met,andd,dec_iff];exact⟨by omega,metB_iff.2 ⟨hpre,start_ok (okM_iff hpre).1⟩,rfl⟩
  rw[y_spec_l2Met,h];rfl)
def c_spec_l2Met:Con:=conT [TG] fun(g:Gram)=>(some (okM g), .d (ofD .str (metG g)))
theorem k_spec_l2Met:ConOk Tryz.prog 114 c_spec_l2Met:=conT_ok Tryz.call114 fun g hg hqq=>s_spec_l2Met g hg (pre_of hqq)
def Γ62:GL:=(114,c_spec_l2Met)::Γ61
theorem Γ62ok:GO Γ62 := .cons k_spec_l2Met Γ61ok
theorem y_impl_TextOk (s:Str):evFn (cxOf Γ62 Tryz.f94.ntmps [] [] [] []) Tryz.f94 true [ofD .str s] []=(
some ((vB (areSm s 8)),[])):=by kernel_rfl
theorem s_impl_TextOk (s:Str) (_hs:Fit .str s):Sat Tryz.prog 94 [ofD .str s] [] (.d (ofD .bool (areSm s 8))) [] :=
 fn_sound (cx:=cxOf Γ62 Tryz.f94.ntmps [] [] [] []) Tryz.func94 rfl ttOk Γ62ok mixed (fun _ _=>LoopsOk.no fun _=>rfl) (ro:=true) (by
  rw[y_impl_TextOk];rfl)
def c_impl_TextOk:Con:=conT [.str] fun(s:Str)=>(none, .d (ofD .bool (areSm s 8)))
theorem k_impl_TextOk:ConOk Tryz.prog 94 c_impl_TextOk:=conT_ok Tryz.call94 fun s hs _=>s_impl_TextOk s hs
def Γ63:GL:=(94,c_impl_TextOk)::Γ62
theorem Γ63ok:GO Γ63 := .cons k_impl_TextOk Γ62ok
def both2 (g:Gram) (s:Str):Bool:=bif okG g then areSm s 8 else false
theorem s_impl_areBoth (g:Gram) (_hg:Fit TG g) (s:Str) (_hs:Fit .str s):Sat Tryz.prog 45 [ofD TG g,ofD .str s] [] (.d (ofD .bool (both2 g s))) [] :=
 fn_sound (cx:=cxOf Γ63 Tryz.f45.ntmps [] [] [] []) Tryz.func45 rfl ttOk Γ63ok mixed (fun _ _=>LoopsOk.no fun _=>rfl) (ro:=true) (by
  have y:evFn (cxOf Γ63 Tryz.f45.ntmps [] [] [] []) Tryz.f45 true [ofD TG g,ofD .str s] []=some (vB (both2 g s),[]):=by kernel_rfl
  rw[y];rfl)
def c_impl_areBoth:Con:=conT [TG, .str] fun(g:Gram) (s:Str)=>(none, .d (ofD .bool (both2 g s)))
theorem k_impl_areBoth:ConOk Tryz.prog 45 c_impl_areBoth:=conT_ok Tryz.call45 fun g hg s hs _=>s_impl_areBoth g hg s hs
def Γ64:GL:=(45,c_impl_areBoth)::Γ63
theorem Γ64ok:GO Γ64 := .cons k_impl_areBoth Γ63ok
theorem blt_iff {a b:Nat}:Nat.blt a b=true↔a<b:=by simp
def cntB {α:Type} (f:α→Bool):List α→Nat
 | []=>0
 |a::l=>cntB f l+(bif f a then 1 else 0)
theorem cnt_le {α:Type} {f g:α→Bool}:∀ {l:List α},(∀a∈l,f a=true→g a=true)→cntB f l≤cntB g l
 | [],_=>Nat.le_refl _
 |a::l,h=>by
  have h1:=cnt_le (l:=l) fun b hb=>h b (mem_cons_of_mem _ hb);have h2:=h a mem_cons_self;unfold cntB
  cases hf:f a
  ·rw[cond_false];omega
  ·rw[h2 hf];omega
theorem cnt_lt {α:Type} {f g:α→Bool}:∀ {l:List α},(∀a∈l,f a=true→g a=true)→(∃a∈l,f a=false∧g a=true)→cntB f l<cntB g l
 | [],_,⟨_,h,_⟩=>by cases h
 |a::l,h,⟨b,hb,h3,h4⟩=>by
  have h1:=cnt_le (l:=l) fun c hc=>h c (mem_cons_of_mem _ hc);rcases List.mem_cons.1 hb with rfl | hb
  ·unfold cntB;rw[h3,h4,cond_false,cond_true];omega
  ·have h5:=cnt_lt (l:=l) (fun c hc=>h c (mem_cons_of_mem _ hc)) ⟨b,hb,h3,h4⟩;have h2:=h a mem_cons_self;unfold cntB
   cases hf:f a
   ·rw[cond_false];omega
   ·rw[h2 hf];omega
def foldG {σ V:Type} (step:V→σ×Bool→σ×Bool):List V→σ×Bool→σ×Bool
 | [],p=>p
 |v::vs,p=>foldG step vs (step v p)
theorem foldG_app {σ V:Type} {step:V→σ×Bool→σ×Bool}:∀ {a b:List V} {p:σ×Bool},foldG step (a++b) p=foldG step b (foldG step a p)
 | [],_,_=>rfl
 |v::a,b,p=>foldG_app (a:=a) (b:=b) (p:=step v p)
structure StepOk {σ V K:Type} (I:σ→Prop) (G:V→Prop) (has:σ→K→Bool) (ks:V→List K) (step:V→σ×Bool→σ×Bool):Prop where
 inv:∀v p,G v→I p.1→I (step v p).1
 mono:∀v p x,G v→I p.1→has p.1 x=true→has (step v p).1 x=true
 new:∀v p,G v→I p.1→(step v p).2=true→p.2=true∨∃x∈ks v,has p.1 x=false∧has (step v p).1 x=true
 quiet:∀v p,G v→I p.1→(step v p).2=false→p.2=false∧step v p=p
section
variable {σ V K:Type} {I:σ→Prop} {G:V→Prop} {has:σ→K→Bool} {ks:V→List K} {step:V→σ×Bool→σ×Bool}
theorem foldG_ok (h:StepOk I G has ks step):∀ {vs:List V} {p:σ×Bool},(∀v∈vs,G v)→I p.1→I (foldG step vs p).1
 | [],_,_,h1=>h1
 |v::vs,p,hv,h1=>foldG_ok h (vs:=vs) (fun w hw=>hv w (mem_cons_of_mem _ hw)) (h.inv v p (hv v mem_cons_self) h1)
theorem foldG_mono (h:StepOk I G has ks step):∀ {vs:List V} {p:σ×Bool} {x:K},(∀v∈vs,G v)→I p.1→has p.1 x=true→has (foldG step vs p).1 x=true
 | [],_,_,_,_,h1=>h1
 |v::vs,p,x,hv,hI,h1=>foldG_mono h (vs:=vs) (fun w hw=>hv w (mem_cons_of_mem _ hw)) (h.inv v p (hv v mem_cons_self) hI) (h.mono v p x (hv v mem_cons_self) hI h1)
theorem foldG_new (h:StepOk I G has ks step):∀ {vs:List V} {p:σ×Bool},(∀v∈vs,G v)→I p.1→(foldG step vs p).2=true→p.2=true∨∃x∈vs.flatMap ks,has p.1 x=false∧has (foldG step vs p).1 x=true
 | [],_,_,_,h1 => .inl h1
 |v::vs,p,hv,hI,h1=>by
  have hv0:=hv v mem_cons_self;have hvs:∀w∈vs,G w:=fun w hw=>hv w (mem_cons_of_mem _ hw);have hI1:=h.inv v p hv0 hI;rcases foldG_new h (vs:=vs) (p:=step v p) hvs hI1 h1 with h2 | ⟨x,hx,h2,h3⟩
  ·rcases h.new v p hv0 hI h2 with h4 | ⟨x,hx,h4,h5⟩
   ·exact .inl h4
   ·exact .inr ⟨x,List.mem_flatMap.2 ⟨v,mem_cons_self,hx⟩,h4,foldG_mono h (vs:=vs) (p:=step v p) hvs hI1 h5⟩
  ·obtain ⟨w,hw,hx⟩:=List.mem_flatMap.1 hx;refine .inr ⟨x,List.mem_flatMap.2 ⟨w,mem_cons_of_mem _ hw,hx⟩, ?_,h3⟩
   cases h4:has p.1 x
   ·rfl
   ·rw[h.mono v p x hv0 hI h4]at h2;cases h2
theorem foldG_quiet (h:StepOk I G has ks step):∀ {vs:List V} {p:σ×Bool},(∀v∈vs,G v)→I p.1→(foldG step vs p).2=false→p.2=false∧foldG step vs p=p∧∀v∈vs,step v p=p
 | [],_,_,_,h1=>⟨h1,rfl,fun _ hv=>by cases hv⟩
 |v::vs,p,hv,hI,h1=>by
  have hv0:=hv v mem_cons_self;obtain⟨h2,h3,h4⟩:=foldG_quiet h (vs:=vs) (p:=step v p) (fun w hw=>hv w (mem_cons_of_mem _ hw)) (h.inv v p hv0 hI) h1;obtain⟨h5,h6⟩:=h.quiet v p hv0 hI h2;refine⟨h5, ?_,fun w hw => ?_⟩
  ·show foldG step vs (step v p)=p;rw[h3,h6]
  ·rcases List.mem_cons.1 hw with rfl | hw
   ·exact h6
   ·have:=h4 w hw;rw[h6]at this;exact this
theorem foldG_inv {J:σ→Prop}:∀ {vs:List V} {p:σ×Bool},(∀v∈vs,∀p:σ×Bool,J p.1→J (step v p).1)→J p.1→J (foldG step vs p).1
 | [],_,_,h1=>h1
 |v::vs,p,h,h1=>foldG_inv (vs:=vs) (fun w hw=>h w (mem_cons_of_mem _ hw)) (h v mem_cons_self p h1)
end
def runG {σ V:Type} (step:V→σ×Bool→σ×Bool) (vs:List V):Nat→σ→σ
 |0,m=>m
 |n+1,m=>bif (foldG step vs (m,false)).2 then runG step vs n (foldG step vs (m,false)).1 else(foldG step vs (m,false)).1
def missG {σ K:Type} (has:σ→K→Bool) (ks:List K) (m:σ):Nat:=cntB (fun x => !has m x) ks
def runC {σ V K:Type} (has:σ→K→Bool) (ks:V→List K) (step:V→σ×Bool→σ×Bool) (vs:List V) (m:σ):σ:=runG step vs (missG has (vs.flatMap ks) m+1) m
section
variable {σ V K:Type} {I:σ→Prop} {G:V→Prop} {has:σ→K→Bool} {ks:V→List K} {step:V→σ×Bool→σ×Bool} {vs:List V}
theorem miss_lt (h:StepOk I G has ks step) (hv:∀v∈vs,G v) {m:σ} (hI:I m) (h1:(foldG step vs (m,false)).2=true):missG has (vs.flatMap ks) (foldG step vs (m,false)).1<missG has (vs.flatMap ks) m:=by
 rcases foldG_new h hv hI h1 with h2 | ⟨x,hx,h2,h3⟩
 ·cases h2
 ·refine cnt_lt (fun y _ hy => ?_) ⟨x,hx,by rw[h3];rfl,by rw[h2];rfl⟩
  cases h4:has m y
  ·rfl
  ·rw[foldG_mono h (vs:=vs) (p:=(m,false)) hv hI h4]at hy;cases hy
theorem run_fuel (h:StepOk I G has ks step) (hv:∀v∈vs,G v):∀ {n n':Nat} {m:σ},I m→missG has (vs.flatMap ks) m<n→missG has (vs.flatMap ks) m<n'→runG step vs n m=runG step vs n' m
 |0,_,_,_,h1,_=>by omega
 |n+1,0,_,_,_,h1=>by omega
 |n+1,n'+1,m,hI,h1,h2=>by
  unfold runG
  cases hc:(foldG step vs (m,false)).2
  ·rfl
  ·have:=miss_lt h hv hI hc;exact run_fuel h hv (foldG_ok h (p:=(m,false)) hv hI) (by omega) (by omega)
theorem runC_at (h:StepOk I G has ks step) (hv:∀v∈vs,G v) {m:σ} (hI:I m):runC has ks step vs m=bif (foldG step vs (m,false)).2 then runC has ks step vs (foldG step vs (m,false)).1 else(foldG step vs (m,false)).1:=by
 show(bif (foldG step vs (m,false)).2 then runG step vs (missG has (vs.flatMap ks) m) (foldG step vs (m,false)).1 else(foldG step vs (m,false)).1)=_
 cases hc:(foldG step vs (m,false)).2
 ·rfl
 ·have:=miss_lt h hv hI hc;exact run_fuel h hv (foldG_ok h (p:=(m,false)) hv hI) (by omega) (by omega)
theorem run_end (h:StepOk I G has ks step) (hv:∀v∈vs,G v) {J:σ→Prop} (hJ:∀v∈vs,∀p:σ×Bool,I p.1∧J p.1→J (step v p).1):∀ {n:Nat} {m:σ},missG has (vs.flatMap ks) m<n→I m→J m→I (runG step vs n m)∧J (runG step vs n m)∧∀v∈vs,step v (runG step vs n m,false)=(runG step vs n m,false)
 |0,_,h1,_,_=>by omega
 |n+1,m,h1,hI,h2=>by
  unfold runG;have h3:=foldG_inv (J:=fun x=>I x∧J x) (step:=step) (vs:=vs) (p:=(m,false)) (fun v hv' p hp=>⟨h.inv v p (hv v hv') hp.1,hJ v hv' p hp⟩) ⟨hI,h2⟩
  cases hc:(foldG step vs (m,false)).2
  ·rw[cond_false];obtain⟨_,h5,h6⟩:=foldG_quiet h hv hI hc;rw[h5];exact⟨hI,h2,h6⟩
  ·have:=miss_lt h hv hI hc;exact run_end h hv hJ (by omega) h3.1 h3.2
theorem runC_end (h:StepOk I G has ks step) (hv:∀v∈vs,G v) {J:σ→Prop} (hJ:∀v∈vs,∀p:σ×Bool,I p.1∧J p.1→J (step v p).1) {m:σ} (hI:I m) (hm:J m):I (runC has ks step vs m)∧J (runC has ks step vs m)∧∀v∈vs,step v (runC has ks step vs m,false)=(runC has ks step vs m,false):=run_end h hv hJ (Nat.lt_succ_self _) hI hm
end
def derP (s:Str) (P:Str→Int→Int→Prop) (a:Str) (i j:Int):Prop:=if smallS a then j=i+1∧([s.getD i.toNat 0]:Str)=a else P a i j
def splP (s:Str) (P:Str→Int→Int→Prop):Str→Int→Int→Prop
 | [],i,j=>i=j
 |c::r,i,j=>∃k,i≤k∧k≤j∧derP s P [c] i k∧splP s P r k j
def ClosedP (s:Str) (l:List Rule) (P:Str→Int→Int→Prop):Prop:=∀r∈l,∀i j,0≤i→i≤j→j≤(s.length:Int)→splP s P r.2 i j→P r.1 i j
def DerG (s:Str) (l:List Rule) (a:Str) (i j:Int):Prop:=∀P,ClosedP s l P→P a i j
theorem splP_mono {s:Str} {P Q:Str→Int→Int→Prop} (hPQ:∀a i j,0≤i→i≤j→j≤(s.length:Int)→P a i j→Q a i j):∀ {r:Str} {i j:Int},0≤i→j≤(s.length:Int)→splP s P r i j→splP s Q r i j
 | [],_,_,_,_,h=>h
 |c::r,i,j,h0,h1,⟨k,k1,k2,k3,k4⟩=>by
  refine⟨k,k1,k2, ?_,splP_mono hPQ (by omega) h1 k4⟩;unfold derP at k3 ⊢
  split
  ·rename_i hs;rw[if_pos hs]at k3;exact k3
  ·rename_i hs;rw[if_neg hs]at k3;exact hPQ _ _ _ h0 k1 (by omega) k3
theorem Der_iff {s:Str} {l:List Rule} {T:Str→Int→Int→Prop} (h1:∀P,ClosedP s l P→∀a i j,T a i j→P a i j) (h2:∀r∈l,∀i j,0≤i→i≤j→j≤(s.length:Int)→splP s T r.2 i j→T r.1 i j) {a:Str} {i j:Int}:T a i j↔DerG s l a i j :=
 ⟨fun h P hP=>h1 P hP a i j h,fun h=>h T h2⟩
abbrev TP:Ty := .struct (.pair .str (.pair TI64 TI64))
abbrev Part:Type:=Str×Int×Int
abbrev PMap:Type:=List (Part×Bool)
abbrev TCh:Ty := .struct (.pair TG (.pair .str (.map TP .bool)))
abbrev Chart:Type:=Gram×Str×PMap
def hasM (m:PMap) (p:Part):Bool:=(mget TP .bool p m).getD false
def derB (s:Str) (m:PMap) (a:Str) (i j:Int):Bool:=bif smallS a then(bif decide (j=i+1)then decide (([s.getD i.toNat 0]:Str)=a)else false)else hasM m (a,i,j)
def anyI (f:Int→Bool):Nat→Int→Bool
 |0,_=>false
 |n+1,a=>f a||anyI f n (a+1)
def splitB (s:Str) (m:PMap):Str→Int→Int→Bool
 | [],i,j=>decide (i=j)
 |c::r,i,j=>anyI (fun k=>derB s m [c] i k&&splitB s m r k j) (j+1-i).toNat i
def okIJ (s:Str) (i j:Int):Bool:=decide (0≤i)&&(decide (i≤j)&&decide (j≤(s.length:Int)))
theorem okIJ_iff {s:Str} {i j:Int}:okIJ s i j=true↔0≤i∧i≤j∧j≤(s.length:Int):=by
 unfold okIJ;rw[andd,andd,dec_iff,dec_iff,dec_iff]
theorem y_impl_chart_derives (c:Chart) (a:Str) (i:Int) (j:Int):evFn (cxOf Γ64 Tryz.f101.ntmps [] [] [] []) Tryz.f101 true [ofD (.ref TCh) c,ofD .str a,ofD TI64 i,ofD TI64 j] []=(
branch (smallS a) (
 need (bif decide (decide (j=W64 (i+1))=true)then inr i j (length c.snd.fst)else true) <| some ((vB (bif decide (j=W64 (i+1))then decide ((List.take (j.toNat-i.toNat) (List.drop i.toNat c.snd.fst))=a)else false)),[])) ( some ((vB ((mget ty106 ty4 (a,i,j) c.snd.snd).getD false)),[]))):=by kernel_rfl
theorem s_impl_chart_derives (c:Chart) (hc:Fit (.ref TCh) c) (a:Str) (_ha:Fit .str a) (i:Int) (_hi:Fit TI64 i) (j:Int) (_hj:Fit TI64 j) (hpre:(okIJ c.2.1 i j)=true):Sat Tryz.prog 101 [ofD (.ref TCh) c,ofD .str a,ofD TI64 i,ofD TI64 j] [] (.d (ofD .bool (derB c.2.1 c.2.2 a i j))) [] :=
 fn_sound (cx:=cxOf Γ64 Tryz.f101.ntmps [] [] [] []) Tryz.func101 rfl ttOk Γ64ok mixed (fun _ _=>LoopsOk.no fun _=>rfl) (ro:=true) (by
  obtain⟨h0,h1,h2⟩:=okIJ_iff.1 hpre;refine(y_impl_chart_derives c a i j).trans ?_;unfold derB;have hl:(c.2.1.length:Int)≤9223372036854775807:=by
   have:c.2.1.length≤9223372036854775807:=hc.2.1;omega
  have w:W64 (i+1)=i+1∨i=9223372036854775807:=by
   by_cases h:i=9223372036854775807
   ·exact .inr h
   ·exact .inl (wrap_small (by omega) (by omega))
  cases hs:smallS a
  ·rfl
  ·by_cases hjj:j=i+1
   ·have w:W64 (i+1)=i+1:=wrap_small (by omega) (by omega);rw[w,zT hjj,hjj,slice_one h0 (by omega),inr_iff.2 (by omega:0≤i∧i≤i+1∧i+1≤(c.2.1.length:Int))];rfl
   ·have hj2:¬j=W64 (i+1):=by
     rcases w with w | w
     ·rw[w];exact hjj
     ·rw[w];have:W64 (9223372036854775807+1) = -9223372036854775808:=rfl;rw[this];omega
    rw[zF hjj,zF hj2];rfl)
def c_impl_chart_derives:Con:=conT [(.ref TCh), .str,TI64,TI64] fun(c:Chart) (a:Str) (i:Int) (j:Int)=>(some (okIJ c.2.1 i j), .d (ofD .bool (derB c.2.1 c.2.2 a i j)))
theorem k_impl_chart_derives:ConOk Tryz.prog 101 c_impl_chart_derives:=conT_ok Tryz.call101 fun c hc a ha i hi j hj hqq=>s_impl_chart_derives c hc a ha i hi j hj (pre_of hqq)
def Γ65:GL:=(101,c_impl_chart_derives)::Γ64
theorem Γ65ok:GO Γ65 := .cons k_impl_chart_derives Γ64ok
def conSplit (n:Nat):Con:=conT [.ref TCh, .str,TI64,TI64] fun(c:Chart) (a:Str) (i:Int) (j:Int)=>(some (Nat.blt (length a) n&&(okIJ c.2.1 i j&&Nat.ble (length c.2.1) 1000)), .d (ofD .bool (splitB c.2.1 c.2.2 a i j)))
structure LevD where
 n:Nat
 h:ConOk Tryz.prog 132 (conSplit n)
noncomputable section
variable [Inhabited LevD]
abbrev lvD:Nat:=(default:LevD).n
def c_impl_chart_splitR:Con:=conSplit lvD
theorem k_impl_chart_splitR:ConOk Tryz.prog 132 c_impl_chart_splitR:=(default:LevD).h
def Γ66:GL:=(132,c_impl_chart_splitR)::Γ65
theorem Γ66ok:GO Γ66 := .cons k_impl_chart_splitR Γ65ok
def cb_split:Cx:=(cxOf Γ66 Tryz.f132.ntmps [(4,[0,1,2,3,9])] [(0,[]),(1,[0,1,2,3,9]),(1000000,[8])] [] []).parted [6]
abbrev st_sp1 (c:Chart) (a:Str) (i j k:Int):St:=⟨[(0, .d (ofD (.ref TCh) c)),(1,vS a),(2,vI i),(3,vI j),(9,vI k)],[]⟩
theorem x_impl_chart_split (c:Chart) (a:Str) (i j k:Int) (R:St→Option Fin) (K:Cont):evC (cb_split.withLoops (look [])) (loopOf Tryz.f132 0) (st_sp1 c a i j k) (onward (headAt (cb_split.withLoops (look [])) 4) R K)=(
branch (decide (k≤j)) (
 need (inr 0 1 a.length) <|
 need (okIJ c.snd.fst i k) <|
 branch (decide (derB c.snd.fst c.snd.snd (List.take (Int.toNat 1-(0:Int).toNat) a) i k=true)) (
 need (inr 1 ((a.length:Int)) a.length) <|
 need ((List.take (((a.length:Int)).toNat-Int.toNat 1) (List.drop (Int.toNat 1) a)).length.blt lvD&&(okIJ c.snd.fst k j&&(length c.snd.fst).ble 1000)) <|
 branch (bif true then splitB c.snd.fst c.snd.snd (List.take (((a.length:Int)).toNat-Int.toNat 1) (List.drop (Int.toNat 1) a)) k j else false) ( K (.ret) (.mk [(8,vB true)] [])) ( R (st_sp1 c a i j (W64 (k+1))))) ( R (st_sp1 c a i j (W64 (k+1))))) ( K (.exit 0) (.mk [] []))):=by kernel_rfl
def cx0_sp1:Cx:=(cb_split).withLoops (look [])
def sh_sp1:Sh:=([(0, .d (.ref TCh)),(1, .d .str),(2, .d TI64),(3, .d TI64),(9, .d TI64)],[])
def pre_sp1 (c:Chart) (a:Str) (i j k:Int):Bool:=decide (0≤i)&&(decide (i≤k)&&(decide (k≤j+1)&&(decide (j≤(c.2.1.length:Int))&&(Nat.ble (length c.2.1) 1000&&(Nat.blt 0 (length a)&&Nat.ble (length a) lvD)))))
def res_sp1 (c:Chart) (a:Str) (i j k:Int) (K:Cont):Option Fin:=branch (anyI (fun k'=>derB c.2.1 c.2.2 (List.take 1 a) i k'&&splitB c.2.1 c.2.2 (List.drop 1 a) k' j) (j+1-k).toNat k) (K .ret ⟨[(8,vB true)],[]⟩) (K (.exit 0) ⟨[],[]⟩)
def mu_sp1 (_c:Chart) (_a:Str) (_i j k:Int):Nat:=(j+1-k).toNat
theorem r_sp1 (c:Chart) (a:Str) (i j k:Int) (K:Cont) (hI:pre_sp1 c a i j k=true):(∀R:St→Option Fin,evC cx0_sp1 (loopOf Tryz.f132 0) (st_sp1 c a i j k) (onward (headAt cx0_sp1 4) R K)=res_sp1 c a i j k K) ∨
  (∃(c':Chart) (a':Str) (i' j' k':Int),pre_sp1 c' a' i' j' k'=true∧mu_sp1 c' a' i' j' k'<mu_sp1 c a i j k∧res_sp1 c' a' i' j' k' K=res_sp1 c a i j k K∧∀R:St→Option Fin,evC cx0_sp1 (loopOf Tryz.f132 0) (st_sp1 c a i j k) (onward (headAt cx0_sp1 4) R K)=R (st_sp1 c' a' i' j' k')):=by
 have hx:=fun R=>x_impl_chart_split c a i j k R K;simp only[pre_sp1]at hI;rw[andd,andd,andd,andd,andd,andd,dec_iff,dec_iff,dec_iff,dec_iff,ble_iff,blt_iff,ble_iff]at hI;obtain⟨h0,h1,h2,h3,h4,h5,h6⟩:=hI
 by_cases hk:k≤j
 ·have w:W64 (k+1)=k+1:=wrap_small (by omega) (by omega);obtain⟨n,hn⟩:∃n,(j+1-k).toNat=n+1:=⟨(j+1-k).toNat-1,by omega⟩;have hn2:(j+1-(k+1)).toNat=n:=by omega
  have hg:anyI (fun k'=>derB c.2.1 c.2.2 (List.take 1 a) i k'&&splitB c.2.1 c.2.2 (List.drop 1 a) k' j) (n+1) k=((derB c.2.1 c.2.2 (List.take 1 a) i k&&splitB c.2.1 c.2.2 (List.drop 1 a) k j)||anyI (fun k'=>derB c.2.1 c.2.2 (List.take 1 a) i k'&&splitB c.2.1 c.2.2 (List.drop 1 a) k' j) n (k+1)):=rfl;have t1:List.take (((length a:Int)).toNat-Int.toNat 1) (List.drop (Int.toNat 1) a)=List.drop 1 a:=List.take_of_length_le (by rw[length_drop];omega);have k1:okIJ c.2.1 i k=true:=okIJ_iff.2 ⟨by omega,by omega,by omega⟩;have k2:okIJ c.2.1 k j=true:=okIJ_iff.2 ⟨by omega,by omega,by omega⟩;have k3:(length (List.drop 1 a)).blt lvD=true:=blt_iff.2 (by rw[length_drop];omega);have k4:(length c.2.1).ble 1000=true:=ble_iff.2 h4;rw[zT hk,t1,k1,k2,k3,k4,w,inr_iff.2 (by omega:(0:Int)≤0∧(0:Int)≤1∧1≤(length a:Int)),inr_iff.2 (by omega:(0:Int)≤1∧1≤(length a:Int)∧(length a:Int)≤(length a:Int))]at hx;change ∀R:St→Option Fin,_=branch true (need true (need true (branch (decide (derB c.2.1 c.2.2 (List.take 1 a) i k=true)) (need true (need true (branch (bif true then splitB c.2.1 c.2.2 (List.drop 1 a) k j else false) _ _))) _))) _ at hx
  cases hcs:(derB c.2.1 c.2.2 (List.take 1 a) i k&&splitB c.2.1 c.2.2 (List.drop 1 a) k j)
  ·right;refine⟨c,a,i,j,k+1, ?_, ?_, ?_,fun R=>(hx R).trans ?_⟩
   ·simp only[pre_sp1];rw[andd,andd,andd,andd,andd,andd,dec_iff,dec_iff,dec_iff,dec_iff,ble_iff,blt_iff,ble_iff];exact⟨by omega,by omega,by omega,h3,h4,h5,h6⟩
   ·simp only[mu_sp1];omega
   ·simp only[res_sp1,hn,hn2,hg,hcs,Bool.false_or]
   ·cases c1:derB c.2.1 c.2.2 (List.take 1 a) i k
    ·rfl
    ·rw[c1]at hcs;have c2:splitB c.2.1 c.2.2 (List.drop 1 a) k j=false:=hcs;rw[c2];rfl
  ·obtain ⟨c1,c2⟩:=andd.1 hcs;left;intro R;refine(hx R).trans ?_;simp only[res_sp1,hn,hg,hcs];rw[c1,c2];rfl
 ·left;intro R;refine(hx R).trans ?_;rw[zF hk];have e:(j+1-k).toNat=0:=by omega
  simp only[res_sp1,e];rfl
def g_sp1:St→Cont→Option Fin:=gP sh_sp1 (fun v=>match v with | ((c,a,i,j,k,()),())=>pre_sp1 c a i j k) (fun v K=>match v with | ((c,a,i,j,k,()),())=>res_sp1 c a i j k K)
def L_sp1:LpL:=(4,g_sp1)::[]
def cx_sp1:Cx:=(cb_split).withLoops (look L_sp1)
theorem l_sp1 {L:LpL} (n:Nat) (h1:L.drop n=[]) (h2:idsFree (L.take n) (loopOf Tryz.f132 0)=true):LoopsTo g_sp1 (cb_split) (loopOf Tryz.f132 0) 4 L :=
 with_drop h1 h2 (gP_ok (fun v=>match v with | ((c,a,i,j,k,()),())=>mu_sp1 c a i j k) fun v K hI=>by
  obtain⟨⟨c,a,i,j,k,⟨⟩⟩,⟨⟩⟩:=v;exact(r_sp1 c a i j k K hI).imp id fun⟨c',a',i',j',k',h⟩=>⟨((c',a',i',j',k',()),()),h⟩)
theorem y_impl_chart_split (c:Chart) (a:Str) (i:Int) (j:Int):evFn cx_sp1 Tryz.f132 true [ofD (.ref TCh) c,ofD .str a,ofD TI64 i,ofD TI64 j] []=(
branch (decide (a=[])) ( some ((vB (decide (i=j))),[])) (
 need (pre_sp1 c a i j i) <|
 branch (anyI (fun k'=>derB c.snd.fst c.snd.snd (List.take 1 a) i k'&&splitB c.snd.fst c.snd.snd (List.drop 1 a) k' j) (j+1-i).toNat i) ( some ((vB true),[])) ( some ((vB false),[])))):=by kernel_rfl
theorem split_up:ConOk Tryz.prog 132 (conSplit (lvD+1)):=conT_ok Tryz.call132 fun(c:Chart) _ (a:Str) _ (i:Int) _ (j:Int) _ hqq=>by
 obtain⟨h1,h2⟩:=andd.1 (pre_of hqq);obtain⟨h2,h3⟩:=andd.1 h2;obtain⟨i0,i1,i2⟩:=okIJ_iff.1 h2;have h1:=blt_iff.1 h1;refine fn_sound (cx:=cx_sp1) Tryz.func132 rfl ttOk Γ66ok mixed (fun c hc=>LoopsOk.all (l:=[(4,loopOf Tryz.f132 0)]) (by cases hc;kernel_rfl) ⟨atLoop rfl (l_sp1 1 rfl (by kernel_rfl)),trivial⟩) (ro:=true) ?_;refine(y_impl_chart_split c a i j).trans ?_
 cases a with
 |nil=>rfl
 |cons q r =>
  have hp:pre_sp1 c (q::r) i j i=true:=by
   simp only[pre_sp1];rw[andd,andd,andd,andd,andd,andd,dec_iff,dec_iff,dec_iff,dec_iff,ble_iff,blt_iff,ble_iff];exact⟨i0,by omega,by omega,i2,ble_iff.1 h3,by simp,by omega⟩
  rw[hp];show branch (splitB c.2.1 c.2.2 (q::r) i j) _ _=_
  cases splitB c.2.1 c.2.2 (q::r) i j<;>rfl
end
theorem split_all:∀n,ConOk Tryz.prog 132 (conSplit n)
 |0=>conT_ok Tryz.call132 fun c _ (a:Str) _ i _ j _ hqq=>by
  have:=blt_iff.1 (andd.1 (pre_of hqq)).1;omega
 |n+1=>@split_up ⟨⟨n,split_all n⟩⟩
def c_impl_chart_split:Con:=conSplit 9
theorem k_impl_chart_split:ConOk Tryz.prog 132 c_impl_chart_split:=split_all 9
def Γ67:GL:=(132,c_impl_chart_split)::Γ65
theorem Γ67ok:GO Γ67 := .cons k_impl_chart_split Γ65ok
def putM (q:Part) (m:PMap):PMap:=mset TP .bool q true m
def stepR (s:Str) (i j:Int) (r:Rule) (p:PMap×Bool):PMap×Bool:=bif !hasM p.1 (r.1,i,j)&&splitB s p.1 r.2 i j then(putM (r.1,i,j) p.1,true)else p
def rulesF (s:Str) (i j:Int):List Rule→PMap×Bool→PMap×Bool
 | [],p=>p
 |r::l,p=>rulesF s i j l (stepR s i j r p)
def tosF (s:Str) (l:List Rule) (i:Int):Nat→Int→PMap×Bool→PMap×Bool
 |0,_,p=>p
 |n+1,j,p=>tosF s l i n (j+1) (rulesF s i j l p)
def fromsF (s:Str) (l:List Rule):Nat→PMap×Bool→PMap×Bool
 |0,p=>p
 |n+1,p=>fromsF s l n (tosF s l (n:Int) (s.length+1-n) (n:Int) p)
theorem rulesF_at {s:Str} {i j k:Int} {l:List Rule} {p:PMap×Bool} (h0:0≤k) (h1:k<(l.length:Int)):rulesF s i j (l.drop k.toNat) p=rulesF s i j (l.drop (k+1).toNat) (stepR s i j (l.getD k.toNat d0) p):=by
 have hn:k.toNat<l.length:=by omega
 rw[drop_eq_getElem_cons hn,show (k+1).toNat=k.toNat+1 by omega,zG,zE hn];rfl
theorem eqP_iff {x y:Part}:eqDen TP x y=true↔x=y:=by
 obtain⟨a,i,j⟩:=x;obtain⟨b,k,n⟩:=y;show(decide (a=b)&&(decide (i=k)&&decide (j=n)))=true↔_;rw[andd,andd,dec_iff,dec_iff,dec_iff]
 constructor
 ·rintro ⟨rfl,rfl,rfl⟩;rfl
 ·intro h;cases h;exact ⟨rfl,rfl,rfl⟩
theorem eqP_dec {x y:Part}:eqDen TP x y=decide (x=y):=by
 by_cases h:x=y
 ·rw[zT h,eqP_iff.2 h]
 ·rw[zF h]
  cases e:eqDen TP x y
  ·rfl
  ·exact absurd (eqP_iff.1 e) h
theorem has_cons {x a:Part} {u:Bool} {m:PMap}:hasM ((a,u)::m) x=bif decide (x=a)then u else hasM m x:=by
 rw[← eqP_dec];show(bif eqDen TP x a then some u else mget TP .bool x m).getD false=_
 cases eqDen TP x a<;>rfl
theorem has_set {q x:Part} {v:Bool}:∀ {m:PMap},hasM (mset TP .bool q v m) x=bif decide (x=q)then v else hasM m x
 | []=>has_cons (m:=[])
 | (a,u)::m=>by
  have ih:=has_set (q:=q) (x:=x) (v:=v) (m:=m);show hasM (bif eqDen TP q a then(q,v)::m else(a,u)::mset TP .bool q v m) x=_;rw[eqP_dec,has_cons]
  by_cases h1:q=a
  ·subst h1;rw[zT rfl,cond_true,has_cons]
   cases decide (x=q)<;>rfl
  ·rw[zF h1,cond_false];refine has_cons.trans ?_
   by_cases h:x=a
   ·have hx:¬x=q:=fun e=>h1 (e.symm.trans h);rw[zF hx,zT h];rfl
   ·rw[zF h,cond_false,cond_false,ih]
theorem has_put {q x:Part} {m:PMap}:hasM (putM q m) x=bif decide (x=q)then true else hasM m x:=has_set
abbrev Vis:Type:=Int×Int×Rule
def keyV (v:Vis):Part:=(v.2.2.1,v.1,v.2.1)
def stepV (s:Str) (v:Vis) (p:PMap×Bool):PMap×Bool:=stepR s v.1 v.2.1 v.2.2 p
def visR (i j:Int) (l:List Rule):List Vis:=l.map fun r=>(i,j,r)
def visT (l:List Rule) (i:Int):Nat→Int→List Vis
 |0,_=>[]
 |n+1,j=>visR i j l++visT l i n (j+1)
def visF (s:Str) (l:List Rule):Nat→List Vis
 |0=>[]
 |n+1=>visT l (n:Int) (s.length+1-n) (n:Int)++visF s l n
theorem rules_vis {s:Str} {i j:Int}:∀ {l:List Rule} {p:PMap×Bool},rulesF s i j l p=foldG (stepV s) (visR i j l) p
 | [],_=>rfl
 |r::l,p=>rules_vis (l:=l) (p:=stepR s i j r p)
theorem tos_vis {s:Str} {l:List Rule} {i:Int}:∀ {n:Nat} {j:Int} {p:PMap×Bool},tosF s l i n j p=foldG (stepV s) (visT l i n j) p
 |0,_,_=>rfl
 |n+1,j,p=>by
  show tosF s l i n (j+1) (rulesF s i j l p)=foldG (stepV s) (visR i j l++visT l i n (j+1)) p;rw[foldG_app,← rules_vis,tos_vis]
theorem froms_vis {s:Str} {l:List Rule}:∀ {n:Nat} {p:PMap×Bool},fromsF s l n p=foldG (stepV s) (visF s l n) p
 |0,_=>rfl
 |n+1,p=>by
  show fromsF s l n (tosF s l (n:Int) (s.length+1-n) (n:Int) p)=foldG (stepV s) (visT l (n:Int) (s.length+1-n) (n:Int)++visF s l n) p;rw[foldG_app,← tos_vis,froms_vis]
theorem mem_visT {l:List Rule} {i:Int} {v:Vis}:∀ {n:Nat} {j:Int},v∈visT l i n j↔v.1=i∧j≤v.2.1∧v.2.1<j+n∧v.2.2∈l
 |0,j=>by
  unfold visT
  constructor
  ·intro h;cases h
  ·rintro ⟨_,h1,h2,_⟩;omega
 |n+1,j=>by
  unfold visT visR;rw[mem_append,mem_visT (n:=n) (j:=j+1),List.mem_map]
  constructor
  ·rintro (⟨r,hr,rfl⟩ | ⟨h1,h2,h3,h4⟩)
   ·exact ⟨rfl,Int.le_refl _,by show j<j+_;omega,hr⟩
   ·exact ⟨h1,by omega,by omega,h4⟩
  ·rintro ⟨h1,h2,h3,h4⟩
   by_cases h:v.2.1=j
   ·exact .inl ⟨v.2.2,h4,by rw[← h1,← h]⟩
   ·exact .inr ⟨h1,by omega,by omega,h4⟩
theorem mem_visF {s:Str} {l:List Rule} {v:Vis}:∀ {n:Nat},n≤s.length+1→(v∈visF s l n↔0≤v.1∧v.1<n∧v.1≤v.2.1∧v.2.1≤(s.length:Int)∧v.2.2∈l)
 |0,_=>by
  unfold visF
  constructor
  ·intro h;cases h
  ·rintro ⟨h1,h2,_⟩;omega
 |n+1,hn=>by
  unfold visF;rw[mem_append,mem_visT,mem_visF (n:=n) (by omega)]
  constructor
  ·rintro (⟨h1,h2,h3,h4⟩ | ⟨h1,h2,h3,h4,h5⟩)
   ·exact ⟨by omega,by omega,by omega,by omega,h4⟩
   ·exact ⟨by omega,by omega,by omega,by omega,h5⟩
  ·rintro ⟨h1,h2,h3,h4,h5⟩
   by_cases h:v.1=n
   ·exact .inl ⟨h,by omega,by omega,h5⟩
   ·exact .inr ⟨by omega,by omega,by omega,by omega,h5⟩
theorem stepV_ok (s:Str):StepOk (fun _=>True) (fun _=>True) hasM (fun v=>[keyV v]) (stepV s) where
 inv _ _ _ _:=trivial
 mono v p x _ _ h:=by
  unfold stepV stepR
  cases !hasM p.1 (v.2.2.1,v.1,v.2.1)&&splitB s p.1 v.2.2.2 v.1 v.2.1
  ·exact h
  ·show hasM (putM (v.2.2.1,v.1,v.2.1) p.1) x=true;rw[has_put,h]
   cases decide (x=(v.2.2.1,v.1,v.2.1))<;>rfl
 new v p _ _ h:=by
  unfold stepV stepR at *
  cases hc:(!hasM p.1 (v.2.2.1,v.1,v.2.1)&&splitB s p.1 v.2.2.2 v.1 v.2.1)<;>rw[hc]at h
  ·exact .inl h
  ·refine .inr ⟨keyV v,mem_singleton.2 rfl, ?_, ?_⟩
   ·have:=(andd.1 hc).1;show hasM p.1 (v.2.2.1,v.1,v.2.1)=false
    cases h2:hasM p.1 (v.2.2.1,v.1,v.2.1)
    ·rfl
    ·rw[h2]at this;cases this
   ·show hasM (putM (v.2.2.1,v.1,v.2.1) p.1) (keyV v)=true;rw[has_put,zT (show keyV v=(v.2.2.1,v.1,v.2.1)from rfl)];rfl
 quiet v p _ _ h:=by
  unfold stepV stepR at *
  cases hc:(!hasM p.1 (v.2.2.1,v.1,v.2.1)&&splitB s p.1 v.2.2.2 v.1 v.2.1)<;>rw[hc]at h
  ·exact ⟨h,rfl⟩
  ·cases h
theorem anyI_iff {f:Int→Bool}:∀ {n:Nat} {a:Int},anyI f n a=true↔∃k,a≤k∧k<a+n∧f k=true
 |0,a=>by
  unfold anyI
  constructor
  ·intro h;cases h
  ·rintro ⟨k,h1,h2,_⟩;omega
 |n+1,a=>by
  unfold anyI;rw[Bool.or_eq_true,anyI_iff (n:=n) (a:=a+1)]
  constructor
  ·rintro (h | ⟨k,h1,h2,h3⟩)
   ·exact ⟨a,Int.le_refl _,by omega,h⟩
   ·exact ⟨k,by omega,by omega,h3⟩
  ·rintro ⟨k,h1,h2,h3⟩
   by_cases h:k=a
   ·exact .inl (by rw[← h];exact h3)
   ·exact .inr ⟨k,by omega,by omega,h3⟩
abbrev tabM (m:PMap) (a:Str) (i j:Int):Prop:=hasM m (a,i,j)=true
theorem derB_iff {s:Str} {m:PMap} {a:Str} {i j:Int}:derB s m a i j=true↔derP s (tabM m) a i j:=by
 unfold derB derP
 cases smallS a
 ·exact Iff.rfl
 ·rw[cond_true,if_pos rfl,b2,andd,dec_iff,dec_iff]
theorem splitB_iff {s:Str} {m:PMap}:∀ {r:Str} {i j:Int},splitB s m r i j=true↔splP s (tabM m) r i j
 | [],i,j=>by
  unfold splitB splP;exact dec_iff
 |c::r,i,j=>by
  unfold splitB splP;rw[anyI_iff]
  constructor
  ·rintro ⟨k,h1,h2,h3⟩;obtain⟨h3,h4⟩:=andd.1 h3;exact⟨k,h1,by omega,derB_iff.1 h3,splitB_iff.1 h4⟩
  ·rintro ⟨k,h1,h2,h3,h4⟩;exact⟨k,h1,by omega,andd.2 ⟨derB_iff.2 h3,splitB_iff.2 h4⟩⟩
def chartM (s:Str) (l:List Rule):PMap:=runC hasM (fun v=>[keyV v]) (stepV s) (visF s l (s.length+1)) []
theorem chartM_iff {s:Str} {l:List Rule} {a:Str} {i j:Int}:hasM (chartM s l) (a,i,j)=true↔DerG s l a i j:=by
 refine Der_iff (T:=tabM (chartM s l)) (fun P hP a i j h => ?_) (fun r hr i j h0 h1 h2 h3 => ?_)
 ·refine (runC_end (stepV_ok s) (fun _ _=>trivial) (J:=fun m=>∀a i j,hasM m (a,i,j)=true→P a i j) (fun v hv p hp a i j h => ?_) (m:=[]) trivial (fun a i j h=>by cases h)).2.1 a i j h;unfold stepV stepR at h
  cases hc:(!hasM p.1 (v.2.2.1,v.1,v.2.1)&&splitB s p.1 v.2.2.2 v.1 v.2.1)<;>rw[hc]at h
  ·exact hp.2 a i j h
  ·change hasM (putM (v.2.2.1,v.1,v.2.1) p.1) (a,i,j)=true at h;rw[has_put]at h
   by_cases he:(a,i,j)=(v.2.2.1,v.1,v.2.1)
   ·cases he
    obtain⟨v1,v2,v3,v4,v5⟩:=(mem_visF (Nat.le_refl _)).1 hv;exact hP v.2.2 v5 v.1 v.2.1 v1 v3 v4 (splP_mono (fun a i j _ _ _ h=>hp.2 a i j h) v1 v4 (splitB_iff.1 (andd.1 hc).2))
   ·rw[zF he]at h;exact hp.2 a i j h
 ·have h4:=(runC_end (stepV_ok s) (J:=fun _=>True) (vs:=visF s l (s.length+1)) (fun _ _=>trivial) (fun _ _ _ _=>trivial) (m:=[]) trivial trivial).2.2 (i,j,r) ((mem_visF (Nat.le_refl _)).2 ⟨h0,by show i<_;omega,h1,h2,hr⟩);change stepR s i j r (chartM s l,false)=(chartM s l,false)at h4;show hasM (chartM s l) (r.1,i,j)=true;unfold stepR at h4
  cases hc:hasM (chartM s l) (r.1,i,j)
  ·rw[hc,splitB_iff.2 h3]at h4
   cases congrArg Prod.snd h4
  ·rfl
def cb_chart:Cx:=(cxOf Γ67 Tryz.f100.ntmps [(12,[1,2,5,6,7,8,32,33,34]),(9,[1,2,5,6,7,8]),(6,[1,2,5,6,7]),(3,[1,2,5,6])] [(0,[5]),(1,[1,2,5,6]),(2,[1,2,5,6]),(3,[1,2,5,6,7]),(4,[1,2,5,6,7]),(5,[1,2,5,6,7,8]),(6,[1,2,5,6,7,8]),(7,[1,2,5,6,7,8,32,33,34]),(1000000,[4])] [] [])
abbrev chO (a:Str) (l:List Rule) (s:Str) (i:Nat):Option Obj:=some (.box 146 [.r (.v (.string (mk a))), .r (.li TRu l), .r (.v (.string (mk s))), .own i])
abbrev chH (g:Gram) (a:Str) (l:List Rule) (s:Str) (m:PMap):Heap:=[(500000,some (boxD 25 TG g)),(500001,chO a l s 500002),(500002,some (.map TP .bool m))]
theorem x_impl_chartOf_3 (t s a:Str) (g:Gram) (l q:List Rule) (m:PMap) (b:Bool) (i j n k:Int) (R:St→Option Fin) (K:Cont):evC (cb_chart.withLoops (look [])) (loopOf Tryz.f100 3) ⟨[(1,vS t),(2, kp0),(5, kp1),(6,vB b),(7,vI i),(8,vI j),(32, .d (ofD TRL l)),(33,vI n),(34,vI k)],[(500000,some (boxD 25 TG g)),(500001,chO a q s 500002),(500002,some (.map TP .bool m))]⟩ (onward (headAt (cb_chart.withLoops (look [])) 12) R K)=(
branch (decide (k<n)) (
 need (inb k l.length) <|
 need (bif decide ((!hasM m ((l.getD k.toNat d0).1,i,j))=true)then Nat.blt (length (l.getD k.toNat d0).2) 9&&(okIJ s i j&&Nat.ble s.length 1000)else true) <|
 branch (bif !hasM m ((l.getD k.toNat d0).1,i,j)then splitB s m (l.getD k.toNat d0).2 i j else false) (R ⟨[(1,vS t),(2, kp0),(5, kp1),(6,vB true),(7,vI i),(8,vI j),(32, .d (ofD TRL l)),(33,vI n),(34,vI (W64 (k+1)))],chH g a q s (putM ((l.getD k.toNat d0).1,i,j) m)⟩) (R ⟨[(1,vS t),(2, kp0),(5, kp1),(6,vB b),(7,vI i),(8,vI j),(32, .d (ofD TRL l)),(33,vI n),(34,vI (W64 (k+1)))],chH g a q s m⟩)) (K (.exit 6) ⟨[(1,vS t),(2, kp0),(5, kp1),(6,vB b),(7,vI i),(8,vI j)],chH g a q s m⟩)):=by kernel_rfl
def okRs (l:List Rule):Bool:=Nat.ble (length l) 1000&&List.all l (fun r=>Nat.blt (length r.2) 9)
theorem okRs_iff {l:List Rule}:okRs l=true↔l.length≤1000∧List.all l (fun r=>Nat.blt (length r.2) 9)=true:=by
 unfold okRs;rw[andd,ble_iff]
def cx0_c4:Cx:=(cb_chart).withLoops (look [])
def sh_c4:Sh:=([(1, .d .str),(2, .ptr 500000 0),(5, .ptr 500001 0),(6, .d .bool),(7, .d TI64),(8, .d TI64),(32, .d TRL),(33, .d TI64),(34, .d TI64)],[(500000, .box 25 TG),(500001, .mix 146 [.d .str, .d TRL, .d .str, .own 500002]),(500002, .map TP .bool)])
abbrev st_c4 (t:Str) (b:Bool) (i j:Int) (l:List Rule) (n k:Int) (g:Gram) (a:Str) (q:List Rule) (s:Str) (m:List (Den TP×Den .bool)):St:=⟨[(1,vS t),(2, kp0),(5, kp1),(6,vB b),(7,vI i),(8,vI j),(32, .d (ofD TRL l)),(33,vI n),(34,vI k)],[(500000,some (boxD 25 TG g)),(500001,some (.box 146 ((cellsR .str a).map C.r++(cellsR TRL q).map C.r++(cellsR .str s).map C.r++[.own 500002]))),(500002,some (.map TP .bool m))]⟩
def pre_c4 (_t:Str) (_b:Bool) (i j:Int) (l:List Rule) (n k:Int) (_g:Gram) (_a:Str) (_q:List Rule) (s:Str) (_m:List (Den TP×Den .bool)):Bool:=decide (0≤k)&&(decide (n=(length l:Int))&&(okRs l&&(okIJ s i j&&Nat.ble (length s) 1000)))
def res_c4 (t:Str) (b:Bool) (i j:Int) (l:List Rule) (_n k:Int) (g:Gram) (a:Str) (q:List Rule) (s:Str) (m:List (Den TP×Den .bool)) (K:Cont):Option Fin:=K (.exit 6) ⟨[(1,vS t),(2, kp0),(5, kp1),(6,vB (rulesF s i j (List.drop k.toNat l) (m,b)).2),(7,vI i),(8,vI j)],chH g a q s (rulesF s i j (List.drop k.toNat l) (m,b)).1⟩
def mu_c4 (_t:Str) (_b:Bool) (_i _j:Int) (l:List Rule) (_n k:Int) (_g:Gram) (_a:Str) (_q:List Rule) (_s:Str) (_m:List (Den TP×Den .bool)):Nat:=length l-k.toNat
theorem r_c4 (t:Str) (b:Bool) (i j:Int) (l:List Rule) (n k:Int) (g:Gram) (a:Str) (q:List Rule) (s:Str) (m:List (Den TP×Den .bool)) (K:Cont) (hI:pre_c4 t b i j l n k g a q s m=true):(∀R:St→Option Fin,evC cx0_c4 (loopOf Tryz.f100 3) (st_c4 t b i j l n k g a q s m) (onward (headAt cx0_c4 12) R K)=res_c4 t b i j l n k g a q s m K) ∨
  (∃(t':Str) (b':Bool) (i' j':Int) (l':List Rule) (n' k':Int) (g':Gram) (a':Str) (q':List Rule) (s':Str) (m':List (Den TP×Den .bool)),pre_c4 t' b' i' j' l' n' k' g' a' q' s' m'=true∧mu_c4 t' b' i' j' l' n' k' g' a' q' s' m'<mu_c4 t b i j l n k g a q s m∧res_c4 t' b' i' j' l' n' k' g' a' q' s' m' K=res_c4 t b i j l n k g a q s m K∧∀R:St→Option Fin,evC cx0_c4 (loopOf Tryz.f100 3) (st_c4 t b i j l n k g a q s m) (onward (headAt cx0_c4 12) R K)=R (st_c4 t' b' i' j' l' n' k' g' a' q' s' m')):=by
 have hx:=fun R=>x_impl_chartOf_3 t s a g l q m b i j n k R K;simp only[pre_c4]at hI;rw[andd,andd,andd,andd,dec_iff,dec_iff,okRs_iff,ble_iff]at hI;obtain⟨h0,rfl,⟨h2,h3⟩,h4,h5⟩:=hI
 by_cases hk:k<(length l:Int)
 ·have w:W64 (k+1)=k+1:=wrap_small (by omega) (by omega);have hg:=rulesF_at (s:=s) (i:=i) (j:=j) (p:=(m,b)) h0 hk;have hr:Nat.blt (length (l.getD k.toNat d0).2) 9=true:=all_eq_true.1 h3 _ (by
   have hn:k.toNat<length l:=by omega
   rw[getD_at hn];exact List.getElem_mem hn)
  rw[zT hk,inb_ok h0 hk,w,hr,h4,ble_iff.2 h5]at hx;simp only[Bool.and_self,Bool.cond_self]at hx;change ∀R:St→Option Fin,_=branch (bif !hasM m ((l.getD k.toNat d0).1,i,j)then splitB s m (l.getD k.toNat d0).2 i j else false) _ _ at hx;have hst:stepR s i j (l.getD k.toNat d0) (m,b)=bif !hasM m ((l.getD k.toNat d0).1,i,j)&&splitB s m (l.getD k.toNat d0).2 i j then(putM ((l.getD k.toNat d0).1,i,j) m,true)else(m,b):=rfl;rw[b2]at hx;right
  cases hc:(!hasM m ((l.getD k.toNat d0).1,i,j)&&splitB s m (l.getD k.toNat d0).2 i j)
  ·rw[hc]at hx hst;rw[hst]at hg;refine⟨t,b,i,j,l,(length l:Int),k+1,g,a,q,s,m, ?_, ?_, ?_,fun R=>hx R⟩
   ·simp only[pre_c4];rw[andd,andd,andd,andd,dec_iff,dec_iff,okRs_iff,ble_iff];exact⟨by omega,trivial,⟨h2,h3⟩,h4,h5⟩
   ·simp only[mu_c4];omega
   ·simp only[res_c4,hg];rfl
  ·rw[hc]at hx hst;rw[hst]at hg;refine⟨t,true,i,j,l,(length l:Int),k+1,g,a,q,s,putM ((l.getD k.toNat d0).1,i,j) m, ?_, ?_, ?_,fun R=>hx R⟩
   ·simp only[pre_c4];rw[andd,andd,andd,andd,dec_iff,dec_iff,okRs_iff,ble_iff];exact⟨by omega,trivial,⟨h2,h3⟩,h4,h5⟩
   ·simp only[mu_c4];omega
   ·simp only[res_c4,hg];rfl
 ·left;intro R;refine(hx R).trans ?_;rw[zF hk];have e:List.drop k.toNat l=[]:=drop_eq_nil_of_le (by omega);simp only[res_c4,e];rfl
def g_c4:St→Cont→Option Fin:=gP sh_c4 (fun v=>match v with | ((t,b,i,j,l,n,k,()),(g,(a,q,s,()),m,()))=>pre_c4 t b i j l n k g a q s m) (fun v K=>match v with | ((t,b,i,j,l,n,k,()),(g,(a,q,s,()),m,()))=>res_c4 t b i j l n k g a q s m K)
def L_c4:LpL:=(12,g_c4)::[]
theorem l_c4 {L:LpL} (n:Nat) (h1:L.drop n=[]) (h2:idsFree (L.take n) (loopOf Tryz.f100 3)=true):LoopsTo g_c4 (cb_chart) (loopOf Tryz.f100 3) 12 L :=
 with_drop h1 h2 (gP_ok (fun v=>match v with | ((t,b,i,j,l,n,k,()),(g,(a,q,s,()),m,()))=>mu_c4 t b i j l n k g a q s m) fun v K hI=>by
  obtain⟨⟨t,b,i,j,l,n,k,⟨⟩⟩,⟨g,⟨a,q,s,⟨⟩⟩,m,⟨⟩⟩⟩:=v;exact(r_c4 t b i j l n k g a q s m K hI).imp id fun⟨t',b',i',j',l',n',k',g',a',q',s',m',h⟩=>⟨((t',b',i',j',l',n',k',()),(g',(a',q',s',()),m',())),h⟩)
theorem x_impl_chartOf_2 (t s a:Str) (g:Gram) (q:List Rule) (m:PMap) (b:Bool) (i j:Int) (R:St→Option Fin) (K:Cont):evC (cb_chart.withLoops (look L_c4)) (loopOf Tryz.f100 2) ⟨[(1,vS t),(2, kp0),(5, kp1),(6,vB b),(7,vI i),(8,vI j)],[(500000,some (boxD 25 TG g)),(500001,chO a q s 500002),(500002,some (.map TP .bool m))]⟩ (onward (headAt (cb_chart.withLoops (look L_c4)) 9) R K)=(
branch (decide (j≤(t.length:Int))) (
 need (pre_c4 t b i j g.snd ((length g.snd:Int)) 0 g a q s m) <| R (.mk [(1,vS t),(2,kp0),(5,kp1),(6,(vB (rulesF s i j g.snd (m,b)).snd)),(7,vI i),(8,vI (W64 (j+1)))] [(500000,some (boxD 25 TG g)),(500001,(.some (.box 146 [(.r (.v (Value.string (mk a)))),(.r (.li TRu q)),(.r (.v (Value.string (mk s)))),(.own 500002)]))),(500002,(.some (.map TP (Ty.bool) ((rulesF s i j g.snd (m,b)).fst))))])) ( K (.exit 4) (.mk [(1,vS t),(2,kp0),(5,kp1),(6,vB b),(7,vI i)] [(500000,some (boxD 25 TG g)),(500001,(.some (.box 146 [(.r (.v (Value.string (mk a)))),(.r (.li TRu q)),(.r (.v (Value.string (mk s)))),(.own 500002)]))),(500002,(.some (.map TP (Ty.bool) m)))]))):=by kernel_rfl
def cx0_c3:Cx:=(cb_chart).withLoops (look L_c4)
def sh_c3:Sh:=([(1, .d .str),(2, .ptr 500000 0),(5, .ptr 500001 0),(6, .d .bool),(7, .d TI64),(8, .d TI64)],[(500000, .box 25 TG),(500001, .mix 146 [.d .str, .d TRL, .d .str, .own 500002]),(500002, .map TP .bool)])
abbrev st_c3 (t:Str) (b:Bool) (i j:Int) (g:Gram) (a:Str) (q:List Rule) (s:Str) (m:List (Den TP×Den .bool)):St:=⟨[(1,vS t),(2, kp0),(5, kp1),(6,vB b),(7,vI i),(8,vI j)],[(500000,some (boxD 25 TG g)),(500001,some (.box 146 ((cellsR .str a).map C.r++(cellsR TRL q).map C.r++(cellsR .str s).map C.r++[.own 500002]))),(500002,some (.map TP .bool m))]⟩
def pre_c3 (t:Str) (_b:Bool) (i j:Int) (g:Gram) (_a:Str) (_q:List Rule) (s:Str) (_m:List (Den TP×Den .bool)):Bool:=decide (0≤i)&&(decide (i≤j)&&(okRs g.2&&(decide (t=s)&&(Nat.ble (length s) 1000&&decide (j≤(length s:Int)+1)))))
def res_c3 (t:Str) (b:Bool) (i j:Int) (g:Gram) (a:Str) (q:List Rule) (s:Str) (m:List (Den TP×Den .bool)) (K:Cont):Option Fin:=K (.exit 4) ⟨[(1,vS t),(2, kp0),(5, kp1),(6,vB (tosF s g.2 i ((s.length:Int)+1-j).toNat j (m,b)).2),(7,vI i)],chH g a q s (tosF s g.2 i ((s.length:Int)+1-j).toNat j (m,b)).1⟩
def mu_c3 (_t:Str) (_b:Bool) (_i j:Int) (_g:Gram) (_a:Str) (_q:List Rule) (s:Str) (_m:List (Den TP×Den .bool)):Nat:=(length s+1)-j.toNat
theorem r_c3 (t:Str) (b:Bool) (i j:Int) (g:Gram) (a:Str) (q:List Rule) (s:Str) (m:List (Den TP×Den .bool)) (K:Cont) (hI:pre_c3 t b i j g a q s m=true):(∀R:St→Option Fin,evC cx0_c3 (loopOf Tryz.f100 2) (st_c3 t b i j g a q s m) (onward (headAt cx0_c3 9) R K)=res_c3 t b i j g a q s m K) ∨
  (∃(t':Str) (b':Bool) (i' j':Int) (g':Gram) (a':Str) (q':List Rule) (s':Str) (m':List (Den TP×Den .bool)),pre_c3 t' b' i' j' g' a' q' s' m'=true∧mu_c3 t' b' i' j' g' a' q' s' m'<mu_c3 t b i j g a q s m∧res_c3 t' b' i' j' g' a' q' s' m' K=res_c3 t b i j g a q s m K∧∀R:St→Option Fin,evC cx0_c3 (loopOf Tryz.f100 2) (st_c3 t b i j g a q s m) (onward (headAt cx0_c3 9) R K)=R (st_c3 t' b' i' j' g' a' q' s' m')):=by
 have hx:=fun R=>x_impl_chartOf_2 t s a g q m b i j R K;simp only[pre_c3]at hI;rw[andd,andd,andd,andd,andd,dec_iff,dec_iff,dec_iff,ble_iff,dec_iff]at hI;obtain⟨h0,h1,h2,rfl,h4,h5⟩:=hI
 by_cases hj:j≤(length t:Int)
 ·have w:W64 (j+1)=j+1:=wrap_small (by omega) (by omega);obtain⟨n,hn⟩:∃n,((length t:Int)+1-j).toNat=n+1:=⟨((length t:Int)+1-j).toNat-1,by omega⟩;have hn2:((length t:Int)+1-(j+1)).toNat=n:=by omega
  have hg:tosF t g.2 i (n+1) j (m,b)=tosF t g.2 i n (j+1) (rulesF t i j g.2 (m,b)):=rfl;have hp:pre_c4 t b i j g.2 ((length g.2:Int)) 0 g a q t m=true:=by
   simp only[pre_c4];rw[andd,andd,andd,andd,dec_iff,dec_iff,ble_iff];exact⟨by omega,trivial,h2,okIJ_iff.2 ⟨h0,h1,hj⟩,h4⟩
  rw[zT hj,hp,w]at hx;right;refine⟨t,(rulesF t i j g.2 (m,b)).2,i,j+1,g,a,q,t,(rulesF t i j g.2 (m,b)).1, ?_, ?_, ?_,fun R=>hx R⟩
  ·simp only[pre_c3];rw[andd,andd,andd,andd,andd,dec_iff,dec_iff,dec_iff,ble_iff,dec_iff];exact⟨by omega,by omega,h2,trivial,h4,by omega⟩
  ·simp only[mu_c3];omega
  ·simp only[res_c3,hn,hn2,hg]
 ·left;intro R;refine(hx R).trans ?_;rw[zF hj];have e:((length t:Int)+1-j).toNat=0:=by omega
  simp only[res_c3,e];rfl
def g_c3:St→Cont→Option Fin:=gP sh_c3 (fun v=>match v with | ((t,b,i,j,()),(g,(a,q,s,()),m,()))=>pre_c3 t b i j g a q s m) (fun v K=>match v with | ((t,b,i,j,()),(g,(a,q,s,()),m,()))=>res_c3 t b i j g a q s m K)
def L_c3:LpL:=(9,g_c3)::L_c4
theorem l_c3 {L:LpL} (n:Nat) (h1:L.drop n=L_c4) (h2:idsFree (L.take n) (loopOf Tryz.f100 2)=true):LoopsTo g_c3 (cb_chart) (loopOf Tryz.f100 2) 9 L :=
 with_drop h1 h2 (gP_ok (fun v=>match v with | ((t,b,i,j,()),(g,(a,q,s,()),m,()))=>mu_c3 t b i j g a q s m) fun v K hI=>by
  obtain⟨⟨t,b,i,j,⟨⟩⟩,⟨g,⟨a,q,s,⟨⟩⟩,m,⟨⟩⟩⟩:=v;exact(r_c3 t b i j g a q s m K hI).imp id fun⟨t',b',i',j',g',a',q',s',m',h⟩=>⟨((t',b',i',j',()),(g',(a',q',s',()),m',())),h⟩)
theorem x_impl_chartOf_1 (t s a:Str) (g:Gram) (q:List Rule) (m:PMap) (b:Bool) (i:Int) (R:St→Option Fin) (K:Cont):evC (cb_chart.withLoops (look L_c3)) (loopOf Tryz.f100 1) ⟨[(1,vS t),(2, kp0),(5, kp1),(6,vB b),(7,vI i)],[(500000,some (boxD 25 TG g)),(500001,chO a q s 500002),(500002,some (.map TP .bool m))]⟩ (onward (headAt (cb_chart.withLoops (look L_c3)) 6) R K)=(
branch (decide (0≤i)) (
 need (pre_c3 t b i i g a q s m) <| R (.mk [(1,vS t),(2,kp0),(5,kp1),(6,(vB (tosF s g.snd i ((s.length:Int)+1-i).toNat i (m,b)).snd)),(7,vI (W64 (i-1)))] [(500000,some (boxD 25 TG g)),(500001,(.some (.box 146 [(.r (.v (Value.string (mk a)))),(.r (.li TRu q)),(.r (.v (Value.string (mk s)))),(.own 500002)]))),(500002,(.some (.map TP (Ty.bool) ((tosF s g.snd i ((s.length:Int)+1-i).toNat i (m,b)).fst))))])) ( K (.exit 2) (.mk [(1,vS t),(2,kp0),(5,kp1),(6,vB b)] [(500000,some (boxD 25 TG g)),(500001,(.some (.box 146 [(.r (.v (Value.string (mk a)))),(.r (.li TRu q)),(.r (.v (Value.string (mk s)))),(.own 500002)]))),(500002,(.some (.map TP (Ty.bool) m)))]))):=by kernel_rfl
def cx0_c2:Cx:=(cb_chart).withLoops (look L_c3)
def sh_c2:Sh:=([(1, .d .str),(2, .ptr 500000 0),(5, .ptr 500001 0),(6, .d .bool),(7, .d TI64)],[(500000, .box 25 TG),(500001, .mix 146 [.d .str, .d TRL, .d .str, .own 500002]),(500002, .map TP .bool)])
abbrev st_c2 (t:Str) (b:Bool) (i:Int) (g:Gram) (a:Str) (q:List Rule) (s:Str) (m:List (Den TP×Den .bool)):St:=⟨[(1,vS t),(2, kp0),(5, kp1),(6,vB b),(7,vI i)],[(500000,some (boxD 25 TG g)),(500001,some (.box 146 ((cellsR .str a).map C.r++(cellsR TRL q).map C.r++(cellsR .str s).map C.r++[.own 500002]))),(500002,some (.map TP .bool m))]⟩
def pre_c2 (t:Str) (_b:Bool) (i:Int) (g:Gram) (_a:Str) (_q:List Rule) (s:Str) (_m:List (Den TP×Den .bool)):Bool:=decide (-1≤i)&&(decide (i≤(length s:Int))&&(okRs g.2&&(decide (t=s)&&Nat.ble (length s) 1000)))
def res_c2 (t:Str) (b:Bool) (i:Int) (g:Gram) (a:Str) (q:List Rule) (s:Str) (m:List (Den TP×Den .bool)) (K:Cont):Option Fin:=K (.exit 2) ⟨[(1,vS t),(2, kp0),(5, kp1),(6,vB (fromsF s g.2 (i+1).toNat (m,b)).2)],chH g a q s (fromsF s g.2 (i+1).toNat (m,b)).1⟩
def mu_c2 (_t:Str) (_b:Bool) (i:Int) (_g:Gram) (_a:Str) (_q:List Rule) (_s:Str) (_m:List (Den TP×Den .bool)):Nat:=(i+1).toNat
theorem r_c2 (t:Str) (b:Bool) (i:Int) (g:Gram) (a:Str) (q:List Rule) (s:Str) (m:List (Den TP×Den .bool)) (K:Cont) (hI:pre_c2 t b i g a q s m=true):(∀R:St→Option Fin,evC cx0_c2 (loopOf Tryz.f100 1) (st_c2 t b i g a q s m) (onward (headAt cx0_c2 6) R K)=res_c2 t b i g a q s m K) ∨
  (∃(t':Str) (b':Bool) (i':Int) (g':Gram) (a':Str) (q':List Rule) (s':Str) (m':List (Den TP×Den .bool)),pre_c2 t' b' i' g' a' q' s' m'=true∧mu_c2 t' b' i' g' a' q' s' m'<mu_c2 t b i g a q s m∧res_c2 t' b' i' g' a' q' s' m' K=res_c2 t b i g a q s m K∧∀R:St→Option Fin,evC cx0_c2 (loopOf Tryz.f100 1) (st_c2 t b i g a q s m) (onward (headAt cx0_c2 6) R K)=R (st_c2 t' b' i' g' a' q' s' m')):=by
 have hx:=fun R=>x_impl_chartOf_1 t s a g q m b i R K;simp only[pre_c2]at hI;rw[andd,andd,andd,andd,dec_iff,dec_iff,dec_iff,ble_iff]at hI;obtain⟨h0,h1,h2,rfl,h4⟩:=hI
 by_cases hi:0≤i
 ·have w:W64 (i-1)=i-1:=wrap_small (by omega) (by omega);have hn:(i+1).toNat=i.toNat+1:=by omega
  have hn2:(i-1+1).toNat=i.toNat:=by omega
  have hg:fromsF t g.2 (i.toNat+1) (m,b)=fromsF t g.2 i.toNat (tosF t g.2 ((i.toNat:Nat):Int) (t.length+1-i.toNat) ((i.toNat:Nat):Int) (m,b)):=rfl;have e1:((i.toNat:Nat):Int)=i:=by omega
  have e2:((t.length:Int)+1-i).toNat=t.length+1-i.toNat:=by omega
  rw[e1]at hg;have hp:pre_c3 t b i i g a q t m=true:=by
   simp only[pre_c3];rw[andd,andd,andd,andd,andd,dec_iff,dec_iff,dec_iff,ble_iff,dec_iff];exact⟨by omega,by omega,h2,trivial,h4,by omega⟩
  rw[zT hi,hp,w,e2]at hx;right;refine⟨t,(tosF t g.2 i (t.length+1-i.toNat) i (m,b)).2,i-1,g,a,q,t,(tosF t g.2 i (t.length+1-i.toNat) i (m,b)).1, ?_, ?_, ?_,fun R=>hx R⟩
  ·simp only[pre_c2];rw[andd,andd,andd,andd,dec_iff,dec_iff,dec_iff,ble_iff];exact⟨by omega,by omega,h2,trivial,h4⟩
  ·simp only[mu_c2];omega
  ·simp only[res_c2,hn,hn2,hg]
 ·left;intro R;refine(hx R).trans ?_;rw[zF hi];have e:(i+1).toNat=0:=by omega
  simp only[res_c2,e];rfl
def g_c2:St→Cont→Option Fin:=gP sh_c2 (fun v=>match v with | ((t,b,i,()),(g,(a,q,s,()),m,()))=>pre_c2 t b i g a q s m) (fun v K=>match v with | ((t,b,i,()),(g,(a,q,s,()),m,()))=>res_c2 t b i g a q s m K)
def L_c2:LpL:=(6,g_c2)::L_c3
theorem l_c2 {L:LpL} (n:Nat) (h1:L.drop n=L_c3) (h2:idsFree (L.take n) (loopOf Tryz.f100 1)=true):LoopsTo g_c2 (cb_chart) (loopOf Tryz.f100 1) 6 L :=
 with_drop h1 h2 (gP_ok (fun v=>match v with | ((t,b,i,()),(g,(a,q,s,()),m,()))=>mu_c2 t b i g a q s m) fun v K hI=>by
  obtain⟨⟨t,b,i,⟨⟩⟩,⟨g,⟨a,q,s,⟨⟩⟩,m,⟨⟩⟩⟩:=v;exact(r_c2 t b i g a q s m K hI).imp id fun⟨t',b',i',g',a',q',s',m',h⟩=>⟨((t',b',i',()),(g',(a',q',s',()),m',())),h⟩)
theorem x_impl_chartOf (t s a:Str) (g:Gram) (q:List Rule) (m:PMap) (b:Bool) (R:St→Option Fin) (K:Cont):evC (cb_chart.withLoops (look L_c2)) (loopOf Tryz.f100 0) ⟨[(1,vS t),(2, kp0),(5, kp1),(6,vB b)],[(500000,some (boxD 25 TG g)),(500001,chO a q s 500002),(500002,some (.map TP .bool m))]⟩ (onward (headAt (cb_chart.withLoops (look L_c2)) 3) R K)=(
branch b (
 need (pre_c2 t false ((t.length:Int)) g a q s m) <| R (.mk [(1,vS t),(2,kp0),(5,kp1),(6,(vB (fromsF s g.snd ((t.length:Int)+1).toNat (m,false)).snd))] [(500000,some (boxD 25 TG g)),(500001,(.some (.box 146 [(.r (.v (Value.string (mk a)))),(.r (.li TRu q)),(.r (.v (Value.string (mk s)))),(.own 500002)]))),(500002,(.some (.map TP (Ty.bool) ((fromsF s g.snd ((t.length:Int)+1).toNat (m,false)).fst))))])) ( K (.exit 0) (.mk [(5,kp0)] [(500000,(.some (.box 146 [(.r (.v (Value.string (mk a)))),(.r (.li TRu q)),(.r (.v (Value.string (mk s)))),(.own 500001)]))),(500001,(.some (.map TP (Ty.bool) m)))]))):=by kernel_rfl
def cx0_c1:Cx:=(cb_chart).withLoops (look L_c2)
def sh_c1:Sh:=([(1, .d .str),(2, .ptr 500000 0),(5, .ptr 500001 0),(6, .d .bool)],[(500000, .box 25 TG),(500001, .mix 146 [.d .str, .d TRL, .d .str, .own 500002]),(500002, .map TP .bool)])
abbrev st_c1 (t:Str) (b:Bool) (g:Gram) (a:Str) (q:List Rule) (s:Str) (m:List (Den TP×Den .bool)):St:=⟨[(1,vS t),(2, kp0),(5, kp1),(6,vB b)],[(500000,some (boxD 25 TG g)),(500001,some (.box 146 ((cellsR .str a).map C.r++(cellsR TRL q).map C.r++(cellsR .str s).map C.r++[.own 500002]))),(500002,some (.map TP .bool m))]⟩
def pre_c1 (t:Str) (_b:Bool) (g:Gram) (_a:Str) (_q:List Rule) (s:Str) (_m:List (Den TP×Den .bool)):Bool:=okRs g.2&&(decide (t=s)&&Nat.ble (length s) 1000)
def res_c1 (_t:Str) (b:Bool) (g:Gram) (a:Str) (q:List Rule) (s:Str) (m:List (Den TP×Den .bool)) (K:Cont):Option Fin:=K (.exit 0) ⟨[(5, kp0)],[(500000,chO a q s 500001),(500001,some (.map TP .bool (bif b then runC hasM (fun v=>[keyV v]) (stepV s) (visF s g.2 (s.length+1)) m else m)))]⟩
def mu_c1 (_t:Str) (b:Bool) (g:Gram) (_a:Str) (_q:List Rule) (s:Str) (m:List (Den TP×Den .bool)):Nat:=2*missG hasM ((visF s g.2 (s.length+1)).flatMap fun v=>[keyV v]) m+(bif b then 1 else 0)
theorem r_c1 (t:Str) (b:Bool) (g:Gram) (a:Str) (q:List Rule) (s:Str) (m:List (Den TP×Den .bool)) (K:Cont) (hI:pre_c1 t b g a q s m=true):(∀R:St→Option Fin,evC cx0_c1 (loopOf Tryz.f100 0) (st_c1 t b g a q s m) (onward (headAt cx0_c1 3) R K)=res_c1 t b g a q s m K) ∨
  (∃(t':Str) (b':Bool) (g':Gram) (a':Str) (q':List Rule) (s':Str) (m':List (Den TP×Den .bool)),pre_c1 t' b' g' a' q' s' m'=true∧mu_c1 t' b' g' a' q' s' m'<mu_c1 t b g a q s m∧res_c1 t' b' g' a' q' s' m' K=res_c1 t b g a q s m K∧∀R:St→Option Fin,evC cx0_c1 (loopOf Tryz.f100 0) (st_c1 t b g a q s m) (onward (headAt cx0_c1 3) R K)=R (st_c1 t' b' g' a' q' s' m')):=by
 have hx:=fun R=>x_impl_chartOf t s a g q m b R K;simp only[pre_c1]at hI;rw[andd,andd,dec_iff,ble_iff]at hI;obtain⟨h2,rfl,h4⟩:=hI
 cases b
 ·left;intro R;refine(hx R).trans ?_;simp only[res_c1];rfl
 ·have hp:pre_c2 t false ((t.length:Int)) g a q t m=true:=by
   simp only[pre_c2];rw[andd,andd,andd,andd,dec_iff,dec_iff,dec_iff,ble_iff];exact⟨by omega,by omega,h2,trivial,h4⟩
  have e:((t.length:Int)+1).toNat=t.length+1:=by omega
  rw[hp,e,froms_vis]at hx;have hg:=runC_at (stepV_ok t) (vs:=visF t g.2 (t.length+1)) (m:=m) (fun _ _=>trivial) trivial;right;refine⟨t,(foldG (stepV t) (visF t g.2 (t.length+1)) (m,false)).2,g,a,q,t,(foldG (stepV t) (visF t g.2 (t.length+1)) (m,false)).1, ?_, ?_, ?_,fun R=>hx R⟩
  ·simp only[pre_c1];rw[andd,andd,dec_iff,ble_iff];exact⟨h2,trivial,h4⟩
  ·simp only[mu_c1]
   cases hc:(foldG (stepV t) (visF t g.2 (t.length+1)) (m,false)).2
   ·obtain ⟨_,h5,_⟩:=foldG_quiet (stepV_ok t) (fun _ _=>trivial) trivial hc;rw[h5,cond_true,cond_false];show 2*missG hasM _ m+0<2*missG hasM _ m+1;omega
   ·have:=miss_lt (stepV_ok t) (fun _ _=>trivial) trivial hc;rw[cond_true];omega
  ·simp only[res_c1,cond_true];exact congrArg (fun z:PMap=>K (.exit 0) ⟨[(5, kp0)],[(500000,chO a q t 500001),(500001,some (.map TP .bool z))]⟩) hg.symm
def g_c1:St→Cont→Option Fin:=gP sh_c1 (fun v=>match v with | ((t,b,()),(g,(a,q,s,()),m,()))=>pre_c1 t b g a q s m) (fun v K=>match v with | ((t,b,()),(g,(a,q,s,()),m,()))=>res_c1 t b g a q s m K)
def L_c1:LpL:=(3,g_c1)::L_c2
def cx_c1:Cx:=(cb_chart).withLoops (look L_c1)
theorem l_c1 {L:LpL} (n:Nat) (h1:L.drop n=L_c2) (h2:idsFree (L.take n) (loopOf Tryz.f100 0)=true):LoopsTo g_c1 (cb_chart) (loopOf Tryz.f100 0) 3 L :=
 with_drop h1 h2 (gP_ok (fun v=>match v with | ((t,b,()),(g,(a,q,s,()),m,()))=>mu_c1 t b g a q s m) fun v K hI=>by
  obtain⟨⟨t,b,⟨⟩⟩,⟨g,⟨a,q,s,⟨⟩⟩,m,⟨⟩⟩⟩:=v;exact(r_c1 t b g a q s m K hI).imp id fun⟨t',b',g',a',q',s',m',h⟩=>⟨((t',b',()),(g',(a',q',s',()),m',())),h⟩)
abbrev refC4 (g:Gram) (s:Str) (m:PMap):T := .d (.one (.r (.rop 4 (fun j=>[R.v (Value.string (mk g.1)),R.li TRu g.2,R.v (Value.string (mk s)),R.mp TP .bool m].getD j z0))))
theorem y_impl_chartOf (g:Gram) (s:Str):evFn cx_c1 Tryz.f100 true [ofD TG g,ofD .str s] []=need (pre_c1 s true g g.1 g.2 s []) (some (refC4 g s (chartM s g.2),[])):=by kernel_rfl
theorem s_impl_chartOf (g:Gram) (_hg:Fit TG g) (s:Str) (_hs:Fit .str s) (hpre:(okRs g.2&&Nat.ble (length s) 1000)=true):Sat Tryz.prog 100 [ofD TG g,ofD .str s] [] (refC4 g s (chartM s g.2)) [] :=
 fn_sound (cx:=cx_c1) Tryz.func100 rfl ttOk Γ67ok mixed (fun c hc=>LoopsOk.all (l:=[(3,loopOf Tryz.f100 0),(6,loopOf Tryz.f100 1),(9,loopOf Tryz.f100 2),(12,loopOf Tryz.f100 3)]) (by cases hc;kernel_rfl) ⟨atLoop rfl (l_c1 1 rfl (by kernel_rfl)),atLoop rfl (l_c2 2 rfl (by kernel_rfl)),atLoop rfl (l_c3 3 rfl (by kernel_rfl)),atLoop rfl (l_c4 4 rfl (by kernel_rfl)),trivial⟩) (ro:=true) (by
  obtain⟨h1,h2⟩:=andd.1 hpre;have hp:pre_c1 s true g g.1 g.2 s []=true:=by
   simp only[pre_c1];rw[andd,andd,dec_iff];exact⟨h1,trivial,h2⟩
  refine(y_impl_chartOf g s).trans ?_;rw[hp];rfl)
def c_impl_chartOf:Con:=conT [TG, .str] fun(g:Gram) (s:Str)=>(some (okRs g.2&&Nat.ble (length s) 1000),refC4 g s (chartM s g.2))
theorem k_impl_chartOf:ConOk Tryz.prog 100 c_impl_chartOf:=conT_ok Tryz.call100 fun g hg s hs hqq=>s_impl_chartOf g hg s hs (pre_of hqq)
def Γ68:GL:=(100,c_impl_chartOf)::Γ67
theorem Γ68ok:GO Γ68 := .cons k_impl_chartOf Γ67ok
theorem sat_typed {P:Program} {f:FuncId} {ds:List D} {os:List Obj} {d:D} {objs:Heap} {t:Ty} {x:Den t} (S:Sat P f ds os (.d d) objs) (h:asD t d=some x):Sat P f ds os (.d (ofD t x)) objs:=fun w F β args H hds=>(S w F β args H hds).mono (by
 rintro e w' ⟨v,F',β',h1,h2,h3,h4,_,h6⟩;exact⟨v,F',β',h1,h2,h3,h4,fun _ _ _ hh=>(nomatch hh),asD_sound h h6 _ _⟩)
def c_impl_chartOfC:Con:=conT [TG, .str] fun(g:Gram) (s:Str)=>(some (okRs g.2&&Nat.ble (length s) 1000), .d (ofD (.ref TCh) ((g,s,chartM s g.2):Chart)))
theorem k_impl_chartOfC:ConOk Tryz.prog 100 c_impl_chartOfC:=conT_ok Tryz.call100 fun g hg s hs hqq=>sat_typed (s_impl_chartOf g hg s hs (pre_of hqq)) rfl
def Γ69:GL:=(100,c_impl_chartOfC)::Γ68
theorem Γ69ok:GO Γ69 := .cons k_impl_chartOfC Γ68ok
theorem getD_mem {α:Type} {l:List α} {i:Nat} {d:α} (h:i<l.length):l.getD i d∈l:=by
 rw[zG,zE h];exact List.getElem_mem h
theorem big_not_small {a:Str} (h:bigS a=true):smallS a=false:=by
 obtain⟨c,e,hc⟩:=bigS_one h
 cases hs:smallS a
 ·rfl
 ·obtain ⟨c',e',hc'⟩:=smallS_one hs;rw[e]at e'
  cases (List.cons.inj e').1
  exact absurd ⟨hc,hc'⟩ (big_small c)
theorem areSm_iff {s:Str} {n:Int}:areSm s n=true↔(s.length:Int)≤n∧s.all small=true:=by
 unfold areSm;rw[b2,andd,dec_iff]
theorem both_iff {g:Gram} {s:Str} (h:both2 g s=true):okG g=true∧s.length≤8∧s.all small=true:=by
 unfold both2 at h;rw[b2,andd,areSm_iff]at h;exact⟨h.1,by omega,h.2.2⟩
def signI (c:Int):Bool:=smallI c||(decide (65≤c)&&decide (c≤69))
theorem sign_I {c:UInt8} (h:sign c=true):signI (c.toNat:Int)=true:=by
 unfold sign at h;unfold signI;rw[smallI_nat];rcases Bool.or_eq_true_iff.1 h with h | h
 ·unfold bigc at h;rw[andd,ble_iff,ble_iff]at h;rw[Bool.or_eq_true,andd,dec_iff,dec_iff];exact .inr ⟨by omega,by omega⟩
 ·rw[h];rfl
theorem getD_set {α:Type} {l:List α} {i j:Nat} {x d:α} (h:i<l.length):(l.set i x).getD j d=if i=j then x else l.getD j d:=by
 rw[zG,List.getElem?_set,zG]
 by_cases e:i=j
 ·rw[if_pos e,if_pos e,if_pos h];rfl
 ·rw[if_neg e,if_neg e]
abbrev VisE:Type:=Int×Rule
def keyK (r:Rule):Int:=byteAt r.1 0-65
def okRp (l:List Rule):Bool:=Nat.ble (length l) 1000&&List.all l fun r=>bigS r.1&&(Nat.blt (length r.2) 5&&List.all r.2 sign)
def goodE (s:Str) (v:VisE):Prop:=0≤v.1∧v.1≤(s.length:Int)∧bigS v.2.1=true∧length v.2.2<5∧List.all v.2.2 sign=true
theorem keyK_in {r:Rule} (h:bigS r.1=true):0≤keyK r∧keyK r<5∧∃c:UInt8,r.1=[c]∧keyK r=(c.toNat:Int)-65:=by
 obtain⟨c,e,hc⟩:=bigS_one h;unfold bigc at hc;rw[andd,ble_iff,ble_iff]at hc;have:keyK r=(c.toNat:Int)-65:=by unfold keyK;rw[e];rfl
 exact⟨by omega,by omega,c,e,this⟩
def fromsE (r:Rule):Nat→Int→List VisE
 |0,_=>[]
 |n+1,i=>(i,r)::fromsE r n (i+1)
def visE (n:Nat) (l:List Rule):List VisE:=l.flatMap fun r=>fromsE r n 0
theorem mem_fromsE {r:Rule} {v:VisE}:∀ {n:Nat} {i:Int},v∈fromsE r n i↔v.2=r∧i≤v.1∧v.1<i+n
 |0,i=>by
  unfold fromsE
  constructor
  ·intro h;cases h
  ·rintro ⟨_,h1,h2⟩;omega
 |n+1,i=>by
  unfold fromsE;rw[List.mem_cons,mem_fromsE (n:=n) (i:=i+1)]
  constructor
  ·rintro (rfl | ⟨h1,h2,h3⟩)
   ·exact ⟨rfl,Int.le_refl _,by show i<i+_;omega⟩
   ·exact ⟨h1,by omega,by omega⟩
  ·rintro ⟨h1,h2,h3⟩
   by_cases h:v.1=i
   ·exact .inl (by rw[← h,← h1])
   ·exact .inr ⟨h1,by omega,by omega⟩
theorem mem_visE {v:VisE} {n:Nat} {l:List Rule}:v∈visE n l↔v.2∈l∧0≤v.1∧v.1<n:=by
 unfold visE;rw[List.mem_flatMap]
 constructor
 ·rintro ⟨r,hr,h⟩;obtain⟨rfl,h2,h3⟩:=mem_fromsE.1 h;exact⟨hr,h2,by omega⟩
 ·rintro ⟨h1,h2,h3⟩;exact⟨v.2,h1,mem_fromsE.2 ⟨rfl,h2,by omega⟩⟩
theorem okRp_iff {l:List Rule}:okRp l=true↔l.length≤1000∧∀r∈l,bigS r.1=true∧length r.2<5∧List.all r.2 sign=true:=by
 unfold okRp;rw[andd,ble_iff,all_eq_true]
 constructor
 ·rintro ⟨h1,h2⟩;refine⟨h1,fun r hr => ?_⟩;have:=h2 r hr;rw[andd,andd,blt_iff]at this;exact this
 ·rintro ⟨h1,h2⟩;refine⟨h1,fun r hr => ?_⟩;rw[andd,andd,blt_iff];exact h2 r hr
theorem good_visE {s:Str} {l:List Rule} (h:okRp l=true):∀v∈visE (s.length+1) l,goodE s v:=fun v hv=>by
 obtain⟨h1,h2,h3⟩:=mem_visE.1 hv;obtain⟨h4,h5,h6⟩:=(okRp_iff.1 h).2 _ h1;exact⟨h2,by omega,h4,h5,h6⟩
theorem key_wrap {r:Rule} (h:bigS r.1=true):W64 (IntKind.u8.wrap (byteAt r.1 0-65))=keyK r:=by
 obtain⟨k0,k1,_⟩:=keyK_in h;have k0:0≤byteAt r.1 0-65:=k0;have k1:byteAt r.1 0-65<5:=k1;have e1:IntKind.u8.wrap (byteAt r.1 0-65)=byteAt r.1 0-65:=by
  show(byteAt r.1 0-65) % 256=_;exact Int.emod_eq_of_lt (by omega) (by omega)
 rw[e1];exact wrap_small (by omega) (by omega)
theorem ok_rp {g:Gram} (h:okG g=true):okRp g.2=true:=by
 obtain⟨_,h2,h3⟩:=okG_iff h;refine okRp_iff.2 ⟨by omega,fun r hr => ?_⟩;obtain⟨r1,r2⟩:=h3 r hr;obtain⟨r3,r4⟩:=areS_iff r2;exact⟨r1,by omega,all_eq_true.2 r3⟩
theorem visE_at {n:Nat} {l:List Rule} {i:Int} (h0:0≤i) (h1:i<(l.length:Int)):visE n (l.drop i.toNat)=fromsE (l.getD i.toNat d0) n 0++visE n (l.drop (i+1).toNat):=by
 have hn:i.toNat<l.length:=by omega
 unfold visE;rw[drop_eq_getElem_cons hn,List.flatMap_cons,show (i+1).toNat=i.toNat+1 by omega,getD_at hn]
theorem y_impl_isDerived (g:Gram) (s:Str):evFn (cxOf Γ69 Tryz.f49.ntmps [] [] [] []) Tryz.f49 true [ofD TG g,ofD .str s] []=(
need (okRs g.snd&&s.length.ble 1000) <|
need (okIJ s 0 (s.length:Int)) <| some ((vB (derB s (chartM s g.snd) g.fst 0 (s.length:Int))),[])):=by kernel_rfl
theorem s_impl_isDerived (g:Gram) (_hg:Fit TG g) (s:Str) (_hs:Fit .str s) (hpre:(okRs g.2&&Nat.ble (length s) 1000)=true):Sat Tryz.prog 49 [ofD TG g,ofD .str s] [] (.d (ofD .bool (derB s (chartM s g.2) g.1 0 (length s:Int)))) [] :=
 fn_sound (cx:=cxOf Γ69 Tryz.f49.ntmps [] [] [] []) Tryz.func49 rfl ttOk Γ69ok mixed (fun _ _=>LoopsOk.no fun _=>rfl) (ro:=true) (by
  have h:okIJ s 0 (length s:Int)=true:=okIJ_iff.2 ⟨by omega,by omega,by omega⟩;rw[y_impl_isDerived,hpre,h];rfl)
def c_impl_isDerived:Con:=conT [TG, .str] fun(g:Gram) (s:Str)=>(some (okRs g.2&&Nat.ble (length s) 1000), .d (ofD .bool (derB s (chartM s g.2) g.1 0 (length s:Int))))
theorem k_impl_isDerived:ConOk Tryz.prog 49 c_impl_isDerived:=conT_ok Tryz.call49 fun g hg s hs hqq=>s_impl_isDerived g hg s hs (pre_of hqq)
def Γ70:GL:=(49,c_impl_isDerived)::Γ69
theorem Γ70ok:GO Γ70 := .cons k_impl_isDerived Γ69ok
def isD (g:Gram) (s:Str):Bool:=derB s (chartM s g.2) g.1 0 (s.length:Int)
theorem ok_rs {g:Gram} (h:okG g=true):okRs g.2=true:=by
 obtain⟨_,h2,h3⟩:=okG_iff h;refine okRs_iff.2 ⟨by omega,all_eq_true.2 fun r hr=>blt_iff.2 ?_⟩;have:=(areS_iff (h3 r hr).2).2;omega
theorem s_impl_AllIs (g:Gram) (_hg:Fit TG g) (s:Str) (_hs:Fit .str s):Sat Tryz.prog 15 [ofD TG g,ofD .str s] [] (.d (ofD .bool (both2 g s&&isD g s))) [] :=
 fn_sound (cx:=cxOf Γ70 Tryz.f15.ntmps [] [] [] []) Tryz.func15 rfl ttOk Γ70ok mixed (fun _ _=>LoopsOk.no fun _=>rfl) (ro:=true) (by
  have y:evFn (cxOf Γ70 Tryz.f15.ntmps [] [] [] []) Tryz.f15 true [ofD TG g,ofD .str s] []=need (bif decide (both2 g s=true)then okRs g.2&&Nat.ble (length s) 1000 else true) (some (vB (bif both2 g s then isD g s else false),[])):=by kernel_rfl
  rw[y]
  cases hb:both2 g s
  ·rfl
  ·obtain ⟨h1,h2⟩:=both_iff hb;rw[ok_rs h1,ble_iff.2 (by omega:length s≤1000)];rfl)
def c_impl_AllIs:Con:=conT [TG, .str] fun(g:Gram) (s:Str)=>(none, .d (ofD .bool (both2 g s&&isD g s)))
theorem k_impl_AllIs:ConOk Tryz.prog 15 c_impl_AllIs:=conT_ok Tryz.call15 fun g hg s hs _=>s_impl_AllIs g hg s hs
def Γ71:GL:=(15,c_impl_AllIs)::Γ70
theorem Γ71ok:GO Γ71 := .cons k_impl_AllIs Γ70ok
abbrev TC1:Ty := .list .bool
abbrev TC2:Ty := .list TC1
abbrev TC3:Ty := .list TC2
abbrev C3:Type:=List (List (List Bool))
def atC (ch:C3) (k i j:Int):Bool:=getD (getD (getD ch k.toNat []) i.toNat []) j.toNat false
def okC5 (n:Nat) (ch:C3):Bool:=Nat.beq (length ch) 5&&List.all ch fun r=>Nat.beq (length r) n&&List.all r fun q=>Nat.beq (length q) n
theorem okC5_iff {n:Nat} {ch:C3}:okC5 n ch=true↔ch.length=5∧∀r∈ch,r.length=n∧∀q∈r,q.length=n:=by
 unfold okC5;rw[andd,all_eq_true]
 constructor
 ·rintro ⟨h1,h2⟩;refine⟨zB h1,fun r hr => ?_⟩;obtain⟨h3,h4⟩:=andd.1 (h2 r hr);exact⟨zB h3,fun q hq=>zB (all_eq_true.1 h4 q hq)⟩
 ·rintro ⟨h1,h2⟩;refine⟨by rw[h1];rfl,fun r hr => ?_⟩;obtain⟨h3,h4⟩:=h2 r hr;exact andd.2 ⟨by rw[h3];exact Nat.beq_refl n,all_eq_true.2 fun q hq=>by rw[h4 q hq];exact Nat.beq_refl n⟩
theorem okC5_at {n:Nat} {ch:C3} (h:okC5 n ch=true) {k i:Int} (k0:0≤k) (k1:k<5) (i0:0≤i) (i1:i<(n:Int)):ch.length=5∧length (getD ch k.toNat [])=n∧length (getD (getD ch k.toNat []) i.toNat [])=n:=by
 obtain⟨h1,h2⟩:=okC5_iff.1 h;obtain⟨h3,h4⟩:=h2 (getD ch k.toNat []) (getD_mem (by omega));exact⟨h1,h3,h4 _ (getD_mem (by omega))⟩
def stepC (s:Str) (ch:C3) (c i j:Int):Bool:=bif smallI c then(bif decide (j=i+1)then decide (byteAt s i=c)else false)else atC ch (c-65) i j
theorem y_spec_l4Step (ch:List (List (List Bool))) (s:Str) (c:Int) (i:Int) (j:Int):evFn (cxOf Γ71 Tryz.f163.ntmps [] [] [] []) Tryz.f163 true [ofD TC3 ch,ofD .str s,ofD (.int .u8) c,ofD TI64 i,ofD TI64 j] []=(
branch (smallI c) (
 need (bif decide (decide (j=W64 (i+1))=true)then inb i s.length else true) <| some ((vB (bif decide (j=W64 (i+1))then decide (byteAt s i=c)else false)),[])) (
 need (inb (W64 (IntKind.u8.wrap (c-65))) ch.length) <|
 need (inb i (length (ch.getD (W64 (IntKind.u8.wrap (c-65))).toNat (dflt Ty.bool.list.list)))) <|
 need (inb j (length (getD (ch.getD (W64 (IntKind.u8.wrap (c-65))).toNat (dflt Ty.bool.list.list)) i.toNat (dflt Ty.bool.list)))) <| some ((vB (getD (getD (ch.getD (W64 (IntKind.u8.wrap (c-65))).toNat (dflt Ty.bool.list.list)) i.toNat (dflt Ty.bool.list)) j.toNat (dflt Ty.bool))),[]))):=by kernel_rfl
theorem s_spec_l4Step (ch:List (List (List Bool))) (_hch:Fit TC3 ch) (s:Str) (_hs:Fit .str s) (c:Int) (_hc:Fit (.int .u8) c) (i:Int) (_hi:Fit TI64 i) (j:Int) (_hj:Fit TI64 j) (hpre:(okC5 (length s+1) ch&&(signI c&&(okIJ s i j&&Nat.ble (length s) 1000)))=true):Sat Tryz.prog 163 [ofD TC3 ch,ofD .str s,ofD (.int .u8) c,ofD TI64 i,ofD TI64 j] [] (.d (ofD .bool (stepC s ch c i j))) [] :=
 fn_sound (cx:=cxOf Γ71 Tryz.f163.ntmps [] [] [] []) Tryz.func163 rfl ttOk Γ71ok mixed (fun _ _=>LoopsOk.no fun _=>rfl) (ro:=true) (by
  rw[andd,andd,andd,ble_iff]at hpre;obtain⟨h1,h2,h3,h4⟩:=hpre;obtain⟨i0,i1,i2⟩:=okIJ_iff.1 h3;refine(y_spec_l4Step ch s c i j).trans ?_;unfold stepC;have w:W64 (i+1)=i+1:=wrap_small (by omega) (by omega);rw[w]
  cases hsm:smallI c
  ·unfold signI at h2;rw[hsm,Bool.false_or,andd,dec_iff,dec_iff]at h2;have w2:W64 (IntKind.u8.wrap (c-65))=c-65:=by
    have e1:IntKind.u8.wrap (c-65)=c-65:=by
     show(c-65) % 256=_;exact Int.emod_eq_of_lt (by omega) (by omega)
    rw[e1];exact wrap_small (by omega) (by omega)
   obtain⟨l1,l2,l3⟩:=okC5_at h1 (k:=c-65) (i:=i) (by omega) (by omega) i0 (by omega);rw[w2];change need (inb (c-65) (length ch)) (need (inb i (length (getD ch (c-65).toNat []))) (need (inb j (length (getD (getD ch (c-65).toNat []) i.toNat []))) _))=_;rw[l1,l2,l3,inb_ok (by omega) (by omega),inb_ok (by omega) (by omega),inb_ok (by omega) (by omega)];rfl
  ·by_cases hjj:j=i+1
   ·rw[zT hjj,inb_ok i0 (by omega)];rfl
   ·rw[zF hjj];rfl)
def c_spec_l4Step:Con:=conT [TC3, .str,(.int .u8),TI64,TI64] fun(ch:List (List (List Bool))) (s:Str) (c:Int) (i:Int) (j:Int)=>(some (okC5 (length s+1) ch&&(signI c&&(okIJ s i j&&Nat.ble (length s) 1000))), .d (ofD .bool (stepC s ch c i j)))
theorem k_spec_l4Step:ConOk Tryz.prog 163 c_spec_l4Step:=conT_ok Tryz.call163 fun ch hch s hs c hc i hi j hj hqq=>s_spec_l4Step ch hch s hs c hc i hi j hj (pre_of hqq)
def Γ72:GL:=(163,c_spec_l4Step)::Γ71
theorem Γ72ok:GO Γ72 := .cons k_spec_l4Step Γ71ok
theorem intBytes2:Tryz.t3.bytes=8:=by kernel_rfl
def catI (f:Int→List Int):Nat→Int→List Int
 |0,_=>[]
 |n+1,a=>f a++catI f n (a+1)
def endsL (s:Str) (ch:C3):Str→Int→List Int
 | [],i=>[i]
 |c::r,i=>catI (fun k=>bif stepC s ch (c.toNat:Int) i k then endsL s ch r k else []) ((s.length:Int)+1-i).toNat i
theorem cat_len {f:Int→List Int} {m:Nat}:∀ {n:Nat} {a:Int},(∀k,a≤k→(f k).length≤m)→(catI f n a).length≤n*m
 |0,_,_=>Nat.zero_le _
 |n+1,a,h=>by
  have h1:=h a (Int.le_refl _);have h2:=cat_len (n:=n) (a:=a+1) fun k hk=>h k (by omega);unfold catI;rw[length_append,Nat.add_mul];omega
theorem ends_len {s:Str} {ch:C3} (hs:s.length≤1000):∀ {a:Str} {i:Int},0≤i→(endsL s ch a i).length≤1001 ^ a.length
 | [],_,_=>Nat.le_refl _
 |c::r,i,h=>by
  unfold endsL;have:=cat_len (f:=fun k=>bif stepC s ch (c.toNat:Int) i k then endsL s ch r k else []) (m:=1001 ^ r.length) (n:=((s.length:Int)+1-i).toNat) (a:=i) fun k hk=>by
   show(bif stepC s ch (c.toNat:Int) i k then endsL s ch r k else []).length≤_
   cases stepC s ch (c.toNat:Int) i k
   ·exact Nat.zero_le _
   ·exact ends_len hs (by omega)
  have h2:((s.length:Int)+1-i).toNat≤1001:=by omega
  have h3:=Nat.mul_le_mul_right (1001 ^ r.length) h2;rw[length_cons,Nat.pow_succ,Nat.mul_comm (1001 ^ r.length)];omega
theorem ends_big {s:Str} {ch:C3} {a:Str} {i:Int} (hs:s.length≤1000) (ha:a.length≤3) (h:0≤i):(endsL s ch a i).length≤1003003001 :=
 Nat.le_trans (ends_len hs h) (Nat.le_trans (Nat.pow_le_pow_right (by omega) ha) (by decide))
def conEnds (n:Nat):Con:=conN [TC3, .str, .str,TI64] fun(ch:C3) (s:Str) (a:Str) (i:Int)=>(some (Nat.blt (length a) n&&(Nat.ble n 5&&(okC5 (length s+1) ch&&(List.all a sign&&(okIJ s i i&&Nat.ble (length s) 1000))))), .d (.one (.own 1000)),[(1000,some (.lis 3 TI64 (endsL s ch a i)))])
structure LevN where
 n:Nat
 h:ConOk Tryz.prog 147 (conEnds n)
noncomputable section
variable [Inhabited LevN]
abbrev lvN:Nat:=(default:LevN).n
def c_spec_l4EndsR:Con:=conEnds lvN
theorem k_spec_l4EndsR:ConOk Tryz.prog 147 c_spec_l4EndsR:=(default:LevN).h
def Γ73:GL:=(147,c_spec_l4EndsR)::Γ72
theorem Γ73ok:GO Γ73 := .cons k_spec_l4EndsR Γ72ok
def cb_ends:Cx:=cxOf Γ73 Tryz.f147.ntmps [(10,[0,1,2,3,9,10,11,12]),(5,[0,1,2,3,9,10])] [(0,[9]),(1,[0,1,2,3,9,10]),(2,[0,1,2,3,9,10]),(3,[0,1,2,3,9,10,11,12]),(1000000,[8])] [] []
abbrev st_e2 (ch:List (List (List Bool))) (s a:Str) (i j k:Int) (o l:List (Int)):St:=⟨[(0, .d (ofD TC3 ch)),(1,vS s),(2,vS a),(3,vI i),(9, ko0),(10,vI j),(11, ko1),(12,vI k)],[(500000,some (.lis 3 TI64 o)),(500001,some (.lis 3 TI64 l))]⟩
theorem x_spec_l4Ends_1 (ch:C3) (s a:Str) (i j k:Int) (o l:List Int) (R:St→Option Fin) (K:Cont):evC (cb_ends.withLoops (look [])) (loopOf Tryz.f147 1) (st_e2 ch s a i j k o l) (onward (headAt (cb_ends.withLoops (look [])) 10) R K)=(
branch (decide (k<(l.length:Int))) (
 need (inb k l.length) <|
 need (fits (o.length+[l.getD k.toNat 0].length) Tryz.t3.bytes) <| R (st_e2 ch s a i j (W64 (k+1)) (o.append [l.getD k.toNat 0]) l)) ( K (.exit 2) (.mk [(0,(.d (.one (.r (.li (Ty.bool.list.list) ch))))),(1,vS s),(2,vS a),(3,vI i),(9,ko0),(10,vI j)] [(500000,some (.lis 3 TI64 o))]))):=by kernel_rfl
def cx0_e2:Cx:=(cb_ends).withLoops (look [])
def sh_e2:Sh:=([(0, .d TC3),(1, .d .str),(2, .d .str),(3, .d TI64),(9, .own 500000),(10, .d TI64),(11, .own 500001),(12, .d TI64)],[(500000, .lis 3 TI64),(500001, .lis 3 TI64)])
def pre_e2 (_ch:List (List (List Bool))) (_s _a:Str) (_i _j k:Int) (o l:List (Int)):Bool:=decide (0≤k)&&(decide ((length o+length l:Nat)+(0:Int)≤10000000000000+k)&&decide (length l≤9000000000000000000))
def res_e2 (ch:List (List (List Bool))) (s a:Str) (i j k:Int) (o l:List (Int)) (K:Cont):Option Fin:=K (.exit 2) ⟨[(0, .d (ofD TC3 ch)),(1,vS s),(2,vS a),(3,vI i),(9, ko0),(10,vI j)],[(500000,some (.lis 3 TI64 (o++List.drop k.toNat l)))]⟩
def mu_e2 (_ch:List (List (List Bool))) (_s _a:Str) (_i _j k:Int) (_o l:List (Int)):Nat:=length l-k.toNat
theorem r_e2 (ch:List (List (List Bool))) (s a:Str) (i j k:Int) (o l:List (Int)) (K:Cont) (hI:pre_e2 ch s a i j k o l=true):(∀R:St→Option Fin,evC cx0_e2 (loopOf Tryz.f147 1) (st_e2 ch s a i j k o l) (onward (headAt cx0_e2 10) R K)=res_e2 ch s a i j k o l K) ∨
  (∃(ch':List (List (List Bool))) (s' a':Str) (i' j' k':Int) (o' l':List (Int)),pre_e2 ch' s' a' i' j' k' o' l'=true∧mu_e2 ch' s' a' i' j' k' o' l'<mu_e2 ch s a i j k o l∧res_e2 ch' s' a' i' j' k' o' l' K=res_e2 ch s a i j k o l K∧∀R:St→Option Fin,evC cx0_e2 (loopOf Tryz.f147 1) (st_e2 ch s a i j k o l) (onward (headAt cx0_e2 10) R K)=R (st_e2 ch' s' a' i' j' k' o' l')):=by
 have hx:=fun R=>x_spec_l4Ends_1 ch s a i j k o l R K;simp only[pre_e2]at hI;rw[andd,andd,dec_iff,dec_iff,dec_iff]at hI;obtain⟨h0,h1,h2⟩:=hI
 by_cases hk:k<(length l:Int)
 ·have w:W64 (k+1)=k+1:=wrap_small (by omega) (by omega);have k3:fits (length o+[getD l k.toNat 0].length) Tryz.t3.bytes=true:=by
   rw[intBytes2];exact zT (by rw[length_singleton];omega)
  have hn:k.toNat<length l:=by omega
  have hd:List.drop k.toNat l=getD l k.toNat 0::List.drop (k+1).toNat l:=by
   rw[drop_eq_getElem_cons hn,show (k+1).toNat=k.toNat+1 by omega,zG,zE hn];rfl
  rw[zT hk,inb_ok h0 hk,k3,w]at hx;right;refine⟨ch,s,a,i,j,k+1,o++[getD l k.toNat 0],l, ?_, ?_, ?_,fun R=>hx R⟩
  ·simp only[pre_e2];rw[andd,andd,dec_iff,dec_iff,dec_iff,length_append,length_singleton];exact⟨by omega,by omega,h2⟩
  ·simp only[mu_e2];omega
  ·simp only[res_e2,hd,append_assoc];rfl
 ·left;intro R;refine(hx R).trans ?_;rw[zF hk];have e:List.drop k.toNat l=[]:=drop_eq_nil_of_le (by omega);simp only[res_e2,e,List.append_nil];rfl
def g_e2:St→Cont→Option Fin:=gP sh_e2 (fun v=>match v with | ((ch,s,a,i,j,k,()),(o,l,()))=>pre_e2 ch s a i j k o l) (fun v K=>match v with | ((ch,s,a,i,j,k,()),(o,l,()))=>res_e2 ch s a i j k o l K)
def L_e2:LpL:=(10,g_e2)::[]
theorem l_e2 {L:LpL} (n:Nat) (h1:L.drop n=[]) (h2:idsFree (L.take n) (loopOf Tryz.f147 1)=true):LoopsTo g_e2 (cb_ends) (loopOf Tryz.f147 1) 10 L :=
 with_drop h1 h2 (gP_ok (fun v=>match v with | ((ch,s,a,i,j,k,()),(o,l,()))=>mu_e2 ch s a i j k o l) fun v K hI=>by
  obtain⟨⟨ch,s,a,i,j,k,⟨⟩⟩,⟨o,l,⟨⟩⟩⟩:=v;exact(r_e2 ch s a i j k o l K hI).imp id fun⟨ch',s',a',i',j',k',o',l',h⟩=>⟨((ch',s',a',i',j',k',()),(o',l',())),h⟩)
abbrev st_e1 (ch:List (List (List Bool))) (s a:Str) (i j:Int) (o:List (Int)):St:=⟨[(0, .d (ofD TC3 ch)),(1,vS s),(2,vS a),(3,vI i),(9, ko0),(10,vI j)],[(500000,some (.lis 3 TI64 o))]⟩
theorem x_spec_l4Ends (ch:C3) (s a:Str) (i j:Int) (o:List Int) (R:St→Option Fin) (K:Cont):evC (cb_ends.withLoops (look L_e2)) (loopOf Tryz.f147 0) (st_e1 ch s a i j o) (onward (headAt (cb_ends.withLoops (look L_e2)) 5) R K)=(
branch (decide (j≤(s.length:Int))) (
 need (inb 0 a.length) <|
 need (okC5 (length s+1) ch&&(signI (byteAt a 0)&&(okIJ s i j&&s.length.ble 1000))) <|
 branch (!stepC s ch (byteAt a 0) i j) ( R (st_e1 ch s a i (W64 (j+1)) o)) (
 need (inr 1 ((a.length:Int)) a.length) <|
 need ((List.take (((a.length:Int)).toNat-Int.toNat 1) (List.drop (Int.toNat 1) a)).length.blt lvN&&(lvN.ble 5&&(okC5 (length s+1) ch&&((List.take (((a.length:Int)).toNat-Int.toNat 1) (List.drop (Int.toNat 1) a)).all sign&&(okIJ s j j&&s.length.ble 1000))))) <|
 need (pre_e2 ch s a i j 0 o (endsL s ch (List.take (((a.length:Int)).toNat-Int.toNat 1) (List.drop (Int.toNat 1) a)) j)) <| R (st_e1 ch s a i (W64 (j+1)) (o.append (id (endsL s ch (List.take (((a.length:Int)).toNat-Int.toNat 1) (List.drop (Int.toNat 1) a)) j)))))) ( K (.exit 0) (.mk [(9,ko0)] [(500000,some (.lis 3 TI64 o))]))):=by kernel_rfl
def cx0_e1:Cx:=(cb_ends).withLoops (look L_e2)
def sh_e1:Sh:=([(0, .d TC3),(1, .d .str),(2, .d .str),(3, .d TI64),(9, .own 500000),(10, .d TI64)],[(500000, .lis 3 TI64)])
def pre_e1 (ch:List (List (List Bool))) (s a:Str) (i j:Int) (o:List (Int)):Bool:=decide (0≤i)&&(decide (i≤j)&&(okC5 (length s+1) ch&&(List.all a sign&&(Nat.ble (length s) 1000&&(Nat.blt 0 (length a)&&(Nat.ble (length a) lvN&&(Nat.ble lvN 4&&decide ((length o:Int)≤(j-i)*1003003001))))))))
def res_e1 (ch:List (List (List Bool))) (s a:Str) (i j:Int) (o:List (Int)) (K:Cont):Option Fin:=K (.exit 0) ⟨[(9, ko0)],[(500000,some (.lis 3 TI64 (o++catI (fun k'=>bif stepC s ch (byteAt a 0) i k' then endsL s ch (List.drop 1 a) k' else []) ((length s:Int)+1-j).toNat j)))]⟩
def mu_e1 (_ch:List (List (List Bool))) (s _a:Str) (_i j:Int) (_o:List (Int)):Nat:=(length s+1)-j.toNat
theorem r_e1 (ch:List (List (List Bool))) (s a:Str) (i j:Int) (o:List (Int)) (K:Cont) (hI:pre_e1 ch s a i j o=true):(∀R:St→Option Fin,evC cx0_e1 (loopOf Tryz.f147 0) (st_e1 ch s a i j o) (onward (headAt cx0_e1 5) R K)=res_e1 ch s a i j o K) ∨
  (∃(ch':List (List (List Bool))) (s' a':Str) (i' j':Int) (o':List (Int)),pre_e1 ch' s' a' i' j' o'=true∧mu_e1 ch' s' a' i' j' o'<mu_e1 ch s a i j o∧res_e1 ch' s' a' i' j' o' K=res_e1 ch s a i j o K∧∀R:St→Option Fin,evC cx0_e1 (loopOf Tryz.f147 0) (st_e1 ch s a i j o) (onward (headAt cx0_e1 5) R K)=R (st_e1 ch' s' a' i' j' o')):=by
 have hx:=fun R=>x_spec_l4Ends ch s a i j o R K;simp only[pre_e1]at hI;rw[andd,andd,andd,andd,andd,andd,andd,andd,dec_iff,dec_iff,ble_iff,blt_iff,ble_iff,ble_iff,dec_iff]at hI;obtain⟨h0,h1,h2,h3,h4,h5,h6,h7,h8⟩:=hI
 by_cases hj:j≤(length s:Int)
 ·have w:W64 (j+1)=j+1:=wrap_small (by omega) (by omega);obtain⟨n,hn⟩:∃n,((length s:Int)+1-j).toNat=n+1:=⟨((length s:Int)+1-j).toNat-1,by omega⟩;have hn2:((length s:Int)+1-(j+1)).toNat=n:=by omega
  have hg:catI (fun k'=>bif stepC s ch (byteAt a 0) i k' then endsL s ch (List.drop 1 a) k' else []) (n+1) j=(bif stepC s ch (byteAt a 0) i j then endsL s ch (List.drop 1 a) j else [])++catI (fun k'=>bif stepC s ch (byteAt a 0) i k' then endsL s ch (List.drop 1 a) k' else []) n (j+1):=rfl;have t1:List.take (((length a:Int)).toNat-Int.toNat 1) (List.drop (Int.toNat 1) a)=List.drop 1 a:=List.take_of_length_le (by rw[length_drop];omega);have hd:(List.drop 1 a).length=a.length-1:=length_drop;have hb:=ends_big (ch:=ch) (i:=j) (a:=List.drop 1 a) h4 (by omega) (by omega);have k1:signI (byteAt a 0)=true:=sign_I (all_eq_true.1 h3 _ (getD_mem (by show 0<_;omega)));have k2:okIJ s i j=true:=okIJ_iff.2 ⟨by omega,by omega,by omega⟩;have k3:okIJ s j j=true:=okIJ_iff.2 ⟨by omega,by omega,by omega⟩;have k4:(length (List.drop 1 a)).blt lvN=true:=blt_iff.2 (by omega);have k5:List.all (List.drop 1 a) sign=true:=all_eq_true.2 fun c hc=>all_eq_true.1 h3 c (List.mem_of_mem_drop hc);have k6:lvN.ble 5=true:=ble_iff.2 (by omega);have k7:pre_e2 ch s a i j 0 o (endsL s ch (List.drop 1 a) j)=true:=by
   simp only[pre_e2];rw[andd,andd,dec_iff,dec_iff,dec_iff];exact⟨by omega,by omega,by omega⟩
  rw[zT hj,t1,k1,k2,k3,k4,k5,k6,k7,h2,ble_iff.2 h4,w,inb_ok (Int.le_refl 0) (by omega:(0:Int)<(length a:Int)),inr_iff.2 (by omega:(0:Int)≤1∧1≤(length a:Int)∧(length a:Int)≤(length a:Int))]at hx;change ∀R:St→Option Fin,_=branch (!stepC s ch (byteAt a 0) i j) _ _ at hx;right
  cases hc:stepC s ch (byteAt a 0) i j
  ·rw[hc]at hx hg;refine⟨ch,s,a,i,j+1,o, ?_, ?_, ?_,fun R=>hx R⟩
   ·simp only[pre_e1];rw[andd,andd,andd,andd,andd,andd,andd,andd,dec_iff,dec_iff,ble_iff,blt_iff,ble_iff,ble_iff,dec_iff];exact⟨by omega,by omega,h2,h3,h4,h5,h6,h7,by omega⟩
   ·simp only[mu_e1];omega
   ·simp only[res_e1,hn,hn2,hg];rfl
  ·rw[hc]at hx hg;refine⟨ch,s,a,i,j+1,o++endsL s ch (List.drop 1 a) j, ?_, ?_, ?_,fun R=>hx R⟩
   ·simp only[pre_e1];rw[andd,andd,andd,andd,andd,andd,andd,andd,dec_iff,dec_iff,ble_iff,blt_iff,ble_iff,ble_iff,dec_iff,length_append];exact⟨by omega,by omega,h2,h3,h4,h5,h6,h7,by omega⟩
   ·simp only[mu_e1];omega
   ·simp only[res_e1,hn,hn2,hg,cond_true,append_assoc]
 ·left;intro R;refine(hx R).trans ?_;rw[zF hj];have e:((length s:Int)+1-j).toNat=0:=by omega
  have e2:(o++catI (fun k'=>bif stepC s ch (byteAt a 0) i k' then endsL s ch (List.drop 1 a) k' else []) ((length s:Int)+1-j).toNat j:List Int)=o:=by
   rw[e];exact List.append_nil o
  simp only[res_e1,e2];rfl
def g_e1:St→Cont→Option Fin:=gP sh_e1 (fun v=>match v with | ((ch,s,a,i,j,()),(o,()))=>pre_e1 ch s a i j o) (fun v K=>match v with | ((ch,s,a,i,j,()),(o,()))=>res_e1 ch s a i j o K)
def L_e1:LpL:=(5,g_e1)::L_e2
def cx_e1:Cx:=(cb_ends).withLoops (look L_e1)
theorem l_e1 {L:LpL} (n:Nat) (h1:L.drop n=L_e2) (h2:idsFree (L.take n) (loopOf Tryz.f147 0)=true):LoopsTo g_e1 (cb_ends) (loopOf Tryz.f147 0) 5 L :=
 with_drop h1 h2 (gP_ok (fun v=>match v with | ((ch,s,a,i,j,()),(o,()))=>mu_e1 ch s a i j o) fun v K hI=>by
  obtain⟨⟨ch,s,a,i,j,⟨⟩⟩,⟨o,⟨⟩⟩⟩:=v;exact(r_e1 ch s a i j o K hI).imp id fun⟨ch',s',a',i',j',o',h⟩=>⟨((ch',s',a',i',j',()),(o',())),h⟩)
theorem y_spec_l4Ends (ch:List (List (List Bool))) (s:Str) (a:Str) (i:Int):evFn cx_e1 Tryz.f147 false [ofD TC3 ch,ofD .str s,ofD .str a,ofD TI64 i] []=(
branch (decide (a=[])) ( some ((.d (.one (.own 1000))),[(1000,(.some (.lis 3 ty3 ([i]))))])) (
 need (pre_e1 ch s a i i []) <| some ((.d (.one (.own 1000))),[(1000,(.some (.lis 3 TI64 (id (catI (fun k'=>bif stepC s ch (byteAt a 0) i k' then endsL s ch (List.drop 1 a) k' else []) ((s.length:Int)+1-i).toNat i)))))]))):=by kernel_rfl
theorem ends_up:ConOk Tryz.prog 147 (conEnds (lvN+1)):=conN_ok Tryz.call147 fun(ch:C3) _ (s:Str) _ (a:Str) _ (i:Int) _ hqq=>by
 have hpre:=pre_of hqq;rw[andd,andd,andd,andd,andd,blt_iff,ble_iff,ble_iff]at hpre;obtain⟨h1,h2,h3,h4,h5,h6⟩:=hpre;obtain⟨i0,_,i2⟩:=okIJ_iff.1 h5;refine fn_sound (cx:=cx_e1) Tryz.func147 rfl ttOk Γ73ok mixed (fun c hc=>LoopsOk.all (l:=[(5,loopOf Tryz.f147 0),(10,loopOf Tryz.f147 1)]) (by cases hc;kernel_rfl) ⟨atLoop rfl (l_e1 1 rfl (by kernel_rfl)),atLoop rfl (l_e2 2 rfl (by kernel_rfl)),trivial⟩) (ro:=false) ?_;refine(y_spec_l4Ends ch s a i).trans ?_
 cases a with
 |nil=>rfl
 |cons c r =>
  have hp:pre_e1 ch s (c::r) i i []=true:=by
   simp only[pre_e1];rw[andd,andd,andd,andd,andd,andd,andd,andd,dec_iff,dec_iff,ble_iff,blt_iff,ble_iff,ble_iff,dec_iff];exact⟨i0,by omega,h3,h4,h6,by simp,by omega,by omega,by simp⟩
  rw[hp];rfl
end
theorem ends_all:∀n,ConOk Tryz.prog 147 (conEnds n)
 |0=>conN_ok Tryz.call147 fun ch _ s _ (a:Str) _ i _ hqq=>by
  have:=blt_iff.1 (andd.1 (pre_of hqq)).1;omega
 |n+1=>@ends_up ⟨⟨n,ends_all n⟩⟩
def c_spec_l4Ends:Con:=conEnds 5
theorem k_spec_l4Ends:ConOk Tryz.prog 147 c_spec_l4Ends:=ends_all 5
def Γ74:GL:=(147,c_spec_l4Ends)::Γ72
theorem Γ74ok:GO Γ74 := .cons k_spec_l4Ends Γ72ok
def setC (ch:C3) (k i j:Int):C3:=List.set ch k.toNat (List.set (getD ch k.toNat []) i.toNat (List.set (getD (getD ch k.toNat []) i.toNat []) j.toNat true))
def atN (ch:C3) (a b c:Nat):Bool:=getD (getD (getD ch a []) b []) c false
theorem okC5_set {n:Nat} {ch:C3} (h:okC5 n ch=true) {k i j:Int} (k0:0≤k) (k1:k<5) (i0:0≤i) (i1:i<(n:Int)):okC5 n (setC ch k i j)=true:=by
 obtain⟨l1,l2,l3⟩:=okC5_at h k0 k1 i0 i1;obtain⟨h1,h2⟩:=okC5_iff.1 h;refine okC5_iff.2 ⟨by unfold setC;rw[length_set];exact h1,fun r hr => ?_⟩;unfold setC at hr;rcases List.mem_or_eq_of_mem_set hr with hr | rfl
 ·exact h2 r hr
 ·refine ⟨by rw[length_set];exact l2,fun q hq => ?_⟩;rcases List.mem_or_eq_of_mem_set hq with hq | rfl
  ·exact (h2 _ (getD_mem (by omega))).2 q hq
  ·rw[length_set];exact l3
theorem at_set {n:Nat} {ch:C3} (h:okC5 n ch=true) {k i j:Int} (k0:0≤k) (k1:k<5) (i0:0≤i) (i1:i<(n:Int)) (j1:j<(n:Int)) (j0:0≤j) {a b c:Nat}:atN (setC ch k i j) a b c=if a=k.toNat∧b=i.toNat∧c=j.toNat then true else atN ch a b c:=by
 obtain⟨l1,l2,l3⟩:=okC5_at h k0 k1 i0 i1;unfold atN setC;rw[getD_set (by omega)]
 by_cases e1:k.toNat=a
 ·rw[if_pos e1,getD_set (by omega)]
  by_cases e2:i.toNat=b
  ·rw[if_pos e2,getD_set (by omega)]
   by_cases e3:j.toNat=c
   ·rw[if_pos e3,if_pos ⟨e1.symm,e2.symm,e3.symm⟩]
   ·rw[if_neg e3,if_neg (fun q=>e3 q.2.2.symm),e1,e2]
  ·rw[if_neg e2,if_neg (fun q=>e2 q.2.1.symm),e1]
 ·rw[if_neg e1,if_neg (fun q=>e1 q.1.symm)]
def setsL (k i:Int):List Int→C3×Bool→C3×Bool
 | [],p=>p
 |e::l,p=>setsL k i l (bif !atC p.1 k i e then(setC p.1 k i e,true)else p)
def stepE (s:Str) (v:VisE) (p:C3×Bool):C3×Bool:=setsL (keyK v.2) v.1 (endsL s p.1 v.2.2 v.1) p
def hasN (ch:C3) (x:Nat×Nat×Nat):Bool:=atN ch x.1 x.2.1 x.2.2
def keysE (n:Nat) (v:VisE):List (Nat×Nat×Nat):=(List.range n).map fun j=>((keyK v.2).toNat,v.1.toNat,j)
theorem sets_step {n:Nat} {k i:Int} (k0:0≤k) (k1:k<5) (i0:0≤i) (i1:i<(n:Int)):∀ {l:List Int} {p:C3×Bool},(∀e∈l,0≤e∧e<(n:Int))→okC5 n p.1=true →
  okC5 n (setsL k i l p).1=true∧(∀x,hasN p.1 x=true→hasN (setsL k i l p).1 x=true) ∧
  ((setsL k i l p).2=true→p.2=true∨∃x,(∃j:Nat,j<n∧x=(k.toNat,i.toNat,j))∧hasN p.1 x=false∧hasN (setsL k i l p).1 x=true) ∧
  ((setsL k i l p).2=false→p.2=false∧setsL k i l p=p∧∀e∈l,atC p.1 k i e=true) ∧
  (∀x,hasN (setsL k i l p).1 x=true→hasN p.1 x=true∨∃e∈l,x=(k.toNat,i.toNat,e.toNat))
 | [],p,_,h=>⟨h,fun _ h=>h,fun h => .inl h,fun h=>⟨h,rfl,fun e he=>by cases he⟩,fun x h => .inl h⟩
 |e::l,p,hl,h=>by
  obtain⟨e0,e1⟩:=hl e mem_cons_self;have hl':∀e∈l,0≤e∧e<(n:Int):=fun q hq=>hl q (mem_cons_of_mem _ hq);unfold setsL
  cases hc:atC p.1 k i e
  ·rw[show (bif !false then(setC p.1 k i e,true)else p)=(setC p.1 k i e,true)from rfl];obtain⟨a1,a2,a3,a4,a5⟩:=sets_step k0 k1 i0 i1 (p:=(setC p.1 k i e,true)) hl' (okC5_set h k0 k1 i0 i1);have hs:∀x:Nat×Nat×Nat,hasN (setC p.1 k i e) x=if x.1=k.toNat∧x.2.1=i.toNat∧x.2.2=e.toNat then true else hasN p.1 x:=fun x=>at_set h k0 k1 i0 i1 e1 e0;have hn:hasN (setC p.1 k i e) (k.toNat,i.toNat,e.toNat)=true:=by rw[hs,if_pos ⟨rfl,rfl,rfl⟩]
   refine⟨a1,fun x hx=>a2 x ((hs x).trans (by split<;>first | rfl | exact hx)),fun _ => .inr ⟨(k.toNat,i.toNat,e.toNat),⟨e.toNat,by omega,rfl⟩,hc,a2 _ hn⟩,fun hf => ?_,fun x hx => ?_⟩
   ·cases (a4 hf).1
   ·rcases a5 x hx with hx | ⟨q,hq,hx⟩
    ·rw[show (setC p.1 k i e,true).1=setC p.1 k i e from rfl,hs]at hx
     split at hx
     ·rename_i hq;obtain⟨x1,x2,x3⟩:=x;obtain⟨q1,q2,q3⟩:=hq;exact .inr ⟨e,mem_cons_self,by rw[show x1=k.toNat from q1,show x2=i.toNat from q2,show x3=e.toNat from q3]⟩
     ·exact .inl hx
    ·exact .inr ⟨q,mem_cons_of_mem _ hq,hx⟩
  ·rw[show (bif !true then(setC p.1 k i e,true)else p)=p from rfl];obtain⟨a1,a2,a3,a4,a5⟩:=sets_step k0 k1 i0 i1 (p:=p) hl' h;refine⟨a1,a2,a3,fun hf => ?_,fun x hx => ?_⟩
   ·obtain ⟨b1,b2,b3⟩:=a4 hf;refine⟨b1,b2,fun q hq => ?_⟩;rcases List.mem_cons.1 hq with rfl | hq
    ·exact hc
    ·exact b3 q hq
   ·rcases a5 x hx with hx | ⟨q,hq,hx⟩
    ·exact .inl hx
    ·exact .inr ⟨q,mem_cons_of_mem _ hq,hx⟩
theorem catI_mem {f:Int→List Int} {e:Int}:∀ {n:Nat} {a:Int},e∈catI f n a↔∃k,a≤k∧k<a+n∧e∈f k
 |0,a=>by
  unfold catI
  constructor
  ·intro h;cases h
  ·rintro ⟨k,h1,h2,_⟩;omega
 |n+1,a=>by
  unfold catI;rw[mem_append,catI_mem (n:=n) (a:=a+1)]
  constructor
  ·rintro (h | ⟨k,h1,h2,h3⟩)
   ·exact ⟨a,Int.le_refl _,by omega,h⟩
   ·exact ⟨k,by omega,by omega,h3⟩
  ·rintro ⟨k,h1,h2,h3⟩
   by_cases h:k=a
   ·exact .inl (by rw[← h];exact h3)
   ·exact .inr ⟨k,by omega,by omega,h3⟩
def tabC (ch:C3) (a:Str) (i j:Int):Prop:=bigS a=true∧0≤i∧0≤j∧atC ch (byteAt a 0-65) i j=true
theorem splP_le {s:Str} {P:Str→Int→Int→Prop}:∀ {r:Str} {i j:Int},splP s P r i j→i≤j
 | [],_,_,h=>Int.le_of_eq h
 |_::r,_,_,⟨_,k1,_,_,k4⟩=>Int.le_trans k1 (splP_le (r:=r) k4)
theorem stepC_iff {s:Str} {ch:C3} {c:UInt8} {i j:Int} (hc:sign c=true) (i0:0≤i) (j0:0≤j):stepC s ch (c.toNat:Int) i j=true↔derP s (tabC ch) [c] i j:=by
 unfold stepC derP;rw[smallI_nat,show smallS [c]=small c from rfl]
 cases hs:small c
 ·rw[cond_false,if_neg (by simp)];have hb:bigc c=true:=by
   unfold sign at hc;rw[hs,Bool.or_false]at hc;exact hc
  exact⟨fun h=>⟨hb,i0,j0,h⟩,fun h=>h.2.2.2⟩
 ·rw[cond_true,if_pos rfl,b2,andd,dec_iff,dec_iff];refine and_congr Iff.rfl ?_;unfold byteAt
  constructor
  ·intro h;have:s.getD i.toNat 0=c:=UInt8.toNat_inj.1 (by omega);rw[this]
  ·intro h;have:=(List.cons.inj h).1;rw[this]
theorem ends_iff {s:Str} {ch:C3} {e:Int}:∀ {a:Str} {i:Int},List.all a sign=true→0≤i→i≤(s.length:Int)→(e∈endsL s ch a i↔e≤(s.length:Int)∧splP s (tabC ch) a i e)
 | [],i,_,_,hi=>by
  unfold endsL splP;rw[mem_singleton]
  constructor
  ·rintro rfl;exact ⟨hi,rfl⟩
  ·rintro ⟨_,h⟩;exact h.symm
 |c::r,i,ha,h0,hi=>by
  rw[List.all_cons,andd]at ha;unfold endsL splP;rw[catI_mem]
  constructor
  ·rintro ⟨k,k1,k2,k3⟩
   cases hs:stepC s ch (c.toNat:Int) i k
   ·rw[hs]at k3;cases k3
   ·rw[hs,cond_true,ends_iff ha.2 (by omega) (by omega)]at k3;exact⟨k3.1,k,k1,splP_le k3.2,(stepC_iff ha.1 h0 (by omega)).1 hs,k3.2⟩
  ·rintro ⟨he,k,k1,k2,k3,k4⟩;refine⟨k,k1,by omega, ?_⟩;rw[(stepC_iff ha.1 h0 (by omega)).2 k3,cond_true,ends_iff ha.2 (by omega) (by omega)];exact⟨he,k4⟩
theorem stepE_ok (s:Str):StepOk (fun ch=>okC5 (s.length+1) ch=true) (goodE s) hasN (keysE (s.length+1)) (stepE s):=by
 have key:∀(v:VisE) (p:C3×Bool),goodE s v→okC5 (s.length+1) p.1=true→(∀e∈endsL s p.1 v.2.2 v.1,0≤e∧e<((s.length+1:Nat):Int)):=fun v p hv hp e he=>by
  obtain⟨v1,v2,v3,v4,v5⟩:=hv;rw[ends_iff v5 v1 v2]at he;have:=splP_le he.2;exact⟨by omega,by omega⟩
 exact {
  inv:=fun v p hv hp=>(sets_step (keyK_in hv.2.2.1).1 (keyK_in hv.2.2.1).2.1 hv.1 (by have:=hv.2.1;omega) (key v p hv hp) hp).1
  mono:=fun v p x hv hp h=>(sets_step (keyK_in hv.2.2.1).1 (keyK_in hv.2.2.1).2.1 hv.1 (by have:=hv.2.1;omega) (key v p hv hp) hp).2.1 x h
  new:=fun v p hv hp h=>by
   rcases(sets_step (keyK_in hv.2.2.1).1 (keyK_in hv.2.2.1).2.1 hv.1 (by have:=hv.2.1;omega) (key v p hv hp) hp).2.2.1 h with h | ⟨x,⟨j,j1,rfl⟩,h2,h3⟩
   ·exact .inl h
   ·exact .inr ⟨_,List.mem_map.2 ⟨j,List.mem_range.2 j1,rfl⟩,h2,h3⟩
  quiet:=fun v p hv hp h=>by
   obtain⟨h1,h2,_⟩:=(sets_step (keyK_in hv.2.2.1).1 (keyK_in hv.2.2.1).2.1 hv.1 (by have:=hv.2.1;omega) (key v p hv hp) hp).2.2.2.1 h;exact⟨h1,h2⟩ }
def zeroC (n:Nat):C3:=replicate 5 (replicate n (replicate n false))
theorem getD_rep {α:Type} {n i:Nat} {x d:α}:(replicate n x).getD i d=if i<n then x else d:=by
 rw[zG,List.getElem?_replicate]
 split<;>rfl
theorem zero_ok {n:Nat}:okC5 n (zeroC n)=true:=by
 refine okC5_iff.2 ⟨length_replicate,fun r hr => ?_⟩;rw[List.eq_of_mem_replicate hr];refine⟨length_replicate,fun q hq => ?_⟩;rw[List.eq_of_mem_replicate hq];exact length_replicate
theorem zero_at {n a b c:Nat}:atN (zeroC n) a b c=false:=by
 unfold atN zeroC;rw[getD_rep]
 split
 ·rw[getD_rep]
  split
  ·rw[getD_rep];split<;>rfl
  ·rfl
 ·rfl
def chartC (s:Str) (l:List Rule):C3:=runC hasN (keysE (s.length+1)) (stepE s) (visE (s.length+1) l) (zeroC (s.length+1))
def sgn (k:Nat):Str:=[UInt8.ofNat (65+k)]
theorem sgn_big {a:Str} (h:bigS a=true):sgn (byteAt a 0-65).toNat=a∧0≤byteAt a 0-65∧byteAt a 0-65<5:=by
 obtain⟨c,rfl,hc⟩:=bigS_one h;unfold bigc at hc;rw[andd,ble_iff,ble_iff]at hc;have hb:byteAt ([c]:Str) 0=(c.toNat:Int):=rfl;rw[hb];have e:65+((c.toNat:Int)-65).toNat=c.toNat:=by omega
 refine⟨?_,by omega,by omega⟩;unfold sgn;rw[e,UInt8.ofNat_toNat]
theorem chartC_iff {s:Str} {l:List Rule} (hl:okRp l=true) {a:Str} {i j:Int} (ha:bigS a=true) (i0:0≤i) (j0:0≤j):okC5 (s.length+1) (chartC s l)=true∧(atC (chartC s l) (byteAt a 0-65) i j=true↔DerG s l a i j):=by
 have hg:=good_visE (s:=s) hl;have h0:=runC_end (stepE_ok s) hg (m:=zeroC (s.length+1)) (J:=fun _=>True) (fun _ _ _ _=>trivial) zero_ok trivial;refine⟨h0.1, ?_⟩;have e:(atC (chartC s l) (byteAt a 0-65) i j=true)↔tabC (chartC s l) a i j:=⟨fun h=>⟨ha,i0,j0,h⟩,fun h=>h.2.2.2⟩;rw[e];refine Der_iff (T:=tabC (chartC s l)) (fun P hP a i j h => ?_) (fun r hr i j h0' h1 h2 h3 => ?_)
 ·have h1:=(runC_end (stepE_ok s) hg (m:=zeroC (s.length+1)) (J:=fun ch=>∀x:Nat×Nat×Nat,hasN ch x=true→P (sgn x.1) (x.2.1:Int) (x.2.2:Int)) (fun v hv p hp x hx => ?_) zero_ok (fun x hx=>by rw[show hasN (zeroC (s.length+1)) x=false from zero_at]at hx;cases hx)).2.1
  ·obtain ⟨g1,g2,g3,g4⟩:=h;obtain⟨s1,s2,s3⟩:=sgn_big g1;have:=h1 ((byteAt a 0-65).toNat,i.toNat,j.toNat) g4;rw[show sgn (((byteAt a 0-65).toNat,i.toNat,j.toNat):Nat×Nat×Nat).1=a from s1,show ((((byteAt a 0-65).toNat,i.toNat,j.toNat):Nat×Nat×Nat).2.1:Int)=i by show(i.toNat:Int)=i;omega,show ((((byteAt a 0-65).toNat,i.toNat,j.toNat):Nat×Nat×Nat).2.2:Int)=j by show(j.toNat:Int)=j;omega]at this;exact this
  ·obtain ⟨v1,v2,v3,v4,v5⟩:=hg v hv;obtain⟨q1,q2,c,q3,q4⟩:=keyK_in v3;have hke:∀e∈endsL s p.1 v.2.2 v.1,0≤e∧e<((s.length+1:Nat):Int):=fun e he=>by
    rw[ends_iff v5 v1 v2]at he;have:=splP_le he.2;exact⟨by omega,by omega⟩
   rcases(sets_step q1 q2 v1 (by omega) hke hp.1).2.2.2.2 x hx with hx | ⟨q,hq,rfl⟩
   ·exact hp.2 x hx
   ·obtain ⟨e0,e1⟩:=hke q hq;rw[ends_iff v5 v1 v2]at hq;have hs:sgn (keyK v.2).toNat=v.2.1:=(sgn_big v3).1;show P (sgn (keyK v.2).toNat) ((v.1.toNat:Nat):Int) ((q.toNat:Nat):Int);rw[hs,show ((v.1.toNat:Nat):Int)=v.1 by omega,show ((q.toNat:Nat):Int)=q by omega];refine hP v.2 (mem_visE.1 hv).1 v.1 q v1 (splP_le hq.2) (by omega) (splP_mono (fun a i j _ _ _ h => ?_) v1 (by omega) hq.2);obtain⟨g1,g2,g3,g4⟩:=h;obtain⟨s1,s2,s3⟩:=sgn_big g1;have:=hp.2 ((byteAt a 0-65).toNat,i.toNat,j.toNat) g4;rw[show sgn (((byteAt a 0-65).toNat,i.toNat,j.toNat):Nat×Nat×Nat).1=a from s1,show ((((byteAt a 0-65).toNat,i.toNat,j.toNat):Nat×Nat×Nat).2.1:Int)=i by show(i.toNat:Int)=i;omega,show ((((byteAt a 0-65).toNat,i.toNat,j.toNat):Nat×Nat×Nat).2.2:Int)=j by show(j.toNat:Int)=j;omega]at this;exact this
 ·obtain ⟨r1,r2,r3⟩:=(okRp_iff.1 hl).2 r hr;have hv:(i,r)∈visE (s.length+1) l:=mem_visE.2 ⟨hr,h0',by show i<_;omega⟩;have h4:=h0.2.2 (i,r) hv;have hgv:=hg _ hv;obtain⟨q1,q2,c,q3,q4⟩:=keyK_in r1;have hke:∀e∈endsL s (chartC s l) r.2 i,0≤e∧e<((s.length+1:Nat):Int):=fun e he=>by
   rw[ends_iff r3 h0' (by omega)]at he;have:=splP_le he.2;exact⟨by omega,by omega⟩
  have h5:=(sets_step (p:=(chartC s l,false)) q1 q2 h0' (by omega) hke h0.1).2.2.2.1 (by
   have:(stepE s (i,r) (chartC s l,false)).2=false:=congrArg Prod.snd h4;exact this)
  refine⟨r1,h0',by omega,h5.2.2 j ((ends_iff r3 h0' (by omega)).2 ⟨h2,h3⟩)⟩
abbrev ts3:List Nat:=[129,128,4]
abbrev ts2:List Nat:=[128,4]
def cb_l4:Cx:=cxOf Γ74 Tryz.f119.ntmps [(24,[1,2,5,6,10,11,12,13,14,15]),(20,[1,2,5,6,10,11,12,13]),(16,[1,2,5,6,10,11]),(13,[1,2,5,6,10]),(8,[1,2,5,6,7,8,9]),(4,[1,2,5,6,7])] [(4,[6]),(5,[1,2,5,6,10]),(6,[1,2,5,6,10]),(7,[1,2,5,6,10,11]),(8,[1,2,5,6,10,11]),(9,[1,2,5,6,10,11,12,13]),(10,[1,2,5,6,10,11,12,13]),(11,[1,2,5,6,10,11,12,13,14,15]),(0,[1,2,5,6]),(1,[1,2,5,6,7]),(2,[1,2,5,6,7,8]),(3,[1,2,5,6,7,8,9]),(1000000,[4])] [] []
abbrev l4H (g:Gram) (ch:C3):Heap:=[(500000,some (boxD 25 TG g)),(500001,some (.deep ts3 (.list (.list .bool)) ch))]
theorem x_spec_l4Chart_5 (g:Gram) (ch:C3) (s:Str) (n ri k i j:Int) (b:Bool) (l:List Int) (R:St→Option Fin) (K:Cont):evC (cb_l4.withLoops (look [])) (loopOf Tryz.f119 5) ⟨[(1,vS s),(2, kp0),(5,vI n),(6, .d (.one (.dsl 500001 []))),(10,vB b),(11,vI ri),(12,vI k),(13,vI i),(14, ko2),(15,vI j)],l4H g ch++[(500002,some (.lis 3 TI64 l))]⟩ (onward (headAt (cb_l4.withLoops (look [])) 24) R K)=(
branch (decide (j<(l.length:Int))) (
 need (inb k ch.length) <|
 need (inb i (getD ch k.toNat []).length) <|
 need (inb j l.length) <|
 need (inb (l.getD j.toNat 0) ((getD ch k.toNat []).getD i.toNat []).length) <|
 branch (!((getD ch k.toNat []).getD i.toNat []).getD (Int.toNat (l.getD j.toNat 0)) (dflt Ty.bool)) (
 need (inb k ch.length) <|
 need (inb i (getD ch k.toNat []).length) <|
 need (inb j l.length) <|
 need (inb (l.getD j.toNat 0) ((getD ch k.toNat []).getD i.toNat []).length) <| R (.mk [(1,vS s),(2,kp0),(5,vI n),(6,(.d (.one (.dsl 500001 ([]))))),(10,vB true),(11,vI ri),(12,vI k),(13,vI i),(14,ko2),(15,vI (W64 (j+1)))] [(500000,some (boxD 25 TG g)),(500001,(.some (.deep ts3 (Ty.bool.list.list) (List.set ch k.toNat ((getD ch k.toNat []).set i.toNat (((getD ch k.toNat []).getD i.toNat []).set (Int.toNat (l.getD j.toNat 0)) true)))))),(500002,some (.lis 3 TI64 l))])) ( R (.mk [(1,vS s),(2,kp0),(5,vI n),(6,(.d (.one (.dsl 500001 ([]))))),(10,vB b),(11,vI ri),(12,vI k),(13,vI i),(14,ko2),(15,vI (W64 (j+1)))] [(500000,some (boxD 25 TG g)),(500001,(.some (.deep ts3 (Ty.bool.list.list) ch))),(500002,some (.lis 3 TI64 l))]))) ( K (.exit 10) (.mk [(1,vS s),(2,kp0),(5,vI n),(6,(.d (.one (.dsl 500001 ([]))))),(10,vB b),(11,vI ri),(12,vI k),(13,vI i)] [(500000,some (boxD 25 TG g)),(500001,(.some (.deep ts3 (Ty.bool.list.list) ch)))]))):=by kernel_rfl
def cx0_h5:Cx:=(cb_l4).withLoops (look [])
def sh_h5:Sh:=([(1, .d .str),(2, .ptr 500000 0),(5, .d TI64),(6, .deep 500001),(10, .d .bool),(11, .d TI64),(12, .d TI64),(13, .d TI64),(14, .own 500002),(15, .d TI64)],[(500000, .box 25 TG),(500001, .deep ts3 TC2),(500002, .lis 3 TI64)])
abbrev st_h5 (s:Str) (n:Int) (b:Bool) (ri k i j:Int) (g:Gram) (ch:List (List (List Bool))) (l:List (Int)):St:=⟨[(1,vS s),(2, kp0),(5,vI n),(6, .d (.one (.dsl 500001 []))),(10,vB b),(11,vI ri),(12,vI k),(13,vI i),(14, ko2),(15,vI j)],[(500000,some (boxD 25 TG g)),(500001,some (.deep ts3 TC2 ch)),(500002,some (.lis 3 TI64 l))]⟩
def pre_h5 (s:Str) (_n:Int) (_b:Bool) (_ri k i j:Int) (_g:Gram) (ch:List (List (List Bool))) (l:List (Int)):Bool:=decide (0≤j)&&(okC5 (length s+1) ch&&(decide (0≤k)&&(decide (k<5)&&(decide (0≤i)&&(decide (i≤(length s:Int))&&(List.all l (fun e=>decide (0≤e)&&decide (e≤(length s:Int)))&&decide (length l≤9000000000000000000)))))))
def res_h5 (s:Str) (n:Int) (b:Bool) (ri k i j:Int) (g:Gram) (ch:List (List (List Bool))) (l:List (Int)) (K:Cont):Option Fin:=K (.exit 10) ⟨[(1,vS s),(2, kp0),(5,vI n),(6, .d (.one (.dsl 500001 []))),(10,vB (setsL k i (List.drop j.toNat l) (ch,b)).2),(11,vI ri),(12,vI k),(13,vI i)],l4H g (setsL k i (List.drop j.toNat l) (ch,b)).1⟩
def mu_h5 (_s:Str) (_n:Int) (_b:Bool) (_ri _k _i j:Int) (_g:Gram) (_ch:List (List (List Bool))) (l:List (Int)):Nat:=length l-j.toNat
theorem r_h5 (s:Str) (n:Int) (b:Bool) (ri k i j:Int) (g:Gram) (ch:List (List (List Bool))) (l:List (Int)) (K:Cont) (hI:pre_h5 s n b ri k i j g ch l=true):(∀R:St→Option Fin,evC cx0_h5 (loopOf Tryz.f119 5) (st_h5 s n b ri k i j g ch l) (onward (headAt cx0_h5 24) R K)=res_h5 s n b ri k i j g ch l K) ∨
  (∃(s':Str) (n':Int) (b':Bool) (ri' k' i' j':Int) (g':Gram) (ch':List (List (List Bool))) (l':List (Int)),pre_h5 s' n' b' ri' k' i' j' g' ch' l'=true∧mu_h5 s' n' b' ri' k' i' j' g' ch' l'<mu_h5 s n b ri k i j g ch l∧res_h5 s' n' b' ri' k' i' j' g' ch' l' K=res_h5 s n b ri k i j g ch l K∧∀R:St→Option Fin,evC cx0_h5 (loopOf Tryz.f119 5) (st_h5 s n b ri k i j g ch l) (onward (headAt cx0_h5 24) R K)=R (st_h5 s' n' b' ri' k' i' j' g' ch' l')):=by
 have hx:=fun R=>x_spec_l4Chart_5 g ch s n ri k i j b l R K;simp only[pre_h5]at hI;rw[andd,andd,andd,andd,andd,andd,andd,dec_iff,dec_iff,dec_iff,dec_iff,dec_iff,dec_iff]at hI;obtain⟨h0,h1,k0,k1,i0,i1,h2,h3⟩:=hI
 by_cases hj:j<(length l:Int)
 ·have w:W64 (j+1)=j+1:=wrap_small (by omega) (by omega);have hn:j.toNat<length l:=by omega
  have he:=all_eq_true.1 h2 _ (getD_mem (d:=0) hn);rw[andd,dec_iff,dec_iff]at he;obtain⟨l1,l2,l3⟩:=okC5_at h1 k0 k1 i0 (by omega);have hd:List.drop j.toNat l=getD l j.toNat 0::List.drop (j+1).toNat l:=by
   rw[drop_eq_getElem_cons hn,show (j+1).toNat=j.toNat+1 by omega,zG,zE hn];rfl
  have hg:setsL k i (List.drop j.toNat l) (ch,b)=setsL k i (List.drop (j+1).toNat l) (bif !atC ch k i (getD l j.toNat 0)then(setC ch k i (getD l j.toNat 0),true)else(ch,b)):=by rw[hd];rfl
  rw[zT hj,l1,l2,l3,inb_ok h0 hj,inb_ok k0 (by omega),inb_ok i0 (by omega),inb_ok he.1 (by omega),w]at hx;change ∀R:St→Option Fin,_=branch (!atC ch k i (getD l j.toNat 0)) _ _ at hx;right
  cases hc:atC ch k i (getD l j.toNat 0)
  ·rw[hc]at hx hg;refine⟨s,n,true,ri,k,i,j+1,g,setC ch k i (getD l j.toNat 0),l, ?_, ?_, ?_,fun R=>hx R⟩
   ·simp only[pre_h5];rw[andd,andd,andd,andd,andd,andd,andd,dec_iff,dec_iff,dec_iff,dec_iff,dec_iff,dec_iff];exact⟨by omega,okC5_set h1 k0 k1 i0 (by omega),k0,k1,i0,i1,h2,h3⟩
   ·simp only[mu_h5];omega
   ·simp only[res_h5,hg];rfl
  ·rw[hc]at hx hg;refine⟨s,n,b,ri,k,i,j+1,g,ch,l, ?_, ?_, ?_,fun R=>hx R⟩
   ·simp only[pre_h5];rw[andd,andd,andd,andd,andd,andd,andd,dec_iff,dec_iff,dec_iff,dec_iff,dec_iff,dec_iff];exact⟨by omega,h1,k0,k1,i0,i1,h2,h3⟩
   ·simp only[mu_h5];omega
   ·simp only[res_h5,hg];rfl
 ·left;intro R;refine(hx R).trans ?_;rw[zF hj];have e:List.drop j.toNat l=[]:=drop_eq_nil_of_le (by omega);simp only[res_h5,e];rfl
def g_h5:St→Cont→Option Fin:=gP sh_h5 (fun v=>match v with | ((s,n,b,ri,k,i,j,()),(g,ch,l,()))=>pre_h5 s n b ri k i j g ch l) (fun v K=>match v with | ((s,n,b,ri,k,i,j,()),(g,ch,l,()))=>res_h5 s n b ri k i j g ch l K)
def L_h5:LpL:=(24,g_h5)::[]
theorem l_h5 {L:LpL} (n:Nat) (h1:L.drop n=[]) (h2:idsFree (L.take n) (loopOf Tryz.f119 5)=true):LoopsTo g_h5 (cb_l4) (loopOf Tryz.f119 5) 24 L :=
 with_drop h1 h2 (gP_ok (fun v=>match v with | ((s,n,b,ri,k,i,j,()),(g,ch,l,()))=>mu_h5 s n b ri k i j g ch l) fun v K hI=>by
  obtain⟨⟨s,n,b,ri,k,i,j,⟨⟩⟩,⟨g,ch,l,⟨⟩⟩⟩:=v;exact(r_h5 s n b ri k i j g ch l K hI).imp id fun⟨s',n',b',ri',k',i',j',g',ch',l',h⟩=>⟨((s',n',b',ri',k',i',j',()),(g',ch',l',())),h⟩)
theorem x_spec_l4Chart_4 (g:Gram) (ch:C3) (s:Str) (n ri k i:Int) (b:Bool) (R:St→Option Fin) (K:Cont):evC (cb_l4.withLoops (look L_h5)) (loopOf Tryz.f119 4) ⟨[(1,vS s),(2, kp0),(5,vI n),(6, .d (.one (.dsl 500001 []))),(10,vB b),(11,vI ri),(12,vI k),(13,vI i)],l4H g ch⟩ (onward (headAt (cb_l4.withLoops (look L_h5)) 20) R K)=(
branch (decide (i<n)) (
 need (inb ri (length g.snd)) <|
 need ((length (getD g.snd ri.toNat d0).snd).blt 5&&(Nat.ble 5 5&&(okC5 (length s+1) ch&&(List.all (getD g.snd ri.toNat d0).snd sign&&(okIJ s i i&&s.length.ble 1000))))) <|
 need (pre_h5 s n b ri k i 0 g ch (endsL s ch (getD g.snd ri.toNat d0).snd i)) <| R (.mk [(1,vS s),(2,kp0),(5,vI n),(6,(.d (.one (.dsl 500001 ([]))))),(10,(vB (setsL k i (id (endsL s ch (getD g.snd ri.toNat d0).snd i)) (ch,b)).snd)),(11,vI ri),(12,vI k),(13,vI (W64 (i+1)))] [(500000,some (boxD 25 TG g)),(500001,(.some (.deep ts3 (Ty.bool.list.list) ((setsL k i (id (endsL s ch (getD g.snd ri.toNat d0).snd i)) (ch,b)).fst))))])) ( K (.exit 8) (.mk [(1,vS s),(2,kp0),(5,vI n),(6,(.d (.one (.dsl 500001 ([]))))),(10,vB b),(11,vI ri)] [(500000,some (boxD 25 TG g)),(500001,(.some (.deep ts3 (Ty.bool.list.list) ch)))]))):=by kernel_rfl
theorem ends_few {s:Str} {ch:C3} {a:Str} {i:Int} (hs:s.length≤1000) (ha:a.length<5) (h:0≤i):(endsL s ch a i).length≤9000000000000000000 :=
 Nat.le_trans (ends_len hs h) (Nat.le_trans (Nat.pow_le_pow_right (by omega) (by omega:a.length≤4)) (by decide))
theorem ends_all_in {s:Str} {ch:C3} {a:Str} {i:Int} (ha:List.all a sign=true) (h0:0≤i) (h1:i≤(s.length:Int)):List.all (endsL s ch a i) (fun e=>decide (0≤e)&&decide (e≤(length s:Int)))=true:=all_eq_true.2 fun e he=>by
 rw[ends_iff ha h0 h1]at he;have:=splP_le he.2;rw[andd,dec_iff,dec_iff];exact⟨by omega,he.1⟩
def cx0_h4:Cx:=(cb_l4).withLoops (look L_h5)
def sh_h4:Sh:=([(1, .d .str),(2, .ptr 500000 0),(5, .d TI64),(6, .deep 500001),(10, .d .bool),(11, .d TI64),(12, .d TI64),(13, .d TI64)],[(500000, .box 25 TG),(500001, .deep ts3 TC2)])
abbrev st_h4 (s:Str) (n:Int) (b:Bool) (ri k i:Int) (g:Gram) (ch:List (List (List Bool))):St:=⟨[(1,vS s),(2, kp0),(5,vI n),(6, .d (.one (.dsl 500001 []))),(10,vB b),(11,vI ri),(12,vI k),(13,vI i)],[(500000,some (boxD 25 TG g)),(500001,some (.deep ts3 TC2 ch))]⟩
def pre_h4 (s:Str) (n:Int) (_b:Bool) (ri k i:Int) (g:Gram) (ch:List (List (List Bool))):Bool:=decide (0≤i)&&(decide (i≤n)&&(decide (n=(length s:Int)+1)&&(okC5 (length s+1) ch&&(okRp g.2&&(decide (0≤ri)&&(decide (ri<(length g.2:Int))&&(decide (k=keyK (getD g.2 ri.toNat d0))&&Nat.ble (length s) 1000)))))))
def res_h4 (s:Str) (n:Int) (b:Bool) (ri _k i:Int) (g:Gram) (ch:List (List (List Bool))) (K:Cont):Option Fin:=K (.exit 8) ⟨[(1,vS s),(2, kp0),(5,vI n),(6, .d (.one (.dsl 500001 []))),(10,vB (foldG (stepE s) (fromsE (getD g.2 ri.toNat d0) (n-i).toNat i) (ch,b)).2),(11,vI ri)],l4H g (foldG (stepE s) (fromsE (getD g.2 ri.toNat d0) (n-i).toNat i) (ch,b)).1⟩
def mu_h4 (_s:Str) (n:Int) (_b:Bool) (_ri _k i:Int) (_g:Gram) (_ch:List (List (List Bool))):Nat:=(n-i).toNat
theorem r_h4 (s:Str) (n:Int) (b:Bool) (ri k i:Int) (g:Gram) (ch:List (List (List Bool))) (K:Cont) (hI:pre_h4 s n b ri k i g ch=true):(∀R:St→Option Fin,evC cx0_h4 (loopOf Tryz.f119 4) (st_h4 s n b ri k i g ch) (onward (headAt cx0_h4 20) R K)=res_h4 s n b ri k i g ch K) ∨
  (∃(s':Str) (n':Int) (b':Bool) (ri' k' i':Int) (g':Gram) (ch':List (List (List Bool))),pre_h4 s' n' b' ri' k' i' g' ch'=true∧mu_h4 s' n' b' ri' k' i' g' ch'<mu_h4 s n b ri k i g ch∧res_h4 s' n' b' ri' k' i' g' ch' K=res_h4 s n b ri k i g ch K∧∀R:St→Option Fin,evC cx0_h4 (loopOf Tryz.f119 4) (st_h4 s n b ri k i g ch) (onward (headAt cx0_h4 20) R K)=R (st_h4 s' n' b' ri' k' i' g' ch')):=by
 have hx:=fun R=>x_spec_l4Chart_4 g ch s n ri k i b R K;simp only[pre_h4,andd,dec_iff,ble_iff]at hI;obtain⟨h0,h1,rfl,h3,h4,h5,h6,rfl,h8⟩:=hI
 by_cases hi:i<(length s:Int)+1
 ·have w:W64 (i+1)=i+1:=wrap_small (by omega) (by omega);obtain⟨q1,q2,q3⟩:=(okRp_iff.1 h4).2 _ (getD_mem (d:=d0) (by omega:ri.toNat<length g.2));obtain⟨k0,k1,_⟩:=keyK_in q1;have kk:((length (getD g.2 ri.toNat d0).2).blt 5&&(Nat.ble 5 5&&(okC5 (length s+1) ch&&(List.all (getD g.2 ri.toNat d0).2 sign&&(okIJ s i i&&s.length.ble 1000)))))=true:=andd.2 ⟨blt_iff.2 q2,andd.2 ⟨rfl,andd.2 ⟨h3,andd.2 ⟨q3,andd.2 ⟨okIJ_iff.2 ⟨h0,Int.le_refl _,by omega⟩,ble_iff.2 h8⟩⟩⟩⟩⟩;have kp:pre_h5 s ((length s:Int)+1) b ri (keyK (getD g.2 ri.toNat d0)) i 0 g ch (endsL s ch (getD g.2 ri.toNat d0).2 i)=true:=by
   simp only[pre_h5];rw[andd,andd,andd,andd,andd,andd,andd,dec_iff,dec_iff,dec_iff,dec_iff,dec_iff,dec_iff];exact⟨Int.le_refl 0,h3,k0,k1,h0,by omega,ends_all_in q3 h0 (by omega),ends_few h8 q2 h0⟩
  obtain⟨m,hm⟩:∃m,((length s:Int)+1-i).toNat=m+1:=⟨((length s:Int)+1-i).toNat-1,by omega⟩;have hm2:((length s:Int)+1-(i+1)).toNat=m:=by omega
  have hg:foldG (stepE s) (fromsE (getD g.2 ri.toNat d0) (m+1) i) (ch,b)=foldG (stepE s) (fromsE (getD g.2 ri.toNat d0) m (i+1)) (stepE s (i,getD g.2 ri.toNat d0) (ch,b)):=rfl;rw[zT hi,inb_ok h5 h6,kk,kp,w]at hx;right;refine⟨s,(length s:Int)+1,(stepE s (i,getD g.2 ri.toNat d0) (ch,b)).2,ri,keyK (getD g.2 ri.toNat d0),i+1,g,(stepE s (i,getD g.2 ri.toNat d0) (ch,b)).1, ?_, ?_, ?_,fun R=>hx R⟩
  ·simp only[pre_h4,andd,dec_iff,ble_iff];exact⟨by omega,by omega,trivial,(stepE_ok s).inv (i,getD g.2 ri.toNat d0) (ch,b) ⟨h0,by show i≤_;omega,q1,q2,q3⟩ h3,h4,h5,h6,trivial,h8⟩
  ·simp only[mu_h4];omega
  ·simp only[res_h4,hm,hm2,hg]
 ·left;intro R;refine(hx R).trans ?_;rw[zF hi];have e:((length s:Int)+1-i).toNat=0:=by omega
  simp only[res_h4,e];rfl
def g_h4:St→Cont→Option Fin:=gP sh_h4 (fun v=>match v with | ((s,n,b,ri,k,i,()),(g,ch,()))=>pre_h4 s n b ri k i g ch) (fun v K=>match v with | ((s,n,b,ri,k,i,()),(g,ch,()))=>res_h4 s n b ri k i g ch K)
def L_h4:LpL:=(20,g_h4)::L_h5
theorem l_h4 {L:LpL} (n:Nat) (h1:L.drop n=L_h5) (h2:idsFree (L.take n) (loopOf Tryz.f119 4)=true):LoopsTo g_h4 (cb_l4) (loopOf Tryz.f119 4) 20 L :=
 with_drop h1 h2 (gP_ok (fun v=>match v with | ((s,n,b,ri,k,i,()),(g,ch,()))=>mu_h4 s n b ri k i g ch) fun v K hI=>by
  obtain⟨⟨s,n,b,ri,k,i,⟨⟩⟩,⟨g,ch,⟨⟩⟩⟩:=v;exact(r_h4 s n b ri k i g ch K hI).imp id fun⟨s',n',b',ri',k',i',g',ch',h⟩=>⟨((s',n',b',ri',k',i',()),(g',ch',())),h⟩)
theorem x_spec_l4Chart_3 (g:Gram) (ch:C3) (s:Str) (n ri:Int) (b:Bool) (R:St→Option Fin) (K:Cont):evC (cb_l4.withLoops (look L_h4)) (loopOf Tryz.f119 3) ⟨[(1,vS s),(2, kp0),(5,vI n),(6, .d (.one (.dsl 500001 []))),(10,vB b),(11,vI ri)],l4H g ch⟩ (onward (headAt (cb_l4.withLoops (look L_h4)) 16) R K)=(
branch (decide (ri<(length g.snd:Int))) (
 need (inb ri (length g.snd)) <|
 need (inb 0 (length (getD g.snd ri.toNat d0).fst)) <|
 need (pre_h4 s n b ri (W64 (IntKind.u8.wrap (byteAt (getD g.snd ri.toNat d0).fst 0-65))) 0 g ch) <| R (.mk [(1,vS s),(2,kp0),(5,vI n),(6,(.d (.one (.dsl 500001 ([]))))),(10,(vB (foldG (stepE s) (fromsE (g.snd.getD ri.toNat d0) (n-0).toNat 0) (ch,b)).snd)),(11,vI (W64 (ri+1)))] [(500000,some (boxD 25 TG g)),(500001,(.some (.deep ts3 (Ty.bool.list.list) ((foldG (stepE s) (fromsE (g.snd.getD ri.toNat d0) (n-0).toNat 0) (ch,b)).fst))))])) ( K (.exit 6) (.mk [(1,vS s),(2,kp0),(5,vI n),(6,(.d (.one (.dsl 500001 ([]))))),(10,vB b)] [(500000,some (boxD 25 TG g)),(500001,(.some (.deep ts3 (Ty.bool.list.list) ch)))]))):=by kernel_rfl
def cx0_h3:Cx:=(cb_l4).withLoops (look L_h4)
def sh_h3:Sh:=([(1, .d .str),(2, .ptr 500000 0),(5, .d TI64),(6, .deep 500001),(10, .d .bool),(11, .d TI64)],[(500000, .box 25 TG),(500001, .deep ts3 TC2)])
abbrev st_h3 (s:Str) (n:Int) (b:Bool) (ri:Int) (g:Gram) (ch:List (List (List Bool))):St:=⟨[(1,vS s),(2, kp0),(5,vI n),(6, .d (.one (.dsl 500001 []))),(10,vB b),(11,vI ri)],[(500000,some (boxD 25 TG g)),(500001,some (.deep ts3 TC2 ch))]⟩
def pre_h3 (s:Str) (n:Int) (_b:Bool) (ri:Int) (g:Gram) (ch:List (List (List Bool))):Bool:=decide (0≤ri)&&(decide (n=(length s:Int)+1)&&(okC5 (length s+1) ch&&(okRp g.2&&Nat.ble (length s) 1000)))
def res_h3 (s:Str) (n:Int) (b:Bool) (ri:Int) (g:Gram) (ch:List (List (List Bool))) (K:Cont):Option Fin:=K (.exit 6) ⟨[(1,vS s),(2, kp0),(5,vI n),(6, .d (.one (.dsl 500001 []))),(10,vB (foldG (stepE s) (visE (length s+1) (List.drop ri.toNat g.2)) (ch,b)).2)],l4H g (foldG (stepE s) (visE (length s+1) (List.drop ri.toNat g.2)) (ch,b)).1⟩
def mu_h3 (_s:Str) (_n:Int) (_b:Bool) (ri:Int) (g:Gram) (_ch:List (List (List Bool))):Nat:=length g.2-ri.toNat
theorem r_h3 (s:Str) (n:Int) (b:Bool) (ri:Int) (g:Gram) (ch:List (List (List Bool))) (K:Cont) (hI:pre_h3 s n b ri g ch=true):(∀R:St→Option Fin,evC cx0_h3 (loopOf Tryz.f119 3) (st_h3 s n b ri g ch) (onward (headAt cx0_h3 16) R K)=res_h3 s n b ri g ch K) ∨
  (∃(s':Str) (n':Int) (b':Bool) (ri':Int) (g':Gram) (ch':List (List (List Bool))),pre_h3 s' n' b' ri' g' ch'=true∧mu_h3 s' n' b' ri' g' ch'<mu_h3 s n b ri g ch∧res_h3 s' n' b' ri' g' ch' K=res_h3 s n b ri g ch K∧∀R:St→Option Fin,evC cx0_h3 (loopOf Tryz.f119 3) (st_h3 s n b ri g ch) (onward (headAt cx0_h3 16) R K)=R (st_h3 s' n' b' ri' g' ch')):=by
 have hx:=fun R=>x_spec_l4Chart_3 g ch s n ri b R K;simp only[pre_h3,andd,dec_iff,ble_iff]at hI;obtain⟨h0,rfl,h3,h4,h8⟩:=hI;obtain⟨g1,g2⟩:=okRp_iff.1 h4
 by_cases hi:ri<(length g.2:Int)
 ·have w:W64 (ri+1)=ri+1:=wrap_small (by omega) (by omega);obtain⟨q1,q2,q3⟩:=g2 _ (getD_mem (d:=d0) (by omega:ri.toNat<length g.2));have hl:inb 0 (length (getD g.2 ri.toNat d0).1)=true:=by
   obtain⟨c,e,_⟩:=bigS_one q1;rw[e];rfl
  have kp:pre_h4 s ((length s:Int)+1) b ri (keyK (getD g.2 ri.toNat d0)) 0 g ch=true:=by
   simp only[pre_h4,andd,dec_iff,ble_iff];exact⟨Int.le_refl 0,by omega,trivial,h3,h4,h0,hi,trivial,h8⟩
  have e0:((length s:Int)+1-0).toNat=length s+1:=by omega
  have hg:=visE_at (n:=length s+1) h0 hi;rw[zT hi,inb_ok h0 hi,hl,key_wrap q1,kp,w,e0]at hx;right;refine⟨s,(length s:Int)+1,(foldG (stepE s) (fromsE (getD g.2 ri.toNat d0) (length s+1) 0) (ch,b)).2,ri+1,g,(foldG (stepE s) (fromsE (getD g.2 ri.toNat d0) (length s+1) 0) (ch,b)).1, ?_, ?_, ?_,fun R=>hx R⟩
  ·simp only[pre_h3,andd,dec_iff,ble_iff];refine⟨by omega,trivial,foldG_ok (stepE_ok s) (p:=(ch,b)) (fun v hv => ?_) h3,h4,h8⟩;obtain⟨e1,e2,e3⟩:=mem_fromsE.1 hv;exact⟨e2,by omega,by rw[e1];exact q1,by rw[e1];exact q2,by rw[e1];exact q3⟩
  ·simp only[mu_h3];omega
  ·simp only[res_h3,hg,foldG_app]
 ·left;intro R;refine(hx R).trans ?_;rw[zF hi];have e:List.drop ri.toNat g.2=[]:=drop_eq_nil_of_le (by omega);simp only[res_h3,e];rfl
def g_h3:St→Cont→Option Fin:=gP sh_h3 (fun v=>match v with | ((s,n,b,ri,()),(g,ch,()))=>pre_h3 s n b ri g ch) (fun v K=>match v with | ((s,n,b,ri,()),(g,ch,()))=>res_h3 s n b ri g ch K)
def L_h3:LpL:=(16,g_h3)::L_h4
theorem l_h3 {L:LpL} (n:Nat) (h1:L.drop n=L_h4) (h2:idsFree (L.take n) (loopOf Tryz.f119 3)=true):LoopsTo g_h3 (cb_l4) (loopOf Tryz.f119 3) 16 L :=
 with_drop h1 h2 (gP_ok (fun v=>match v with | ((s,n,b,ri,()),(g,ch,()))=>mu_h3 s n b ri g ch) fun v K hI=>by
  obtain⟨⟨s,n,b,ri,⟨⟩⟩,⟨g,ch,⟨⟩⟩⟩:=v;exact(r_h3 s n b ri g ch K hI).imp id fun⟨s',n',b',ri',g',ch',h⟩=>⟨((s',n',b',ri',()),(g',ch',())),h⟩)
theorem x_spec_l4Chart_2 (g:Gram) (ch:C3) (s:Str) (n:Int) (b:Bool) (R:St→Option Fin) (K:Cont):evC (cb_l4.withLoops (look L_h3)) (loopOf Tryz.f119 2) ⟨[(1,vS s),(2, kp0),(5,vI n),(6, .d (.one (.dsl 500001 []))),(10,vB b)],l4H g ch⟩ (onward (headAt (cb_l4.withLoops (look L_h3)) 13) R K)=(
branch b (
 need (pre_h3 s n false 0 g ch) <| R (.mk [(1,vS s),(2,kp0),(5,vI n),(6,(.d (.one (.dsl 500001 ([]))))),(10,(vB (foldG (stepE s) (visE (length s+1) g.snd) (ch,false)).snd))] [(500000,some (boxD 25 TG g)),(500001,(.some (.deep ts3 (Ty.bool.list.list) ((foldG (stepE s) (visE (length s+1) g.snd) (ch,false)).fst))))])) ( K (.exit 4) (.mk [(6,(.d (.one (.dsl 500000 ([])))))] [(500000,(.some (.deep ts3 (Ty.bool.list.list) ch)))]))):=by kernel_rfl
def cx0_h2:Cx:=(cb_l4).withLoops (look L_h3)
def sh_h2:Sh:=([(1, .d .str),(2, .ptr 500000 0),(5, .d TI64),(6, .deep 500001),(10, .d .bool)],[(500000, .box 25 TG),(500001, .deep ts3 TC2)])
abbrev st_h2 (s:Str) (n:Int) (b:Bool) (g:Gram) (ch:List (List (List Bool))):St:=⟨[(1,vS s),(2, kp0),(5,vI n),(6, .d (.one (.dsl 500001 []))),(10,vB b)],[(500000,some (boxD 25 TG g)),(500001,some (.deep ts3 TC2 ch))]⟩
def pre_h2 (s:Str) (n:Int) (_b:Bool) (g:Gram) (ch:List (List (List Bool))):Bool:=decide (n=(length s:Int)+1)&&(okC5 (length s+1) ch&&(okRp g.2&&Nat.ble (length s) 1000))
def res_h2 (s:Str) (_n:Int) (b:Bool) (g:Gram) (ch:List (List (List Bool))) (K:Cont):Option Fin:=K (.exit 4) ⟨[(6, .d (.one (.dsl 500000 [])))],[(500000,some (.deep ts3 TC2 (bif b then runC hasN (keysE (length s+1)) (stepE s) (visE (length s+1) g.2) ch else ch)))]⟩
def mu_h2 (s:Str) (_n:Int) (b:Bool) (g:Gram) (ch:List (List (List Bool))):Nat:=2*missG hasN ((visE (length s+1) g.2).flatMap (keysE (length s+1))) ch+(bif b then 1 else 0)
theorem r_h2 (s:Str) (n:Int) (b:Bool) (g:Gram) (ch:List (List (List Bool))) (K:Cont) (hI:pre_h2 s n b g ch=true):(∀R:St→Option Fin,evC cx0_h2 (loopOf Tryz.f119 2) (st_h2 s n b g ch) (onward (headAt cx0_h2 13) R K)=res_h2 s n b g ch K) ∨
  (∃(s':Str) (n':Int) (b':Bool) (g':Gram) (ch':List (List (List Bool))),pre_h2 s' n' b' g' ch'=true∧mu_h2 s' n' b' g' ch'<mu_h2 s n b g ch∧res_h2 s' n' b' g' ch' K=res_h2 s n b g ch K∧∀R:St→Option Fin,evC cx0_h2 (loopOf Tryz.f119 2) (st_h2 s n b g ch) (onward (headAt cx0_h2 13) R K)=R (st_h2 s' n' b' g' ch')):=by
 have hx:=fun R=>x_spec_l4Chart_2 g ch s n b R K;simp only[pre_h2,andd,dec_iff,ble_iff]at hI;obtain⟨rfl,h3,h4,h8⟩:=hI
 cases b
 ·left;intro R;refine(hx R).trans ?_;simp only[res_h2];rfl
 ·have hv:=good_visE (s:=s) h4;have hp:pre_h3 s ((length s:Int)+1) false 0 g ch=true:=by
   simp only[pre_h3,andd,dec_iff,ble_iff];exact⟨Int.le_refl 0,trivial,h3,h4,h8⟩
  rw[hp]at hx;have hg:=runC_at (stepE_ok s) (vs:=visE (length s+1) g.2) (m:=ch) hv h3;right;refine⟨s,(length s:Int)+1,(foldG (stepE s) (visE (length s+1) g.2) (ch,false)).2,g,(foldG (stepE s) (visE (length s+1) g.2) (ch,false)).1, ?_, ?_, ?_,fun R=>hx R⟩
  ·simp only[pre_h2,andd,dec_iff,ble_iff];exact⟨trivial,foldG_ok (stepE_ok s) (p:=(ch,false)) hv h3,h4,h8⟩
  ·simp only[mu_h2]
   cases hc:(foldG (stepE s) (visE (length s+1) g.2) (ch,false)).2
   ·obtain ⟨_,h5,_⟩:=foldG_quiet (stepE_ok s) (p:=(ch,false)) hv h3 hc;rw[h5,cond_true,cond_false];show 2*missG hasN _ ch+0<2*missG hasN _ ch+1;omega
   ·have:=miss_lt (stepE_ok s) hv h3 hc;rw[cond_true];omega
  ·simp only[res_h2];exact congrArg (fun z:C3=>K (.exit 4) ⟨[(6, .d (.one (.dsl 500000 [])))],[(500000,some (.deep ts3 TC2 z))]⟩) hg.symm
def g_h2:St→Cont→Option Fin:=gP sh_h2 (fun v=>match v with | ((s,n,b,()),(g,ch,()))=>pre_h2 s n b g ch) (fun v K=>match v with | ((s,n,b,()),(g,ch,()))=>res_h2 s n b g ch K)
def L_h2:LpL:=(13,g_h2)::L_h3
theorem l_h2 {L:LpL} (n:Nat) (h1:L.drop n=L_h3) (h2:idsFree (L.take n) (loopOf Tryz.f119 2)=true):LoopsTo g_h2 (cb_l4) (loopOf Tryz.f119 2) 13 L :=
 with_drop h1 h2 (gP_ok (fun v=>match v with | ((s,n,b,()),(g,ch,()))=>mu_h2 s n b g ch) fun v K hI=>by
  obtain⟨⟨s,n,b,⟨⟩⟩,⟨g,ch,⟨⟩⟩⟩:=v;exact(r_h2 s n b g ch K hI).imp id fun⟨s',n',b',g',ch',h⟩=>⟨((s',n',b',()),(g',ch',())),h⟩)
theorem x_spec_l4Chart_1 (g:Gram) (ch:C3) (rs:List (List Bool)) (s:Str) (n i k:Int) (R:St→Option Fin) (K:Cont):evC (cb_l4.withLoops (look L_h2)) (loopOf Tryz.f119 1) ⟨[(1,vS s),(2, kp0),(5,vI n),(6, .d (.one (.dsl 500001 []))),(7,vI i),(8, .d (.one (.dsl 500002 []))),(9,vI k)],l4H g ch++[(500002,some (.deep ts2 (.list .bool) rs))]⟩ (onward (headAt (cb_l4.withLoops (look L_h2)) 8) R K)=(
branch (decide (k<n)) (
 need (decide (0≤n∧n≤n∧n*(Tryz.t4.bytes:Int)≤140737488355328∧n≤9223372036854775807)) <|
 need (fits (rs.length+[replicate n.toNat false].length) Tryz.t128.bytes) <| R (.mk [(1,vS s),(2,kp0),(5,vI n),(6,(.d (.one (.dsl 500001 ([]))))),(7,vI i),(8,(.d (.one (.dsl 500002 ([]))))),(9,vI (W64 (k+1)))] [(500000,some (boxD 25 TG g)),(500001,(.some (.deep ts3 (Ty.bool.list.list) ch))),(500002,(.some (.deep ts2 (Ty.bool.list) (rs.append [replicate n.toNat false]))))])) ( K (.exit 2) (.mk [(1,vS s),(2,kp0),(5,vI n),(6,(.d (.one (.dsl 500001 ([]))))),(7,vI i),(8,(.d (.one (.dsl 500002 ([])))))] [(500000,some (boxD 25 TG g)),(500001,(.some (.deep ts3 (Ty.bool.list.list) ch))),(500002,(.some (.deep ts2 (Ty.bool.list) rs)))]))):=by kernel_rfl
theorem boolBytes:Tryz.t4.bytes=1:=by kernel_rfl
theorem boolsBytes:Tryz.t128.bytes=24:=by kernel_rfl
theorem boolssBytes:Tryz.t129.bytes=24:=by kernel_rfl
def cx0_h1:Cx:=(cb_l4).withLoops (look L_h2)
def sh_h1:Sh:=([(1, .d .str),(2, .ptr 500000 0),(5, .d TI64),(6, .deep 500001),(7, .d TI64),(8, .deep 500002),(9, .d TI64)],[(500000, .box 25 TG),(500001, .deep ts3 TC2),(500002, .deep ts2 TC1)])
abbrev st_h1 (s:Str) (n i k:Int) (g:Gram) (ch:List (List (List Bool))) (rs:List (List Bool)):St:=⟨[(1,vS s),(2, kp0),(5,vI n),(6, .d (.one (.dsl 500001 []))),(7,vI i),(8, .d (.one (.dsl 500002 []))),(9,vI k)],[(500000,some (boxD 25 TG g)),(500001,some (.deep ts3 TC2 ch)),(500002,some (.deep ts2 TC1 rs))]⟩
def pre_h1 (_s:Str) (n _i k:Int) (_g:Gram) (_ch:List (List (List Bool))) (rs:List (List Bool)):Bool:=decide (0≤k)&&(decide (k≤n)&&(decide (n≤1001)&&decide (length rs=k.toNat)))
def res_h1 (s:Str) (n i k:Int) (g:Gram) (ch:List (List (List Bool))) (rs:List (List Bool)) (K:Cont):Option Fin:=K (.exit 2) ⟨[(1,vS s),(2, kp0),(5,vI n),(6, .d (.one (.dsl 500001 []))),(7,vI i),(8, .d (.one (.dsl 500002 [])))],l4H g ch++[(500002,some (.deep ts2 TC1 (rs++replicate (n-k).toNat (replicate n.toNat false))))]⟩
def mu_h1 (_s:Str) (n _i k:Int) (_g:Gram) (_ch:List (List (List Bool))) (_rs:List (List Bool)):Nat:=(n-k).toNat
theorem r_h1 (s:Str) (n i k:Int) (g:Gram) (ch:List (List (List Bool))) (rs:List (List Bool)) (K:Cont) (hI:pre_h1 s n i k g ch rs=true):(∀R:St→Option Fin,evC cx0_h1 (loopOf Tryz.f119 1) (st_h1 s n i k g ch rs) (onward (headAt cx0_h1 8) R K)=res_h1 s n i k g ch rs K) ∨
  (∃(s':Str) (n' i' k':Int) (g':Gram) (ch':List (List (List Bool))) (rs':List (List Bool)),pre_h1 s' n' i' k' g' ch' rs'=true∧mu_h1 s' n' i' k' g' ch' rs'<mu_h1 s n i k g ch rs∧res_h1 s' n' i' k' g' ch' rs' K=res_h1 s n i k g ch rs K∧∀R:St→Option Fin,evC cx0_h1 (loopOf Tryz.f119 1) (st_h1 s n i k g ch rs) (onward (headAt cx0_h1 8) R K)=R (st_h1 s' n' i' k' g' ch' rs')):=by
 have hx:=fun R=>x_spec_l4Chart_1 g ch rs s n i k R K;simp only[pre_h1,andd,dec_iff]at hI;obtain⟨h0,h1,h2,h3⟩:=hI
 by_cases hk:k<n
 ·have w:W64 (k+1)=k+1:=wrap_small (by omega) (by omega);have k1:decide (0≤n∧n≤n∧n*(Tryz.t4.bytes:Int)≤140737488355328∧n≤9223372036854775807)=true:=by
   rw[boolBytes];exact zT ⟨by omega,Int.le_refl _,by omega,by omega⟩
  have k2:fits (length rs+[replicate n.toNat false].length) Tryz.t128.bytes=true:=by
   rw[boolsBytes];exact zT (by rw[length_singleton];omega)
  obtain⟨m,hm⟩:∃m,(n-k).toNat=m+1:=⟨(n-k).toNat-1,by omega⟩;have hm2:(n-(k+1)).toNat=m:=by omega
  rw[zT hk,k1,k2,w]at hx;right;refine⟨s,n,i,k+1,g,ch,rs++[replicate n.toNat false], ?_, ?_, ?_,fun R=>hx R⟩
  ·simp only[pre_h1,andd,dec_iff];rw[length_append,length_singleton];exact⟨by omega,by omega,h2,by omega⟩
  ·simp only[mu_h1];omega
  ·simp only[res_h1,hm,hm2,List.replicate_succ,append_assoc];rfl
 ·left;intro R;refine(hx R).trans ?_;rw[zF hk];have e:(n-k).toNat=0:=by omega
  simp only[res_h1,e,List.replicate_zero,List.append_nil];rfl
def g_h1:St→Cont→Option Fin:=gP sh_h1 (fun v=>match v with | ((s,n,i,k,()),(g,ch,rs,()))=>pre_h1 s n i k g ch rs) (fun v K=>match v with | ((s,n,i,k,()),(g,ch,rs,()))=>res_h1 s n i k g ch rs K)
def L_h1:LpL:=(8,g_h1)::L_h2
theorem l_h1 {L:LpL} (n:Nat) (h1:L.drop n=L_h2) (h2:idsFree (L.take n) (loopOf Tryz.f119 1)=true):LoopsTo g_h1 (cb_l4) (loopOf Tryz.f119 1) 8 L :=
 with_drop h1 h2 (gP_ok (fun v=>match v with | ((s,n,i,k,()),(g,ch,rs,()))=>mu_h1 s n i k g ch rs) fun v K hI=>by
  obtain⟨⟨s,n,i,k,⟨⟩⟩,⟨g,ch,rs,⟨⟩⟩⟩:=v;exact(r_h1 s n i k g ch rs K hI).imp id fun⟨s',n',i',k',g',ch',rs',h⟩=>⟨((s',n',i',k',()),(g',ch',rs',())),h⟩)
theorem x_spec_l4Chart (g:Gram) (ch:C3) (s:Str) (n i:Int) (R:St→Option Fin) (K:Cont):evC (cb_l4.withLoops (look L_h1)) (loopOf Tryz.f119 0) ⟨[(1,vS s),(2, kp0),(5,vI n),(6, .d (.one (.dsl 500001 []))),(7,vI i)],l4H g ch⟩ (onward (headAt (cb_l4.withLoops (look L_h1)) 4) R K)=(
branch (decide (i<5)) (
 need (pre_h1 s n i 0 g ch []) <|
 need (fits (length ch+[id (replicate (n-0).toNat (replicate n.toNat false))].length) Tryz.t129.bytes) <| R (.mk [(1,vS s),(2,kp0),(5,vI n),(6,(.d (.one (.dsl 500001 ([]))))),(7,vI (W64 (i+1)))] [(500000,some (boxD 25 TG g)),(500001,(.some (.deep ts3 (Ty.bool.list.list) (List.append ch [id (replicate (n-0).toNat (replicate n.toNat false))]))))])) ( K (.exit 0) (.mk [(1,vS s),(2,kp0),(5,vI n),(6,(.d (.one (.dsl 500001 ([])))))] [(500000,some (boxD 25 TG g)),(500001,(.some (.deep ts3 (Ty.bool.list.list) ch)))]))):=by kernel_rfl
def cx0_h0:Cx:=(cb_l4).withLoops (look L_h1)
def sh_h0:Sh:=([(1, .d .str),(2, .ptr 500000 0),(5, .d TI64),(6, .deep 500001),(7, .d TI64)],[(500000, .box 25 TG),(500001, .deep ts3 TC2)])
abbrev st_h0 (s:Str) (n i:Int) (g:Gram) (ch:List (List (List Bool))):St:=⟨[(1,vS s),(2, kp0),(5,vI n),(6, .d (.one (.dsl 500001 []))),(7,vI i)],[(500000,some (boxD 25 TG g)),(500001,some (.deep ts3 TC2 ch))]⟩
def pre_h0 (_s:Str) (n i:Int) (_g:Gram) (ch:List (List (List Bool))):Bool:=decide (0≤i)&&(decide (i≤5)&&(decide (0≤n)&&(decide (n≤1001)&&decide (length ch=i.toNat))))
def res_h0 (s:Str) (n i:Int) (g:Gram) (ch:List (List (List Bool))) (K:Cont):Option Fin:=K (.exit 0) ⟨[(1,vS s),(2, kp0),(5,vI n),(6, .d (.one (.dsl 500001 [])))],l4H g (ch++replicate (5-i).toNat (replicate n.toNat (replicate n.toNat false)))⟩
def mu_h0 (_s:Str) (_n i:Int) (_g:Gram) (_ch:List (List (List Bool))):Nat:=(5-i).toNat
theorem r_h0 (s:Str) (n i:Int) (g:Gram) (ch:List (List (List Bool))) (K:Cont) (hI:pre_h0 s n i g ch=true):(∀R:St→Option Fin,evC cx0_h0 (loopOf Tryz.f119 0) (st_h0 s n i g ch) (onward (headAt cx0_h0 4) R K)=res_h0 s n i g ch K) ∨
  (∃(s':Str) (n' i':Int) (g':Gram) (ch':List (List (List Bool))),pre_h0 s' n' i' g' ch'=true∧mu_h0 s' n' i' g' ch'<mu_h0 s n i g ch∧res_h0 s' n' i' g' ch' K=res_h0 s n i g ch K∧∀R:St→Option Fin,evC cx0_h0 (loopOf Tryz.f119 0) (st_h0 s n i g ch) (onward (headAt cx0_h0 4) R K)=R (st_h0 s' n' i' g' ch')):=by
 have hx:=fun R=>x_spec_l4Chart g ch s n i R K;simp only[pre_h0,andd,dec_iff]at hI;obtain⟨h0,h1,h2,h3,h4⟩:=hI
 by_cases hk:i<5
 ·have w:W64 (i+1)=i+1:=wrap_small (by omega) (by omega);have kp:pre_h1 s n i 0 g ch []=true:=by
   simp only[pre_h1,andd,dec_iff];exact⟨Int.le_refl 0,h2,h3,rfl⟩
  have k2:fits (length ch+[replicate n.toNat (replicate n.toNat false)].length) Tryz.t129.bytes=true:=by
   rw[boolssBytes];exact zT (by rw[length_singleton];omega)
  obtain⟨m,hm⟩:∃m,(5-i).toNat=m+1:=⟨(5-i).toNat-1,by omega⟩;have hm2:(5-(i+1)).toNat=m:=by omega
  have e0:(n-0).toNat=n.toNat:=by omega
  rw[zT hk,kp,w,e0]at hx;change ∀R:St→Option Fin,_=branch true (need true (need (fits (length ch+[replicate n.toNat (replicate n.toNat false)].length) Tryz.t129.bytes) _)) _ at hx;rw[k2]at hx;right;refine⟨s,n,i+1,g,ch++[replicate n.toNat (replicate n.toNat false)], ?_, ?_, ?_,fun R=>hx R⟩
  ·simp only[pre_h0,andd,dec_iff];rw[length_append,length_singleton];exact⟨by omega,by omega,h2,h3,by omega⟩
  ·simp only[mu_h0];omega
  ·simp only[res_h0,hm,hm2,List.replicate_succ,append_assoc];rfl
 ·left;intro R;refine(hx R).trans ?_;rw[zF hk];have e:(5-i).toNat=0:=by omega
  simp only[res_h0,e,List.replicate_zero,List.append_nil];rfl
def g_h0:St→Cont→Option Fin:=gP sh_h0 (fun v=>match v with | ((s,n,i,()),(g,ch,()))=>pre_h0 s n i g ch) (fun v K=>match v with | ((s,n,i,()),(g,ch,()))=>res_h0 s n i g ch K)
def L_h0:LpL:=(4,g_h0)::L_h1
def cx_h0:Cx:=(cb_l4).withLoops (look L_h0)
theorem l_h0 {L:LpL} (n:Nat) (h1:L.drop n=L_h1) (h2:idsFree (L.take n) (loopOf Tryz.f119 0)=true):LoopsTo g_h0 (cb_l4) (loopOf Tryz.f119 0) 4 L :=
 with_drop h1 h2 (gP_ok (fun v=>match v with | ((s,n,i,()),(g,ch,()))=>mu_h0 s n i g ch) fun v K hI=>by
  obtain⟨⟨s,n,i,⟨⟩⟩,⟨g,ch,⟨⟩⟩⟩:=v;exact(r_h0 s n i g ch K hI).imp id fun⟨s',n',i',g',ch',h⟩=>⟨((s',n',i',()),(g',ch',())),h⟩)
theorem y_spec_l4Chart (g:Gram) (s:Str):evFn cx_h0 Tryz.f119 false [ofD TG g,ofD .str s] []=(
need (pre_h0 s (W64 ((s.length:Int)+1)) 0 g []) <|
need (pre_h2 s (W64 ((s.length:Int)+1)) true g (id (replicate ((5:Int)-0).toNat (replicate (W64 ((s.length:Int)+1)).toNat (replicate (W64 ((s.length:Int)+1)).toNat false))))) <| some ((.d (.one (.dsl 1000 ([])))),[(1000,(.some (.deep ts3 TC2 (bif true then runC hasN (keysE (length s+1)) (stepE s) (visE (length s+1) g.snd) (id (replicate ((5:Int)-0).toNat (replicate (W64 ((s.length:Int)+1)).toNat (replicate (W64 ((s.length:Int)+1)).toNat false))))else id (replicate ((5:Int)-0).toNat (replicate (W64 ((s.length:Int)+1)).toNat (replicate (W64 ((s.length:Int)+1)).toNat false)))))))])):=by kernel_rfl
theorem s_spec_l4Chart (g:Gram) (_hg:Fit TG g) (s:Str) (_hs:Fit .str s) (hpre:(okRp g.2&&Nat.ble (length s) 1000)=true):Sat Tryz.prog 119 [ofD TG g,ofD .str s] [] (.d (.one (.dsl 1000 []))) ([(1000,some (.deep ts3 TC2 (chartC s g.2)))]) :=
 fn_sound (cx:=cx_h0) Tryz.func119 rfl ttOk Γ74ok mixed (fun c hc=>LoopsOk.all (l:=[(4,loopOf Tryz.f119 0),(8,loopOf Tryz.f119 1),(13,loopOf Tryz.f119 2),(16,loopOf Tryz.f119 3),(20,loopOf Tryz.f119 4),(24,loopOf Tryz.f119 5)]) (by cases hc;kernel_rfl) ⟨atLoop rfl (l_h0 1 rfl (by kernel_rfl)),atLoop rfl (l_h1 2 rfl (by kernel_rfl)),atLoop rfl (l_h2 3 rfl (by kernel_rfl)),atLoop rfl (l_h3 4 rfl (by kernel_rfl)),atLoop rfl (l_h4 5 rfl (by kernel_rfl)),atLoop rfl (l_h5 6 rfl (by kernel_rfl)),trivial⟩) (ro:=false) (by
  obtain⟨h1,h2⟩:=andd.1 hpre;have h2:=ble_iff.1 h2;have w:W64 ((length s:Int)+1)=(length s:Int)+1:=wrap_small (by omega) (by omega);have e1:((length s:Int)+1).toNat=length s+1:=by omega
  have e2:((5:Int)-0).toNat=5:=rfl;have p0:pre_h0 s ((length s:Int)+1) 0 g []=true:=by
   simp only[pre_h0,andd,dec_iff];exact⟨Int.le_refl 0,by omega,by omega,by omega,rfl⟩
  have p2:pre_h2 s ((length s:Int)+1) true g (zeroC (length s+1))=true:=by
   simp only[pre_h2,andd,dec_iff,ble_iff];exact⟨trivial,zero_ok,h1,h2⟩
  rw[y_spec_l4Chart,w,e1,e2];change need (pre_h0 s ((length s:Int)+1) 0 g []) (need (pre_h2 s ((length s:Int)+1) true g (zeroC (length s+1))) _)=_;rw[p0,p2];rfl)
def c_spec_l4Chart:Con:=conN [TG, .str] fun(g:Gram) (s:Str)=>(some (okRp g.2&&Nat.ble (length s) 1000), .d (.one (.dsl 1000 [])),[(1000,some (.deep ts3 TC2 (chartC s g.2)))])
theorem k_spec_l4Chart:ConOk Tryz.prog 119 c_spec_l4Chart:=conN_ok Tryz.call119 fun g hg s hs hqq=>s_spec_l4Chart g hg s hs (pre_of hqq)
def Γ75:GL:=(119,c_spec_l4Chart)::Γ74
theorem Γ75ok:GO Γ75 := .cons k_spec_l4Chart Γ74ok
theorem charts_same {g:Gram} {s a:Str} {i j:Int} (h:okG g=true) (ha:bigS a=true) (i0:0≤i) (j0:0≤j):atC (chartC s g.2) (byteAt a 0-65) i j=derB s (chartM s g.2) a i j:=by
 have h1:=(chartC_iff (s:=s) (ok_rp h) ha i0 j0).2;have h2:derB s (chartM s g.2) a i j=hasM (chartM s g.2) (a,i,j):=by
  unfold derB;rw[big_not_small ha];rfl
 rw[h2,Bool.eq_iff_iff];exact h1.trans chartM_iff.symm
theorem chart_ok {g:Gram} {s:Str} (h:okG g=true):okC5 (length s+1) (chartC s g.2)=true:=(chartC_iff (s:=s) (ok_rp h) (okG_big h) (Int.le_refl 0) (Int.le_refl 0)).1
theorem y_spec_l4Is (g:Gram) (s:Str):evFn (cxOf Γ75 Tryz.f75.ntmps [] [] [] []) Tryz.f75 true [ofD TG g,ofD .str s] []=(
need (okRp g.snd&&s.length.ble 1000) <|
need (inb 0 (length g.fst)) <|
need (inb (W64 (IntKind.u8.wrap (byteAt g.fst 0-65))) (length (chartC s g.snd))) <|
need (inb 0 (getD (chartC s g.snd) (W64 (IntKind.u8.wrap (byteAt g.fst 0-65))).toNat []).length) <|
need (inb ((s.length:Int)) ((getD (chartC s g.snd) (W64 (IntKind.u8.wrap (byteAt g.fst 0-65))).toNat []).getD ((0:Int).toNat) []).length) <| some ((vB (((getD (chartC s g.snd) (W64 (IntKind.u8.wrap (byteAt g.fst 0-65))).toNat []).getD ((0:Int).toNat) []).getD ((s.length:Int)).toNat (dflt Ty.bool))),[])):=by kernel_rfl
theorem s_spec_l4Is (g:Gram) (_hg:Fit TG g) (s:Str) (_hs:Fit .str s) (hpre:(okG g&&Nat.ble (length s) 1000)=true):Sat Tryz.prog 75 [ofD TG g,ofD .str s] [] (.d (ofD .bool (isD g s))) [] :=
 fn_sound (cx:=cxOf Γ75 Tryz.f75.ntmps [] [] [] []) Tryz.func75 rfl ttOk Γ75ok mixed (fun _ _=>LoopsOk.no fun _=>rfl) (ro:=true) (by
  obtain⟨h1,h2⟩:=andd.1 hpre;have hb:=okG_big h1;obtain⟨_,k0,k1⟩:=sgn_big hb;have w:W64 (IntKind.u8.wrap (byteAt g.1 0-65))=byteAt g.1 0-65:=key_wrap (r:=(g.1,[])) hb;obtain⟨l1,l2,l3⟩:=okC5_at (chart_ok (s:=s) h1) k0 k1 (i:=0) (Int.le_refl 0) (by omega);have e:isD g s=atC (chartC s g.2) (byteAt g.1 0-65) 0 (length s:Int):=(charts_same h1 hb (Int.le_refl 0) (by omega)).symm;have l0:inb 0 (length g.1)=true:=by
   obtain⟨c,e,_⟩:=bigS_one hb;rw[e];rfl
  have kk:(okRp g.2&&(length s).ble 1000)=true:=andd.2 ⟨ok_rp h1,h2⟩;rw[y_spec_l4Is,w,e,kk,l0];change need true (need true (need (inb (byteAt g.1 0-65) (length (chartC s g.2))) (need (inb 0 (length (getD (chartC s g.2) (byteAt g.1 0-65).toNat []))) (need (inb (length s:Int) (length (getD (getD (chartC s g.2) (byteAt g.1 0-65).toNat []) (0:Int).toNat []))) _))))=_;rw[l1,l2,l3,inb_ok k0 (by omega),inb_ok (Int.le_refl 0) (by omega),inb_ok (by omega) (by omega)];rfl)
def c_spec_l4Is:Con:=conT [TG, .str] fun(g:Gram) (s:Str)=>(some (okG g&&Nat.ble (length s) 1000), .d (ofD .bool (isD g s)))
theorem k_spec_l4Is:ConOk Tryz.prog 75 c_spec_l4Is:=conT_ok Tryz.call75 fun g hg s hs hqq=>s_spec_l4Is g hg s hs (pre_of hqq)
def Γ76:GL:=(75,c_spec_l4Is)::Γ75
theorem Γ76ok:GO Γ76 := .cons k_spec_l4Is Γ75ok
end
end Go.Proofs.YtmeiebnfmhddnaaGreatDoor.Ev
