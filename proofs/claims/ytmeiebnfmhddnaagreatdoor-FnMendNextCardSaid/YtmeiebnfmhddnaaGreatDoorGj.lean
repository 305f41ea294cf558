/-
  Sorting of bytes: the turning of a range, the pivot, the patterns' breaking, the short insertion sort.
-/
import Derived.Test.YtmeiebnfmhddnaaGreatDoorGi
namespace Go.Proofs.YtmeiebnfmhddnaaGreatDoor.Ev
open Go
noncomputable section
set_option maxHeartbeats 1000000
def cb_rev:Cx:=cxOf Γ34 Tryz.f177.ntmps [(2,[0,6,7])] [(0,[]),(1,[0,6,7])] [] []
theorem x_rev (l:List Int) (i j:Int) (R:St→Option Fin) (K:Cont):evC (cb_rev.withLoops (look [])) (loopOf Tryz.f177 0) ⟨[(0, .d (.one (.own 0))),(6,vI i),(7,vI j)],[(0,some (.lis 5 TU8 l))]⟩ (onward (headAt (cb_rev.withLoops (look [])) 2) R K)=(
branch (decide (i<j)) (
 need (inb j l.length) <|
 need (inb i l.length) <|
 need (inb i l.length) <|
 need (inb j (l.set i.toNat (l.getD j.toNat 0)).length) <| R ⟨[(0, .d (.one (.own 0))),(6,vI (W64 (i+1))),(7,vI (W64 (j-1)))],[(0,some (.lis 5 TU8 (swL l i.toNat j.toNat)))]⟩)
 (K (.exit 0) ⟨[],[(0,some (.lis 5 TU8 l))]⟩)):=by kernel_rfl
def cx0_rev:Cx:=(cb_rev).withLoops (look [])
def sh_rev:Sh:=([(0, .own 0),(6, .d TI64),(7, .d TI64)],[(0, .lis 5 TU8)])
abbrev st_rev (i j:Int) (l:List (Int)):St:=⟨[(0, .d (.one (.own 0))),(6,vI i),(7,vI j)],[(0,some (.lis 5 TU8 l))]⟩
def pre_rev (i j:Int) (l:List (Int)):Bool:=decide (0≤i)&&(decide (0≤j)&&(decide (i≤2000000)&&(decide (j<(List.length l:Int))&&Nat.ble (List.length l) 1000000)))
def res_rev (i j:Int) (l:List (Int)) (K:Cont):Option Fin:=K (.exit 0) ⟨[],[(0,some (.lis 5 TU8 (onL (Go.Sort.reverseLoop i.toNat j.toNat) l)))]⟩
def mu_rev (i j:Int) (_l:List (Int)):Nat:=(j-i).toNat
theorem r_rev (i j:Int) (l:List (Int)) (K:Cont) (hI:pre_rev i j l=true):(∀R:St→Option Fin,evC cx0_rev (loopOf Tryz.f177 0) (st_rev i j l) (onward (headAt cx0_rev 2) R K)=res_rev i j l K) ∨
  (∃(i' j':Int) (l':List (Int)),pre_rev i' j' l'=true∧mu_rev i' j' l'<mu_rev i j l∧res_rev i' j' l' K=res_rev i j l K∧∀R:St→Option Fin,evC cx0_rev (loopOf Tryz.f177 0) (st_rev i j l) (onward (headAt cx0_rev 2) R K)=R (st_rev i' j' l')):=by
 have hx:=fun R=>x_rev l i j R K
 simp only[pre_rev,andd,dec_iff,ble_iff]at hI
 obtain⟨h0,h1,h2,h3,h4⟩:=hI
 obtain⟨x,rfl⟩:=Int.eq_ofNat_of_zero_le h0
 obtain⟨y,rfl⟩:=Int.eq_ofNat_of_zero_le h1
 have e:onL (Go.Sort.reverseLoop x y) l=if x<y then onL (Go.Sort.reverseLoop (x+1) (y-1)) (swL l x y)else l:=by
  unfold onL
  rw[Go.Sort.reverseLoop,sw_arr]
  split<;>rfl
 by_cases hi:x<y
 ·have w1:W64 ((x:Int)+1)=(x:Int)+1:=wrap_small (by omega) (by omega)
  have w2:W64 ((y:Int)-1)=(y:Int)-1:=wrap_small (by omega) (by omega)
  have b1:inb (x:Int) l.length=true:=inb_ok (by omega) (by omega)
  have b2:inb (y:Int) l.length=true:=inb_ok (by omega) (by omega)
  simp only[show (x:Int)<y by omega,decide_true,w1,w2,b1,b2,Int.toNat_natCast,List.length_set]at hx
  right
  refine⟨(x:Int)+1,(y:Int)-1,swL l x y, ?_, ?_, ?_,fun R=>(hx R).trans ?_⟩
  ·simp only[pre_rev,andd,dec_iff,ble_iff,swL_len];omega
  ·simp only[mu_rev];omega
  ·simp only[res_rev,Int.toNat_natCast,show ((x:Int)+1).toNat=x+1 by omega,show ((y:Int)-1).toNat=y-1 by omega,e,if_pos hi]
  ·rfl
 ·left
  intro R
  refine(hx R).trans ?_
  simp only[show ¬(x:Int)<y by omega,decide_false,res_rev,Int.toNat_natCast,e,if_neg hi];rfl
def g_rev:St→Cont→Option Fin:=gP sh_rev (fun v=>match v with | ((i,j,()),(l,()))=>pre_rev i j l) (fun v K=>match v with | ((i,j,()),(l,()))=>res_rev i j l K)
def L_rev:LpL:=(2,g_rev)::[]
def cx_rev:Cx:=(cb_rev).withLoops (look L_rev)
theorem l_rev {L:LpL} (n:Nat) (h1:L.drop n=[]) (h2:idsFree (L.take n) (loopOf Tryz.f177 0)=true):LoopsTo g_rev (cb_rev) (loopOf Tryz.f177 0) 2 L :=
 with_drop h1 h2 (gP_ok (fun v=>match v with | ((i,j,()),(l,()))=>mu_rev i j l) fun v K hI=>by
  obtain⟨⟨i,j,⟨⟩⟩,⟨l,⟨⟩⟩⟩:=v
  exact(r_rev i j l K hI).imp id fun⟨i',j',l',h⟩=>⟨((i',j',()),(l',())),h⟩)
theorem y_slices_reverseRangeOrdered_byte (l:List Int) (a:Int) (b:Int):evFn cx_rev Tryz.f177 false [.one (.own 0),ofD TI64 a,ofD TI64 b] [.lis 5 TU8 l]=(
need (pre_rev a (W64 (b-1)) l) <| some ((.tup []),[(0,(.some (.lis 5 TU8 (onL (Go.Sort.reverseLoop a.toNat (W64 (b-1)).toNat) l))))])):=by kernel_rfl
theorem s_slices_reverseRangeOrdered_byte (l:List (Int)) (_hl:Fit (.list TU8) l) (a:Int) (_ha:Fit TI64 a) (b:Int) (_hb:Fit TI64 b) (hpre:(decide (0≤a)&&(decide (a<b)&&(decide (b≤(List.length l:Int))&&Nat.ble (List.length l) 1000000)))=true):Sat Tryz.prog 177 [.one (.own 0),ofD TI64 a,ofD TI64 b] [.lis 5 TU8 l] (.tup []) [(0,some (.lis 5 TU8 (onL (fun d=>Go.Sort.reverseRange d a.toNat b.toNat) l)))] :=
 fn_sound (cx:=cx_rev) Tryz.func177 rfl ttOk Γ34ok mixed (fun c hc=>LoopsOk.all (l:=[(2,loopOf Tryz.f177 0)]) (by cases hc;kernel_rfl) ⟨atLoop rfl (l_rev 1 rfl (by kernel_rfl)),trivial⟩) (ro:=false) (by
  simp only[andd,dec_iff,ble_iff]at hpre
  obtain⟨h0,h1,h2,h3⟩:=hpre
  have w1:W64 (b-1)=b-1:=wrap_small (by omega) (by omega)
  have hp:pre_rev a (b-1) l=true:=by simp only[pre_rev,andd,dec_iff,ble_iff];omega
  rw[y_slices_reverseRangeOrdered_byte,w1,hp,show (b-1).toNat=b.toNat-1 by omega];rfl)
def c_slices_reverseRangeOrdered_byte:Con:=conL 5 TU8 [TI64,TI64] fun(l:List (Int)) (a:Int) (b:Int)=>(some (decide (0≤a)&&(decide (a<b)&&(decide (b≤(List.length l:Int))&&Nat.ble (List.length l) 1000000))), .tup [],onL (fun d=>Go.Sort.reverseRange d a.toNat b.toNat) l)
theorem k_slices_reverseRangeOrdered_byte:ConOk Tryz.prog 177 c_slices_reverseRangeOrdered_byte:=conL_ok rfl Tryz.call177 fun l hl a ha b hb hqq=>s_slices_reverseRangeOrdered_byte l hl a ha b hb (pre_of hqq)
def Γ35:GL:=(177,c_slices_reverseRangeOrdered_byte)::Γ34
theorem Γ35ok:GO Γ35 := .cons k_slices_reverseRangeOrdered_byte Γ34ok
abbrev oN (n:Int):Obj:=boxD 3 TI64 n
abbrev hLN (l:List Int) (n:Int):Heap:=[(0,some (.lis 5 TU8 l)),(1,some (oN n))]
def ord2 (l:List Int) (a b n:Int):Int×Int×Int:=bif ltI (l.getD b.toNat 0) (l.getD a.toNat 0)then(b,a,W64 (n+1))else(a,b,n)
theorem y_order2 (l:List Int) (a b n:Int):evFn (cxOf Γ35 Tryz.f197.ntmps [] [] [] []) Tryz.f197 false [.one (.own 0),ofD TI64 a,ofD TI64 b, .one (.ptr 1 0)] [.lis 5 TU8 l,oN n]=(
need (inb b l.length) <| need (inb a l.length) <| branch (ltI (l.getD b.toNat 0) (l.getD a.toNat 0)) (some (.tup [ofD TI64 b,ofD TI64 a],hLN l (W64 (n+1)))) (some (.tup [ofD TI64 a,ofD TI64 b],hLN l n))):=by kernel_rfl
theorem s_order2 (l:List Int) (a b n:Int) (h:(inb a l.length&&inb b l.length)=true):Sat Tryz.prog 197 [.one (.own 0),ofD TI64 a,ofD TI64 b, .one (.ptr 1 0)] [.lis 5 TU8 l,oN n] (.tup [ofD TI64 (ord2 l a b n).1,ofD TI64 (ord2 l a b n).2.1]) (hLN l (ord2 l a b n).2.2) :=
 fn_sound (cx:=cxOf Γ35 Tryz.f197.ntmps [] [] [] []) Tryz.func197 rfl ttOk Γ35ok mixed (fun _ _=>LoopsOk.no fun _=>rfl) (ro:=false) (by
  obtain⟨h1,h2⟩:=andd.1 h
  rw[y_order2,h1,h2]
  unfold ord2
  cases ltI (l.getD b.toNat 0) (l.getD a.toNat 0)<;>rfl)
def c_slices_order2Ordered_byte:Con:=⟨false,fun ds os=>match ds,os with
 | [.one (.own 0), .one (.r (.v (.int .i64 a))), .one (.r (.v (.int .i64 b))), .one (.ptr 1 0)],[o,p]=>match exLis 5 TU8 (some o),exBox 3 TI64 (some p)with
  |some l,some n=>some (some (inb a (List.length l)&&inb b (List.length l)), .tup [ofD TI64 (ord2 l a b n).1,ofD TI64 (ord2 l a b n).2.1],hLN l (ord2 l a b n).2.2)
  |_,_=>none
 |_,_=>none⟩
theorem k_slices_order2Ordered_byte:ConOk Tryz.prog 197 c_slices_order2Ordered_byte:=by
 refine⟨Tryz.call197,fun ds os c x objs hc hok => ?_⟩
 unfold c_slices_order2Ordered_byte at hc
 dsimp only at hc
 split at hc
 ·split at hc
  ·rename_i l n e1 e2
   cases hc
   have e1:=Option.some.inj (exLis_some e1)
   have e2:=Option.some.inj (exBox_some e2)
   subst e1;subst e2
   exact s_order2 l _ _ n (pre_of hok)
  ·cases hc
 ·cases hc
def Γ36:GL:=(197,c_slices_order2Ordered_byte)::Γ35
theorem Γ36ok:GO Γ36 := .cons k_slices_order2Ordered_byte Γ35ok
def med (l:List Int) (a b c n:Int):Int×Int :=
 let r1:=ord2 l a b n
 let r2:=ord2 l r1.2.1 c r1.2.2
 let r3:=ord2 l r1.1 r2.1 r2.2.2
 (r3.2.1,r3.2.2)
theorem ord2_in (l:List Int) (a b n:Int) (k:Nat):(inb a k&&inb b k)=true→inb (ord2 l a b n).1 k=true∧inb (ord2 l a b n).2.1 k=true:=by
 intro h
 obtain⟨h1,h2⟩:=andd.1 h
 unfold ord2
 cases ltI (l.getD b.toNat 0) (l.getD a.toNat 0)
 ·exact ⟨h1,h2⟩
 ·exact ⟨h2,h1⟩
theorem y_median (l:List Int) (a b c n:Int):evFn (cxOf Γ36 Tryz.f193.ntmps [] [] [] []) Tryz.f193 false [.one (.own 0),ofD TI64 a,ofD TI64 b,ofD TI64 c, .one (.ptr 1 0)] [.lis 5 TU8 l,oN n]=(
need (inb a l.length&&inb b l.length) <| need (inb (ord2 l a b n).2.1 l.length&&inb c l.length) <| need (inb (ord2 l a b n).1 l.length&&inb (ord2 l (ord2 l a b n).2.1 c (ord2 l a b n).2.2).1 l.length) <| some (vI (med l a b c n).1,hLN l (med l a b c n).2)):=by kernel_rfl
theorem s_median (l:List Int) (a b c n:Int) (h:(inb a l.length&&(inb b l.length&&inb c l.length))=true):Sat Tryz.prog 193 [.one (.own 0),ofD TI64 a,ofD TI64 b,ofD TI64 c, .one (.ptr 1 0)] [.lis 5 TU8 l,oN n] (vI (med l a b c n).1) (hLN l (med l a b c n).2) :=
 fn_sound (cx:=cxOf Γ36 Tryz.f193.ntmps [] [] [] []) Tryz.func193 rfl ttOk Γ36ok mixed (fun _ _=>LoopsOk.no fun _=>rfl) (ro:=false) (by
  obtain⟨h1,h2⟩:=andd.1 h
  obtain⟨h2,h3⟩:=andd.1 h2
  have g1:=ord2_in l a b n l.length (andd.2 ⟨h1,h2⟩)
  have g2:=ord2_in l (ord2 l a b n).2.1 c (ord2 l a b n).2.2 l.length (andd.2 ⟨g1.2,h3⟩)
  rw[y_median,h1,h2,h3,g1.1,g1.2,g2.1];rfl)
def c_slices_medianOrdered_byte:Con:=⟨false,fun ds os=>match ds,os with
 | [.one (.own 0), .one (.r (.v (.int .i64 a))), .one (.r (.v (.int .i64 b))), .one (.r (.v (.int .i64 c))), .one (.ptr 1 0)],[o,p]=>match exLis 5 TU8 (some o),exBox 3 TI64 (some p)with
  |some l,some n=>some (some (inb a (List.length l)&&(inb b (List.length l)&&inb c (List.length l))),vI (med l a b c n).1,hLN l (med l a b c n).2)
  |_,_=>none
 |_,_=>none⟩
theorem k_slices_medianOrdered_byte:ConOk Tryz.prog 193 c_slices_medianOrdered_byte:=by
 refine⟨Tryz.call193,fun ds os c x objs hc hok => ?_⟩
 unfold c_slices_medianOrdered_byte at hc
 dsimp only at hc
 split at hc
 ·split at hc
  ·rename_i l n e1 e2
   cases hc
   have e1:=Option.some.inj (exLis_some e1)
   have e2:=Option.some.inj (exBox_some e2)
   subst e1;subst e2
   exact s_median l _ _ _ n (pre_of hok)
  ·cases hc
 ·cases hc
def Γ37:GL:=(193,c_slices_medianOrdered_byte)::Γ36
theorem Γ37ok:GO Γ37 := .cons k_slices_medianOrdered_byte Γ36ok
abbrev chI (a b k:Int):Int:=W64 (a+W64 (W64 ((W64 (b-a)).tdiv 4)*k))
def hintV (n:Int):Int:=bif decide (n=0)then 1 else bif decide (n=12)then 2 else 0
abbrev chM (l:List Int) (a b:Int):Int×Int:=med l (chI a b 1) (chI a b 2) (chI a b 3) 0
theorem y_choosePivot (l:List Int) (a b:Int):∃z,evFn (cxOf Γ37 Tryz.f176.ntmps [] [(0,[6,7]),(1000000,[6,7])] [] []) Tryz.f176 false [.one (.own 0),ofD TI64 a,ofD TI64 b] [.lis 5 TU8 l] =
 branch (decide (8≤W64 (b-a))) (branch (decide (50≤W64 (b-a))) none
  (need (inb (chI a b 1) l.length&&(inb (chI a b 2) l.length&&inb (chI a b 3) l.length))
   (branch (decide ((chM l a b).2=0)) (some (.tup [ofD TI64 (chM l a b).1,ofD TI64 (1:Int)],[(0,some (.lis 5 TU8 l))]))
    (branch (decide ((chM l a b).2=12)) (some (.tup [ofD TI64 (chM l a b).1,ofD TI64 (2:Int)],[(0,some (.lis 5 TU8 l))]))
     (some (.tup [ofD TI64 (chM l a b).1,ofD TI64 (0:Int)],[(0,some (.lis 5 TU8 l))])))))) z :=
 ⟨some (.tup [ofD TI64 (chI a b 2),ofD TI64 (1:Int)],[(0,some (.lis 5 TU8 l))]),by kernel_rfl⟩
theorem chI_eq {a b k:Int} (h0:0≤a) (h1:a≤b) (h2:b≤1000000) (h3:0≤k) (h4:k≤3):chI a b k=a+(b-a) / 4*k∧a≤chI a b k∧(12<b-a→chI a b k<b):=by
 have w1:W64 (b-a)=b-a:=wrap_small (by omega) (by omega)
 have e:(b-a).tdiv 4=(b-a) / 4:=Int.tdiv_eq_ediv_of_nonneg (by omega)
 have w2:W64 ((b-a) / 4)=(b-a) / 4:=wrap_small (by omega) (by omega)
 have hk:k=0∨k=1∨k=2∨k=3:=by omega
 have w3:W64 ((b-a) / 4*k)=(b-a) / 4*k:=by rcases hk with rfl | rfl | rfl | rfl<;>exact wrap_small (by omega) (by omega)
 have w4:W64 (a+(b-a) / 4*k)=a+(b-a) / 4*k:=by rcases hk with rfl | rfl | rfl | rfl<;>exact wrap_small (by omega) (by omega)
 have e4:chI a b k=a+(b-a) / 4*k:=by unfold chI;rw[w1,e,w2,w3,w4]
 refine⟨e4, ?_, ?_⟩<;>rw[e4]<;>rcases hk with rfl | rfl | rfl | rfl<;>omega
theorem med_in (l:List Int) (a b c n:Int) (p:Int→Prop) (ha:p a) (hb:p b) (hc:p c):p (med l a b c n).1:=by
 have key:∀x y n,p x→p y→p (ord2 l x y n).1∧p (ord2 l x y n).2.1:=by
  intro x y n hx hy
  unfold ord2
  cases ltI (l.getD y.toNat 0) (l.getD x.toNat 0)
  ·exact ⟨hx,hy⟩
  ·exact ⟨hy,hx⟩
 unfold med
 have k1:=key a b n ha hb
 have k2:=key _ c (ord2 l a b n).2.2 k1.2 hc
 exact(key _ _ _ k1.1 k2.1).2
theorem s_slices_choosePivotOrdered_byte (l:List (Int)) (_hl:Fit (.list TU8) l) (a:Int) (_ha:Fit TI64 a) (b:Int) (_hb:Fit TI64 b) (hpre:(decide (0≤a)&&(decide (12<b-a)&&(decide (b-a<50)&&(decide (b≤(List.length l:Int))&&Nat.ble (List.length l) 1000000))))=true):Sat Tryz.prog 176 [.one (.own 0),ofD TI64 a,ofD TI64 b] [.lis 5 TU8 l] (.tup [ofD TI64 (chM l a b).1,ofD TI64 (hintV (chM l a b).2)]) [(0,some (.lis 5 TU8 (l)))] :=
 fn_sound (cx:=cxOf Γ37 Tryz.f176.ntmps [] [(0,[6,7]),(1000000,[6,7])] [] []) Tryz.func176 rfl ttOk Γ37ok mixed (fun _ _=>LoopsOk.no fun _=>rfl) (ro:=false) (by
  simp only[andd,dec_iff,ble_iff]at hpre
  obtain⟨h0,h1,h2,h3,h4⟩:=hpre
  obtain⟨z,hz⟩:=y_choosePivot l a b
  have w1:W64 (b-a)=b-a:=wrap_small (by omega) (by omega)
  have q:∀k:Int,0≤k→k≤3→inb (chI a b k) l.length=true:=fun k g1 g2=>by
   obtain⟨_,g3,g4⟩:=chI_eq (a:=a) (b:=b) h0 (by omega) (by omega) g1 g2
   exact inb_ok (by omega) (by have:=g4 h1;omega)
  rw[hz,q 1 (by omega) (by omega),q 2 (by omega) (by omega),q 3 (by omega) (by omega),w1,decide_eq_true (by omega:(8:Int)≤b-a),decide_eq_false (by omega:¬(50:Int)≤b-a)]
  show branch _ _ _=_
  unfold hintV
  cases decide ((chM l a b).2=0)
  ·cases decide ((chM l a b).2=12)<;>rfl
  ·rfl)
def c_slices_choosePivotOrdered_byte:Con:=conL 5 TU8 [TI64,TI64] fun(l:List (Int)) (a:Int) (b:Int)=>(some (decide (0≤a)&&(decide (12<b-a)&&(decide (b-a<50)&&(decide (b≤(List.length l:Int))&&Nat.ble (List.length l) 1000000)))), .tup [ofD TI64 (chM l a b).1,ofD TI64 (hintV (chM l a b).2)],l)
theorem k_slices_choosePivotOrdered_byte:ConOk Tryz.prog 176 c_slices_choosePivotOrdered_byte:=conL_ok rfl Tryz.call176 fun l hl a ha b hb hqq=>s_slices_choosePivotOrdered_byte l hl a ha b hb (pre_of hqq)
def Γ38:GL:=(176,c_slices_choosePivotOrdered_byte)::Γ37
theorem Γ38ok:GO Γ38 := .cons k_slices_choosePivotOrdered_byte Γ37ok
abbrev TU64:Ty := .int .u64
def lenTab:Str:=List.replicate 1 0++(List.replicate 1 1++(List.replicate 2 2++(List.replicate 4 3++(List.replicate 8 4++(List.replicate 16 5++(List.replicate 32 6++(List.replicate 64 7++List.replicate 128 8)))))))
def lenW (x n:Int):Int:=W64 (n+W64 (byteAt lenTab (IntKind.u8.wrap x)))
def lenV (x:Int):Int:=lenW x 0
def len8 (x n:Int):Option Fin:=need (inb (IntKind.u8.wrap x) 256) (some (vI (lenW x n),[]))
def len16 (x n:Int):Option Fin:=branch (decide (256≤x)) (len8 (x.fdiv (2 ^ 8)) (W64 (n+8))) (len8 x n)
def len32 (x n:Int):Option Fin:=branch (decide (65536≤x)) (len16 (x.fdiv (2 ^ 16)) (W64 (n+16))) (len16 x n)
theorem y_Len64 (x:Int):evFn (cxOf Γ38 Tryz.f183.ntmps [] [] [] []) Tryz.f183 true [ofD TU64 x] []=(
branch (decide (4294967296≤x)) (len32 (x.fdiv (2 ^ 32)) 32) (len32 x 0)):=by kernel_rfl
theorem len_tab (n:Nat) (h:n<64):lenV n=((if n=0 then 0 else Nat.log2 n+1:Nat):Int)∧n<2 ^ (lenV n).toNat∧2 ^ (lenV n).toNat≤max 1 (2*n):=by
 have key:∀m:_root_.Fin 64,lenV (m:Nat)=((if (m:Nat)=0 then 0 else Nat.log2 m+1:Nat):Int)∧(m:Nat)<2 ^ (lenV (m:Nat)).toNat∧2 ^ (lenV (m:Nat)).toNat≤max 1 (2*(m:Nat)):=by decide +kernel
 exact key ⟨n,h⟩
theorem s_math_bits_Len64 (x:Int) (_hx:Fit TU64 x) (hpre:(decide (0≤x)&&decide (x<64))=true):Sat Tryz.prog 183 [ofD TU64 x] [] (.d (ofD TI64 (lenV x))) [] :=
 fn_sound (cx:=cxOf Γ38 Tryz.f183.ntmps [] [] [] []) Tryz.func183 rfl ttOk Γ38ok mixed (fun _ _=>LoopsOk.no fun _=>rfl) (ro:=true) (by
  obtain⟨h0,h1⟩:=andd.1 hpre
  have h0:=dec_iff.1 h0
  have h1:=dec_iff.1 h1
  have hw:IntKind.u8.wrap x=x:=by rw[IntKind.wrap_u8];omega
  rw[y_Len64,decide_eq_false (by omega:¬ 4294967296≤x)]
  show len32 x 0=_
  unfold len32
  rw[decide_eq_false (by omega:¬ 65536≤x)]
  show len16 x 0=_
  unfold len16
  rw[decide_eq_false (by omega:¬ 256≤x)]
  show len8 x 0=_
  unfold len8
  rw[hw,inb_ok h0 (by omega)];rfl)
def c_math_bits_Len64:Con:=conT [TU64] fun(x:Int)=>(some (decide (0≤x)&&decide (x<64)), .d (ofD TI64 (lenV x)))
theorem k_math_bits_Len64:ConOk Tryz.prog 183 c_math_bits_Len64:=conT_ok Tryz.call183 fun x hx hqq=>s_math_bits_Len64 x hx (pre_of hqq)
def Γ39:GL:=(183,c_math_bits_Len64)::Γ38
theorem Γ39ok:GO Γ39 := .cons k_math_bits_Len64 Γ38ok
theorem s_math_bits_Len (x:Int) (_hx:Fit TU64 x) (hpre:(decide (0≤x)&&decide (x<64))=true):Sat Tryz.prog 157 [ofD TU64 x] [] (.d (ofD TI64 (lenV x))) [] :=
 fn_sound (cx:=cxOf Γ39 Tryz.f157.ntmps [] [] [] []) Tryz.func157 rfl ttOk Γ39ok mixed (fun _ _=>LoopsOk.no fun _=>rfl) (ro:=true) (by
  have y:evFn (cxOf Γ39 Tryz.f157.ntmps [] [] [] []) Tryz.f157 true [ofD TU64 x] []=need (decide (0≤x)&&decide (x<64)) (some (vI (lenV x),[])):=by kernel_rfl
  rw[y,hpre];rfl)
def c_math_bits_Len:Con:=conT [TU64] fun(x:Int)=>(some (decide (0≤x)&&decide (x<64)), .d (ofD TI64 (lenV x)))
theorem k_math_bits_Len:ConOk Tryz.prog 157 c_math_bits_Len:=conT_ok Tryz.call157 fun x hx hqq=>s_math_bits_Len x hx (pre_of hqq)
def Γ40:GL:=(157,c_math_bits_Len)::Γ39
theorem Γ40ok:GO Γ40 := .cons k_math_bits_Len Γ39ok
def powV (x:Int):Int:=IntKind.u64.wrap (1*2 ^ (min (lenV (IntKind.u64.wrap x)).toNat 64))
theorem y_nextPow (x:Int):evFn (cxOf Γ40 Tryz.f190.ntmps [] [] [] []) Tryz.f190 true [ofD TI64 x] []=need (decide (0≤IntKind.u64.wrap x)&&decide (IntKind.u64.wrap x<64)) (need (decide (0≤lenV (IntKind.u64.wrap x))) (some (.d (ofD TU64 (powV x)),[]))):=by kernel_rfl
theorem s_slices_nextPowerOfTwo (x:Int) (_hx:Fit TI64 x) (hpre:(decide (0≤x)&&decide (x<64))=true):Sat Tryz.prog 190 [ofD TI64 x] [] (.d (ofD TU64 (powV x))) [] :=
 fn_sound (cx:=cxOf Γ40 Tryz.f190.ntmps [] [] [] []) Tryz.func190 rfl ttOk Γ40ok mixed (fun _ _=>LoopsOk.no fun _=>rfl) (ro:=true) (by
  obtain⟨h0,h1⟩:=andd.1 hpre
  have h0:=dec_iff.1 h0
  have h1:=dec_iff.1 h1
  have hw:IntKind.u64.wrap x=x:=by simp only[IntKind.wrap,IntKind.bits,IntKind.signed];simp;omega
  obtain⟨n,rfl⟩:=Int.eq_ofNat_of_zero_le h0
  have hl:=(len_tab n (by omega)).1
  rw[y_nextPow,hw,decide_eq_true h0,decide_eq_true h1,decide_eq_true (by omega)];rfl)
def c_slices_nextPowerOfTwo:Con:=conT [TI64] fun(x:Int)=>(some (decide (0≤x)&&decide (x<64)), .d (ofD TU64 (powV x)))
theorem k_slices_nextPowerOfTwo:ConOk Tryz.prog 190 c_slices_nextPowerOfTwo:=conT_ok Tryz.call190 fun x hx hqq=>s_slices_nextPowerOfTwo x hx (pre_of hqq)
theorem pow_in (n:Nat) (h:n<64):1≤powV n∧powV n≤max 1 (2*(n:Int)):=by
 have key:∀m:_root_.Fin 64,1≤powV (m:Nat)∧powV (m:Nat)≤max 1 (2*((m:Nat):Int)):=by decide +kernel
 exact key ⟨n,h⟩
def Γ41:GL:=(190,c_slices_nextPowerOfTwo)::Γ40
theorem Γ41ok:GO Γ41 := .cons k_slices_nextPowerOfTwo Γ40ok
def xo (x y:Int):Int:=IntKind.u64.wrap ((BitVec.ofInt 64 x ^^^ BitVec.ofInt 64 y).toNat:Int)
def xr (r:Int):Int :=
 let r1:=xo r (IntKind.u64.wrap (r*2 ^ 13))
 let r2:=xo r1 (r1.fdiv (2 ^ 7))
 xo r2 (IntKind.u64.wrap (r2*2 ^ 17))
theorem y_Next (r:Int):evFn (cxOf Γ41 Tryz.f191.ntmps [] [] [] []) Tryz.f191 false [.one (.ptr 0 0)] [boxD 192 TU64 r]=some (.d (ofD TU64 (xr r)),[(0,some (boxD 192 TU64 (xr r)))]):=by kernel_rfl
theorem s_Next (r:Int):Sat Tryz.prog 191 [.one (.ptr 0 0)] [boxD 192 TU64 r] (.d (ofD TU64 (xr r))) [(0,some (boxD 192 TU64 (xr r)))] :=
 fn_sound (cx:=cxOf Γ41 Tryz.f191.ntmps [] [] [] []) Tryz.func191 rfl ttOk Γ41ok mixed (fun _ _=>LoopsOk.no fun _=>rfl) (ro:=false) (y_Next r)
def c_slices_xorshift_Next:Con:=conB 192 TU64 [] fun(r:Int)=>(none, .d (ofD TU64 (xr r)),xr r)
theorem k_slices_xorshift_Next:ConOk Tryz.prog 191 c_slices_xorshift_Next:=conB_ok Tryz.call191 fun r _ _=>s_Next r
def Γ42:GL:=(191,c_slices_xorshift_Next)::Γ41
theorem Γ42ok:GO Γ42 := .cons k_slices_xorshift_Next Γ41ok
def cb_brk:Cx:=cxOf Γ42 Tryz.f175.ntmps [(5,[0,1,6,7,8,9])] [(0,[]),(1,[0,1,6,7,8,9])] [] []
def othV (r m:Int):Int:=W64 (IntKind.u64.wrap (((BitVec.ofInt IntKind.u64.bits (xr r)).and (BitVec.ofInt IntKind.u64.bits (IntKind.u64.wrap (m-1)))).toNat:Int))
theorem oth_in {r m:Int} (h0:1≤m) (h1:m≤1000):0≤othV r m∧othV r m<m:=by
 have hw:IntKind.u64.wrap (m-1)=m-1:=by simp only[IntKind.wrap,IntKind.bits,IntKind.signed];simp;omega
 have hb:(BitVec.ofInt IntKind.u64.bits (m-1)).toNat=(m-1).toNat:=by
  show(BitVec.ofInt 64 (m-1)).toNat=_
  rw[BitVec.toNat_ofInt]
  rw[Int.emod_eq_of_lt (by omega) (by simp;omega)]
 have hn:((BitVec.ofInt IntKind.u64.bits (xr r)).and (BitVec.ofInt IntKind.u64.bits (m-1))).toNat≤(m-1).toNat:=by
  show((BitVec.ofInt IntKind.u64.bits (xr r)) &&& (BitVec.ofInt IntKind.u64.bits (m-1))).toNat≤_
  rw[BitVec.toNat_and,hb]
  exact Nat.and_le_right
 unfold othV
 rw[hw]
 generalize ((BitVec.ofInt IntKind.u64.bits (xr r)).and (BitVec.ofInt IntKind.u64.bits (m-1))).toNat=q at hn
 have h2:IntKind.u64.wrap (q:Int)=q:=by simp only[IntKind.wrap,IntKind.bits,IntKind.signed];simp;omega
 rw[h2,show W64 (q:Int)=q from wrap_small (by omega) (by omega)]
 omega
theorem x_brk (l:List Int) (a n r m i:Int) (R:St→Option Fin) (K:Cont):evC (cb_brk.withLoops (look [])) (loopOf Tryz.f175 0) ⟨[(0, .d (.one (.own 0))),(1,vI a),(6,vI n),(7, pA),(8, .d (ofD TU64 m)),(9,vI i)],[(0,some (.lis 5 TU8 l)),(500000,some (boxD 192 TU64 r))]⟩ (onward (headAt (cb_brk.withLoops (look [])) 5) R K)=(
branch (decide (i≤W64 (W64 (a+W64 (W64 (n.tdiv 4)*2))+1))) (
 branch (decide (n≤othV r m)) (
 need (inb (W64 (a+W64 (othV r m-n))) l.length) <|
 need (inb i l.length) <|
 need (inb i l.length) <|
 need (inb (W64 (a+W64 (othV r m-n))) (l.set i.toNat (l.getD (W64 (a+W64 (othV r m-n))).toNat 0)).length) <| R ⟨[(0, .d (.one (.own 0))),(1,vI a),(6,vI n),(7, pA),(8, .d (ofD TU64 m)),(9,vI (W64 (i+1)))],[(0,some (.lis 5 TU8 (swL l i.toNat (W64 (a+W64 (othV r m-n))).toNat))),(500000,some (boxD 192 TU64 (xr r)))]⟩) (
 need (inb (W64 (a+othV r m)) l.length) <|
 need (inb i l.length) <|
 need (inb i l.length) <|
 need (inb (W64 (a+othV r m)) (l.set i.toNat (l.getD (W64 (a+othV r m)).toNat 0)).length) <| R ⟨[(0, .d (.one (.own 0))),(1,vI a),(6,vI n),(7, pA),(8, .d (ofD TU64 m)),(9,vI (W64 (i+1)))],[(0,some (.lis 5 TU8 (swL l i.toNat (W64 (a+othV r m)).toNat))),(500000,some (boxD 192 TU64 (xr r)))]⟩)) (K (.exit 0) ⟨[],[(0,some (.lis 5 TU8 l))]⟩)):=by kernel_rfl
def permL (a b:Nat) (l m:List Int):Prop:=Go.Sort.PermIn a b l.toArray m.toArray
theorem permL_len {a b:Nat} {l m:List Int} (h:permL a b l m):m.length=l.length:=h.1
theorem permL_sw {a b i j:Nat} {l:List Int} (h0:a≤i) (h1:i<b) (h2:a≤j) (h3:j<b) (h4:b≤l.length):permL a b l (swL l i j):=by
 unfold permL
 rw[← sw_arr]
 exact Go.Sort.swp_permIn _ _ _ _ _ h0 h1 h2 h3 h4
theorem permL_refl (a b:Nat) (l:List Int):permL a b l l:=Go.Sort.permIn_refl _ _ _
theorem permL_trans {a b:Nat} {l m n:List Int} (h:permL a b l m) (g:permL a b m n):permL a b l n:=Go.Sort.permIn_trans _ _ _ _ _ h g
def cx0_brk:Cx:=cb_brk
def sh_brk:Sh:=([(0, .own 0),(1, .d TI64),(6, .d TI64),(7, .ptr 500000 0),(8, .d TU64),(9, .d TI64)],[(0, .lis 5 TU8),(500000, .box 192 TU64)])
abbrev st_brk (a:Int) (n:Int) (m:Int) (i:Int) (l:List (Int)) (r:Int):St:=⟨[(0, .d (.one (.own 0))),(1,vI a),(6,vI n),(7, .d (.one (.ptr 500000 0))),(8, .d (ofD TU64 m)),(9,vI i)],[(0,some (.lis 5 TU8 l)),(500000,some (boxD 192 TU64 r))]⟩
def V_brk (a:Int) (n:Int) (m:Int) (i:Int) (l:List (Int)) (r:Int):sh_brk.V:=((a,n,m,i,()),(l,r,()))
def out_brk (o:List Int):St:=⟨[],[(0,some (.lis 5 TU8 o))]⟩
def inv_brk (a:Int) (n:Int) (m:Int) (i:Int) (l:List (Int)) (_r:Int):Bool:=decide (0≤a)&&(decide (8≤n)&&(decide (n<64)&&(decide (1≤m)&&(decide (m≤2*n)&&(decide (a≤i)&&(decide (a+n≤(List.length l:Int))&&Nat.ble (List.length l) 1000000))))))
def post_brk (a:Int) (n:Int) (_m:Int) (_i:Int) (l:List (Int)) (_r:Int) (o:List Int):Prop:=permL a.toNat (a+n).toNat l o
def mu_brk (a:Int) (n:Int) (_m:Int) (i:Int) (_l:List (Int)) (_r:Int):Nat:=(a+n-i).toNat
theorem r_brk (a:Int) (n:Int) (m:Int) (i:Int) (l:List (Int)) (r:Int) (hI:inv_brk a n m i l r=true):(∃o:List Int,post_brk a n m i l r o∧∀(R:St→Option Fin) (K:Cont),evC cx0_brk (loopOf Tryz.f175 0) (st_brk a n m i l r) (onward (headAt cx0_brk 5) R K)=K (.exit 0) (out_brk o)) ∨
  (∃(a':Int) (n':Int) (m':Int) (i':Int) (l':List (Int)) (r':Int),inv_brk a' n' m' i' l' r'=true∧mu_brk a' n' m' i' l' r'<mu_brk a n m i l r∧(∀o,post_brk a' n' m' i' l' r' o→post_brk a n m i l r o)∧∀(R:St→Option Fin) (K:Cont),evC cx0_brk (loopOf Tryz.f175 0) (st_brk a n m i l r) (onward (headAt cx0_brk 5) R K)=R (st_brk a' n' m' i' l' r')):=by
 have hx:=fun R K=>x_brk l a n r m i R K
 simp only[inv_brk,andd,dec_iff,ble_iff]at hI
 obtain⟨h0,h1,h2,h3,h4,h5,h6,h7⟩:=hI
 have w0:W64 (W64 (a+W64 (W64 (n.tdiv 4)*2))+1)=a+n / 4*2+1:=by
  rw[Int.tdiv_eq_ediv_of_nonneg (by omega)]
  rw[show W64 (n / 4)=n / 4 from wrap_small (by omega) (by omega),show W64 (n / 4*2)=n / 4*2 from wrap_small (by omega) (by omega),show W64 (a+n / 4*2)=a+n / 4*2 from wrap_small (by omega) (by omega)]
  exact wrap_small (by omega) (by omega)
 rw[w0]at hx
 obtain⟨o0,o1⟩:=oth_in (r:=r) h3 (by omega:m≤1000)
 by_cases hi:i≤a+n / 4*2+1
 ·right
  have wi:W64 (i+1)=i+1:=wrap_small (by omega) (by omega)
  have bi:inb i l.length=true:=inb_ok (by omega) (by omega)
  have fin:∀k:Int,0≤k→k<n→(∀(R:St→Option Fin) (K:Cont),branch (decide (n≤othV r m)) (
    need (inb (W64 (a+W64 (othV r m-n))) l.length) <| need (inb i l.length) <| need (inb i l.length) <|
    need (inb (W64 (a+W64 (othV r m-n))) (l.set i.toNat (l.getD (W64 (a+W64 (othV r m-n))).toNat 0)).length) <| R ⟨[(0, .d (.one (.own 0))),(1,vI a),(6,vI n),(7, pA),(8, .d (ofD TU64 m)),(9,vI (W64 (i+1)))],[(0,some (.lis 5 TU8 (swL l i.toNat (W64 (a+W64 (othV r m-n))).toNat))),(500000,some (boxD 192 TU64 (xr r)))]⟩) (
    need (inb (W64 (a+othV r m)) l.length) <| need (inb i l.length) <| need (inb i l.length) <|
    need (inb (W64 (a+othV r m)) (l.set i.toNat (l.getD (W64 (a+othV r m)).toNat 0)).length) <| R ⟨[(0, .d (.one (.own 0))),(1,vI a),(6,vI n),(7, pA),(8, .d (ofD TU64 m)),(9,vI (W64 (i+1)))],[(0,some (.lis 5 TU8 (swL l i.toNat (W64 (a+othV r m)).toNat))),(500000,some (boxD 192 TU64 (xr r)))]⟩)
    = R ⟨[(0, .d (.one (.own 0))),(1,vI a),(6,vI n),(7, pA),(8, .d (ofD TU64 m)),(9,vI (i+1))],[(0,some (.lis 5 TU8 (swL l i.toNat (a+k).toNat))),(500000,some (boxD 192 TU64 (xr r)))]⟩) →
    ∃a' n' m' i' l' r',inv_brk a' n' m' i' l' r'=true∧mu_brk a' n' m' i' l' r'<mu_brk a n m i l r∧(∀o,post_brk a' n' m' i' l' r' o→post_brk a n m i l r o)∧∀(R:St→Option Fin) (K:Cont),evC cx0_brk (loopOf Tryz.f175 0) ⟨[(0, .d (.one (.own 0))),(1,vI a),(6,vI n),(7, pA),(8, .d (ofD TU64 m)),(9,vI i)],[(0,some (.lis 5 TU8 l)),(500000,some (boxD 192 TU64 r))]⟩ (onward (headAt cx0_brk 5) R K)=R ⟨[(0, .d (.one (.own 0))),(1, .d (ofD TI64 a')),(6, .d (ofD TI64 n')),(7, pA),(8, .d (ofD TU64 m')),(9, .d (ofD TI64 i'))],[(0,some (.lis 5 TU8 l')),(500000,some (boxD 192 TU64 r'))]⟩:=by
   intro k k0 k1 hk
   have hp:permL a.toNat (a+n).toNat l (swL l i.toNat (a+k).toNat):=permL_sw (by omega) (by omega) (by omega) (by omega) (by omega)
   refine⟨a,n,m,i+1,swL l i.toNat (a+k).toNat,xr r, ?_, ?_, ?_,fun R K=>(hx R K).trans ?_⟩
   ·simp only[inv_brk,andd,dec_iff,ble_iff,swL_len];omega
   ·simp only[mu_brk];omega
   ·intro o ho
    exact permL_trans hp ho
   ·rw[decide_eq_true hi,branch_true]
    exact hk R K
  by_cases ho:n≤othV r m
  ·have w1:W64 (othV r m-n)=othV r m-n:=wrap_small (by omega) (by omega)
   have w2:W64 (a+(othV r m-n))=a+(othV r m-n):=wrap_small (by omega) (by omega)
   refine fin (othV r m-n) (by omega) (by omega) fun R K => ?_
   have b1:inb (a+(othV r m-n)) l.length=true:=inb_ok (by omega) (by omega)
   rw[decide_eq_true ho,branch_true]
   simp only[w1,w2,wi,bi,b1,List.length_set,need_t]
  ·have w2:W64 (a+othV r m)=a+othV r m:=wrap_small (by omega) (by omega)
   refine fin (othV r m) (by omega) (by omega) fun R K => ?_
   have b1:inb (a+othV r m) l.length=true:=inb_ok (by omega) (by omega)
   rw[decide_eq_false ho,branch_false]
   simp only[w2,wi,bi,b1,List.length_set,need_t]
 ·left
  refine⟨l,permL_refl _ _ _,fun R K => ?_⟩
  refine(hx R K).trans ?_
  rw[decide_eq_false hi];rfl
def I_brk:sh_brk.V→Bool:=fun v=>match v with | ((a,n,m,i,()),(l,r,()))=>inv_brk a n m i l r
def P_brk:sh_brk.V→List Int→Prop:=fun v o=>match v with | ((a,n,m,i,()),(l,r,()))=>post_brk a n m i l r o
def M_brk:sh_brk.V→Nat:=fun v=>match v with | ((a,n,m,i,()),(l,r,()))=>mu_brk a n m i l r
theorem a_brk:∀v:sh_brk.V,I_brk v=true→∃o,P_brk v o∧∀K r,K (.exit 0) (out_brk o)=some r→∃N,iter (evC cx0_brk (loopOf Tryz.f175 0)) (headAt cx0_brk 5) N (sh_brk.mk v) K=some r :=
 loop_any (fun v=>I_brk v=true) P_brk (.exit 0) M_brk fun v hI=>by
  obtain⟨⟨(a:Int),(n:Int),(m:Int),(i:Int),⟨⟩⟩,⟨(l:List (Int)),(r:Int),⟨⟩⟩⟩:=v
  rcases r_brk a n m i l r hI with⟨o,h1,h2⟩ | ⟨a',n',m',i',l',r',h1,h2,h3,h4⟩
  ·exact .inl ⟨o,h1,h2⟩
  ·exact .inr ⟨V_brk a' n' m' i' l' r',h1,h2,h3,h4⟩
def g_brk:St→Cont→Option Fin:=gEnd sh_brk I_brk out_brk (evC cx0_brk (loopOf Tryz.f175 0)) (headAt cx0_brk 5) P_brk (.exit 0)
def E_brk (a:Int) (n:Int) (m:Int) (i:Int) (l:List (Int)) (r:Int):List Int:=endOf sh_brk.mk out_brk (evC cx0_brk (loopOf Tryz.f175 0)) (headAt cx0_brk 5) P_brk (.exit 0) (V_brk a n m i l r)
theorem q_brk (a:Int) (n:Int) (m:Int) (i:Int) (l:List (Int)) (r:Int) (hI:inv_brk a n m i l r=true):post_brk a n m i l r (E_brk a n m i l r):=(endOf_spec (a_brk (V_brk a n m i l r) hI)).1
def cx_brk:Cx:=cx0_brk.withLoops (look [(5,g_brk)])
theorem l_brk:∀st K r,g_brk st K=some r→∃N,iter (evC cx_brk (loopOf Tryz.f175 0)) (headAt cx_brk 5) N st K=some r:=with_ok (by kernel_rfl) (gEnd_ok a_brk)
theorem y_slices_breakPatternsOrdered_byte (l:List Int) (a:Int) (b:Int):evFn cx_brk Tryz.f175 false [.one (.own 0),ofD TI64 a,ofD TI64 b] [.lis 5 TU8 l]=(
branch (decide (8≤W64 (b-a))) (
 need (decide (0≤W64 (b-a))&&decide (W64 (b-a)<64)) <|
 need (!decide (4=0)) <|
 need (inv_brk a (W64 (b-a)) (powV (W64 (b-a))) (W64 (W64 (a+W64 (W64 ((W64 (b-a)).tdiv 4)*2))-1)) l (IntKind.u64.wrap (W64 (b-a)))) <| some ((.tup []),[(0,(.some (.lis 5 TU8 (E_brk a (W64 (b-a)) (powV (W64 (b-a))) (W64 (W64 (a+W64 (W64 ((W64 (b-a)).tdiv 4)*2))-1)) l (IntKind.u64.wrap (W64 (b-a)))))))])) ( some ((.tup []),[(0,some (.lis 5 TU8 l))]))):=by kernel_rfl
def brkV (l:List Int) (a b:Int):List Int:=E_brk a (W64 (b-a)) (powV (W64 (b-a))) (W64 (W64 (a+W64 (W64 ((W64 (b-a)).tdiv 4)*2))-1)) l (IntKind.u64.wrap (W64 (b-a)))
def brkP (l:List Int) (a b:Int):Bool:=decide (0≤a)&&(decide (12<b-a)&&(decide (b-a<50)&&(decide (b≤(List.length l:Int))&&Nat.ble (List.length l) 1000000)))
theorem brk_inv {l:List Int} {a b:Int} (h:brkP l a b=true):W64 (b-a)=b-a∧inv_brk a (W64 (b-a)) (powV (W64 (b-a))) (W64 (W64 (a+W64 (W64 ((W64 (b-a)).tdiv 4)*2))-1)) l (IntKind.u64.wrap (W64 (b-a)))=true:=by
 simp only[brkP,andd,dec_iff,ble_iff]at h
 obtain⟨h0,h1,h2,h3,h4⟩:=h
 have w1:W64 (b-a)=b-a:=wrap_small (by omega) (by omega)
 refine⟨w1, ?_⟩
 have w0:W64 (W64 (a+W64 (W64 ((b-a).tdiv 4)*2))-1)=a+(b-a) / 4*2-1:=by
  rw[Int.tdiv_eq_ediv_of_nonneg (by omega)]
  rw[show W64 ((b-a) / 4)=(b-a) / 4 from wrap_small (by omega) (by omega),show W64 ((b-a) / 4*2)=(b-a) / 4*2 from wrap_small (by omega) (by omega),show W64 (a+(b-a) / 4*2)=a+(b-a) / 4*2 from wrap_small (by omega) (by omega)]
  exact wrap_small (by omega) (by omega)
 rw[w1,w0]
 obtain⟨n,hn⟩:=Int.eq_ofNat_of_zero_le (show 0≤b-a by omega)
 have hp:=pow_in n (by omega)
 rw[← hn]at hp
 simp only[inv_brk,andd,dec_iff,ble_iff]
 omega
theorem brk_perm {l:List Int} {a b:Int} (h:brkP l a b=true):permL a.toNat b.toNat l (brkV l a b):=by
 obtain⟨h1,h2⟩:=brk_inv h
 have q:=q_brk _ _ _ _ _ _ h2
 unfold post_brk at q
 rw[h1,show a+(b-a)=b by omega]at q
 unfold brkV
 rw[h1];exact q
theorem s_slices_breakPatternsOrdered_byte (l:List (Int)) (_hl:Fit (.list TU8) l) (a:Int) (_ha:Fit TI64 a) (b:Int) (_hb:Fit TI64 b) (hpre:(brkP l a b)=true):Sat Tryz.prog 175 [.one (.own 0),ofD TI64 a,ofD TI64 b] [.lis 5 TU8 l] (.tup []) [(0,some (.lis 5 TU8 (brkV l a b)))] :=
 fn_sound (cx:=cx_brk) Tryz.func175 rfl ttOk Γ42ok mixed (fun c hc=>LoopsOk.one (b:=loopOf Tryz.f175 0) (id:=5) (g:=g_brk) (by cases hc;kernel_rfl) rfl l_brk) (ro:=false) (by
  obtain⟨h1,h2⟩:=brk_inv hpre
  have hpre':=hpre
  simp only[brkP,andd,dec_iff,ble_iff]at hpre'
  rw[y_slices_breakPatternsOrdered_byte,h2,h1,decide_eq_true (by omega:(8:Int)≤b-a),decide_eq_true (by omega:(0:Int)≤b-a),decide_eq_true (by omega:b-a<64)]
  unfold brkV
  rw[h1];rfl)
def c_slices_breakPatternsOrdered_byte:Con:=conL 5 TU8 [TI64,TI64] fun(l:List (Int)) (a:Int) (b:Int)=>(some (brkP l a b), .tup [],brkV l a b)
theorem k_slices_breakPatternsOrdered_byte:ConOk Tryz.prog 175 c_slices_breakPatternsOrdered_byte:=conL_ok rfl Tryz.call175 fun l hl a ha b hb hqq=>s_slices_breakPatternsOrdered_byte l hl a ha b hb (pre_of hqq)
def Γ43:GL:=(175,c_slices_breakPatternsOrdered_byte)::Γ42
theorem Γ43ok:GO Γ43 := .cons k_slices_breakPatternsOrdered_byte Γ42ok
def cb_pins:Cx:=cxOf Γ43 Tryz.f178.ntmps [(20,[0,1,2,7,8,10]),(14,[0,1,2,7,8,9]),(5,[0,1,2,7,8]),(3,[0,1,2,7,8])] [(0,[]),(1,[0,1,2,7,8]),(6,[0,1,2,7,8]),(7,[0,1,2,7,8,10]),(4,[0,1,2,7,8]),(5,[0,1,2,7,8,9]),(2,[0,1,2,7,8]),(3,[0,1,2,7,8]),(1000000,[6])] [] []
theorem x_scan (l:List Int) (a b i j:Int) (R:St→Option Fin) (K:Cont):evC (cb_pins.withLoops (look [])) (loopOf Tryz.f178 1) ⟨[(0, .d (.one (.own 0))),(1,vI a),(2,vI b),(7,vI i),(8,vI j)],[(0,some (.lis 5 TU8 l))]⟩ (onward (headAt (cb_pins.withLoops (look [])) 5) R K)=(
need (bif decide (decide (i<b)=true)then inb i l.length else true) <|
need (bif decide (decide (i<b)=true)then inb (W64 (i-1)) l.length else true) <|
branch (bif decide (i<b)then !ltI (l.getD i.toNat 0) (l.getD (W64 (i-1)).toNat 0)else false) ( R (.mk [(0,(.d (.one (.own 0)))),(1,vI a),(2,vI b),(7,vI (W64 (i+1))),(8,vI j)] [(0,some (.lis 5 TU8 l))])) ( K (.exit 2) (.mk [(0,(.d (.one (.own 0)))),(1,vI a),(2,vI b),(7,vI i),(8,vI j)] [(0,some (.lis 5 TU8 l))]))):=by kernel_rfl
abbrev scanN (l:List Int) (b i:Nat):Nat:=Go.Sort.scanSorted ltI l.toArray b i
theorem scanN_eq (l:List Int) (b i:Nat):scanN l b i=if i<b∧ltI (l.getD i 0) (l.getD (i-1) 0)=false then scanN l b (i+1)else i:=by
 unfold scanN
 rw[Go.Sort.scanSorted,at_arr,at_arr]
 by_cases h:i<b
 ·cases hc:ltI (l.getD i 0) (l.getD (i-1) 0)
  ·rw[if_pos (by simp[h]),if_pos ⟨h,rfl⟩]
  ·rw[if_neg (by simp),if_neg (by simp)]
 ·rw[if_neg (by simp[h]),if_neg (by simp[h])]
def cx0_scan:Cx:=(cb_pins).withLoops (look [])
def sh_scan:Sh:=([(0, .own 0),(1, .d TI64),(2, .d TI64),(7, .d TI64),(8, .d TI64)],[(0, .lis 5 TU8)])
abbrev st_scan (a b i j:Int) (l:List (Int)):St:=⟨[(0, .d (.one (.own 0))),(1,vI a),(2,vI b),(7,vI i),(8,vI j)],[(0,some (.lis 5 TU8 l))]⟩
def pre_scan (_a b i _j:Int) (l:List (Int)):Bool:=decide (1≤i)&&(decide (i≤1000001)&&(decide (b≤(List.length l:Int))&&Nat.ble (List.length l) 1000000))
def res_scan (a b i j:Int) (l:List (Int)) (K:Cont):Option Fin:=K (.exit 2) ⟨[(0, .d (.one (.own 0))),(1,vI a),(2,vI b),(7,vI (scanN l b.toNat i.toNat:Nat)),(8,vI j)],[(0,some (.lis 5 TU8 l))]⟩
def mu_scan (_a b i _j:Int) (_l:List (Int)):Nat:=(b-i).toNat
theorem r_scan (a b i j:Int) (l:List (Int)) (K:Cont) (hI:pre_scan a b i j l=true):(∀R:St→Option Fin,evC cx0_scan (loopOf Tryz.f178 1) (st_scan a b i j l) (onward (headAt cx0_scan 5) R K)=res_scan a b i j l K) ∨
  (∃(a' b' i' j':Int) (l':List (Int)),pre_scan a' b' i' j' l'=true∧mu_scan a' b' i' j' l'<mu_scan a b i j l∧res_scan a' b' i' j' l' K=res_scan a b i j l K∧∀R:St→Option Fin,evC cx0_scan (loopOf Tryz.f178 1) (st_scan a b i j l) (onward (headAt cx0_scan 5) R K)=R (st_scan a' b' i' j' l')):=by
 have hx:=fun R=>x_scan l a b i j R K
 simp only[pre_scan,andd,dec_iff,ble_iff]at hI
 obtain⟨h0,h1,h2,h3⟩:=hI
 have w1:W64 (i-1)=i-1:=wrap_small (by omega) (by omega)
 have w2:W64 (i+1)=i+1:=wrap_small (by omega) (by omega)
 have t1:(i-1).toNat=i.toNat-1:=by omega
 have t2:(i+1).toNat=i.toNat+1:=by omega
 have e:=scanN_eq l b.toNat i.toNat
 simp only[w1,w2,t1]at hx
 by_cases hi:i<b
 ·have b1:inb i l.length=true:=inb_ok (by omega) (by omega)
  have b2:inb (i-1) l.length=true:=inb_ok (by omega) (by omega)
  simp only[hi,decide_true,b1,b2,Bool.cond_self,cond_true]at hx
  cases hc:ltI (l.getD i.toNat 0) (l.getD (i.toNat-1) 0)
  ·right
   rw[if_pos ⟨by omega,hc⟩]at e
   refine⟨a,b,i+1,j,l, ?_, ?_, ?_,fun R=>(hx R).trans ?_⟩
   ·simp only[pre_scan,andd,dec_iff,ble_iff];omega
   ·simp only[mu_scan];omega
   ·simp only[res_scan,t2,e]
   ·rw[hc];rfl
  ·left
   intro R
   rw[if_neg (by rw[hc];simp)]at e
   refine(hx R).trans ?_
   rw[hc]
   simp only[res_scan,e,Int.toNat_of_nonneg (show 0≤i by omega)];rfl
 ·left
  intro R
  rw[if_neg (by omega)]at e
  refine(hx R).trans ?_
  simp only[hi,decide_false,cond_false,res_scan,e,Int.toNat_of_nonneg (show 0≤i by omega)];rfl
def g_scan:St→Cont→Option Fin:=gP sh_scan (fun v=>match v with | ((a,b,i,j,()),(l,()))=>pre_scan a b i j l) (fun v K=>match v with | ((a,b,i,j,()),(l,()))=>res_scan a b i j l K)
def L_scan:LpL:=(5,g_scan)::[]
def cx_scan:Cx:=(cb_pins).withLoops (look L_scan)
theorem l_scan {L:LpL} (n:Nat) (h1:L.drop n=[]) (h2:idsFree (L.take n) (loopOf Tryz.f178 1)=true):LoopsTo g_scan (cb_pins) (loopOf Tryz.f178 1) 5 L :=
 with_drop h1 h2 (gP_ok (fun v=>match v with | ((a,b,i,j,()),(l,()))=>mu_scan a b i j l) fun v K hI=>by
  obtain⟨⟨a,b,i,j,⟨⟩⟩,⟨l,⟨⟩⟩⟩:=v
  exact(r_scan a b i j l K hI).imp id fun⟨a',b',i',j',l',h⟩=>⟨((a',b',i',j',()),(l',())),h⟩)
theorem x_pins (l:List Int) (a b i:Int) (R:St→Option Fin) (K:Cont):evC cx_scan (loopOf Tryz.f178 0) ⟨[(0, .d (.one (.own 0))),(1,vI a),(2,vI b),(7,vI i),(8,vI 0)],[(0,some (.lis 5 TU8 l))]⟩ (onward (headAt cx_scan 3) R K)=(
branch (decide (0<5)) (
 need (pre_scan a b i 0 l) <|
 branch (decide ((scanN l b.toNat i.toNat:Int)=b)) ( K (.ret) (.mk [(6,vB true)] [(0,some (.lis 5 TU8 l))])) (
 branch (decide (W64 (b-a)<50)) ( K (.ret) (.mk [(6,vB false)] [(0,some (.lis 5 TU8 l))])) (
  need (inb (W64 ((scanN l b.toNat i.toNat:Int)-1)) l.length) <|
  need (inb ((scanN l b.toNat i.toNat:Int)) l.length) <|
  need (inb ((scanN l b.toNat i.toNat:Int)) l.length) <|
  need (inb (W64 ((scanN l b.toNat i.toNat:Int)-1)) (l.set ((scanN l b.toNat i.toNat:Int)).toNat (l.getD (W64 ((scanN l b.toNat i.toNat:Int)-1)).toNat 0)).length) <|
  branch (decide (2≤W64 ((scanN l b.toNat i.toNat:Int)-a))) ( none) (
  branch (decide (2≤W64 (b-(scanN l b.toNat i.toNat:Int)))) ( none) ( R (.mk [(0,(.d (.one (.own 0)))),(1,vI a),(2,vI b),(7,vI (scanN l b.toNat i.toNat:Int)),(8,vI (W64 (0+1)))] [(0,(.some (.lis 5 TU8 ((l.set ((scanN l b.toNat i.toNat:Int)).toNat (l.getD (W64 ((scanN l b.toNat i.toNat:Int)-1)).toNat 0)).set (W64 ((scanN l b.toNat i.toNat:Int)-1)).toNat (l.getD ((scanN l b.toNat i.toNat:Int)).toNat 0)))))])))))) ( K (.exit 0) (.mk [] [(0,some (.lis 5 TU8 l))]))):=by kernel_rfl
def cx0_pins:Cx:=(cb_pins).withLoops (look L_scan)
def sh_pins:Sh:=([(0, .own 0),(1, .d TI64),(2, .d TI64),(7, .d TI64),(8, .d TI64)],[(0, .lis 5 TU8)])
abbrev st_pins (a b i j:Int) (l:List (Int)):St:=⟨[(0, .d (.one (.own 0))),(1,vI a),(2,vI b),(7,vI i),(8,vI j)],[(0,some (.lis 5 TU8 l))]⟩
def pre_pins (a b i j:Int) (l:List (Int)):Bool:=decide (j=0)&&(decide (W64 (b-a)<50)&&pre_scan a b i 0 l)
def res_pins (_a b i _j:Int) (l:List (Int)) (K:Cont):Option Fin:=K .ret ⟨[(6,vB (decide (((scanN l b.toNat i.toNat:Nat):Int)=b)))],[(0,some (.lis 5 TU8 l))]⟩
def mu_pins (_a _b _i _j:Int) (_l:List (Int)):Nat:=0
theorem r_pins (a b i j:Int) (l:List (Int)) (K:Cont) (hI:pre_pins a b i j l=true):(∀R:St→Option Fin,evC cx0_pins (loopOf Tryz.f178 0) (st_pins a b i j l) (onward (headAt cx0_pins 3) R K)=res_pins a b i j l K) ∨
  (∃(a' b' i' j':Int) (l':List (Int)),pre_pins a' b' i' j' l'=true∧mu_pins a' b' i' j' l'<mu_pins a b i j l∧res_pins a' b' i' j' l' K=res_pins a b i j l K∧∀R:St→Option Fin,evC cx0_pins (loopOf Tryz.f178 0) (st_pins a b i j l) (onward (headAt cx0_pins 3) R K)=R (st_pins a' b' i' j' l')):=by
 simp only[pre_pins,andd,dec_iff]at hI
 obtain⟨rfl,h1,h2⟩:=hI
 left
 intro R
 refine(x_pins l a b i R K).trans ?_
 rw[h2,decide_eq_true h1]
 simp only[res_pins]
 cases decide (((scanN l b.toNat i.toNat:Nat):Int)=b)<;>rfl
def g_pins:St→Cont→Option Fin:=gP sh_pins (fun v=>match v with | ((a,b,i,j,()),(l,()))=>pre_pins a b i j l) (fun v K=>match v with | ((a,b,i,j,()),(l,()))=>res_pins a b i j l K)
def L_pins:LpL:=(3,g_pins)::L_scan
def cx_pins:Cx:=(cb_pins).withLoops (look L_pins)
theorem l_pins {L:LpL} (n:Nat) (h1:L.drop n=L_scan) (h2:idsFree (L.take n) (loopOf Tryz.f178 0)=true):LoopsTo g_pins (cb_pins) (loopOf Tryz.f178 0) 3 L :=
 with_drop h1 h2 (gP_ok (fun v=>match v with | ((a,b,i,j,()),(l,()))=>mu_pins a b i j l) fun v K hI=>by
  obtain⟨⟨a,b,i,j,⟨⟩⟩,⟨l,⟨⟩⟩⟩:=v
  exact(r_pins a b i j l K hI).imp id fun⟨a',b',i',j',l',h⟩=>⟨((a',b',i',j',()),(l',())),h⟩)
theorem y_slices_partialInsertionSortOrdered_byte (l:List Int) (a:Int) (b:Int):evFn cx_pins Tryz.f178 false [.one (.own 0),ofD TI64 a,ofD TI64 b] [.lis 5 TU8 l]=(
need (pre_pins a b (W64 (a+1)) 0 l) <| some ((vB (decide ((scanN l b.toNat (W64 (a+1)).toNat:Int)=b))),[(0,some (.lis 5 TU8 l))])):=by kernel_rfl
def isSrt (l:List Int) (a b:Int):Bool:=decide (((scanN l b.toNat (a.toNat+1):Nat):Int)=b)
theorem s_slices_partialInsertionSortOrdered_byte (l:List (Int)) (_hl:Fit (.list TU8) l) (a:Int) (_ha:Fit TI64 a) (b:Int) (_hb:Fit TI64 b) (hpre:(brkP l a b)=true):Sat Tryz.prog 178 [.one (.own 0),ofD TI64 a,ofD TI64 b] [.lis 5 TU8 l] (.d (ofD .bool (isSrt l a b))) [(0,some (.lis 5 TU8 (l)))] :=
 fn_sound (cx:=cx_pins) Tryz.func178 rfl ttOk Γ43ok mixed (fun c hc=>LoopsOk.all (l:=[(3,loopOf Tryz.f178 0),(5,loopOf Tryz.f178 1),(14,loopOf Tryz.f178 2),(20,loopOf Tryz.f178 3)]) (by cases hc;kernel_rfl) ⟨atLoop rfl (l_pins 1 rfl (by kernel_rfl)),atLoop rfl (l_scan 2 rfl (by kernel_rfl)),(fun _ hg=>nomatch (show none=some _ from hg)),(fun _ hg=>nomatch (show none=some _ from hg)),trivial⟩) (ro:=false) (by
  simp only[brkP,andd,dec_iff,ble_iff]at hpre
  obtain⟨h0,h1,h2,h3,h4⟩:=hpre
  have w1:W64 (a+1)=a+1:=wrap_small (by omega) (by omega)
  have w2:W64 (b-a)=b-a:=wrap_small (by omega) (by omega)
  have hp:pre_pins a b (a+1) 0 l=true:=by simp only[pre_pins,pre_scan,andd,dec_iff,ble_iff,w2,true_and];omega
  rw[y_slices_partialInsertionSortOrdered_byte,w1,hp,show (a+1).toNat=a.toNat+1 by omega];rfl)
def c_slices_partialInsertionSortOrdered_byte:Con:=conL 5 TU8 [TI64,TI64] fun(l:List (Int)) (a:Int) (b:Int)=>(some (brkP l a b), .d (ofD .bool (isSrt l a b)),l)
theorem k_slices_partialInsertionSortOrdered_byte:ConOk Tryz.prog 178 c_slices_partialInsertionSortOrdered_byte:=conL_ok rfl Tryz.call178 fun l hl a ha b hb hqq=>s_slices_partialInsertionSortOrdered_byte l hl a ha b hb (pre_of hqq)
def Γ44:GL:=(178,c_slices_partialInsertionSortOrdered_byte)::Γ43
theorem Γ44ok:GO Γ44 := .cons k_slices_partialInsertionSortOrdered_byte Γ43ok
end
end Go.Proofs.YtmeiebnfmhddnaaGreatDoor.Ev
