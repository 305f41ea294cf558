/-
  The program's chart: what a sign comes to, and signs.
-/
import Derived.Test.YtmeiebnfmhddnaaGreatDoorHp
import Derived.WalkKit
import Derived.Lib.Walk
import Derived.Lib.Strings
import Derived.Lib.IndexBytes
import Derived.Laws.RangeString
import Derived.Deep.LoopGhost
namespace Go.Proofs.YtmeiebnfmhddnaaGreatDoor.Ev
open Go
open List (length length_append length_cons length_singleton length_replicate length_set length_take length_drop mem_cons_of_mem mem_cons_self getD replicate mem_append_left mem_append_right all_eq_true drop_eq_getElem_cons drop_eq_nil_of_le append_assoc mem_singleton getElem?_append_left getElem?_append_right getElem?_eq_none getElem?_take mem_append)
noncomputable section
abbrev TP:Ty := .struct (.pair .str (.pair TI64 TI64))
abbrev Part:Type:=Str×Int×Int
abbrev PMap:Type:=List (Part×Bool)
abbrev TCh:Ty := .struct (.pair TG (.pair .str (.map TP .bool)))
abbrev Chart:Type:=Gram×Str×PMap
def hasM (m:PMap) (p:Part):Bool:=(mget TP .bool p m).getD false
def derB (s:Str) (m:PMap) (a:Str) (i j:Int):Bool:=bif smallS a then(bif decide (j=i+1)then decide (([s.getD i.toNat 0]:Str)=a)else false)else hasM m (a,i,j)
def anyI (f:Int→Bool):Nat→Int→Bool
 |0,_=>false
 |n+1,a=>f a||anyI f n (a+1)
def splitB (s:Str) (m:PMap):Str→Int→Int→Bool
 | [],i,j=>decide (i=j)
 |c::r,i,j=>anyI (fun k=>derB s m [c] i k&&splitB s m r k j) (j+1-i).toNat i
def okIJ (s:Str) (i j:Int):Bool:=decide (0≤i)&&(decide (i≤j)&&decide (j≤(s.length:Int)))
theorem okIJ_iff {s:Str} {i j:Int}:okIJ s i j=true↔0≤i∧i≤j∧j≤(s.length:Int):=by
 unfold okIJ;rw[andd,andd,dec_iff,dec_iff,dec_iff]
theorem y_impl_chart_derives (c:Chart) (a:Str) (i:Int) (j:Int):evFn (cxOf Γ80 Tryz.f101.ntmps [] [] [] []) Tryz.f101 true [ofD (.ref TCh) c,ofD .str a,ofD TI64 i,ofD TI64 j] []=(
branch (smallS a) (
 need (bif decide (decide (j=W64 (i+1))=true)then inr i j (length c.snd.fst)else true) <| some ((vB (bif decide (j=W64 (i+1))then decide ((List.take (j.toNat-i.toNat) (List.drop i.toNat c.snd.fst))=a)else false)),[])) ( some ((vB ((mget ty106 ty4 (a,i,j) c.snd.snd).getD false)),[]))):=by kernel_rfl
theorem s_impl_chart_derives (c:Chart) (hc:Fit (.ref TCh) c) (a:Str) (_ha:Fit .str a) (i:Int) (_hi:Fit TI64 i) (j:Int) (_hj:Fit TI64 j) (hpre:(okIJ c.2.1 i j)=true):Sat Tryz.prog 101 [ofD (.ref TCh) c,ofD .str a,ofD TI64 i,ofD TI64 j] [] (.d (ofD .bool (derB c.2.1 c.2.2 a i j))) [] :=
 fn_sound (cx:=cxOf Γ80 Tryz.f101.ntmps [] [] [] []) Tryz.func101 rfl ttOk Γ80ok mixed (fun _ _=>LoopsOk.no fun _=>rfl) (ro:=true) (by
  obtain⟨h0,h1,h2⟩:=okIJ_iff.1 hpre;refine(y_impl_chart_derives c a i j).trans ?_;unfold derB;have hl:(c.2.1.length:Int)≤9223372036854775807:=by
   have:c.2.1.length≤9223372036854775807:=hc.2.1;omega
  have w:W64 (i+1)=i+1∨i=9223372036854775807:=by
   by_cases h:i=9223372036854775807
   ·exact .inr h
   ·exact .inl (wrap_small (by omega) (by omega))
  cases hs:smallS a
  ·rfl
  ·by_cases hjj:j=i+1
   ·have w:W64 (i+1)=i+1:=wrap_small (by omega) (by omega);rw[w,zT hjj,hjj,slice_one h0 (by omega),inr_iff.2 (by omega:0≤i∧i≤i+1∧i+1≤(c.2.1.length:Int))];rfl
   ·have hj2:¬j=W64 (i+1):=by
     rcases w with w | w
     ·rw[w];exact hjj
     ·rw[w];have:W64 (9223372036854775807+1) = -9223372036854775808:=rfl;rw[this];omega
    rw[zF hjj,zF hj2];rfl)
def c_impl_chart_derives:Con:=conT [(.ref TCh), .str,TI64,TI64] fun(c:Chart) (a:Str) (i:Int) (j:Int)=>(some (okIJ c.2.1 i j), .d (ofD .bool (derB c.2.1 c.2.2 a i j)))
theorem k_impl_chart_derives:ConOk Tryz.prog 101 c_impl_chart_derives:=conT_ok Tryz.call101 fun c hc a ha i hi j hj hqq=>s_impl_chart_derives c hc a ha i hi j hj (pre_of hqq)
def Γ81:GL:=(101,c_impl_chart_derives)::Γ80
theorem Γ81ok:GO Γ81 := .cons k_impl_chart_derives Γ80ok
def conSplit (n:Nat):Con:=conT [.ref TCh, .str,TI64,TI64] fun(c:Chart) (a:Str) (i:Int) (j:Int)=>(some (Nat.blt (length a) n&&(okIJ c.2.1 i j&&Nat.ble (length c.2.1) 1000)), .d (ofD .bool (splitB c.2.1 c.2.2 a i j)))
structure LevD where
 n:Nat
 h:ConOk Tryz.prog 132 (conSplit n)
noncomputable section
variable [Inhabited LevD]
abbrev lvD:Nat:=(default:LevD).n
def c_impl_chart_splitR:Con:=conSplit lvD
theorem k_impl_chart_splitR:ConOk Tryz.prog 132 c_impl_chart_splitR:=(default:LevD).h
def Γ82:GL:=(132,c_impl_chart_splitR)::Γ81
theorem Γ82ok:GO Γ82 := .cons k_impl_chart_splitR Γ81ok
def cb_split:Cx:=(cxOf Γ82 Tryz.f132.ntmps [(4,[0,1,2,3,9])] [(0,[]),(1,[0,1,2,3,9]),(1000000,[8])] [] []).parted [6]
abbrev st_sp1 (c:Chart) (a:Str) (i j k:Int):St:=⟨[(0, .d (ofD (.ref TCh) c)),(1,vS a),(2,vI i),(3,vI j),(9,vI k)],[]⟩
theorem x_impl_chart_split (c:Chart) (a:Str) (i j k:Int) (R:St→Option Fin) (K:Cont):evC (cb_split.withLoops (look [])) (loopOf Tryz.f132 0) (st_sp1 c a i j k) (onward (headAt (cb_split.withLoops (look [])) 4) R K)=(
branch (decide (k≤j)) (
 need (inr 0 1 a.length) <|
 need (okIJ c.snd.fst i k) <|
 branch (decide (derB c.snd.fst c.snd.snd (List.take (Int.toNat 1-(0:Int).toNat) a) i k=true)) (
 need (inr 1 ((a.length:Int)) a.length) <|
 need ((List.take (((a.length:Int)).toNat-Int.toNat 1) (List.drop (Int.toNat 1) a)).length.blt lvD&&(okIJ c.snd.fst k j&&(length c.snd.fst).ble 1000)) <|
 branch (bif true then splitB c.snd.fst c.snd.snd (List.take (((a.length:Int)).toNat-Int.toNat 1) (List.drop (Int.toNat 1) a)) k j else false) ( K (.ret) (.mk [(8,vB true)] [])) ( R (st_sp1 c a i j (W64 (k+1))))) ( R (st_sp1 c a i j (W64 (k+1))))) ( K (.exit 0) (.mk [] []))):=by kernel_rfl
def cx0_sp1:Cx:=(cb_split).withLoops (look [])
def sh_sp1:Sh:=([(0, .d (.ref TCh)),(1, .d .str),(2, .d TI64),(3, .d TI64),(9, .d TI64)],[])
def pre_sp1 (c:Chart) (a:Str) (i j k:Int):Bool:=decide (0≤i)&&(decide (i≤k)&&(decide (k≤j+1)&&(decide (j≤(c.2.1.length:Int))&&(Nat.ble (length c.2.1) 1000&&(Nat.blt 0 (length a)&&Nat.ble (length a) lvD)))))
def res_sp1 (c:Chart) (a:Str) (i j k:Int) (K:Cont):Option Fin:=branch (anyI (fun k'=>derB c.2.1 c.2.2 (List.take 1 a) i k'&&splitB c.2.1 c.2.2 (List.drop 1 a) k' j) (j+1-k).toNat k) (K .ret ⟨[(8,vB true)],[]⟩) (K (.exit 0) ⟨[],[]⟩)
def mu_sp1 (_c:Chart) (_a:Str) (_i j k:Int):Nat:=(j+1-k).toNat
theorem r_sp1 (c:Chart) (a:Str) (i j k:Int) (K:Cont) (hI:pre_sp1 c a i j k=true):(∀R:St→Option Fin,evC cx0_sp1 (loopOf Tryz.f132 0) (st_sp1 c a i j k) (onward (headAt cx0_sp1 4) R K)=res_sp1 c a i j k K) ∨
  (∃(c':Chart) (a':Str) (i' j' k':Int),pre_sp1 c' a' i' j' k'=true∧mu_sp1 c' a' i' j' k'<mu_sp1 c a i j k∧res_sp1 c' a' i' j' k' K=res_sp1 c a i j k K∧∀R:St→Option Fin,evC cx0_sp1 (loopOf Tryz.f132 0) (st_sp1 c a i j k) (onward (headAt cx0_sp1 4) R K)=R (st_sp1 c' a' i' j' k')):=by
 have hx:=fun R=>x_impl_chart_split c a i j k R K;simp only[pre_sp1]at hI;rw[andd,andd,andd,andd,andd,andd,dec_iff,dec_iff,dec_iff,dec_iff,ble_iff,blt_iff,ble_iff]at hI;obtain⟨h0,h1,h2,h3,h4,h5,h6⟩:=hI
 by_cases hk:k≤j
 ·have w:W64 (k+1)=k+1:=wrap_small (by omega) (by omega);obtain⟨n,hn⟩:∃n,(j+1-k).toNat=n+1:=⟨(j+1-k).toNat-1,by omega⟩;have hn2:(j+1-(k+1)).toNat=n:=by omega
  have hg:anyI (fun k'=>derB c.2.1 c.2.2 (List.take 1 a) i k'&&splitB c.2.1 c.2.2 (List.drop 1 a) k' j) (n+1) k=((derB c.2.1 c.2.2 (List.take 1 a) i k&&splitB c.2.1 c.2.2 (List.drop 1 a) k j)||anyI (fun k'=>derB c.2.1 c.2.2 (List.take 1 a) i k'&&splitB c.2.1 c.2.2 (List.drop 1 a) k' j) n (k+1)):=rfl;have t1:List.take (((length a:Int)).toNat-Int.toNat 1) (List.drop (Int.toNat 1) a)=List.drop 1 a:=List.take_of_length_le (by rw[length_drop];omega);have k1:okIJ c.2.1 i k=true:=okIJ_iff.2 ⟨by omega,by omega,by omega⟩;have k2:okIJ c.2.1 k j=true:=okIJ_iff.2 ⟨by omega,by omega,by omega⟩;have k3:(length (List.drop 1 a)).blt lvD=true:=blt_iff.2 (by rw[length_drop];omega);have k4:(length c.2.1).ble 1000=true:=ble_iff.2 h4;rw[zT hk,t1,k1,k2,k3,k4,w,inr_iff.2 (by omega:(0:Int)≤0∧(0:Int)≤1∧1≤(length a:Int)),inr_iff.2 (by omega:(0:Int)≤1∧1≤(length a:Int)∧(length a:Int)≤(length a:Int))]at hx;change ∀R:St→Option Fin,_=branch true (need true (need true (branch (decide (derB c.2.1 c.2.2 (List.take 1 a) i k=true)) (need true (need true (branch (bif true then splitB c.2.1 c.2.2 (List.drop 1 a) k j else false) _ _))) _))) _ at hx
  cases hcs:(derB c.2.1 c.2.2 (List.take 1 a) i k&&splitB c.2.1 c.2.2 (List.drop 1 a) k j)
  ·right;refine⟨c,a,i,j,k+1, ?_, ?_, ?_,fun R=>(hx R).trans ?_⟩
   ·simp only[pre_sp1];rw[andd,andd,andd,andd,andd,andd,dec_iff,dec_iff,dec_iff,dec_iff,ble_iff,blt_iff,ble_iff];exact⟨by omega,by omega,by omega,h3,h4,h5,h6⟩
   ·simp only[mu_sp1];omega
   ·simp only[res_sp1,hn,hn2,hg,hcs,Bool.false_or]
   ·cases c1:derB c.2.1 c.2.2 (List.take 1 a) i k
    ·rfl
    ·rw[c1]at hcs;have c2:splitB c.2.1 c.2.2 (List.drop 1 a) k j=false:=hcs;rw[c2];rfl
  ·obtain ⟨c1,c2⟩:=andd.1 hcs;left;intro R;refine(hx R).trans ?_;simp only[res_sp1,hn,hg,hcs];rw[c1,c2];rfl
 ·left;intro R;refine(hx R).trans ?_;rw[zF hk];have e:(j+1-k).toNat=0:=by omega
  simp only[res_sp1,e];rfl
def g_sp1:St→Cont→Option Fin:=gP sh_sp1 (fun v=>match v with | ((c,a,i,j,k,()),())=>pre_sp1 c a i j k) (fun v K=>match v with | ((c,a,i,j,k,()),())=>res_sp1 c a i j k K)
def L_sp1:LpL:=(4,g_sp1)::[]
def cx_sp1:Cx:=(cb_split).withLoops (look L_sp1)
theorem l_sp1 {L:LpL} (n:Nat) (h1:L.drop n=[]) (h2:idsFree (L.take n) (loopOf Tryz.f132 0)=true):LoopsTo g_sp1 (cb_split) (loopOf Tryz.f132 0) 4 L :=
 with_drop h1 h2 (gP_ok (fun v=>match v with | ((c,a,i,j,k,()),())=>mu_sp1 c a i j k) fun v K hI=>by
  obtain⟨⟨c,a,i,j,k,⟨⟩⟩,⟨⟩⟩:=v;exact(r_sp1 c a i j k K hI).imp id fun⟨c',a',i',j',k',h⟩=>⟨((c',a',i',j',k',()),()),h⟩)
theorem y_impl_chart_split (c:Chart) (a:Str) (i:Int) (j:Int):evFn cx_sp1 Tryz.f132 true [ofD (.ref TCh) c,ofD .str a,ofD TI64 i,ofD TI64 j] []=(
branch (decide (a=[])) ( some ((vB (decide (i=j))),[])) (
 need (pre_sp1 c a i j i) <|
 branch (anyI (fun k'=>derB c.snd.fst c.snd.snd (List.take 1 a) i k'&&splitB c.snd.fst c.snd.snd (List.drop 1 a) k' j) (j+1-i).toNat i) ( some ((vB true),[])) ( some ((vB false),[])))):=by kernel_rfl
theorem split_up:ConOk Tryz.prog 132 (conSplit (lvD+1)):=conT_ok Tryz.call132 fun(c:Chart) _ (a:Str) _ (i:Int) _ (j:Int) _ hqq=>by
 obtain⟨h1,h2⟩:=andd.1 (pre_of hqq);obtain⟨h2,h3⟩:=andd.1 h2;obtain⟨i0,i1,i2⟩:=okIJ_iff.1 h2;have h1:=blt_iff.1 h1;refine fn_sound (cx:=cx_sp1) Tryz.func132 rfl ttOk Γ82ok mixed (fun c hc=>LoopsOk.all (l:=[(4,loopOf Tryz.f132 0)]) (by cases hc;kernel_rfl) ⟨atLoop rfl (l_sp1 1 rfl (by kernel_rfl)),trivial⟩) (ro:=true) ?_;refine(y_impl_chart_split c a i j).trans ?_
 cases a with
 |nil=>rfl
 |cons q r =>
  have hp:pre_sp1 c (q::r) i j i=true:=by
   simp only[pre_sp1];rw[andd,andd,andd,andd,andd,andd,dec_iff,dec_iff,dec_iff,dec_iff,ble_iff,blt_iff,ble_iff];exact⟨i0,by omega,by omega,i2,ble_iff.1 h3,by simp,by omega⟩
  rw[hp];show branch (splitB c.2.1 c.2.2 (q::r) i j) _ _=_
  cases splitB c.2.1 c.2.2 (q::r) i j<;>rfl
end
theorem split_all:∀n,ConOk Tryz.prog 132 (conSplit n)
 |0=>conT_ok Tryz.call132 fun c _ (a:Str) _ i _ j _ hqq=>by
  have:=blt_iff.1 (andd.1 (pre_of hqq)).1;omega
 |n+1=>@split_up ⟨⟨n,split_all n⟩⟩
def c_impl_chart_split:Con:=conSplit 9
theorem k_impl_chart_split:ConOk Tryz.prog 132 c_impl_chart_split:=split_all 9
def Γ83:GL:=(132,c_impl_chart_split)::Γ81
theorem Γ83ok:GO Γ83 := .cons k_impl_chart_split Γ81ok
def putM (q:Part) (m:PMap):PMap:=mset TP .bool q true m
def stepR (s:Str) (i j:Int) (r:Rule) (p:PMap×Bool):PMap×Bool:=bif !hasM p.1 (r.1,i,j)&&splitB s p.1 r.2 i j then(putM (r.1,i,j) p.1,true)else p
def rulesF (s:Str) (i j:Int):List Rule→PMap×Bool→PMap×Bool
 | [],p=>p
 |r::l,p=>rulesF s i j l (stepR s i j r p)
def tosF (s:Str) (l:List Rule) (i:Int):Nat→Int→PMap×Bool→PMap×Bool
 |0,_,p=>p
 |n+1,j,p=>tosF s l i n (j+1) (rulesF s i j l p)
def fromsF (s:Str) (l:List Rule):Nat→PMap×Bool→PMap×Bool
 |0,p=>p
 |n+1,p=>fromsF s l n (tosF s l (n:Int) (s.length+1-n) (n:Int) p)
theorem rulesF_at {s:Str} {i j k:Int} {l:List Rule} {p:PMap×Bool} (h0:0≤k) (h1:k<(l.length:Int)):rulesF s i j (l.drop k.toNat) p=rulesF s i j (l.drop (k+1).toNat) (stepR s i j (l.getD k.toNat d0) p):=by
 have hn:k.toNat<l.length:=by omega
 rw[drop_eq_getElem_cons hn,show (k+1).toNat=k.toNat+1 by omega,zG,zE hn];rfl
theorem eqP_iff {x y:Part}:eqDen TP x y=true↔x=y:=by
 obtain⟨a,i,j⟩:=x;obtain⟨b,k,n⟩:=y;show(decide (a=b)&&(decide (i=k)&&decide (j=n)))=true↔_;rw[andd,andd,dec_iff,dec_iff,dec_iff]
 constructor
 ·rintro ⟨rfl,rfl,rfl⟩;rfl
 ·intro h;cases h;exact ⟨rfl,rfl,rfl⟩
theorem eqP_dec {x y:Part}:eqDen TP x y=decide (x=y):=by
 by_cases h:x=y
 ·rw[zT h,eqP_iff.2 h]
 ·rw[zF h]
  cases e:eqDen TP x y
  ·rfl
  ·exact absurd (eqP_iff.1 e) h
theorem has_cons {x a:Part} {u:Bool} {m:PMap}:hasM ((a,u)::m) x=bif decide (x=a)then u else hasM m x:=by
 rw[← eqP_dec];show(bif eqDen TP x a then some u else mget TP .bool x m).getD false=_
 cases eqDen TP x a<;>rfl
theorem has_set {q x:Part} {v:Bool}:∀ {m:PMap},hasM (mset TP .bool q v m) x=bif decide (x=q)then v else hasM m x
 | []=>has_cons (m:=[])
 | (a,u)::m=>by
  have ih:=has_set (q:=q) (x:=x) (v:=v) (m:=m);show hasM (bif eqDen TP q a then(q,v)::m else(a,u)::mset TP .bool q v m) x=_;rw[eqP_dec,has_cons]
  by_cases h1:q=a
  ·subst h1;rw[zT rfl,cond_true,has_cons]
   cases decide (x=q)<;>rfl
  ·rw[zF h1,cond_false];refine has_cons.trans ?_
   by_cases h:x=a
   ·have hx:¬x=q:=fun e=>h1 (e.symm.trans h);rw[zF hx,zT h];rfl
   ·rw[zF h,cond_false,cond_false,ih]
theorem has_put {q x:Part} {m:PMap}:hasM (putM q m) x=bif decide (x=q)then true else hasM m x:=has_set
abbrev Vis:Type:=Int×Int×Rule
def keyV (v:Vis):Part:=(v.2.2.1,v.1,v.2.1)
def stepV (s:Str) (v:Vis) (p:PMap×Bool):PMap×Bool:=stepR s v.1 v.2.1 v.2.2 p
def visR (i j:Int) (l:List Rule):List Vis:=l.map fun r=>(i,j,r)
def visT (l:List Rule) (i:Int):Nat→Int→List Vis
 |0,_=>[]
 |n+1,j=>visR i j l++visT l i n (j+1)
def visF (s:Str) (l:List Rule):Nat→List Vis
 |0=>[]
 |n+1=>visT l (n:Int) (s.length+1-n) (n:Int)++visF s l n
theorem rules_vis {s:Str} {i j:Int}:∀ {l:List Rule} {p:PMap×Bool},rulesF s i j l p=foldG (stepV s) (visR i j l) p
 | [],_=>rfl
 |r::l,p=>rules_vis (l:=l) (p:=stepR s i j r p)
theorem tos_vis {s:Str} {l:List Rule} {i:Int}:∀ {n:Nat} {j:Int} {p:PMap×Bool},tosF s l i n j p=foldG (stepV s) (visT l i n j) p
 |0,_,_=>rfl
 |n+1,j,p=>by
  show tosF s l i n (j+1) (rulesF s i j l p)=foldG (stepV s) (visR i j l++visT l i n (j+1)) p;rw[foldG_app,← rules_vis,tos_vis]
theorem froms_vis {s:Str} {l:List Rule}:∀ {n:Nat} {p:PMap×Bool},fromsF s l n p=foldG (stepV s) (visF s l n) p
 |0,_=>rfl
 |n+1,p=>by
  show fromsF s l n (tosF s l (n:Int) (s.length+1-n) (n:Int) p)=foldG (stepV s) (visT l (n:Int) (s.length+1-n) (n:Int)++visF s l n) p;rw[foldG_app,← tos_vis,froms_vis]
theorem mem_visT {l:List Rule} {i:Int} {v:Vis}:∀ {n:Nat} {j:Int},v∈visT l i n j↔v.1=i∧j≤v.2.1∧v.2.1<j+n∧v.2.2∈l
 |0,j=>by
  unfold visT
  constructor
  ·intro h;cases h
  ·rintro ⟨_,h1,h2,_⟩;omega
 |n+1,j=>by
  unfold visT visR;rw[mem_append,mem_visT (n:=n) (j:=j+1),List.mem_map]
  constructor
  ·rintro (⟨r,hr,rfl⟩ | ⟨h1,h2,h3,h4⟩)
   ·exact ⟨rfl,Int.le_refl _,by show j<j+_;omega,hr⟩
   ·exact ⟨h1,by omega,by omega,h4⟩
  ·rintro ⟨h1,h2,h3,h4⟩
   by_cases h:v.2.1=j
   ·exact .inl ⟨v.2.2,h4,by rw[← h1,← h]⟩
   ·exact .inr ⟨h1,by omega,by omega,h4⟩
theorem mem_visF {s:Str} {l:List Rule} {v:Vis}:∀ {n:Nat},n≤s.length+1→(v∈visF s l n↔0≤v.1∧v.1<n∧v.1≤v.2.1∧v.2.1≤(s.length:Int)∧v.2.2∈l)
 |0,_=>by
  unfold visF
  constructor
  ·intro h;cases h
  ·rintro ⟨h1,h2,_⟩;omega
 |n+1,hn=>by
  unfold visF;rw[mem_append,mem_visT,mem_visF (n:=n) (by omega)]
  constructor
  ·rintro (⟨h1,h2,h3,h4⟩ | ⟨h1,h2,h3,h4,h5⟩)
   ·exact ⟨by omega,by omega,by omega,by omega,h4⟩
   ·exact ⟨by omega,by omega,by omega,by omega,h5⟩
  ·rintro ⟨h1,h2,h3,h4,h5⟩
   by_cases h:v.1=n
   ·exact .inl ⟨h,by omega,by omega,h5⟩
   ·exact .inr ⟨by omega,by omega,by omega,by omega,h5⟩
theorem stepV_ok (s:Str):StepOk (fun _=>True) (fun _=>True) hasM (fun v=>[keyV v]) (stepV s) where
 inv _ _ _ _:=trivial
 mono v p x _ _ h:=by
  unfold stepV stepR
  cases !hasM p.1 (v.2.2.1,v.1,v.2.1)&&splitB s p.1 v.2.2.2 v.1 v.2.1
  ·exact h
  ·show hasM (putM (v.2.2.1,v.1,v.2.1) p.1) x=true;rw[has_put,h]
   cases decide (x=(v.2.2.1,v.1,v.2.1))<;>rfl
 new v p _ _ h:=by
  unfold stepV stepR at *
  cases hc:(!hasM p.1 (v.2.2.1,v.1,v.2.1)&&splitB s p.1 v.2.2.2 v.1 v.2.1)<;>rw[hc]at h
  ·exact .inl h
  ·refine .inr ⟨keyV v,mem_singleton.2 rfl, ?_, ?_⟩
   ·have:=(andd.1 hc).1;show hasM p.1 (v.2.2.1,v.1,v.2.1)=false
    cases h2:hasM p.1 (v.2.2.1,v.1,v.2.1)
    ·rfl
    ·rw[h2]at this;cases this
   ·show hasM (putM (v.2.2.1,v.1,v.2.1) p.1) (keyV v)=true;rw[has_put,zT (show keyV v=(v.2.2.1,v.1,v.2.1)from rfl)];rfl
 quiet v p _ _ h:=by
  unfold stepV stepR at *
  cases hc:(!hasM p.1 (v.2.2.1,v.1,v.2.1)&&splitB s p.1 v.2.2.2 v.1 v.2.1)<;>rw[hc]at h
  ·exact ⟨h,rfl⟩
  ·cases h
theorem anyI_iff {f:Int→Bool}:∀ {n:Nat} {a:Int},anyI f n a=true↔∃k,a≤k∧k<a+n∧f k=true
 |0,a=>by
  unfold anyI
  constructor
  ·intro h;cases h
  ·rintro ⟨k,h1,h2,_⟩;omega
 |n+1,a=>by
  unfold anyI;rw[Bool.or_eq_true,anyI_iff (n:=n) (a:=a+1)]
  constructor
  ·rintro (h | ⟨k,h1,h2,h3⟩)
   ·exact ⟨a,Int.le_refl _,by omega,h⟩
   ·exact ⟨k,by omega,by omega,h3⟩
  ·rintro ⟨k,h1,h2,h3⟩
   by_cases h:k=a
   ·exact .inl (by rw[← h];exact h3)
   ·exact .inr ⟨k,by omega,by omega,h3⟩
abbrev tabM (m:PMap) (a:Str) (i j:Int):Prop:=hasM m (a,i,j)=true
theorem derB_iff {s:Str} {m:PMap} {a:Str} {i j:Int}:derB s m a i j=true↔derP s (tabM m) a i j:=by
 unfold derB derP
 cases smallS a
 ·exact Iff.rfl
 ·rw[cond_true,if_pos rfl,b2,andd,dec_iff,dec_iff]
theorem splitB_iff {s:Str} {m:PMap}:∀ {r:Str} {i j:Int},splitB s m r i j=true↔splP s (tabM m) r i j
 | [],i,j=>by
  unfold splitB splP;exact dec_iff
 |c::r,i,j=>by
  unfold splitB splP;rw[anyI_iff]
  constructor
  ·rintro ⟨k,h1,h2,h3⟩;obtain⟨h3,h4⟩:=andd.1 h3;exact⟨k,h1,by omega,derB_iff.1 h3,splitB_iff.1 h4⟩
  ·rintro ⟨k,h1,h2,h3,h4⟩;exact⟨k,h1,by omega,andd.2 ⟨derB_iff.2 h3,splitB_iff.2 h4⟩⟩
def chartM (s:Str) (l:List Rule):PMap:=runC hasM (fun v=>[keyV v]) (stepV s) (visF s l (s.length+1)) []
theorem chartM_iff {s:Str} {l:List Rule} {a:Str} {i j:Int}:hasM (chartM s l) (a,i,j)=true↔DerG s l a i j:=by
 refine Der_iff (T:=tabM (chartM s l)) (fun P hP a i j h => ?_) (fun r hr i j h0 h1 h2 h3 => ?_)
 ·refine (runC_end (stepV_ok s) (fun _ _=>trivial) (J:=fun m=>∀a i j,hasM m (a,i,j)=true→P a i j) (fun v hv p hp a i j h => ?_) (m:=[]) trivial (fun a i j h=>by cases h)).2.1 a i j h;unfold stepV stepR at h
  cases hc:(!hasM p.1 (v.2.2.1,v.1,v.2.1)&&splitB s p.1 v.2.2.2 v.1 v.2.1)<;>rw[hc]at h
  ·exact hp.2 a i j h
  ·change hasM (putM (v.2.2.1,v.1,v.2.1) p.1) (a,i,j)=true at h;rw[has_put]at h
   by_cases he:(a,i,j)=(v.2.2.1,v.1,v.2.1)
   ·cases he
    obtain⟨v1,v2,v3,v4,v5⟩:=(mem_visF (Nat.le_refl _)).1 hv;exact hP v.2.2 v5 v.1 v.2.1 v1 v3 v4 (splP_mono (fun a i j _ _ _ h=>hp.2 a i j h) v1 v4 (splitB_iff.1 (andd.1 hc).2))
   ·rw[zF he]at h;exact hp.2 a i j h
 ·have h4:=(runC_end (stepV_ok s) (J:=fun _=>True) (vs:=visF s l (s.length+1)) (fun _ _=>trivial) (fun _ _ _ _=>trivial) (m:=[]) trivial trivial).2.2 (i,j,r) ((mem_visF (Nat.le_refl _)).2 ⟨h0,by show i<_;omega,h1,h2,hr⟩);change stepR s i j r (chartM s l,false)=(chartM s l,false)at h4;show hasM (chartM s l) (r.1,i,j)=true;unfold stepR at h4
  cases hc:hasM (chartM s l) (r.1,i,j)
  ·rw[hc,splitB_iff.2 h3]at h4
   cases congrArg Prod.snd h4
  ·rfl
def cb_chart:Cx:=(cxOf Γ83 Tryz.f100.ntmps [(12,[1,2,5,6,7,8,32,33,34]),(9,[1,2,5,6,7,8]),(6,[1,2,5,6,7]),(3,[1,2,5,6])] [(0,[5]),(1,[1,2,5,6]),(2,[1,2,5,6]),(3,[1,2,5,6,7]),(4,[1,2,5,6,7]),(5,[1,2,5,6,7,8]),(6,[1,2,5,6,7,8]),(7,[1,2,5,6,7,8,32,33,34]),(1000000,[4])] [] [])
abbrev chO (a:Str) (l:List Rule) (s:Str) (i:Nat):Option Obj:=some (.box 146 [.r (.v (.string (mk a))), .r (.li TRu l), .r (.v (.string (mk s))), .own i])
abbrev chH (g:Gram) (a:Str) (l:List Rule) (s:Str) (m:PMap):Heap:=[(500000,some (boxD 25 TG g)),(500001,chO a l s 500002),(500002,some (.map TP .bool m))]
theorem x_impl_chartOf_3 (t s a:Str) (g:Gram) (l q:List Rule) (m:PMap) (b:Bool) (i j n k:Int) (R:St→Option Fin) (K:Cont):evC (cb_chart.withLoops (look [])) (loopOf Tryz.f100 3) ⟨[(1,vS t),(2, kp0),(5, kp1),(6,vB b),(7,vI i),(8,vI j),(32, .d (ofD TRL l)),(33,vI n),(34,vI k)],[(500000,some (boxD 25 TG g)),(500001,chO a q s 500002),(500002,some (.map TP .bool m))]⟩ (onward (headAt (cb_chart.withLoops (look [])) 12) R K)=(
branch (decide (k<n)) (
 need (inb k l.length) <|
 need (bif decide ((!hasM m ((l.getD k.toNat d0).1,i,j))=true)then Nat.blt (length (l.getD k.toNat d0).2) 9&&(okIJ s i j&&Nat.ble s.length 1000)else true) <|
 branch (bif !hasM m ((l.getD k.toNat d0).1,i,j)then splitB s m (l.getD k.toNat d0).2 i j else false) (R ⟨[(1,vS t),(2, kp0),(5, kp1),(6,vB true),(7,vI i),(8,vI j),(32, .d (ofD TRL l)),(33,vI n),(34,vI (W64 (k+1)))],chH g a q s (putM ((l.getD k.toNat d0).1,i,j) m)⟩) (R ⟨[(1,vS t),(2, kp0),(5, kp1),(6,vB b),(7,vI i),(8,vI j),(32, .d (ofD TRL l)),(33,vI n),(34,vI (W64 (k+1)))],chH g a q s m⟩)) (K (.exit 6) ⟨[(1,vS t),(2, kp0),(5, kp1),(6,vB b),(7,vI i),(8,vI j)],chH g a q s m⟩)):=by kernel_rfl
def okRs (l:List Rule):Bool:=Nat.ble (length l) 1000&&List.all l (fun r=>Nat.blt (length r.2) 9)
theorem okRs_iff {l:List Rule}:okRs l=true↔l.length≤1000∧List.all l (fun r=>Nat.blt (length r.2) 9)=true:=by
 unfold okRs;rw[andd,ble_iff]
def cx0_c4:Cx:=(cb_chart).withLoops (look [])
def sh_c4:Sh:=([(1, .d .str),(2, .ptr 500000 0),(5, .ptr 500001 0),(6, .d .bool),(7, .d TI64),(8, .d TI64),(32, .d TRL),(33, .d TI64),(34, .d TI64)],[(500000, .box 25 TG),(500001, .mix 146 [.d .str, .d TRL, .d .str, .own 500002]),(500002, .map TP .bool)])
abbrev st_c4 (t:Str) (b:Bool) (i j:Int) (l:List Rule) (n k:Int) (g:Gram) (a:Str) (q:List Rule) (s:Str) (m:List (Den TP×Den .bool)):St:=⟨[(1,vS t),(2, kp0),(5, kp1),(6,vB b),(7,vI i),(8,vI j),(32, .d (ofD TRL l)),(33,vI n),(34,vI k)],[(500000,some (boxD 25 TG g)),(500001,some (.box 146 ((cellsR .str a).map C.r++(cellsR TRL q).map C.r++(cellsR .str s).map C.r++[.own 500002]))),(500002,some (.map TP .bool m))]⟩
def pre_c4 (_t:Str) (_b:Bool) (i j:Int) (l:List Rule) (n k:Int) (_g:Gram) (_a:Str) (_q:List Rule) (s:Str) (_m:List (Den TP×Den .bool)):Bool:=decide (0≤k)&&(decide (n=(length l:Int))&&(okRs l&&(okIJ s i j&&Nat.ble (length s) 1000)))
def res_c4 (t:Str) (b:Bool) (i j:Int) (l:List Rule) (_n k:Int) (g:Gram) (a:Str) (q:List Rule) (s:Str) (m:List (Den TP×Den .bool)) (K:Cont):Option Fin:=K (.exit 6) ⟨[(1,vS t),(2, kp0),(5, kp1),(6,vB (rulesF s i j (List.drop k.toNat l) (m,b)).2),(7,vI i),(8,vI j)],chH g a q s (rulesF s i j (List.drop k.toNat l) (m,b)).1⟩
def mu_c4 (_t:Str) (_b:Bool) (_i _j:Int) (l:List Rule) (_n k:Int) (_g:Gram) (_a:Str) (_q:List Rule) (_s:Str) (_m:List (Den TP×Den .bool)):Nat:=length l-k.toNat
theorem r_c4 (t:Str) (b:Bool) (i j:Int) (l:List Rule) (n k:Int) (g:Gram) (a:Str) (q:List Rule) (s:Str) (m:List (Den TP×Den .bool)) (K:Cont) (hI:pre_c4 t b i j l n k g a q s m=true):(∀R:St→Option Fin,evC cx0_c4 (loopOf Tryz.f100 3) (st_c4 t b i j l n k g a q s m) (onward (headAt cx0_c4 12) R K)=res_c4 t b i j l n k g a q s m K) ∨
  (∃(t':Str) (b':Bool) (i' j':Int) (l':List Rule) (n' k':Int) (g':Gram) (a':Str) (q':List Rule) (s':Str) (m':List (Den TP×Den .bool)),pre_c4 t' b' i' j' l' n' k' g' a' q' s' m'=true∧mu_c4 t' b' i' j' l' n' k' g' a' q' s' m'<mu_c4 t b i j l n k g a q s m∧res_c4 t' b' i' j' l' n' k' g' a' q' s' m' K=res_c4 t b i j l n k g a q s m K∧∀R:St→Option Fin,evC cx0_c4 (loopOf Tryz.f100 3) (st_c4 t b i j l n k g a q s m) (onward (headAt cx0_c4 12) R K)=R (st_c4 t' b' i' j' l' n' k' g' a' q' s' m')):=by
 have hx:=fun R=>x_impl_chartOf_3 t s a g l q m b i j n k R K;simp only[pre_c4]at hI;rw[andd,andd,andd,andd,dec_iff,dec_iff,okRs_iff,ble_iff]at hI;obtain⟨h0,rfl,⟨h2,h3⟩,h4,h5⟩:=hI
 by_cases hk:k<(length l:Int)
 ·have w:W64 (k+1)=k+1:=wrap_small (by omega) (by omega);have hg:=rulesF_at (s:=s) (i:=i) (j:=j) (p:=(m,b)) h0 hk;have hr:Nat.blt (length (l.getD k.toNat d0).2) 9=true:=all_eq_true.1 h3 _ (by
   have hn:k.toNat<length l:=by omega
   rw[getD_at hn];exact List.getElem_mem hn)
  rw[zT hk,inb_ok h0 hk,w,hr,h4,ble_iff.2 h5]at hx;simp only[Bool.and_self,Bool.cond_self]at hx;change ∀R:St→Option Fin,_=branch (bif !hasM m ((l.getD k.toNat d0).1,i,j)then splitB s m (l.getD k.toNat d0).2 i j else false) _ _ at hx;have hst:stepR s i j (l.getD k.toNat d0) (m,b)=bif !hasM m ((l.getD k.toNat d0).1,i,j)&&splitB s m (l.getD k.toNat d0).2 i j then(putM ((l.getD k.toNat d0).1,i,j) m,true)else(m,b):=rfl;rw[b2]at hx;right
  cases hc:(!hasM m ((l.getD k.toNat d0).1,i,j)&&splitB s m (l.getD k.toNat d0).2 i j)
  ·rw[hc]at hx hst;rw[hst]at hg;refine⟨t,b,i,j,l,(length l:Int),k+1,g,a,q,s,m, ?_, ?_, ?_,fun R=>hx R⟩
   ·simp only[pre_c4];rw[andd,andd,andd,andd,dec_iff,dec_iff,okRs_iff,ble_iff];exact⟨by omega,trivial,⟨h2,h3⟩,h4,h5⟩
   ·simp only[mu_c4];omega
   ·simp only[res_c4,hg];rfl
  ·rw[hc]at hx hst;rw[hst]at hg;refine⟨t,true,i,j,l,(length l:Int),k+1,g,a,q,s,putM ((l.getD k.toNat d0).1,i,j) m, ?_, ?_, ?_,fun R=>hx R⟩
   ·simp only[pre_c4];rw[andd,andd,andd,andd,dec_iff,dec_iff,okRs_iff,ble_iff];exact⟨by omega,trivial,⟨h2,h3⟩,h4,h5⟩
   ·simp only[mu_c4];omega
   ·simp only[res_c4,hg];rfl
 ·left;intro R;refine(hx R).trans ?_;rw[zF hk];have e:List.drop k.toNat l=[]:=drop_eq_nil_of_le (by omega);simp only[res_c4,e];rfl
def g_c4:St→Cont→Option Fin:=gP sh_c4 (fun v=>match v with | ((t,b,i,j,l,n,k,()),(g,(a,q,s,()),m,()))=>pre_c4 t b i j l n k g a q s m) (fun v K=>match v with | ((t,b,i,j,l,n,k,()),(g,(a,q,s,()),m,()))=>res_c4 t b i j l n k g a q s m K)
def L_c4:LpL:=(12,g_c4)::[]
theorem l_c4 {L:LpL} (n:Nat) (h1:L.drop n=[]) (h2:idsFree (L.take n) (loopOf Tryz.f100 3)=true):LoopsTo g_c4 (cb_chart) (loopOf Tryz.f100 3) 12 L :=
 with_drop h1 h2 (gP_ok (fun v=>match v with | ((t,b,i,j,l,n,k,()),(g,(a,q,s,()),m,()))=>mu_c4 t b i j l n k g a q s m) fun v K hI=>by
  obtain⟨⟨t,b,i,j,l,n,k,⟨⟩⟩,⟨g,⟨a,q,s,⟨⟩⟩,m,⟨⟩⟩⟩:=v;exact(r_c4 t b i j l n k g a q s m K hI).imp id fun⟨t',b',i',j',l',n',k',g',a',q',s',m',h⟩=>⟨((t',b',i',j',l',n',k',()),(g',(a',q',s',()),m',())),h⟩)
theorem x_impl_chartOf_2 (t s a:Str) (g:Gram) (q:List Rule) (m:PMap) (b:Bool) (i j:Int) (R:St→Option Fin) (K:Cont):evC (cb_chart.withLoops (look L_c4)) (loopOf Tryz.f100 2) ⟨[(1,vS t),(2, kp0),(5, kp1),(6,vB b),(7,vI i),(8,vI j)],[(500000,some (boxD 25 TG g)),(500001,chO a q s 500002),(500002,some (.map TP .bool m))]⟩ (onward (headAt (cb_chart.withLoops (look L_c4)) 9) R K)=(
branch (decide (j≤(t.length:Int))) (
 need (pre_c4 t b i j g.snd ((length g.snd:Int)) 0 g a q s m) <| R (.mk [(1,vS t),(2,kp0),(5,kp1),(6,(vB (rulesF s i j g.snd (m,b)).snd)),(7,vI i),(8,vI (W64 (j+1)))] [(500000,some (boxD 25 TG g)),(500001,(.some (.box 146 [(.r (.v (Value.string (mk a)))),(.r (.li TRu q)),(.r (.v (Value.string (mk s)))),(.own 500002)]))),(500002,(.some (.map TP (Ty.bool) ((rulesF s i j g.snd (m,b)).fst))))])) ( K (.exit 4) (.mk [(1,vS t),(2,kp0),(5,kp1),(6,vB b),(7,vI i)] [(500000,some (boxD 25 TG g)),(500001,(.some (.box 146 [(.r (.v (Value.string (mk a)))),(.r (.li TRu q)),(.r (.v (Value.string (mk s)))),(.own 500002)]))),(500002,(.some (.map TP (Ty.bool) m)))]))):=by kernel_rfl
def cx0_c3:Cx:=(cb_chart).withLoops (look L_c4)
def sh_c3:Sh:=([(1, .d .str),(2, .ptr 500000 0),(5, .ptr 500001 0),(6, .d .bool),(7, .d TI64),(8, .d TI64)],[(500000, .box 25 TG),(500001, .mix 146 [.d .str, .d TRL, .d .str, .own 500002]),(500002, .map TP .bool)])
abbrev st_c3 (t:Str) (b:Bool) (i j:Int) (g:Gram) (a:Str) (q:List Rule) (s:Str) (m:List (Den TP×Den .bool)):St:=⟨[(1,vS t),(2, kp0),(5, kp1),(6,vB b),(7,vI i),(8,vI j)],[(500000,some (boxD 25 TG g)),(500001,some (.box 146 ((cellsR .str a).map C.r++(cellsR TRL q).map C.r++(cellsR .str s).map C.r++[.own 500002]))),(500002,some (.map TP .bool m))]⟩
def pre_c3 (t:Str) (_b:Bool) (i j:Int) (g:Gram) (_a:Str) (_q:List Rule) (s:Str) (_m:List (Den TP×Den .bool)):Bool:=decide (0≤i)&&(decide (i≤j)&&(okRs g.2&&(decide (t=s)&&(Nat.ble (length s) 1000&&decide (j≤(length s:Int)+1)))))
def res_c3 (t:Str) (b:Bool) (i j:Int) (g:Gram) (a:Str) (q:List Rule) (s:Str) (m:List (Den TP×Den .bool)) (K:Cont):Option Fin:=K (.exit 4) ⟨[(1,vS t),(2, kp0),(5, kp1),(6,vB (tosF s g.2 i ((s.length:Int)+1-j).toNat j (m,b)).2),(7,vI i)],chH g a q s (tosF s g.2 i ((s.length:Int)+1-j).toNat j (m,b)).1⟩
def mu_c3 (_t:Str) (_b:Bool) (_i j:Int) (_g:Gram) (_a:Str) (_q:List Rule) (s:Str) (_m:List (Den TP×Den .bool)):Nat:=(length s+1)-j.toNat
theorem r_c3 (t:Str) (b:Bool) (i j:Int) (g:Gram) (a:Str) (q:List Rule) (s:Str) (m:List (Den TP×Den .bool)) (K:Cont) (hI:pre_c3 t b i j g a q s m=true):(∀R:St→Option Fin,evC cx0_c3 (loopOf Tryz.f100 2) (st_c3 t b i j g a q s m) (onward (headAt cx0_c3 9) R K)=res_c3 t b i j g a q s m K) ∨
  (∃(t':Str) (b':Bool) (i' j':Int) (g':Gram) (a':Str) (q':List Rule) (s':Str) (m':List (Den TP×Den .bool)),pre_c3 t' b' i' j' g' a' q' s' m'=true∧mu_c3 t' b' i' j' g' a' q' s' m'<mu_c3 t b i j g a q s m∧res_c3 t' b' i' j' g' a' q' s' m' K=res_c3 t b i j g a q s m K∧∀R:St→Option Fin,evC cx0_c3 (loopOf Tryz.f100 2) (st_c3 t b i j g a q s m) (onward (headAt cx0_c3 9) R K)=R (st_c3 t' b' i' j' g' a' q' s' m')):=by
 have hx:=fun R=>x_impl_chartOf_2 t s a g q m b i j R K;simp only[pre_c3]at hI;rw[andd,andd,andd,andd,andd,dec_iff,dec_iff,dec_iff,ble_iff,dec_iff]at hI;obtain⟨h0,h1,h2,rfl,h4,h5⟩:=hI
 by_cases hj:j≤(length t:Int)
 ·have w:W64 (j+1)=j+1:=wrap_small (by omega) (by omega);obtain⟨n,hn⟩:∃n,((length t:Int)+1-j).toNat=n+1:=⟨((length t:Int)+1-j).toNat-1,by omega⟩;have hn2:((length t:Int)+1-(j+1)).toNat=n:=by omega
  have hg:tosF t g.2 i (n+1) j (m,b)=tosF t g.2 i n (j+1) (rulesF t i j g.2 (m,b)):=rfl;have hp:pre_c4 t b i j g.2 ((length g.2:Int)) 0 g a q t m=true:=by
   simp only[pre_c4];rw[andd,andd,andd,andd,dec_iff,dec_iff,ble_iff];exact⟨by omega,trivial,h2,okIJ_iff.2 ⟨h0,h1,hj⟩,h4⟩
  rw[zT hj,hp,w]at hx;right;refine⟨t,(rulesF t i j g.2 (m,b)).2,i,j+1,g,a,q,t,(rulesF t i j g.2 (m,b)).1, ?_, ?_, ?_,fun R=>hx R⟩
  ·simp only[pre_c3];rw[andd,andd,andd,andd,andd,dec_iff,dec_iff,dec_iff,ble_iff,dec_iff];exact⟨by omega,by omega,h2,trivial,h4,by omega⟩
  ·simp only[mu_c3];omega
  ·simp only[res_c3,hn,hn2,hg]
 ·left;intro R;refine(hx R).trans ?_;rw[zF hj];have e:((length t:Int)+1-j).toNat=0:=by omega
  simp only[res_c3,e];rfl
def g_c3:St→Cont→Option Fin:=gP sh_c3 (fun v=>match v with | ((t,b,i,j,()),(g,(a,q,s,()),m,()))=>pre_c3 t b i j g a q s m) (fun v K=>match v with | ((t,b,i,j,()),(g,(a,q,s,()),m,()))=>res_c3 t b i j g a q s m K)
def L_c3:LpL:=(9,g_c3)::L_c4
theorem l_c3 {L:LpL} (n:Nat) (h1:L.drop n=L_c4) (h2:idsFree (L.take n) (loopOf Tryz.f100 2)=true):LoopsTo g_c3 (cb_chart) (loopOf Tryz.f100 2) 9 L :=
 with_drop h1 h2 (gP_ok (fun v=>match v with | ((t,b,i,j,()),(g,(a,q,s,()),m,()))=>mu_c3 t b i j g a q s m) fun v K hI=>by
  obtain⟨⟨t,b,i,j,⟨⟩⟩,⟨g,⟨a,q,s,⟨⟩⟩,m,⟨⟩⟩⟩:=v;exact(r_c3 t b i j g a q s m K hI).imp id fun⟨t',b',i',j',g',a',q',s',m',h⟩=>⟨((t',b',i',j',()),(g',(a',q',s',()),m',())),h⟩)
theorem x_impl_chartOf_1 (t s a:Str) (g:Gram) (q:List Rule) (m:PMap) (b:Bool) (i:Int) (R:St→Option Fin) (K:Cont):evC (cb_chart.withLoops (look L_c3)) (loopOf Tryz.f100 1) ⟨[(1,vS t),(2, kp0),(5, kp1),(6,vB b),(7,vI i)],[(500000,some (boxD 25 TG g)),(500001,chO a q s 500002),(500002,some (.map TP .bool m))]⟩ (onward (headAt (cb_chart.withLoops (look L_c3)) 6) R K)=(
branch (decide (0≤i)) (
 need (pre_c3 t b i i g a q s m) <| R (.mk [(1,vS t),(2,kp0),(5,kp1),(6,(vB (tosF s g.snd i ((s.length:Int)+1-i).toNat i (m,b)).snd)),(7,vI (W64 (i-1)))] [(500000,some (boxD 25 TG g)),(500001,(.some (.box 146 [(.r (.v (Value.string (mk a)))),(.r (.li TRu q)),(.r (.v (Value.string (mk s)))),(.own 500002)]))),(500002,(.some (.map TP (Ty.bool) ((tosF s g.snd i ((s.length:Int)+1-i).toNat i (m,b)).fst))))])) ( K (.exit 2) (.mk [(1,vS t),(2,kp0),(5,kp1),(6,vB b)] [(500000,some (boxD 25 TG g)),(500001,(.some (.box 146 [(.r (.v (Value.string (mk a)))),(.r (.li TRu q)),(.r (.v (Value.string (mk s)))),(.own 500002)]))),(500002,(.some (.map TP (Ty.bool) m)))]))):=by kernel_rfl
def cx0_c2:Cx:=(cb_chart).withLoops (look L_c3)
def sh_c2:Sh:=([(1, .d .str),(2, .ptr 500000 0),(5, .ptr 500001 0),(6, .d .bool),(7, .d TI64)],[(500000, .box 25 TG),(500001, .mix 146 [.d .str, .d TRL, .d .str, .own 500002]),(500002, .map TP .bool)])
abbrev st_c2 (t:Str) (b:Bool) (i:Int) (g:Gram) (a:Str) (q:List Rule) (s:Str) (m:List (Den TP×Den .bool)):St:=⟨[(1,vS t),(2, kp0),(5, kp1),(6,vB b),(7,vI i)],[(500000,some (boxD 25 TG g)),(500001,some (.box 146 ((cellsR .str a).map C.r++(cellsR TRL q).map C.r++(cellsR .str s).map C.r++[.own 500002]))),(500002,some (.map TP .bool m))]⟩
def pre_c2 (t:Str) (_b:Bool) (i:Int) (g:Gram) (_a:Str) (_q:List Rule) (s:Str) (_m:List (Den TP×Den .bool)):Bool:=decide (-1≤i)&&(decide (i≤(length s:Int))&&(okRs g.2&&(decide (t=s)&&Nat.ble (length s) 1000)))
def res_c2 (t:Str) (b:Bool) (i:Int) (g:Gram) (a:Str) (q:List Rule) (s:Str) (m:List (Den TP×Den .bool)) (K:Cont):Option Fin:=K (.exit 2) ⟨[(1,vS t),(2, kp0),(5, kp1),(6,vB (fromsF s g.2 (i+1).toNat (m,b)).2)],chH g a q s (fromsF s g.2 (i+1).toNat (m,b)).1⟩
def mu_c2 (_t:Str) (_b:Bool) (i:Int) (_g:Gram) (_a:Str) (_q:List Rule) (_s:Str) (_m:List (Den TP×Den .bool)):Nat:=(i+1).toNat
theorem r_c2 (t:Str) (b:Bool) (i:Int) (g:Gram) (a:Str) (q:List Rule) (s:Str) (m:List (Den TP×Den .bool)) (K:Cont) (hI:pre_c2 t b i g a q s m=true):(∀R:St→Option Fin,evC cx0_c2 (loopOf Tryz.f100 1) (st_c2 t b i g a q s m) (onward (headAt cx0_c2 6) R K)=res_c2 t b i g a q s m K) ∨
  (∃(t':Str) (b':Bool) (i':Int) (g':Gram) (a':Str) (q':List Rule) (s':Str) (m':List (Den TP×Den .bool)),pre_c2 t' b' i' g' a' q' s' m'=true∧mu_c2 t' b' i' g' a' q' s' m'<mu_c2 t b i g a q s m∧res_c2 t' b' i' g' a' q' s' m' K=res_c2 t b i g a q s m K∧∀R:St→Option Fin,evC cx0_c2 (loopOf Tryz.f100 1) (st_c2 t b i g a q s m) (onward (headAt cx0_c2 6) R K)=R (st_c2 t' b' i' g' a' q' s' m')):=by
 have hx:=fun R=>x_impl_chartOf_1 t s a g q m b i R K;simp only[pre_c2]at hI;rw[andd,andd,andd,andd,dec_iff,dec_iff,dec_iff,ble_iff]at hI;obtain⟨h0,h1,h2,rfl,h4⟩:=hI
 by_cases hi:0≤i
 ·have w:W64 (i-1)=i-1:=wrap_small (by omega) (by omega);have hn:(i+1).toNat=i.toNat+1:=by omega
  have hn2:(i-1+1).toNat=i.toNat:=by omega
  have hg:fromsF t g.2 (i.toNat+1) (m,b)=fromsF t g.2 i.toNat (tosF t g.2 ((i.toNat:Nat):Int) (t.length+1-i.toNat) ((i.toNat:Nat):Int) (m,b)):=rfl;have e1:((i.toNat:Nat):Int)=i:=by omega
  have e2:((t.length:Int)+1-i).toNat=t.length+1-i.toNat:=by omega
  rw[e1]at hg;have hp:pre_c3 t b i i g a q t m=true:=by
   simp only[pre_c3];rw[andd,andd,andd,andd,andd,dec_iff,dec_iff,dec_iff,ble_iff,dec_iff];exact⟨by omega,by omega,h2,trivial,h4,by omega⟩
  rw[zT hi,hp,w,e2]at hx;right;refine⟨t,(tosF t g.2 i (t.length+1-i.toNat) i (m,b)).2,i-1,g,a,q,t,(tosF t g.2 i (t.length+1-i.toNat) i (m,b)).1, ?_, ?_, ?_,fun R=>hx R⟩
  ·simp only[pre_c2];rw[andd,andd,andd,andd,dec_iff,dec_iff,dec_iff,ble_iff];exact⟨by omega,by omega,h2,trivial,h4⟩
  ·simp only[mu_c2];omega
  ·simp only[res_c2,hn,hn2,hg]
 ·left;intro R;refine(hx R).trans ?_;rw[zF hi];have e:(i+1).toNat=0:=by omega
  simp only[res_c2,e];rfl
def g_c2:St→Cont→Option Fin:=gP sh_c2 (fun v=>match v with | ((t,b,i,()),(g,(a,q,s,()),m,()))=>pre_c2 t b i g a q s m) (fun v K=>match v with | ((t,b,i,()),(g,(a,q,s,()),m,()))=>res_c2 t b i g a q s m K)
def L_c2:LpL:=(6,g_c2)::L_c3
theorem l_c2 {L:LpL} (n:Nat) (h1:L.drop n=L_c3) (h2:idsFree (L.take n) (loopOf Tryz.f100 1)=true):LoopsTo g_c2 (cb_chart) (loopOf Tryz.f100 1) 6 L :=
 with_drop h1 h2 (gP_ok (fun v=>match v with | ((t,b,i,()),(g,(a,q,s,()),m,()))=>mu_c2 t b i g a q s m) fun v K hI=>by
  obtain⟨⟨t,b,i,⟨⟩⟩,⟨g,⟨a,q,s,⟨⟩⟩,m,⟨⟩⟩⟩:=v;exact(r_c2 t b i g a q s m K hI).imp id fun⟨t',b',i',g',a',q',s',m',h⟩=>⟨((t',b',i',()),(g',(a',q',s',()),m',())),h⟩)
theorem x_impl_chartOf (t s a:Str) (g:Gram) (q:List Rule) (m:PMap) (b:Bool) (R:St→Option Fin) (K:Cont):evC (cb_chart.withLoops (look L_c2)) (loopOf Tryz.f100 0) ⟨[(1,vS t),(2, kp0),(5, kp1),(6,vB b)],[(500000,some (boxD 25 TG g)),(500001,chO a q s 500002),(500002,some (.map TP .bool m))]⟩ (onward (headAt (cb_chart.withLoops (look L_c2)) 3) R K)=(
branch b (
 need (pre_c2 t false ((t.length:Int)) g a q s m) <| R (.mk [(1,vS t),(2,kp0),(5,kp1),(6,(vB (fromsF s g.snd ((t.length:Int)+1).toNat (m,false)).snd))] [(500000,some (boxD 25 TG g)),(500001,(.some (.box 146 [(.r (.v (Value.string (mk a)))),(.r (.li TRu q)),(.r (.v (Value.string (mk s)))),(.own 500002)]))),(500002,(.some (.map TP (Ty.bool) ((fromsF s g.snd ((t.length:Int)+1).toNat (m,false)).fst))))])) ( K (.exit 0) (.mk [(5,kp0)] [(500000,(.some (.box 146 [(.r (.v (Value.string (mk a)))),(.r (.li TRu q)),(.r (.v (Value.string (mk s)))),(.own 500001)]))),(500001,(.some (.map TP (Ty.bool) m)))]))):=by kernel_rfl
def cx0_c1:Cx:=(cb_chart).withLoops (look L_c2)
def sh_c1:Sh:=([(1, .d .str),(2, .ptr 500000 0),(5, .ptr 500001 0),(6, .d .bool)],[(500000, .box 25 TG),(500001, .mix 146 [.d .str, .d TRL, .d .str, .own 500002]),(500002, .map TP .bool)])
abbrev st_c1 (t:Str) (b:Bool) (g:Gram) (a:Str) (q:List Rule) (s:Str) (m:List (Den TP×Den .bool)):St:=⟨[(1,vS t),(2, kp0),(5, kp1),(6,vB b)],[(500000,some (boxD 25 TG g)),(500001,some (.box 146 ((cellsR .str a).map C.r++(cellsR TRL q).map C.r++(cellsR .str s).map C.r++[.own 500002]))),(500002,some (.map TP .bool m))]⟩
def pre_c1 (t:Str) (_b:Bool) (g:Gram) (_a:Str) (_q:List Rule) (s:Str) (_m:List (Den TP×Den .bool)):Bool:=okRs g.2&&(decide (t=s)&&Nat.ble (length s) 1000)
def res_c1 (_t:Str) (b:Bool) (g:Gram) (a:Str) (q:List Rule) (s:Str) (m:List (Den TP×Den .bool)) (K:Cont):Option Fin:=K (.exit 0) ⟨[(5, kp0)],[(500000,chO a q s 500001),(500001,some (.map TP .bool (bif b then runC hasM (fun v=>[keyV v]) (stepV s) (visF s g.2 (s.length+1)) m else m)))]⟩
def mu_c1 (_t:Str) (b:Bool) (g:Gram) (_a:Str) (_q:List Rule) (s:Str) (m:List (Den TP×Den .bool)):Nat:=2*missG hasM ((visF s g.2 (s.length+1)).flatMap fun v=>[keyV v]) m+(bif b then 1 else 0)
theorem r_c1 (t:Str) (b:Bool) (g:Gram) (a:Str) (q:List Rule) (s:Str) (m:List (Den TP×Den .bool)) (K:Cont) (hI:pre_c1 t b g a q s m=true):(∀R:St→Option Fin,evC cx0_c1 (loopOf Tryz.f100 0) (st_c1 t b g a q s m) (onward (headAt cx0_c1 3) R K)=res_c1 t b g a q s m K) ∨
  (∃(t':Str) (b':Bool) (g':Gram) (a':Str) (q':List Rule) (s':Str) (m':List (Den TP×Den .bool)),pre_c1 t' b' g' a' q' s' m'=true∧mu_c1 t' b' g' a' q' s' m'<mu_c1 t b g a q s m∧res_c1 t' b' g' a' q' s' m' K=res_c1 t b g a q s m K∧∀R:St→Option Fin,evC cx0_c1 (loopOf Tryz.f100 0) (st_c1 t b g a q s m) (onward (headAt cx0_c1 3) R K)=R (st_c1 t' b' g' a' q' s' m')):=by
 have hx:=fun R=>x_impl_chartOf t s a g q m b R K;simp only[pre_c1]at hI;rw[andd,andd,dec_iff,ble_iff]at hI;obtain⟨h2,rfl,h4⟩:=hI
 cases b
 ·left;intro R;refine(hx R).trans ?_;simp only[res_c1];rfl
 ·have hp:pre_c2 t false ((t.length:Int)) g a q t m=true:=by
   simp only[pre_c2];rw[andd,andd,andd,andd,dec_iff,dec_iff,dec_iff,ble_iff];exact⟨by omega,by omega,h2,trivial,h4⟩
  have e:((t.length:Int)+1).toNat=t.length+1:=by omega
  rw[hp,e,froms_vis]at hx;have hg:=runC_at (stepV_ok t) (vs:=visF t g.2 (t.length+1)) (m:=m) (fun _ _=>trivial) trivial;right;refine⟨t,(foldG (stepV t) (visF t g.2 (t.length+1)) (m,false)).2,g,a,q,t,(foldG (stepV t) (visF t g.2 (t.length+1)) (m,false)).1, ?_, ?_, ?_,fun R=>hx R⟩
  ·simp only[pre_c1];rw[andd,andd,dec_iff,ble_iff];exact⟨h2,trivial,h4⟩
  ·simp only[mu_c1]
   cases hc:(foldG (stepV t) (visF t g.2 (t.length+1)) (m,false)).2
   ·obtain ⟨_,h5,_⟩:=foldG_quiet (stepV_ok t) (fun _ _=>trivial) trivial hc;rw[h5,cond_true,cond_false];show 2*missG hasM _ m+0<2*missG hasM _ m+1;omega
   ·have:=miss_lt (stepV_ok t) (fun _ _=>trivial) trivial hc;rw[cond_true];omega
  ·simp only[res_c1,cond_true];exact congrArg (fun z:PMap=>K (.exit 0) ⟨[(5, kp0)],[(500000,chO a q t 500001),(500001,some (.map TP .bool z))]⟩) hg.symm
def g_c1:St→Cont→Option Fin:=gP sh_c1 (fun v=>match v with | ((t,b,()),(g,(a,q,s,()),m,()))=>pre_c1 t b g a q s m) (fun v K=>match v with | ((t,b,()),(g,(a,q,s,()),m,()))=>res_c1 t b g a q s m K)
def L_c1:LpL:=(3,g_c1)::L_c2
def cx_c1:Cx:=(cb_chart).withLoops (look L_c1)
theorem l_c1 {L:LpL} (n:Nat) (h1:L.drop n=L_c2) (h2:idsFree (L.take n) (loopOf Tryz.f100 0)=true):LoopsTo g_c1 (cb_chart) (loopOf Tryz.f100 0) 3 L :=
 with_drop h1 h2 (gP_ok (fun v=>match v with | ((t,b,()),(g,(a,q,s,()),m,()))=>mu_c1 t b g a q s m) fun v K hI=>by
  obtain⟨⟨t,b,⟨⟩⟩,⟨g,⟨a,q,s,⟨⟩⟩,m,⟨⟩⟩⟩:=v;exact(r_c1 t b g a q s m K hI).imp id fun⟨t',b',g',a',q',s',m',h⟩=>⟨((t',b',()),(g',(a',q',s',()),m',())),h⟩)
abbrev refC4 (g:Gram) (s:Str) (m:PMap):T := .d (.one (.r (.rop 4 (fun j=>[R.v (Value.string (mk g.1)),R.li TRu g.2,R.v (Value.string (mk s)),R.mp TP .bool m].getD j z0))))
theorem y_impl_chartOf (g:Gram) (s:Str):evFn cx_c1 Tryz.f100 true [ofD TG g,ofD .str s] []=need (pre_c1 s true g g.1 g.2 s []) (some (refC4 g s (chartM s g.2),[])):=by kernel_rfl
theorem s_impl_chartOf (g:Gram) (_hg:Fit TG g) (s:Str) (_hs:Fit .str s) (hpre:(okRs g.2&&Nat.ble (length s) 1000)=true):Sat Tryz.prog 100 [ofD TG g,ofD .str s] [] (refC4 g s (chartM s g.2)) [] :=
 fn_sound (cx:=cx_c1) Tryz.func100 rfl ttOk Γ83ok mixed (fun c hc=>LoopsOk.all (l:=[(3,loopOf Tryz.f100 0),(6,loopOf Tryz.f100 1),(9,loopOf Tryz.f100 2),(12,loopOf Tryz.f100 3)]) (by cases hc;kernel_rfl) ⟨atLoop rfl (l_c1 1 rfl (by kernel_rfl)),atLoop rfl (l_c2 2 rfl (by kernel_rfl)),atLoop rfl (l_c3 3 rfl (by kernel_rfl)),atLoop rfl (l_c4 4 rfl (by kernel_rfl)),trivial⟩) (ro:=true) (by
  obtain⟨h1,h2⟩:=andd.1 hpre;have hp:pre_c1 s true g g.1 g.2 s []=true:=by
   simp only[pre_c1];rw[andd,andd,dec_iff];exact⟨h1,trivial,h2⟩
  refine(y_impl_chartOf g s).trans ?_;rw[hp];rfl)
def c_impl_chartOf:Con:=conT [TG, .str] fun(g:Gram) (s:Str)=>(some (okRs g.2&&Nat.ble (length s) 1000),refC4 g s (chartM s g.2))
theorem k_impl_chartOf:ConOk Tryz.prog 100 c_impl_chartOf:=conT_ok Tryz.call100 fun g hg s hs hqq=>s_impl_chartOf g hg s hs (pre_of hqq)
def Γ84:GL:=(100,c_impl_chartOf)::Γ83
theorem Γ84ok:GO Γ84 := .cons k_impl_chartOf Γ83ok
theorem sat_typed {P:Program} {f:FuncId} {ds:List D} {os:List Obj} {d:D} {objs:Heap} {t:Ty} {x:Den t} (S:Sat P f ds os (.d d) objs) (h:asD t d=some x):Sat P f ds os (.d (ofD t x)) objs:=fun w F β args H hds=>(S w F β args H hds).mono (by
 rintro e w' ⟨v,F',β',h1,h2,h3,h4,_,h6⟩;exact⟨v,F',β',h1,h2,h3,h4,fun _ _ _ hh=>(nomatch hh),asD_sound h h6 _ _⟩)
def c_impl_chartOfC:Con:=conT [TG, .str] fun(g:Gram) (s:Str)=>(some (okRs g.2&&Nat.ble (length s) 1000), .d (ofD (.ref TCh) ((g,s,chartM s g.2):Chart)))
theorem k_impl_chartOfC:ConOk Tryz.prog 100 c_impl_chartOfC:=conT_ok Tryz.call100 fun g hg s hs hqq=>sat_typed (s_impl_chartOf g hg s hs (pre_of hqq)) rfl
def Γ85:GL:=(100,c_impl_chartOfC)::Γ84
theorem Γ85ok:GO Γ85 := .cons k_impl_chartOfC Γ84ok
theorem getD_mem {α:Type} {l:List α} {i:Nat} {d:α} (h:i<l.length):l.getD i d∈l:=by
 rw[zG,zE h];exact List.getElem_mem h
theorem big_not_small {a:Str} (h:bigS a=true):smallS a=false:=by
 obtain⟨c,e,hc⟩:=bigS_one h
 cases hs:smallS a
 ·rfl
 ·obtain ⟨c',e',hc'⟩:=smallS_one hs;rw[e]at e'
  cases (List.cons.inj e').1
  exact absurd ⟨hc,hc'⟩ (big_small c)
theorem areSm_iff {s:Str} {n:Int}:areSm s n=true↔(s.length:Int)≤n∧s.all small=true:=by
 unfold areSm;rw[b2,andd,dec_iff]
theorem both_iff {g:Gram} {s:Str} (h:both2 g s=true):okG g=true∧s.length≤8∧s.all small=true:=by
 unfold both2 at h;rw[b2,andd,areSm_iff]at h;exact⟨h.1,by omega,h.2.2⟩
theorem y_impl_isDerived (g:Gram) (s:Str):evFn (cxOf Γ85 Tryz.f49.ntmps [] [] [] []) Tryz.f49 true [ofD TG g,ofD .str s] []=(
need (okRs g.snd&&s.length.ble 1000) <|
need (okIJ s 0 (s.length:Int)) <| some ((vB (derB s (chartM s g.snd) g.fst 0 (s.length:Int))),[])):=by kernel_rfl
theorem s_impl_isDerived (g:Gram) (_hg:Fit TG g) (s:Str) (_hs:Fit .str s) (hpre:(okRs g.2&&Nat.ble (length s) 1000)=true):Sat Tryz.prog 49 [ofD TG g,ofD .str s] [] (.d (ofD .bool (derB s (chartM s g.2) g.1 0 (length s:Int)))) [] :=
 fn_sound (cx:=cxOf Γ85 Tryz.f49.ntmps [] [] [] []) Tryz.func49 rfl ttOk Γ85ok mixed (fun _ _=>LoopsOk.no fun _=>rfl) (ro:=true) (by
  have h:okIJ s 0 (length s:Int)=true:=okIJ_iff.2 ⟨by omega,by omega,by omega⟩;rw[y_impl_isDerived,hpre,h];rfl)
def c_impl_isDerived:Con:=conT [TG, .str] fun(g:Gram) (s:Str)=>(some (okRs g.2&&Nat.ble (length s) 1000), .d (ofD .bool (derB s (chartM s g.2) g.1 0 (length s:Int))))
theorem k_impl_isDerived:ConOk Tryz.prog 49 c_impl_isDerived:=conT_ok Tryz.call49 fun g hg s hs hqq=>s_impl_isDerived g hg s hs (pre_of hqq)
def Γ86:GL:=(49,c_impl_isDerived)::Γ85
theorem Γ86ok:GO Γ86 := .cons k_impl_isDerived Γ85ok
def isD (g:Gram) (s:Str):Bool:=derB s (chartM s g.2) g.1 0 (s.length:Int)
theorem isD_iff {g:Gram} {s:Str} (h:bigS g.1=true):isD g s=true↔DerG s g.2 g.1 0 (s.length:Int):=by
 unfold isD derB;rw[big_not_small h,cond_false];exact chartM_iff
theorem ok_rs {g:Gram} (h:okG g=true):okRs g.2=true:=by
 obtain⟨_,h2,h3⟩:=okG_iff h;refine okRs_iff.2 ⟨by omega,all_eq_true.2 fun r hr=>blt_iff.2 ?_⟩;have:=(areS_iff (h3 r hr).2).2;omega
theorem s_impl_AllIs (g:Gram) (_hg:Fit TG g) (s:Str) (_hs:Fit .str s):Sat Tryz.prog 15 [ofD TG g,ofD .str s] [] (.d (ofD .bool (both2 g s&&isD g s))) [] :=
 fn_sound (cx:=cxOf Γ86 Tryz.f15.ntmps [] [] [] []) Tryz.func15 rfl ttOk Γ86ok mixed (fun _ _=>LoopsOk.no fun _=>rfl) (ro:=true) (by
  have y:evFn (cxOf Γ86 Tryz.f15.ntmps [] [] [] []) Tryz.f15 true [ofD TG g,ofD .str s] []=need (bif decide (both2 g s=true)then okRs g.2&&Nat.ble (length s) 1000 else true) (some (vB (bif both2 g s then isD g s else false),[])):=by kernel_rfl
  rw[y]
  cases hb:both2 g s
  ·rfl
  ·obtain ⟨h1,h2⟩:=both_iff hb;rw[ok_rs h1,ble_iff.2 (by omega:length s≤1000)];rfl)
def c_impl_AllIs:Con:=conT [TG, .str] fun(g:Gram) (s:Str)=>(none, .d (ofD .bool (both2 g s&&isD g s)))
theorem k_impl_AllIs:ConOk Tryz.prog 15 c_impl_AllIs:=conT_ok Tryz.call15 fun g hg s hs _=>s_impl_AllIs g hg s hs
def Γ87:GL:=(15,c_impl_AllIs)::Γ86
theorem Γ87ok:GO Γ87 := .cons k_impl_AllIs Γ86ok
abbrev ts2:List Nat:=[128,4]
def asc7 (s:Str):Bool:=List.all s fun c=>Nat.blt c.toNat 128
set_option maxHeartbeats 4000000 in
set_option maxRecDepth 1000000 in
theorem walk_RuneCount (s:ByteArray) (w:World) (hs:s.size<4294967281) (hascii:∀(j:Nat) b,s.data.toList[j]? = some b→b.toNat<128) :
  Calls Tryz.prog 164 #[.string s] w fun e w'=>e = .returned (.int .i64 s.size)∧w'=w.iter s s.size:=by
 have HA:Aside (∀(j:Nat) b,s.data.toList[j]? = some b→b.toNat<128):=hascii;clear hascii
 go_enter Tryz.func164,Tryz.ntmps164
 go_wp2
 go_loopg [2] s.size (fun g s2 wx=>∃i:Nat,i+g=s.size∧s2 = .int .i64 i∧wx=w.iter s i)
 case atStart=>exact ⟨0,by omega,rfl,rfl⟩
 case round =>
  obtain⟨i,hig,rfl,rfl⟩:=hrel
  cases gk with
  |zero =>
   obtain rfl:i=s.size:=by omega
   have hnx:=run_next_end (P:=Tryz.prog) w s s.size
   go_wp2
   go_ret
   exact⟨rfl,rfl⟩
  |succ g =>
   have hi:i<s.size:=by omega
   have ha:(s[i]'hi).toNat<128:=HA.out i _ (Lib.data_getElem? s i hi);have hnx:=fun ty=>run_next_ascii (P:=Tryz.prog) w s i ty hi ha
   go_wp2
   go_roundg g
   case measure=>omega
   case rel=>exact ⟨i+1,by omega,by first | rfl | simp,rfl⟩
theorem s_RuneCount (s:Str) (hs:(length s).ble 1000=true) (ha:asc7 s=true):Sat Tryz.prog 164 [ofD .str s] [] (.d (ofD TI64 (length s:Int))) []:=by
 intro w F β args H hds
 cases hds with | cons h1 h2 =>
 cases h2
 obtain⟨e1,_⟩:=h1;subst e1;have hl:(mk s).size=length s:=rfl;refine(walk_RuneCount (mk s) w (by rw[hl];have:=ble_iff.1 hs;omega) (fun j b hj => ?_)).mono ?_
 ·have hm:b∈s:=List.mem_of_getElem? hj;have:=all_eq_true.1 ha b hm;exact blt_iff.1 this
 ·rintro e w' ⟨rfl,rfl⟩;have hsz:(w.iter (mk s) (mk s).size).heap.size=w.heap.size+1:=by
   show(w.heap.push _).size=_;exact Array.size_push ..
  refine⟨_,F,β,rfl,(H.grow (w':=w.iter (mk s) (mk s).size) rfl rfl rfl (by omega) (fun b hb => ?_)).1,fun i hi=>absurd hi (Nat.not_lt_zero i),fun i o hi=>absurd hi (Nat.not_lt_zero i),fun _ _ _ hh=>(nomatch hh),rep_v (plain_i64 (by omega) (by have:=ble_iff.1 hs;omega))⟩;show(w.heap.push _)[b]? = _;rw[Array.getElem?_push,if_neg (by omega)]
def c_unicode_utf8_RuneCountInString:Con:=conT [.str] fun(s:Str)=>(some ((length s).ble 1000&&asc7 s), .d (ofD TI64 (length s:Int)))
theorem k_unicode_utf8_RuneCountInString:ConOk Tryz.prog 164 c_unicode_utf8_RuneCountInString:=conT_ok Tryz.call164 fun s _ hqq=>s_RuneCount s (andd.1 (pre_of hqq)).1 (andd.1 (pre_of hqq)).2
def Γ88:GL:=(164,c_unicode_utf8_RuneCountInString)::Γ87
theorem Γ88ok:GO Γ88 := .cons k_unicode_utf8_RuneCountInString Γ87ok
theorem y_unicode_utf8_DecodeRuneInString (s:Str):evFn ((cxOf Γ88 Tryz.f160.ntmps [] [] [] []).parted [1]) Tryz.f160 true [ofD .str s] []=(
need (decide ((!decide (s=[]))=true)) <|
need (inb 0 s.length) <|
need (bif true then decide (byteAt s 0<128)else false) <|
need (inb 0 s.length) <| some ((.tup [(.one (.r (.v (Value.int IntKind.i32 (IntKind.i32.wrap (byteAt s 0)))))),(.one (.r (.v (Value.int IntKind.i64 1))))]),[])):=by kernel_rfl
theorem s_unicode_utf8_DecodeRuneInString (s:Str) (_hs:Fit .str s) (hpre:(Nat.blt 0 (length s)&&asc7 s)=true):Sat Tryz.prog 160 [ofD .str s] [] (.tup [ofD (.int .i32) (byteAt s 0),ofD TI64 (1:Int)]) [] :=
 fn_sound (cx:=((cxOf Γ88 Tryz.f160.ntmps [] [] [] []).parted [1])) Tryz.func160 rfl ttOk Γ88ok mixed (fun _ _=>LoopsOk.no fun _=>rfl) (ro:=true) (by
  obtain⟨h1,h2⟩:=andd.1 hpre;have h1:=blt_iff.1 h1;rw[y_unicode_utf8_DecodeRuneInString]
  cases s with
  |nil=>exact absurd h1 (Nat.lt_irrefl 0)
  |cons c s =>
   have hc:=blt_iff.1 (all_eq_true.1 h2 c mem_cons_self);have hb:byteAt (c::s) 0=(c.toNat:Int):=rfl;have w:IntKind.i32.wrap (byteAt (c::s) 0)=byteAt (c::s) 0:=by
    rw[hb,IntKind.wrap_i32];omega
   rw[w,inb_ok (Int.le_refl 0) (by rw[length_cons];omega),zT (show byteAt (c::s) 0<128 by rw[hb];omega)];rfl)
def c_unicode_utf8_DecodeRuneInString:Con:=conT [.str] fun(s:Str)=>(some (Nat.blt 0 (length s)&&asc7 s), .tup [ofD (.int .i32) (byteAt s 0),ofD TI64 (1:Int)])
theorem k_unicode_utf8_DecodeRuneInString:ConOk Tryz.prog 160 c_unicode_utf8_DecodeRuneInString:=conT_ok Tryz.call160 fun s hs hqq=>s_unicode_utf8_DecodeRuneInString s hs (pre_of hqq)
def Γ89:GL:=(160,c_unicode_utf8_DecodeRuneInString)::Γ88
theorem Γ89ok:GO Γ89 := .cons k_unicode_utf8_DecodeRuneInString Γ88ok
def onesL (s:Str):List Str:=s.map fun c=>[c]
def expl:Nat→Nat→Str→List Str→List Str×Str
 |0,_,s,a=>(a,s)
 |m+1,i,s,a=>expl m (i+1) (s.drop 1) (a.set i (s.take 1))
theorem expl_len:∀ {m i:Nat} {s:Str} {a:List Str},(expl m i s a).1.length=a.length
 |0,_,_,_=>rfl
 |m+1,i,s,a=>by
  show(expl m (i+1) (s.drop 1) (a.set i (s.take 1))).1.length=_;rw[expl_len,length_set]
theorem expl_eq:∀ {m i:Nat} {s:Str} {a:List Str},s.length=m+1→a.length=i+m+1→(expl m i s a).1.set (i+m) (expl m i s a).2=a.take i++onesL s
 |0,i,s,a,h1,h2=>by
  obtain⟨c,rfl⟩:=List.length_eq_one_iff.1 h1;show a.set (i+0) [c]=_;rw[Nat.add_zero,List.set_eq_take_append_cons_drop,if_pos (by omega),drop_eq_nil_of_le (by omega)];rfl
 |m+1,i,s,a,h1,h2=>by
  obtain⟨c,t,rfl⟩:∃c t,s=c::t:=by
   cases s with
   |nil=>cases h1
   |cons c t=>exact ⟨c,t,rfl⟩
  have:=expl_eq (m:=m) (i:=i+1) (s:=t) (a:=a.set i [c]) (Nat.succ.inj h1) (by rw[length_set];omega);show(expl m (i+1) t (a.set i [c])).1.set (i+(m+1)) (expl m (i+1) t (a.set i [c])).2=_;rw[show i+(m+1)=i+1+m by omega,this,List.set_eq_take_append_cons_drop,if_pos (by omega),List.take_append,length_take,show i+1-min i a.length=1 by omega,List.take_of_length_le (by rw[length_take];omega),append_assoc];rfl
def cb_expl:Cx:=(cxOf Γ89 Tryz.f148.ntmps [(6,[0,1,6,7])] [(0,[0,1,6]),(1,[0,1,6,7]),(1000000,[4])] [] []).parted [2]
abbrev st_expl (s:Str) (n i:Int) (a:List (Str)):St:=⟨[(0,vS s),(1,vI n),(6, ko0),(7,vI i)],[(500000,some (.lis 9 .str a))]⟩
theorem x_strings_explode (s:Str) (n i:Int) (a:List Str) (R:St→Option Fin) (K:Cont):evC (cb_expl.withLoops (look [])) (loopOf Tryz.f148 0) (st_expl s n i a) (onward (headAt (cb_expl.withLoops (look [])) 6) R K)=(
branch (decide (i<W64 (n-1))) (
 need (Nat.blt 0 s.length&&asc7 s) <|
 need (inr 0 1 s.length) <|
 need (inb i a.length) <|
 need (inr 1 ((s.length:Int)) s.length) <| R (st_expl (List.take (((s.length:Int)).toNat-Int.toNat 1) (List.drop (Int.toNat 1) s)) n (W64 (i+1)) (a.set i.toNat (List.take (Int.toNat 1-(0:Int).toNat) s)))) ( K (.exit 0) (.mk [(0,vS s),(1,vI n),(6,ko0)] [(500000,(.some (.lis 9 (Ty.str) a)))]))):=by kernel_rfl
def cx0_expl:Cx:=(cb_expl).withLoops (look [])
def sh_expl:Sh:=([(0, .d .str),(1, .d TI64),(6, .own 500000),(7, .d TI64)],[(500000, .lis 9 .str)])
def pre_expl (s:Str) (n i:Int) (a:List (Str)):Bool:=decide (0≤i)&&(decide (n≤1000)&&(decide ((length s:Int)+i=n)&&(decide ((length a:Int)=n)&&asc7 s)))
def res_expl (s:Str) (n i:Int) (a:List (Str)) (K:Cont):Option Fin:=K (.exit 0) ⟨[(0,vS (expl (n-1-i).toNat i.toNat s a).2),(1,vI n),(6, ko0)],[(500000,some (.lis 9 .str (expl (n-1-i).toNat i.toNat s a).1))]⟩
def mu_expl (_s:Str) (n i:Int) (_a:List (Str)):Nat:=(n-i).toNat
theorem r_expl (s:Str) (n i:Int) (a:List (Str)) (K:Cont) (hI:pre_expl s n i a=true):(∀R:St→Option Fin,evC cx0_expl (loopOf Tryz.f148 0) (st_expl s n i a) (onward (headAt cx0_expl 6) R K)=res_expl s n i a K) ∨
  (∃(s':Str) (n' i':Int) (a':List (Str)),pre_expl s' n' i' a'=true∧mu_expl s' n' i' a'<mu_expl s n i a∧res_expl s' n' i' a' K=res_expl s n i a K∧∀R:St→Option Fin,evC cx0_expl (loopOf Tryz.f148 0) (st_expl s n i a) (onward (headAt cx0_expl 6) R K)=R (st_expl s' n' i' a')):=by
 have hx:=fun R=>x_strings_explode s n i a R K;simp only[pre_expl,andd,dec_iff,ble_iff]at hI;obtain⟨h0,h1,h2,h3,h4⟩:=hI;have w1:W64 (n-1)=n-1:=wrap_small (by omega) (by omega);rw[w1]at hx
 by_cases hi:i<n-1
 ·have w:W64 (i+1)=i+1:=wrap_small (by omega) (by omega);have t1:List.take (((length s:Int)).toNat-Int.toNat 1) (List.drop (Int.toNat 1) s)=List.drop 1 s:=List.take_of_length_le (by rw[length_drop];omega);have k1:(Nat.blt 0 (length s)&&asc7 s)=true:=andd.2 ⟨blt_iff.2 (by omega),h4⟩;obtain⟨m,hm⟩:∃m,(n-1-i).toNat=m+1:=⟨(n-1-i).toNat-1,by omega⟩;have hm2:(n-1-(i+1)).toNat=m:=by omega
  have hi2:(i+1).toNat=i.toNat+1:=by omega
  rw[zT hi,k1,t1,w,inb_ok h0 (by omega),inr_iff.2 (by omega:(0:Int)≤0∧(0:Int)≤1∧1≤(length s:Int)),inr_iff.2 (by omega:(0:Int)≤1∧1≤(length s:Int)∧(length s:Int)≤(length s:Int))]at hx;right;refine⟨List.drop 1 s,n,i+1,a.set i.toNat (List.take 1 s), ?_, ?_, ?_,fun R=>hx R⟩
  ·simp only[pre_expl,andd,dec_iff,ble_iff];rw[length_drop,length_set];exact⟨by omega,h1,by omega,h3,all_eq_true.2 fun c hc=>all_eq_true.1 h4 c (List.mem_of_mem_drop hc)⟩
  ·simp only[mu_expl];omega
  ·simp only[res_expl,hm,hm2,hi2];rfl
 ·left;intro R;refine(hx R).trans ?_;rw[zF hi];have e:(n-1-i).toNat=0:=by omega
  simp only[res_expl,e];rfl
def g_expl:St→Cont→Option Fin:=gP sh_expl (fun v=>match v with | ((s,n,i,()),(a,()))=>pre_expl s n i a) (fun v K=>match v with | ((s,n,i,()),(a,()))=>res_expl s n i a K)
def L_expl:LpL:=(6,g_expl)::[]
def cx_expl:Cx:=(cb_expl).withLoops (look L_expl)
theorem l_expl {L:LpL} (n:Nat) (h1:L.drop n=[]) (h2:idsFree (L.take n) (loopOf Tryz.f148 0)=true):LoopsTo g_expl (cb_expl) (loopOf Tryz.f148 0) 6 L :=
 with_drop h1 h2 (gP_ok (fun v=>match v with | ((s,n,i,()),(a,()))=>mu_expl s n i a) fun v K hI=>by
  obtain⟨⟨s,n,i,⟨⟩⟩,⟨a,⟨⟩⟩⟩:=v;exact(r_expl s n i a K hI).imp id fun⟨s',n',i',a',h⟩=>⟨((s',n',i',()),(a',())),h⟩)
theorem y_strings_explode (s:Str) (n:Int):evFn cx_expl Tryz.f148 true [ofD .str s,ofD TI64 n] []=(
need (s.length.ble 1000&&asc7 s) <|
branch (decide (decide (n<0)=false)) (
 branch (bif false then true else decide ((s.length:Int)<n)) (
 need (decide (0≤(s.length:Int)∧(s.length:Int)≤(s.length:Int)∧(s.length:Int)*(Tryz.t9.bytes:Int)≤140737488355328∧(s.length:Int)≤9223372036854775807)) <|
 need (pre_expl s ((s.length:Int)) 0 (replicate ((s.length:Int)).toNat ([]:Str))) <|
 branch (decide (0<(s.length:Int))) (
  need (inb (W64 ((s.length:Int)-1)) (expl ((s.length:Int)-1-0).toNat ((0:Int).toNat) s (replicate ((s.length:Int)).toNat ([]:Str))).fst.length) <| some ((.d (.one (.r (.li (Ty.str) ((expl ((s.length:Int)-1-0).toNat ((0:Int).toNat) s (replicate ((s.length:Int)).toNat ([]:Str))).fst.set (W64 ((s.length:Int)-1)).toNat (expl ((s.length:Int)-1-0).toNat ((0:Int).toNat) s (replicate ((s.length:Int)).toNat ([]:Str))).snd))))),[])) ( some ((.d (.one (.r (.li (Ty.str) ((expl ((s.length:Int)-1-0).toNat ((0:Int).toNat) s (replicate ((s.length:Int)).toNat ([]:Str))).fst))))),[]))) (
 need (decide (0≤n∧n≤n∧n*(Tryz.t9.bytes:Int)≤140737488355328∧n≤9223372036854775807)) <|
 need (pre_expl s n 0 (replicate n.toNat ([]:Str))) <|
 branch (decide (0<n)) (
  need (inb (W64 (n-1)) (expl (n-1-0).toNat ((0:Int).toNat) s (replicate n.toNat ([]:Str))).fst.length) <| some ((.d (.one (.r (.li (Ty.str) ((expl (n-1-0).toNat ((0:Int).toNat) s (replicate n.toNat ([]:Str))).fst.set (W64 (n-1)).toNat (expl (n-1-0).toNat ((0:Int).toNat) s (replicate n.toNat ([]:Str))).snd))))),[])) ( some ((.d (.one (.r (.li (Ty.str) ((expl (n-1-0).toNat ((0:Int).toNat) s (replicate n.toNat ([]:Str))).fst))))),[])))) (
 need (decide (0≤(s.length:Int)∧(s.length:Int)≤(s.length:Int)∧(s.length:Int)*(Tryz.t9.bytes:Int)≤140737488355328∧(s.length:Int)≤9223372036854775807)) <|
 need (pre_expl s ((s.length:Int)) 0 (replicate ((s.length:Int)).toNat ([]:Str))) <|
 branch (decide (0<(s.length:Int))) (
 need (inb (W64 ((s.length:Int)-1)) (expl ((s.length:Int)-1-0).toNat ((0:Int).toNat) s (replicate ((s.length:Int)).toNat ([]:Str))).fst.length) <| some ((.d (.one (.r (.li (Ty.str) ((expl ((s.length:Int)-1-0).toNat ((0:Int).toNat) s (replicate ((s.length:Int)).toNat ([]:Str))).fst.set (W64 ((s.length:Int)-1)).toNat (expl ((s.length:Int)-1-0).toNat ((0:Int).toNat) s (replicate ((s.length:Int)).toNat ([]:Str))).snd))))),[])) ( some ((.d (.one (.r (.li (Ty.str) ((expl ((s.length:Int)-1-0).toNat ((0:Int).toNat) s (replicate ((s.length:Int)).toNat ([]:Str))).fst))))),[])))):=by kernel_rfl
theorem s_strings_explode (s:Str) (_hs:Fit .str s) (n:Int) (_hn:Fit TI64 n) (hpre:(decide (n = -1)&&(Nat.ble (length s) 1000&&asc7 s))=true):Sat Tryz.prog 148 [ofD .str s,ofD TI64 n] [] (.d (ofD (.list .str) (onesL s))) [] :=
 fn_sound (cx:=cx_expl) Tryz.func148 rfl ttOk Γ89ok mixed (fun c hc=>LoopsOk.all (l:=[(6,loopOf Tryz.f148 0)]) (by cases hc;kernel_rfl) ⟨atLoop rfl (l_expl 1 rfl (by kernel_rfl)),trivial⟩) (ro:=true) (by
  rw[andd,dec_iff]at hpre;obtain⟨rfl,hq⟩:=hpre;obtain⟨h1,h2⟩:=andd.1 hq;have h1:=ble_iff.1 h1;have k1:decide (0≤(length s:Int)∧(length s:Int)≤(length s:Int)∧(length s:Int)*(Tryz.t9.bytes:Int)≤140737488355328∧(length s:Int)≤9223372036854775807)=true:=by
   rw[show Tryz.t9.bytes=16 by kernel_rfl];exact zT ⟨by omega,Int.le_refl _,by omega,by omega⟩
  have k2:pre_expl s (length s:Int) 0 (replicate ((length s:Int)).toNat ([]:Str))=true:=by
   simp only[pre_expl,andd,dec_iff,ble_iff];rw[length_replicate];exact⟨Int.le_refl 0,by omega,by omega,by omega,h2⟩
  rw[y_strings_explode,hq,k1,k2]
  cases s with
  |nil=>rfl
  |cons c t =>
   have w:W64 ((length (c::t):Int)-1)=(length t:Int):=by
    rw[length_cons];show W64 (((length t+1:Nat):Int)-1)=_;rw[show ((length t+1:Nat):Int)-1=(length t:Int)by omega];rw[length_cons]at h1;exact wrap_small (by omega) (by omega)
   have e1:((length (c::t):Int)-1-0).toNat=length t:=by rw[length_cons];omega
   have e2:((length (c::t):Int)).toNat=length t+1:=by rw[length_cons];omega
   have e3:((length t:Int)).toNat=0+length t:=by omega
   have hx:=expl_eq (m:=length t) (i:=0) (s:=c::t) (a:=replicate (length t+1) ([]:Str)) rfl (by rw[length_replicate];omega);rw[w,e1,e2,e3,zT (by rw[length_cons];omega:(0:Int)<(length (c::t):Int)),inb_ok (by omega) (by rw[expl_len,length_replicate];omega)];exact congrArg (fun z=>(some (.d (.one (.r (.li .str z))),[]):Option Fin)) hx)
def c_strings_explode:Con:=conT [.str,TI64] fun(s:Str) (n:Int)=>(some (decide (n = -1)&&(Nat.ble (length s) 1000&&asc7 s)), .d (ofD (.list .str) (onesL s)))
theorem k_strings_explode:ConOk Tryz.prog 148 c_strings_explode:=conT_ok Tryz.call148 fun s hs n hn hqq=>s_strings_explode s hs n hn (pre_of hqq)
def Γ90:GL:=(148,c_strings_explode)::Γ89
theorem Γ90ok:GO Γ90 := .cons k_strings_explode Γ89ok
theorem y_strings_genSplit (s:Str) (t:Str) (a:Int) (n:Int):evFn ((cxOf Γ90 Tryz.f121.ntmps [] [] [] [])) Tryz.f121 true [ofD .str s,ofD .str t,ofD TI64 a,ofD TI64 n] []=(
branch (decide (n=0)) ( some ((.d (.one (.r (.li ty9 ([]))))),[])) (
 branch (decide (t=[])) (
 need (decide (n=Int.neg 1)&&(s.length.ble 1000&&asc7 s)) <| some ((.d (.one (.r (.li (Ty.str) (onesL s))))),[])) (
 branch (decide (n<0)) ( none) (
  need (decide ((0≤if W64 ((s.length:Int)+1)<n then W64 ((s.length:Int)+1)else n)∧((if W64 ((s.length:Int)+1)<n then W64 ((s.length:Int)+1)else n)≤if W64 ((s.length:Int)+1)<n then W64 ((s.length:Int)+1)else n)∧(if W64 ((s.length:Int)+1)<n then W64 ((s.length:Int)+1)else n)*(Tryz.t9.bytes:Int)≤140737488355328∧(if W64 ((s.length:Int)+1)<n then W64 ((s.length:Int)+1)else n)≤9223372036854775807)) <| none)))):=by kernel_rfl
theorem s_strings_genSplit (s:Str) (_hs:Fit .str s) (t:Str) (_ht:Fit .str t) (a:Int) (_ha:Fit TI64 a) (n:Int) (_hn:Fit TI64 n) (hpre:(decide (t=[])&&(decide (n = -1)&&(Nat.ble (length s) 1000&&asc7 s)))=true):Sat Tryz.prog 121 [ofD .str s,ofD .str t,ofD TI64 a,ofD TI64 n] [] (.d (ofD (.list .str) (onesL s))) [] :=
 fn_sound (cx:=cxOf Γ90 Tryz.f121.ntmps [] [] [] []) Tryz.func121 rfl ttOk Γ90ok mixed (fun _ _=>LoopsOk.no fun _=>rfl) (ro:=true) (by
  rw[andd,andd,dec_iff,dec_iff]at hpre;obtain⟨rfl,rfl,hq⟩:=hpre;rw[y_strings_genSplit,hq];rfl)
def c_strings_genSplit:Con:=conT [.str, .str,TI64,TI64] fun(s:Str) (t:Str) (_a:Int) (n:Int)=>(some (decide (t=[])&&(decide (n = -1)&&(Nat.ble (length s) 1000&&asc7 s))), .d (ofD (.list .str) (onesL s)))
theorem k_strings_genSplit:ConOk Tryz.prog 121 c_strings_genSplit:=conT_ok Tryz.call121 fun s hs t ht a ha n hn hqq=>s_strings_genSplit s hs t ht a ha n hn (pre_of hqq)
def Γ91:GL:=(121,c_strings_genSplit)::Γ90
theorem Γ91ok:GO Γ91 := .cons k_strings_genSplit Γ90ok
theorem s_strings_Split (s:Str) (_hs:Fit .str s) (t:Str) (_ht:Fit .str t) (hpre:(decide (t=[])&&(Nat.ble (length s) 1000&&asc7 s))=true):Sat Tryz.prog 78 [ofD .str s,ofD .str t] [] (.d (ofD (.list .str) (onesL s))) [] :=
 fn_sound (cx:=cxOf Γ91 Tryz.f78.ntmps [] [] [] []) Tryz.func78 rfl ttOk Γ91ok mixed (fun _ _=>LoopsOk.no fun _=>rfl) (ro:=true) (by
  have y:evFn (cxOf Γ91 Tryz.f78.ntmps [] [] [] []) Tryz.f78 true [ofD .str s,ofD .str t] []=need (decide (t=[])&&(decide (-1=(-1:Int))&&(Nat.ble (length s) 1000&&asc7 s))) (some (.d (ofD (.list .str) (onesL s)),[])):=by kernel_rfl
  rw[andd,dec_iff]at hpre;obtain⟨rfl,hq⟩:=hpre;rw[y,hq];rfl)
def c_strings_Split:Con:=conT [.str, .str] fun(s:Str) (t:Str)=>(some (decide (t=[])&&(Nat.ble (length s) 1000&&asc7 s)), .d (ofD (.list .str) (onesL s)))
theorem k_strings_Split:ConOk Tryz.prog 78 c_strings_Split:=conT_ok Tryz.call78 fun s hs t ht hqq=>s_strings_Split s hs t ht (pre_of hqq)
def Γ92:GL:=(78,c_strings_Split)::Γ91
theorem Γ92ok:GO Γ92 := .cons k_strings_Split Γ91ok
def levW (c:Str):Nat→List Str
 |0=>[[]]
 |n+1=>(levW c n).flatMap fun w=>c.map fun x=>w++[x]
def upTo (c:Str):Nat→List Str
 |0=>[[]]
 |n+1=>upTo c n++levW c (n+1)
theorem mem_levW {c:Str}:∀ {n:Nat} {w:Str},w∈levW c n↔w.length=n∧∀x∈w,x∈c
 |0,w=>by
  unfold levW;rw[mem_singleton]
  constructor
  ·rintro rfl;exact ⟨rfl,fun x hx=>by cases hx⟩
  ·rintro ⟨h,_⟩;exact List.length_eq_zero_iff.1 h
 |n+1,w=>by
  unfold levW;rw[List.mem_flatMap]
  constructor
  ·rintro ⟨u,hu,h⟩;obtain⟨x,hx,rfl⟩:=List.mem_map.1 h;obtain⟨h1,h2⟩:=(mem_levW (w:=u)).1 hu;refine⟨by rw[length_append,h1];rfl,fun y hy => ?_⟩;rcases mem_append.1 hy with hy | hy
   ·exact h2 y hy
   ·rw[mem_singleton.1 hy];exact hx
  ·rintro ⟨h1,h2⟩;obtain⟨u,x,rfl⟩:∃u x,w=u++[x]:=by
    rcases List.eq_nil_or_concat w with rfl | ⟨u,x,rfl⟩
    ·cases h1
    ·exact ⟨u,x,by rw[List.concat_eq_append]⟩
   refine⟨u,(mem_levW (w:=u)).2 ⟨by rw[length_append]at h1;exact Nat.succ.inj h1,fun y hy=>h2 y (mem_append_left _ hy)⟩,List.mem_map.2 ⟨x,h2 x (mem_append_right _ mem_cons_self),rfl⟩⟩
theorem mem_upTo {c w:Str}:∀ {n:Nat},w∈upTo c n↔w.length≤n∧∀x∈w,x∈c
 |0=>by
  show w∈levW c 0↔_;rw[mem_levW (w:=w)]
  constructor
  ·rintro ⟨h1,h2⟩;exact ⟨by omega,h2⟩
  ·rintro ⟨h1,h2⟩;exact ⟨by omega,h2⟩
 |n+1=>by
  unfold upTo;rw[mem_append,mem_upTo (n:=n),mem_levW (w:=w)]
  constructor
  ·rintro (⟨h1,h2⟩ | ⟨h1,h2⟩)
   ·exact ⟨by omega,h2⟩
   ·exact ⟨by omega,h2⟩
  ·rintro ⟨h1,h2⟩
   by_cases h:w.length=n+1
   ·exact .inr ⟨h,h2⟩
   ·exact .inl ⟨by omega,h2⟩
theorem len_levW {c:Str}:∀ {n:Nat},(levW c n).length=c.length ^ n
 |0=>rfl
 |n+1=>by
  unfold levW;rw[List.length_flatMap];have:∀l:List Str,(l.map fun w=>(c.map fun x=>w++[x]).length).sum=l.length*c.length:=by
   intro l
   induction l with
   |nil=>simp
   |cons a l ih=>rw[List.map_cons,List.sum_cons,ih,List.length_map,length_cons,Nat.add_mul];omega
  rw[this,len_levW,Nat.pow_succ]
theorem pow_le {c n:Nat} (hc:c≤4) (hn:n≤4):c ^ n≤256:=Nat.le_trans (Nat.pow_le_pow_left hc n) (Nat.le_trans (Nat.pow_le_pow_right (by omega) hn) (by decide))
theorem len_upTo {c:Str} (hc:c.length≤4):∀ {n:Nat},n≤4→(upTo c n).length≤256*(n+1)
 |0,_=>by show 1≤_;omega
 |n+1,h=>by
  unfold upTo;rw[length_append,len_levW];have:=pow_le hc h;have:=len_upTo hc (n:=n) (by omega);omega
def firstD (f:Str→Bool):List Str→Str×Bool
 | []=>([],false)
 |w::l=>bif f w then(w,true)else firstD f l
theorem asc_len {b:Nat}:∀ {s:Str} {a:Nat},s.Pairwise (fun a b=>a.toNat<b.toNat)→(∀x∈s,a≤x.toNat∧x.toNat<b)→s.length≤b-a
 | [],_,_,_=>Nat.zero_le _
 |x::s,a,h,h1=>by
  obtain⟨h2,h3⟩:=List.pairwise_cons.1 h;obtain⟨h4,h5⟩:=h1 x mem_cons_self;have:=asc_len (a:=x.toNat+1) h3 fun y hy=>⟨h2 y hy,(h1 y (mem_cons_of_mem _ hy)).2⟩;rw[length_cons];omega
def isM (n:Int):Bool:=decide (0≤n)&&decide (n≤4)
theorem s_impl_isMost (n:Int) (_hn:Fit TI64 n):Sat Tryz.prog 50 [ofD TI64 n] [] (.d (ofD .bool (isM n))) [] :=
 fn_sound (cx:=cxOf Γ92 Tryz.f50.ntmps [] [] [] []) Tryz.func50 rfl ttOk Γ92ok mixed (fun _ _=>LoopsOk.no fun _=>rfl) (ro:=true) (by
  have y:evFn (cxOf Γ92 Tryz.f50.ntmps [] [] [] []) Tryz.f50 true [ofD TI64 n] []=some (vB (bif decide (0≤n)then decide (n≤4)else false),[]):=by kernel_rfl
  rw[y,b2];rfl)
def c_impl_isMost:Con:=conT [TI64] fun(n:Int)=>(none, .d (ofD .bool (isM n)))
theorem k_impl_isMost:ConOk Tryz.prog 50 c_impl_isMost:=conT_ok Tryz.call50 fun n hn _=>s_impl_isMost n hn
def Γ93:GL:=(50,c_impl_isMost)::Γ92
theorem Γ93ok:GO Γ93 := .cons k_impl_isMost Γ92ok
def cb_wu:Cx:=cxOf Γ93 Tryz.f51.ntmps [(10,[0,5,7,9,13,14,17,18,19,24,25]),(7,[0,5,7,13,14,17,18,19]),(4,[0,5,6,13,14])] [(0,[5]),(1,[0,5,6,13,14]),(2,[0,5,7,13,14]),(3,[0,5,7,13,14,17,18,19]),(4,[0,5,7,13,14,17,18,19]),(5,[0,5,7,9,13,14,17,18,19,24,25]),(1000000,[4])] [] []
abbrev wuH (o q l:List Str):Heap:=[(500000,some (.lis 9 .str o)),(500001,some (.lis 9 .str q)),(500002,some (.lis 9 .str l))]
theorem strFits {n:Nat} (h:n≤1000000):fits n Tryz.t9.bytes=true:=by
 rw[show Tryz.t9.bytes=16 by kernel_rfl];exact zT (by omega)
theorem x_impl_wordsUpTo_2 (c w:Str) (o q l:List Str) (n x m y p z:Int) (R:St→Option Fin) (K:Cont):evC (cb_wu.withLoops (look [])) (loopOf Tryz.f51 2) ⟨[(0,vS c),(5, ko0),(7, ko1),(9,vS w),(13,vI n),(14,vI x),(17, ko2),(18,vI m),(19,vI y),(24,vI p),(25,vI z)],wuH o q l⟩ (onward (headAt (cb_wu.withLoops (look [])) 10) R K)=(
branch (decide (z<p)) (
 need (inr z (W64 (z+1)) c.length) <|
 need (decide ((length w+(List.take ((W64 (z+1)).toNat-z.toNat) (List.drop z.toNat c)).length)≤9223372036854775807)) <|
 need (fits (q.length+[List.append w (List.take ((W64 (z+1)).toNat-z.toNat) (List.drop z.toNat c))].length) Tryz.t9.bytes) <| R (.mk [(0,vS c),(5,ko0),(7,ko1),(9,vS w),(13,vI n),(14,vI x),(17,ko2),(18,vI m),(19,vI y),(24,vI p),(25,vI (W64 (z+1)))] [(500000,(.some (.lis 9 (Ty.str) o))),(500001,(.some (.lis 9 ty9 (q.append [List.append w (List.take ((W64 (z+1)).toNat-z.toNat) (List.drop z.toNat c))])))),(500002,(.some (.lis 9 (Ty.str) l)))])) ( K (.exit 4) (.mk [(0,vS c),(5,ko0),(7,ko1),(13,vI n),(14,vI x),(17,ko2),(18,vI m),(19,vI y)] [(500000,(.some (.lis 9 (Ty.str) o))),(500001,(.some (.lis 9 (Ty.str) q))),(500002,(.some (.lis 9 (Ty.str) l)))]))):=by kernel_rfl
def cx0_w3:Cx:=(cb_wu).withLoops (look [])
def sh_w3:Sh:=([(0, .d .str),(5, .own 500000),(7, .own 500001),(9, .d .str),(13, .d TI64),(14, .d TI64),(17, .own 500002),(18, .d TI64),(19, .d TI64),(24, .d TI64),(25, .d TI64)],[(500000, .lis 9 .str),(500001, .lis 9 .str),(500002, .lis 9 .str)])
abbrev st_w3 (c w:Str) (n x m y p z:Int) (o q l:List (Str)):St:=⟨[(0,vS c),(5, ko0),(7, ko1),(9,vS w),(13,vI n),(14,vI x),(17, ko2),(18,vI m),(19,vI y),(24,vI p),(25,vI z)],[(500000,some (.lis 9 .str o)),(500001,some (.lis 9 .str q)),(500002,some (.lis 9 .str l))]⟩
def pre_w3 (c w:Str) (_n _x _m _y p z:Int) (_o q _l:List (Str)):Bool:=decide (0≤z)&&(decide (p=(length c:Int))&&(decide (length c≤1000)&&(decide (length w≤1000)&&decide ((length q:Int)≤100000+z))))
def res_w3 (c w:Str) (n x m y _p z:Int) (o q l:List (Str)) (K:Cont):Option Fin:=K (.exit 4) ⟨[(0,vS c),(5, ko0),(7, ko1),(13,vI n),(14,vI x),(17, ko2),(18,vI m),(19,vI y)],wuH o (q++(List.drop z.toNat c).map fun e=>w++[e]) l⟩
def mu_w3 (c _w:Str) (_n _x _m _y _p z:Int) (_o _q _l:List (Str)):Nat:=length c-z.toNat
theorem r_w3 (c w:Str) (n x m y p z:Int) (o q l:List (Str)) (K:Cont) (hI:pre_w3 c w n x m y p z o q l=true):(∀R:St→Option Fin,evC cx0_w3 (loopOf Tryz.f51 2) (st_w3 c w n x m y p z o q l) (onward (headAt cx0_w3 10) R K)=res_w3 c w n x m y p z o q l K) ∨
  (∃(c' w':Str) (n' x' m' y' p' z':Int) (o' q' l':List (Str)),pre_w3 c' w' n' x' m' y' p' z' o' q' l'=true∧mu_w3 c' w' n' x' m' y' p' z' o' q' l'<mu_w3 c w n x m y p z o q l∧res_w3 c' w' n' x' m' y' p' z' o' q' l' K=res_w3 c w n x m y p z o q l K∧∀R:St→Option Fin,evC cx0_w3 (loopOf Tryz.f51 2) (st_w3 c w n x m y p z o q l) (onward (headAt cx0_w3 10) R K)=R (st_w3 c' w' n' x' m' y' p' z' o' q' l')):=by
 have hx:=fun R=>x_impl_wordsUpTo_2 c w o q l n x m y p z R K;simp only[pre_w3,andd,dec_iff]at hI;obtain⟨h0,rfl,h1,h2,h3⟩:=hI
 by_cases hz:z<(length c:Int)
 ·have w1:W64 (z+1)=z+1:=wrap_small (by omega) (by omega);have hn:z.toNat<length c:=by omega
  have hd:List.drop z.toNat c=getD c z.toNat 0::List.drop (z+1).toNat c:=by
   rw[drop_eq_getElem_cons hn,show (z+1).toNat=z.toNat+1 by omega,zG,zE hn];rfl
  rw[zT hz,w1,inr_iff.2 (by omega:0≤z∧z≤z+1∧z+1≤(length c:Int)),slice_one h0 hz,strFits (by rw[length_singleton];omega),zT (by rw[length_singleton];omega:length w+length [getD c z.toNat 0]≤9223372036854775807)]at hx;right;refine⟨c,w,n,x,m,y,(length c:Int),z+1,o,q++[w++[getD c z.toNat 0]],l, ?_, ?_, ?_,fun R=>hx R⟩
  ·simp only[pre_w3,andd,dec_iff];rw[length_append,length_singleton];exact⟨by omega,trivial,h1,h2,by omega⟩
  ·simp only[mu_w3];omega
  ·simp only[res_w3,hd,List.map_cons,append_assoc];rfl
 ·left;intro R;refine(hx R).trans ?_;rw[zF hz];have e:List.drop z.toNat c=[]:=drop_eq_nil_of_le (by omega);simp only[res_w3,e,List.map_nil,List.append_nil];rfl
def g_w3:St→Cont→Option Fin:=gP sh_w3 (fun v=>match v with | ((c,w,n,x,m,y,p,z,()),(o,q,l,()))=>pre_w3 c w n x m y p z o q l) (fun v K=>match v with | ((c,w,n,x,m,y,p,z,()),(o,q,l,()))=>res_w3 c w n x m y p z o q l K)
def L_w3:LpL:=(10,g_w3)::[]
theorem l_w3 {L:LpL} (n:Nat) (h1:L.drop n=[]) (h2:idsFree (L.take n) (loopOf Tryz.f51 2)=true):LoopsTo g_w3 (cb_wu) (loopOf Tryz.f51 2) 10 L :=
 with_drop h1 h2 (gP_ok (fun v=>match v with | ((c,w,n,x,m,y,p,z,()),(o,q,l,()))=>mu_w3 c w n x m y p z o q l) fun v K hI=>by
  obtain⟨⟨c,w,n,x,m,y,p,z,⟨⟩⟩,⟨o,q,l,⟨⟩⟩⟩:=v;exact(r_w3 c w n x m y p z o q l K hI).imp id fun⟨c',w',n',x',m',y',p',z',o',q',l',h⟩=>⟨((c',w',n',x',m',y',p',z',()),(o',q',l',())),h⟩)
theorem x_impl_wordsUpTo_1 (c:Str) (o q l:List Str) (n x m y:Int) (R:St→Option Fin) (K:Cont):evC (cb_wu.withLoops (look L_w3)) (loopOf Tryz.f51 1) ⟨[(0,vS c),(5, ko0),(7, ko1),(13,vI n),(14,vI x),(17, ko2),(18,vI m),(19,vI y)],wuH o q l⟩ (onward (headAt (cb_wu.withLoops (look L_w3)) 7) R K)=(
branch (decide (y<m)) (
 need (inb y l.length) <|
 need (pre_w3 c (l.getD y.toNat ([]:Str)) n x m y ((c.length:Int)) 0 o q l) <| R (.mk [(0,vS c),(5,ko0),(7,ko1),(13,vI n),(14,vI x),(17,ko2),(18,vI m),(19,vI (W64 (y+1)))] [(500000,(.some (.lis 9 (Ty.str) o))),(500001,(.some (.lis 9 (Ty.str) (q.append (List.map (fun e=>List.append (l.getD y.toNat ([]:Str)) [e]) c))))),(500002,(.some (.lis 9 (Ty.str) l)))])) ( K (.exit 2) (.mk [(0,vS c),(5,ko0),(7,ko1),(13,vI n),(14,vI x)] [(500000,(.some (.lis 9 (Ty.str) o))),(500001,(.some (.lis 9 (Ty.str) q)))]))):=by kernel_rfl
theorem flat_at {f:Str→List Str} {l:List Str} {i:Int} (h0:0≤i) (h1:i<(l.length:Int)):(l.drop i.toNat).flatMap f=f (l.getD i.toNat [])++(l.drop (i+1).toNat).flatMap f:=by
 have hn:i.toNat<l.length:=by omega
 rw[drop_eq_getElem_cons hn,List.flatMap_cons,show (i+1).toNat=i.toNat+1 by omega,getD_at hn]
def cx0_w2:Cx:=(cb_wu).withLoops (look L_w3)
def sh_w2:Sh:=([(0, .d .str),(5, .own 500000),(7, .own 500001),(13, .d TI64),(14, .d TI64),(17, .own 500002),(18, .d TI64),(19, .d TI64)],[(500000, .lis 9 .str),(500001, .lis 9 .str),(500002, .lis 9 .str)])
abbrev st_w2 (c:Str) (n x m y:Int) (o q l:List (Str)):St:=⟨[(0,vS c),(5, ko0),(7, ko1),(13,vI n),(14,vI x),(17, ko2),(18,vI m),(19,vI y)],[(500000,some (.lis 9 .str o)),(500001,some (.lis 9 .str q)),(500002,some (.lis 9 .str l))]⟩
def pre_w2 (c:Str) (_n _x m y:Int) (_o q l:List (Str)):Bool:=decide (0≤y)&&(decide (m=(length l:Int))&&(decide (length c≤4)&&(decide (length l≤1000)&&(List.all l (fun e=>decide (length e≤1000))&&decide ((length q:Int)≤4*y)))))
def res_w2 (c:Str) (n x _m y:Int) (o q l:List (Str)) (K:Cont):Option Fin:=K (.exit 2) ⟨[(0,vS c),(5, ko0),(7, ko1),(13,vI n),(14,vI x)],[(500000,some (.lis 9 .str o)),(500001,some (.lis 9 .str (q++(List.drop y.toNat l).flatMap fun w=>c.map fun e=>w++[e])))]⟩
def mu_w2 (_c:Str) (_n _x _m y:Int) (_o _q l:List (Str)):Nat:=length l-y.toNat
theorem r_w2 (c:Str) (n x m y:Int) (o q l:List (Str)) (K:Cont) (hI:pre_w2 c n x m y o q l=true):(∀R:St→Option Fin,evC cx0_w2 (loopOf Tryz.f51 1) (st_w2 c n x m y o q l) (onward (headAt cx0_w2 7) R K)=res_w2 c n x m y o q l K) ∨
  (∃(c':Str) (n' x' m' y':Int) (o' q' l':List (Str)),pre_w2 c' n' x' m' y' o' q' l'=true∧mu_w2 c' n' x' m' y' o' q' l'<mu_w2 c n x m y o q l∧res_w2 c' n' x' m' y' o' q' l' K=res_w2 c n x m y o q l K∧∀R:St→Option Fin,evC cx0_w2 (loopOf Tryz.f51 1) (st_w2 c n x m y o q l) (onward (headAt cx0_w2 7) R K)=R (st_w2 c' n' x' m' y' o' q' l')):=by
 have hx:=fun R=>x_impl_wordsUpTo_1 c o q l n x m y R K;simp only[pre_w2,andd,dec_iff]at hI;obtain⟨h0,rfl,h1,h2,h3,h4⟩:=hI
 by_cases hz:y<(length l:Int)
 ·have w1:W64 (y+1)=y+1:=wrap_small (by omega) (by omega);have hn:y.toNat<length l:=by omega
  have hw:=of_decide_eq_true (all_eq_true.1 h3 _ (getD_mem (d:=([]:Str)) hn));have hg:=flat_at (f:=fun w=>c.map fun e=>w++[e]) h0 hz;have kp:pre_w3 c (getD l y.toNat []) n x (length l:Int) y (length c:Int) 0 o q l=true:=by
   simp only[pre_w3,andd,dec_iff];exact⟨Int.le_refl 0,trivial,by omega,hw,by omega⟩
  rw[zT hz,inb_ok h0 hz,w1,kp]at hx;right;refine⟨c,n,x,(length l:Int),y+1,o,q++c.map (fun e=>getD l y.toNat []++[e]),l, ?_, ?_, ?_,fun R=>hx R⟩
  ·simp only[pre_w2,andd,dec_iff];rw[length_append,List.length_map];exact⟨by omega,trivial,h1,h2,h3,by omega⟩
  ·simp only[mu_w2];omega
  ·simp only[res_w2,hg,append_assoc]
 ·left;intro R;refine(hx R).trans ?_;rw[zF hz];have e:List.drop y.toNat l=[]:=drop_eq_nil_of_le (by omega);simp only[res_w2,e,List.flatMap_nil,List.append_nil];rfl
def g_w2:St→Cont→Option Fin:=gP sh_w2 (fun v=>match v with | ((c,n,x,m,y,()),(o,q,l,()))=>pre_w2 c n x m y o q l) (fun v K=>match v with | ((c,n,x,m,y,()),(o,q,l,()))=>res_w2 c n x m y o q l K)
def L_w2:LpL:=(7,g_w2)::L_w3
theorem l_w2 {L:LpL} (n:Nat) (h1:L.drop n=L_w3) (h2:idsFree (L.take n) (loopOf Tryz.f51 1)=true):LoopsTo g_w2 (cb_wu) (loopOf Tryz.f51 1) 7 L :=
 with_drop h1 h2 (gP_ok (fun v=>match v with | ((c,n,x,m,y,()),(o,q,l,()))=>mu_w2 c n x m y o q l) fun v K hI=>by
  obtain⟨⟨c,n,x,m,y,⟨⟩⟩,⟨o,q,l,⟨⟩⟩⟩:=v;exact(r_w2 c n x m y o q l K hI).imp id fun⟨c',n',x',m',y',o',q',l',h⟩=>⟨((c',n',x',m',y',()),(o',q',l',())),h⟩)
abbrev st_w1 (c:Str) (n x:Int) (o l:List (Str)):St:=⟨[(0,vS c),(5, ko0),(6, ko1),(13,vI n),(14,vI x)],[(500000,some (.lis 9 .str o)),(500001,some (.lis 9 .str l))]⟩
theorem x_impl_wordsUpTo (c:Str) (o l:List Str) (n x:Int) (R:St→Option Fin) (K:Cont):evC (cb_wu.withLoops (look L_w2)) (loopOf Tryz.f51 0) (st_w1 c n x o l) (onward (headAt (cb_wu.withLoops (look L_w2)) 4) R K)=(
branch (decide (x<n)) (
 need (pre_w2 c n x ((l.length:Int)) 0 o [] l) <|
 need (fits (o.length+(id (List.flatMap (fun w=>List.map (fun e=>w.append [e]) c) l)).length) Tryz.t9.bytes) <| R (st_w1 c n (W64 (x+1)) (o.append (id (List.flatMap (fun w=>List.map (fun e=>w.append [e]) c) l))) (id (List.flatMap (fun w=>List.map (fun e=>w.append [e]) c) l)))) ( K (.exit 0) (.mk [(5,ko0)] [(500000,(.some (.lis 9 (Ty.str) o)))]))):=by kernel_rfl
def tailW (c:Str):Nat→Nat→List Str
 |_,0=>[]
 |x,k+1=>levW c (x+1)++tailW c (x+1) k
theorem tailW_eq {c:Str}:∀ {k x:Nat},upTo c x++tailW c x k=upTo c (x+k)
 |0,_=>List.append_nil _
 |k+1,x=>by
  unfold tailW;rw[← append_assoc,show upTo c x++levW c (x+1)=upTo c (x+1)from rfl,tailW_eq,show x+1+k=x+(k+1)by omega]
def cx0_w1:Cx:=(cb_wu).withLoops (look L_w2)
def sh_w1:Sh:=([(0, .d .str),(5, .own 500000),(6, .own 500001),(13, .d TI64),(14, .d TI64)],[(500000, .lis 9 .str),(500001, .lis 9 .str)])
def pre_w1 (c:Str) (n x:Int) (o l:List (Str)):Bool:=decide (0≤x)&&(decide (n≤4)&&(decide (length c≤4)&&(decide (l=levW c x.toNat)&&decide ((length o:Int)≤300*(x+1)))))
def res_w1 (c:Str) (n x:Int) (o _l:List (Str)) (K:Cont):Option Fin:=K (.exit 0) ⟨[(5, ko0)],[(500000,some (.lis 9 .str (o++tailW c x.toNat (n-x).toNat)))]⟩
def mu_w1 (_c:Str) (n x:Int) (_o _l:List (Str)):Nat:=(n-x).toNat
theorem r_w1 (c:Str) (n x:Int) (o l:List (Str)) (K:Cont) (hI:pre_w1 c n x o l=true):(∀R:St→Option Fin,evC cx0_w1 (loopOf Tryz.f51 0) (st_w1 c n x o l) (onward (headAt cx0_w1 4) R K)=res_w1 c n x o l K) ∨
  (∃(c':Str) (n' x':Int) (o' l':List (Str)),pre_w1 c' n' x' o' l'=true∧mu_w1 c' n' x' o' l'<mu_w1 c n x o l∧res_w1 c' n' x' o' l' K=res_w1 c n x o l K∧∀R:St→Option Fin,evC cx0_w1 (loopOf Tryz.f51 0) (st_w1 c n x o l) (onward (headAt cx0_w1 4) R K)=R (st_w1 c' n' x' o' l')):=by
 have hx:=fun R=>x_impl_wordsUpTo c o l n x R K;simp only[pre_w1,andd,dec_iff]at hI;obtain⟨h0,h1,h2,rfl,h3⟩:=hI
 by_cases hz:x<n
 ·have w1:W64 (x+1)=x+1:=wrap_small (by omega) (by omega);have hl:(levW c x.toNat).length≤256:=by rw[len_levW];exact pow_le h2 (by omega)
  have hl2:(levW c (x.toNat+1)).length≤256:=by rw[len_levW];exact pow_le h2 (by omega)
  obtain⟨k,hk⟩:∃k,(n-x).toNat=k+1:=⟨(n-x).toNat-1,by omega⟩;have hk2:(n-(x+1)).toNat=k:=by omega
  have hx1:(x+1).toNat=x.toNat+1:=by omega
  have kp:pre_w2 c n x ((levW c x.toNat).length:Int) 0 o [] (levW c x.toNat)=true:=by
   simp only[pre_w2,andd,dec_iff];refine⟨Int.le_refl 0,trivial,h2,by omega,all_eq_true.2 fun e he=>zT ?_,Int.le_refl _⟩;have:=((mem_levW (w:=e)).1 he).1;omega
  have kf:fits (length o+(levW c (x.toNat+1)).length) Tryz.t9.bytes=true:=strFits (by omega);rw[zT hz,w1,kp]at hx;change ∀R:St→Option Fin,_=branch true (need true (need (fits (length o+(levW c (x.toNat+1)).length) Tryz.t9.bytes) _)) _ at hx;rw[kf]at hx;right;refine⟨c,n,x+1,o++levW c (x.toNat+1),levW c (x.toNat+1), ?_, ?_, ?_,fun R=>hx R⟩
  ·simp only[pre_w1,andd,dec_iff];rw[length_append,hx1];exact⟨by omega,h1,h2,rfl,by omega⟩
  ·simp only[mu_w1];omega
  ·simp only[res_w1,hk,hk2,hx1,tailW,append_assoc]
 ·left;intro R;refine(hx R).trans ?_;rw[zF hz];have e:(n-x).toNat=0:=by omega
  simp only[res_w1,e,tailW,List.append_nil];rfl
def g_w1:St→Cont→Option Fin:=gP sh_w1 (fun v=>match v with | ((c,n,x,()),(o,l,()))=>pre_w1 c n x o l) (fun v K=>match v with | ((c,n,x,()),(o,l,()))=>res_w1 c n x o l K)
def L_w1:LpL:=(4,g_w1)::L_w2
def cx_w1:Cx:=(cb_wu).withLoops (look L_w1)
theorem l_w1 {L:LpL} (n:Nat) (h1:L.drop n=L_w2) (h2:idsFree (L.take n) (loopOf Tryz.f51 0)=true):LoopsTo g_w1 (cb_wu) (loopOf Tryz.f51 0) 4 L :=
 with_drop h1 h2 (gP_ok (fun v=>match v with | ((c,n,x,()),(o,l,()))=>mu_w1 c n x o l) fun v K hI=>by
  obtain⟨⟨c,n,x,⟨⟩⟩,⟨o,l,⟨⟩⟩⟩:=v;exact(r_w1 c n x o l K hI).imp id fun⟨c',n',x',o',l',h⟩=>⟨((c',n',x',()),(o',l',())),h⟩)
theorem y_impl_wordsUpTo (c:Str) (n:Int):evFn cx_w1 Tryz.f51 true [ofD .str c,ofD TI64 n] []=(
need (pre_w1 c n 0 [[]] [[]]) <| some ((.d (.one (.r (.li (Ty.str) ([[]].append (tailW c ((0:Int).toNat) (n-0).toNat)))))),[])):=by kernel_rfl
theorem s_impl_wordsUpTo (c:Str) (_hc:Fit .str c) (n:Int) (_hn:Fit TI64 n) (hpre:(decide (length c≤4)&&isM n)=true):Sat Tryz.prog 51 [ofD .str c,ofD TI64 n] [] (.d (ofD (.list .str) (upTo c n.toNat))) [] :=
 fn_sound (cx:=cx_w1) Tryz.func51 rfl ttOk Γ93ok mixed (fun c hc=>LoopsOk.all (l:=[(4,loopOf Tryz.f51 0),(7,loopOf Tryz.f51 1),(10,loopOf Tryz.f51 2)]) (by cases hc;kernel_rfl) ⟨atLoop rfl (l_w1 1 rfl (by kernel_rfl)),atLoop rfl (l_w2 2 rfl (by kernel_rfl)),atLoop rfl (l_w3 3 rfl (by kernel_rfl)),trivial⟩) (ro:=true) (by
  rw[andd,dec_iff]at hpre;obtain⟨h1,h2⟩:=hpre;unfold isM at h2;rw[andd,dec_iff,dec_iff]at h2;have kp:pre_w1 c n 0 [[]] [[]]=true:=by
   simp only[pre_w1,andd,dec_iff];exact⟨Int.le_refl 0,h2.2,h1,rfl,by show((1:Nat):Int)≤_;omega⟩
  have e:([[]]++tailW c 0 n.toNat:List Str)=upTo c n.toNat:=by
   have:=tailW_eq (c:=c) (k:=n.toNat) (x:=0);rw[Nat.zero_add]at this;exact this
  have e0:(n-0).toNat=n.toNat:=by omega
  rw[y_impl_wordsUpTo,kp,e0];exact congrArg (fun z:List Str=>(some (.d (.one (.r (.li .str z))),[]):Option Fin)) e)
def c_impl_wordsUpTo:Con:=conT [.str,TI64] fun(c:Str) (n:Int)=>(some (decide (length c≤4)&&isM n), .d (ofD (.list .str) (upTo c n.toNat)))
theorem k_impl_wordsUpTo:ConOk Tryz.prog 51 c_impl_wordsUpTo:=conT_ok Tryz.call51 fun c hc n hn hqq=>s_impl_wordsUpTo c hc n hn (pre_of hqq)
def Γ94:GL:=(51,c_impl_wordsUpTo)::Γ93
theorem Γ94ok:GO Γ94 := .cons k_impl_wordsUpTo Γ93ok
theorem dropS_at {l:List Str} {i:Int} (h0:0≤i) (h1:i<(l.length:Int)):List.drop i.toNat l=getD l i.toNat []::List.drop (i+1).toNat l:=by
 have hn:i.toNat<l.length:=by omega
 rw[drop_eq_getElem_cons hn,show (i+1).toNat=i.toNat+1 by omega,zG,zE hn];rfl
def fewS (l:List Str):Bool:=List.all l fun w=>Nat.ble (length w) 1000
theorem few_upTo {c:Str} {n:Nat} (hn:n≤4):fewS (upTo c n)=true:=all_eq_true.2 fun w hw=>ble_iff.2 (by have:=(mem_upTo.1 hw).1;omega)
theorem smalls_four {g:Gram}:(smallsG g).length≤4:=asc_len (a:=97) (b:=101) setS_asc fun x hx=>by
 have:=(setS_mem.1 hx).2;unfold small at this;rw[andd,ble_iff,ble_iff]at this;omega
theorem isM_iff {n:Int}:isM n=true↔0≤n∧n≤4:=by
 unfold isM;rw[andd,dec_iff,dec_iff]
def rep (n:Nat) (c:UInt8):Str:=replicate n c
def adR (r:Rule):Str:=bif bigS r.2 then r.2 else []
def onesR (l:List Rule):List Rule:=l.map fun r=>(r.1,adR r)
def oneV (s:Str) (r:Rule):Str:=bif inS s ((r.1.getD 0 0).toNat:Int)then adR r else []
theorem adR_one {r:Rule}:adR r=[]∨∃c,adR r=[c]∧bigc c=true∧r.2=[c]:=by
 unfold adR
 cases hb:bigS r.2
 ·exact .inl rfl
 ·obtain ⟨c,e,hc⟩:=bigS_one hb;exact .inr ⟨c,e,hc,e⟩
theorem setS_adR {r:Rule}:setS bigc (adR r)=adR r:=by
 rcases adR_one (r:=r)with e | ⟨c,e,hc,_⟩
 ·rw[e];rfl
 ·rw[e];refine(setS_eq (List.pairwise_singleton _ _) fun y => ?_).symm;rw[mem_singleton];exact⟨fun h=>⟨h,by rw[h];exact hc⟩,fun h=>h.1⟩
theorem metV_one {s:Str} {r:Rule}:metV s (r.1,adR r)=oneV s r:=by
 unfold metV oneV;rw[setS_adR]
def onesG (l:List Rule) (s:Str):Str:=growN ([],onesR l) 6 s
def okS (s:Str):Prop:=Asc s∧∀c∈s,bigc c=true
theorem met_self {l:List Rule} {s:Str} (h:okS s):MetOk (s,l) s:=⟨h.1,h.2,fun _ hc=>hc,fun _ hc => .start hc⟩
theorem onesG_ok {l:List Rule} {s:Str} (h:okS s) (h0:s≠[]):MetOk (s,onesR l) (onesG l s)∧growF (onesG l s) (onesR l)=onesG l s:=growN_fix (g:=(s,onesR l)) (n:=6) (met_self h) (by have:=List.length_pos_iff.2 h0;omega)
theorem onesG_mem {l:List Rule} {s:Str} (h:okS s) (h0:s≠[]) {c:UInt8}:c∈onesG l s↔Met (s,onesR l) c:=fix_mem (onesG_ok h h0).1 (onesG_ok h h0).2
theorem onesG_okS {l:List Rule} {s:Str} (h:okS s) (h0:s≠[]):okS (onesG l s):=⟨(onesG_ok h h0).1.asc,(onesG_ok h h0).1.big⟩
theorem onesG_same {l:List Rule} {s t:Str} (h:okS s) (h0:s≠[]) (ht:okS t) (h1:∀c∈s,c∈t) (h2:∀c∈t,Met (s,onesR l) c):onesG l t=onesG l s:=by
 have t0:t≠[]:=by
  obtain⟨c,cs,e⟩:∃c cs,s=c::cs:=by
   cases s with
   |nil=>exact absurd rfl h0
   |cons c cs=>exact ⟨c,cs,rfl⟩
  intro e2;have:=h1 c (by rw[e];exact mem_cons_self);rw[e2]at this;cases this
 refine asc_ext (onesG_okS ht t0).1 (onesG_okS h h0).1 fun c => ?_;rw[onesG_mem ht t0,onesG_mem h h0]
 constructor
 ·intro hm;have:∀ {c},Met (t,onesR l) c→Met (s,onesR l) c:=fun {c} hm=>by
   induction hm with
   |start hc=>exact h2 _ hc
   |step hr _ g2 g3 ih=>exact .step hr ih g2 g3
  exact this hm
 ·intro hm;have:∀ {c},Met (s,onesR l) c→Met (t,onesR l) c:=fun {c} hm=>by
   induction hm with
   |start hc=>exact .start (h1 _ hc)
   |step hr _ g2 g3 ih=>exact .step hr ih g2 g3
  exact this hm
theorem onesG_step {l:List Rule} {s:Str} (h:okS s) (h0:s≠[]):onesG l (growF s (onesR l))=onesG l s:=onesG_same h h0 ⟨growF_asc h.1,growF_big h.2⟩ growF_sub (MetOk.grow (met_self h)).met
theorem onesG_fix {l:List Rule} {s:Str} (e:growF s (onesR l)=s):onesG l s=s:=by
 unfold onesG growN;rw[zT (show growF s (([],onesR l):Gram).2=s from e)];rfl
theorem onesR_at {o:Str} {l:List Rule} {i:Int} (h0:0≤i) (h1:i<(l.length:Int)):growF o (onesR (l.drop i.toNat))=growF (unionV o (oneV o (l.getD i.toNat d0))) (onesR (l.drop (i+1).toNat)):=by
 have hn:i.toNat<l.length:=by omega
 rw[drop_eq_getElem_cons hn,show (i+1).toNat=i.toNat+1 by omega,getD_at hn,← metV_one];rfl
theorem oneV_len {s:Str} {r:Rule}:(oneV s r).length≤1:=by
 unfold oneV
 cases inS s ((r.1.getD 0 0).toNat:Int)
 ·exact Nat.zero_le _
 ·rcases adR_one (r:=r)with e | ⟨c,e,_⟩<;>(rw[cond_true,e];simp)
theorem union_ones {o:Str} {r:Rule} (h:okS o):okS (unionV o (oneV o r)):=⟨unionV_asc,fun c hc=>by
 rcases unionV_mem.1 hc with hc | hc
 ·exact h.2 c hc
 ·rw[← metV_one]at hc;exact(metV_mem.1 hc).2.2⟩
def okSB (s:Str):Bool:=List.all s bigc&&decide (Asc s)
theorem okSB_iff {s:Str}:okSB s=true↔okS s:=by
 unfold okSB okS;rw[andd,all_eq_true,dec_iff];exact⟨fun h=>⟨h.2,h.1⟩,fun h=>⟨h.2,h.1⟩⟩
theorem y_impl_onesOf_1 (s:Str) (r:Rule):evFn ((cxOf Γ94 Tryz.f123.ntmps [] [] [] []).parted [1]) Tryz.f123 true [ofD .str s,ofD TRu r] []=(
need ((length r.fst).beq 1) <|
branch (decide ((!inS s ((getD r.fst 0 0).toNat:Int))=false)) (
 branch (bif false then true else !bigS r.snd) ( some ((vS []),[])) ( some ((vS r.snd),[]))) ( some ((vS []),[]))):=by kernel_rfl
theorem s_impl_onesOf_1 (s:Str) (_hs:Fit .str s) (r:Rule) (_hr:Fit TRu r) (hpre:(Nat.beq (length r.1) 1)=true):Sat Tryz.prog 123 [ofD .str s,ofD TRu r] [] (.d (ofD .str (oneV s r))) [] :=
 fn_sound (cx:=((cxOf Γ94 Tryz.f123.ntmps [] [] [] []).parted [1])) Tryz.func123 rfl ttOk Γ94ok mixed (fun _ _=>LoopsOk.no fun _=>rfl) (ro:=true) (by
  rw[y_impl_onesOf_1,hpre];unfold oneV adR
  cases inS s ((getD r.1 0 0).toNat:Int)
  ·rfl
  ·cases bigS r.2<;>rfl)
def c_impl_onesOf_1:Con:=conT [.str,TRu] fun(s:Str) (r:Rule)=>(some (Nat.beq (length r.1) 1), .d (ofD .str (oneV s r)))
theorem k_impl_onesOf_1:ConOk Tryz.prog 123 c_impl_onesOf_1:=conT_ok Tryz.call123 fun s hs r hr hqq=>s_impl_onesOf_1 s hs r hr (pre_of hqq)
def Γ95:GL:=(123,c_impl_onesOf_1)::Γ94
theorem Γ95ok:GO Γ95 := .cons k_impl_onesOf_1 Γ94ok
def cb_gro:Cx:=cxOf Γ95 Tryz.f122.ntmps [(3,[1,2,3,7,12,13,14]),(1,[1,2,3])] [(0,[6]),(1,[1,2,3]),(2,[1,2,3,7]),(3,[1,2,3,7,12,13,14]),(1000000,[6])] [] []
abbrev st_gr2 (s o:Str) (l:List Rule) (n i:Int) (g:Gram):St:=⟨[(1,vS s),(2, .d (.one (.fn 123 []))),(3, kp0),(7,vS o),(12, .d (ofD TRL l)),(13,vI n),(14,vI i)],[(500000,some (boxD 25 TG g))]⟩
theorem x_impl_grown_1 (g:Gram) (s o:Str) (l:List Rule) (n i:Int) (R:St→Option Fin) (K:Cont):evC (cb_gro.withLoops (look [])) (loopOf Tryz.f122 1) (st_gr2 s o l n i g) (onward (headAt (cb_gro.withLoops (look [])) 3) R K)=(
branch (decide (i<n)) (
 need (inb i l.length) <|
 need ((length (l.getD i.toNat d0).fst).beq 1) <|
 need ((length o+length (oneV o (l.getD i.toNat d0))).blt 50) <| R (st_gr2 s (unionV o (oneV o (l.getD i.toNat d0))) l n (W64 (i+1)) g)) ( K (.exit 2) (.mk [(1,vS s),(2,(.d (.one (.fn 123 [])))),(3,kp0),(7,vS o)] [(500000,some (boxD 25 TG g))]))):=by kernel_rfl
def cx0_gr2:Cx:=(cb_gro).withLoops (look [])
def sh_gr2:Sh:=([(1, .d .str),(2, .fn 123 []),(3, .ptr 500000 0),(7, .d .str),(12, .d TRL),(13, .d TI64),(14, .d TI64)],[(500000, .box 25 TG)])
def pre_gr2 (_s o:Str) (l:List Rule) (n i:Int) (_g:Gram):Bool:=decide (0≤i)&&(decide (n=(length l:Int))&&(Nat.ble (length l) big&&(List.all l okR0&&okSB o)))
def res_gr2 (s o:Str) (l:List Rule) (_n i:Int) (g:Gram) (K:Cont):Option Fin:=K (.exit 2) ⟨[(1,vS s),(2, .d (.one (.fn 123 []))),(3, kp0),(7,vS (growF o (onesR (l.drop i.toNat))))],gH g⟩
def mu_gr2 (_s _o:Str) (l:List Rule) (_n i:Int) (_g:Gram):Nat:=length l-i.toNat
theorem r_gr2 (s o:Str) (l:List Rule) (n i:Int) (g:Gram) (K:Cont) (hI:pre_gr2 s o l n i g=true):(∀R:St→Option Fin,evC cx0_gr2 (loopOf Tryz.f122 1) (st_gr2 s o l n i g) (onward (headAt cx0_gr2 3) R K)=res_gr2 s o l n i g K) ∨
  (∃(s' o':Str) (l':List Rule) (n' i':Int) (g':Gram),pre_gr2 s' o' l' n' i' g'=true∧mu_gr2 s' o' l' n' i' g'<mu_gr2 s o l n i g∧res_gr2 s' o' l' n' i' g' K=res_gr2 s o l n i g K∧∀R:St→Option Fin,evC cx0_gr2 (loopOf Tryz.f122 1) (st_gr2 s o l n i g) (onward (headAt cx0_gr2 3) R K)=R (st_gr2 s' o' l' n' i' g')):=by
 have hx:=fun R=>x_impl_grown_1 g s o l n i R K;simp only[pre_gr2,andd,dec_iff,ble_iff]at hI;obtain⟨h0,rfl,h1,h2,h3⟩:=hI;have h4:=okSB_iff.1 h3
 by_cases hi:i<(l.length:Int)
 ·have hg:=onesR_at (o:=o) h0 hi;have hn:i.toNat<l.length:=by omega
  have hr:okR0 (l.getD i.toNat d0)=true:=all_eq_true.1 h2 _ (by rw[getD_at hn];exact List.getElem_mem hn);unfold okR0 at hr;obtain⟨r1,r2⟩:=andd.1 hr;have ho:=big_five h4.1 h4.2;have hm:=oneV_len (s:=o) (r:=l.getD i.toNat d0);have k2:(length o+length (oneV o (l.getD i.toNat d0))).blt 50=true:=ble_iff.2 (by omega);simp only[hi,decide_true,inb_ok h0 hi,branch_true,W1 h0 hi h1,r1,k2]at hx;right;refine⟨s,unionV o (oneV o (l.getD i.toNat d0)),l,(l.length:Int),i+1,g, ?_, ?_, ?_,fun R=>hx R⟩
  ·simp only[pre_gr2,andd,dec_iff,ble_iff];exact⟨by omega,trivial,h1,h2,okSB_iff.2 (union_ones h4)⟩
  ·simp only[mu_gr2];omega
  ·simp only[res_gr2,hg]
 ·left;intro R;refine(hx R).trans ?_;simp only[hi,decide_false,branch_false,res_gr2];rw[drop_eq_nil_of_le (by omega)];rfl
def g_gr2:St→Cont→Option Fin:=gP sh_gr2 (fun v=>match v with | ((s,o,l,n,i,()),(g,()))=>pre_gr2 s o l n i g) (fun v K=>match v with | ((s,o,l,n,i,()),(g,()))=>res_gr2 s o l n i g K)
def L_gr2:LpL:=(3,g_gr2)::[]
theorem l_gr2 {L:LpL} (n:Nat) (h1:L.drop n=[]) (h2:idsFree (L.take n) (loopOf Tryz.f122 1)=true):LoopsTo g_gr2 (cb_gro) (loopOf Tryz.f122 1) 3 L :=
 with_drop h1 h2 (gP_ok (fun v=>match v with | ((s,o,l,n,i,()),(g,()))=>mu_gr2 s o l n i g) fun v K hI=>by
  obtain⟨⟨s,o,l,n,i,⟨⟩⟩,⟨g,⟨⟩⟩⟩:=v;exact(r_gr2 s o l n i g K hI).imp id fun⟨s',o',l',n',i',g',h⟩=>⟨((s',o',l',n',i',()),(g',())),h⟩)
abbrev st_gr1 (s:Str) (g:Gram):St:=⟨[(1,vS s),(2, .d (.one (.fn 123 []))),(3, kp0)],[(500000,some (boxD 25 TG g))]⟩
theorem x_impl_grown (g:Gram) (s:Str) (R:St→Option Fin) (K:Cont):evC (cb_gro.withLoops (look L_gr2)) (loopOf Tryz.f122 0) (st_gr1 s g) (onward (headAt (cb_gro.withLoops (look L_gr2)) 1) R K)=(
need (pre_gr2 s s g.snd ((length g.snd:Int)) 0 g) <|
branch (decide ((growF s (onesR g.snd))=s)) ( K (.ret) (.mk [(6,vS s)] [])) ( R (st_gr1 (growF s (onesR g.snd)) g))):=by kernel_rfl
def cx0_gr1:Cx:=(cb_gro).withLoops (look L_gr2)
def sh_gr1:Sh:=([(1, .d .str),(2, .fn 123 []),(3, .ptr 500000 0)],[(500000, .box 25 TG)])
def pre_gr1 (s:Str) (g:Gram):Bool:=okG g&&(okSB s&&decide (0<length s))
def res_gr1 (s:Str) (g:Gram) (K:Cont):Option Fin:=K .ret ⟨[(6,vS (onesG g.2 s))],[]⟩
def mu_gr1 (s:Str) (_g:Gram):Nat:=6-length s
theorem r_gr1 (s:Str) (g:Gram) (K:Cont) (hI:pre_gr1 s g=true):(∀R:St→Option Fin,evC cx0_gr1 (loopOf Tryz.f122 0) (st_gr1 s g) (onward (headAt cx0_gr1 1) R K)=res_gr1 s g K) ∨
  (∃(s':Str) (g':Gram),pre_gr1 s' g'=true∧mu_gr1 s' g'<mu_gr1 s g∧res_gr1 s' g' K=res_gr1 s g K∧∀R:St→Option Fin,evC cx0_gr1 (loopOf Tryz.f122 0) (st_gr1 s g) (onward (headAt cx0_gr1 1) R K)=R (st_gr1 s' g')):=by
 have hx:=fun R=>x_impl_grown g s R K;simp only[pre_gr1,andd,dec_iff]at hI;obtain⟨h1,h2,h0⟩:=hI;have hs:=okSB_iff.1 h2;have hs0:s≠[]:=List.length_pos_iff.1 h0;have k1:pre_gr2 s s g.2 (length g.2:Int) 0 g=true:=by
  simp only[pre_gr2,andd,dec_iff,ble_iff];refine⟨by omega,trivial, ?_,okR_G h1,h2⟩;have:length g.2≤8:=(okG_iff h1).2.1;unfold big;omega
 rw[k1]at hx
 by_cases e:growF s (onesR g.2)=s
 ·left;intro R;refine(hx R).trans ?_;rw[zT e];simp only[res_gr1,onesG_fix e];rfl
 ·right;have hgs:okS (growF s (onesR g.2)):=⟨growF_asc hs.1,growF_big hs.2⟩;have h5:=asc_grow hs.1 hgs.1 growF_sub e;have h6:=big_five hgs.1 hgs.2;refine⟨growF s (onesR g.2),g, ?_, ?_, ?_,fun R=>(hx R).trans ?_⟩
  ·simp only[pre_gr1,andd,dec_iff];exact⟨h1,okSB_iff.2 hgs,by omega⟩
  ·simp only[mu_gr1];omega
  ·simp only[res_gr1,onesG_step hs hs0]
  ·rw[zF e];rfl
def g_gr1:St→Cont→Option Fin:=gP sh_gr1 (fun v=>match v with | ((s,()),(g,()))=>pre_gr1 s g) (fun v K=>match v with | ((s,()),(g,()))=>res_gr1 s g K)
def L_gr1:LpL:=(1,g_gr1)::L_gr2
def cx_gr1:Cx:=(cb_gro).withLoops (look L_gr1)
theorem l_gr1 {L:LpL} (n:Nat) (h1:L.drop n=L_gr2) (h2:idsFree (L.take n) (loopOf Tryz.f122 0)=true):LoopsTo g_gr1 (cb_gro) (loopOf Tryz.f122 0) 1 L :=
 with_drop h1 h2 (gP_ok (fun v=>match v with | ((s,()),(g,()))=>mu_gr1 s g) fun v K hI=>by
  obtain⟨⟨s,⟨⟩⟩,⟨g,⟨⟩⟩⟩:=v;exact(r_gr1 s g K hI).imp id fun⟨s',g',h⟩=>⟨((s',()),(g',())),h⟩)
theorem y_impl_grown (g:Gram) (s:Str):evFn cx_gr1 Tryz.f122 true [ofD TG g,ofD .str s, .one (.fn 123 [])] []=(
need (pre_gr1 s g) <| some ((vS (onesG g.2 s)),[])):=by kernel_rfl
def preOnes (g:Gram) (s:Str):Bool:=okG g&&(okSB s&&decide (0<length s))
theorem s_impl_grown (g:Gram) (s:Str) (h:preOnes g s=true):Sat Tryz.prog 122 [ofD TG g,ofD .str s, .one (.fn 123 [])] [] (.d (ofD .str (onesG g.2 s))) [] :=
 fn_sound (cx:=cx_gr1) Tryz.func122 rfl ttOk Γ95ok mixed (fun c hc=>LoopsOk.all (l:=[(1,loopOf Tryz.f122 0),(3,loopOf Tryz.f122 1)]) (by cases hc;kernel_rfl) ⟨atLoop rfl (l_gr1 1 rfl (by kernel_rfl)),atLoop rfl (l_gr2 2 rfl (by kernel_rfl)),trivial⟩) (ro:=true) (by
  rw[y_impl_grown,show pre_gr1 s g=true from h];rfl)
def c_impl_grown:Con:=⟨false,fun ds os=>match ds,os with
 | [d, .one (.r (.v (.string s))), .one (.fn f [])],[]=>match asD TG d,Nat.beq f 123 with
  |some g,true=>some (some (preOnes g s.data.toList), .d (ofD .str (onesG g.2 s.data.toList)),[])
  |_,_=>none
 |_,_=>none⟩
theorem k_impl_grown:ConOk Tryz.prog 122 c_impl_grown:=by
 refine⟨Tryz.call122,fun ds os c x objs hc hok => ?_⟩;unfold c_impl_grown at hc;dsimp only at hc
 split at hc
 ·rename_i d s f
  split at hc
  ·rename_i g e1 e2
   cases hc
   have e2:=zB e2;subst e2;intro w F β args H hds
   cases hds with | cons h1 h2 =>
   exact s_impl_grown g s.data.toList (pre_of hok) w F β _ H (.cons (asD_sound e1 h1 _ β) h2)
  ·cases hc
 ·cases hc
def Γ96:GL:=(122,c_impl_grown)::Γ95
theorem Γ96ok:GO Γ96 := .cons k_impl_grown Γ95ok
theorem okS_big {a:Str} (h:bigS a=true):okSB a=true∧0<length a∧a≠[]:=by
 obtain⟨c,e,hc⟩:=bigS_one h;rw[e];exact⟨okSB_iff.2 ⟨List.pairwise_singleton _ _,fun d hd=>by rw[mem_singleton.1 hd];exact hc⟩,Nat.one_pos,fun e=>by cases e⟩
theorem preOnes_mk {g:Gram} {a:Str} (h:okG g=true) (ha:bigS a=true):preOnes g a=true:=by
 obtain⟨h1,h2,_⟩:=okS_big ha;exact andd.2 ⟨h,andd.2 ⟨h1,zT h2⟩⟩
theorem s_impl_onesOf (g:Gram) (_hg:Fit TG g) (a:Str) (_ha:Fit .str a) (hpre:(okG g&&bigS a)=true):Sat Tryz.prog 80 [ofD TG g,ofD .str a] [] (.d (ofD .str (onesG g.2 a))) [] :=
 fn_sound (cx:=cxOf Γ96 Tryz.f80.ntmps [] [] [] []) Tryz.func80 rfl ttOk Γ96ok mixed (fun _ _=>LoopsOk.no fun _=>rfl) (ro:=true) (by
  have y:evFn (cxOf Γ96 Tryz.f80.ntmps [] [] [] []) Tryz.f80 true [ofD TG g,ofD .str a] []=need (preOnes g a) (some (vS (onesG g.2 a),[])):=by kernel_rfl
  obtain⟨h1,h2⟩:=andd.1 hpre;rw[y,preOnes_mk h1 h2];rfl)
def c_impl_onesOf:Con:=conT [TG, .str] fun(g:Gram) (a:Str)=>(some (okG g&&bigS a), .d (ofD .str (onesG g.2 a)))
theorem k_impl_onesOf:ConOk Tryz.prog 80 c_impl_onesOf:=conT_ok Tryz.call80 fun g hg a ha hqq=>s_impl_onesOf g hg a ha (pre_of hqq)
def Γ97:GL:=(80,c_impl_onesOf)::Γ96
theorem Γ97ok:GO Γ97 := .cons k_impl_onesOf Γ96ok
def cb_son:Cx:=(cxOf Γ97 Tryz.f84.ntmps [(3,[2,5,6])] [(0,[5]),(1,[2,5,6]),(1000000,[4])] [] []).parted [6]
abbrev st_son (o:Str) (i:Int) (g:Gram):St:=⟨[(2, kp0),(5,vS o),(6,vI i)],[(500000,some (boxD 25 TG g))]⟩
theorem x_spec_l12Ones (g:Gram) (o:Str) (i:Int) (R:St→Option Fin) (K:Cont):evC (cb_son.withLoops (look [])) (loopOf Tryz.f84 0) (st_son o i g) (onward (headAt (cb_son.withLoops (look [])) 3) R K)=(
branch (decide (i<(length g.snd:Int))) (
 need (inb i (length g.snd)) <|
 branch (decide (bigS (getD g.snd i.toNat d0).snd=true)) (
 need (inb 0 (length (getD g.snd i.toNat d0).fst)) <|
 branch (decide ((bif true then inS o (byteAt (getD g.snd i.toNat d0).fst 0)else false)=true)) (
  need (inb 0 (length (getD g.snd i.toNat d0).snd)) <|
  branch (bif true then !inS o (byteAt (getD g.snd i.toNat d0).snd 0)else false) (
  need (inb 0 (length (getD g.snd i.toNat d0).snd)) <|
  need (o.length.ble 1000000) <| R (st_son (addS (UInt8.ofNat (byteAt (getD g.snd i.toNat d0).snd 0).toNat) o) (W64 (Int.neg 1+1)) g)) ( R (st_son o (W64 (i+1)) g))) ( R (st_son o (W64 (i+1)) g))) ( R (st_son o (W64 (i+1)) g))) ( K (.exit 0) (.mk [(5,vS o)] []))):=by kernel_rfl
theorem grow_app {o:Str} {a b:List Rule}:growF o (a++b)=growF (growF o a) b:=List.foldl_append
theorem one_sub {o:Str} {r:Rule} (h:∀c∈oneV o r,c∈o) (ho:okS o):growF o [(r.1,adR r)]=o:=by
 show unionV o (metV o (r.1,adR r))=o;rw[metV_one];refine asc_ext unionV_asc ho.1 fun c => ?_;rw[unionV_mem];exact⟨fun h2=>h2.elim id (h c), .inl⟩
def cx0_son:Cx:=(cb_son).withLoops (look [])
def sh_son:Sh:=([(2, .ptr 500000 0),(5, .d .str),(6, .d TI64)],[(500000, .box 25 TG)])
def pre_son (o:Str) (i:Int) (g:Gram):Bool:=decide (0≤i)&&(okG g&&(okSB o&&(decide (0<length o)&&decide (growF o (onesR (List.take i.toNat g.2))=o))))
def res_son (o:Str) (_i:Int) (g:Gram) (K:Cont):Option Fin:=K (.exit 0) ⟨[(5,vS (onesG g.2 o))],[]⟩
def mu_son (o:Str) (i:Int) (g:Gram):Nat:=(6-length o)*(length g.2+2)+(length g.2-i.toNat)
theorem r_son (o:Str) (i:Int) (g:Gram) (K:Cont) (hI:pre_son o i g=true):(∀R:St→Option Fin,evC cx0_son (loopOf Tryz.f84 0) (st_son o i g) (onward (headAt cx0_son 3) R K)=res_son o i g K) ∨
  (∃(o':Str) (i':Int) (g':Gram),pre_son o' i' g'=true∧mu_son o' i' g'<mu_son o i g∧res_son o' i' g' K=res_son o i g K∧∀R:St→Option Fin,evC cx0_son (loopOf Tryz.f84 0) (st_son o i g) (onward (headAt cx0_son 3) R K)=R (st_son o' i' g')):=by
 have hx:=fun R=>x_spec_l12Ones g o i R K;simp only[pre_son,andd,dec_iff]at hI;obtain⟨h0,h1,h2,h3,h4⟩:=hI;have hs:=okSB_iff.1 h2;have hs0:o≠[]:=List.length_pos_iff.1 h3;have hlen:length g.2≤8:=(okG_iff h1).2.1;have ho5:=big_five hs.1 hs.2
 by_cases hi:i<(length g.2:Int)
 ·have hn:i.toNat<length g.2:=by omega
  have hmem:getD g.2 i.toNat d0∈g.2:=getD_mem hn;obtain⟨g1,g2⟩:=(okG_iff h1).2.2 _ hmem;obtain⟨c1,e1,hc1⟩:=bigS_one g1;have w:W64 (i+1)=i+1:=wrap_small (by omega) (by omega);have l1:inb 0 (length (getD g.2 i.toNat d0).1)=true:=by rw[e1];rfl
  have quiet:(∀c∈oneV o (getD g.2 i.toNat d0),c∈o)→pre_son o (i+1) g=true∧mu_son o (i+1) g<mu_son o i g:=fun hq=>by
   refine⟨?_,by simp only[mu_son];omega⟩;simp only[pre_son,andd,dec_iff];refine⟨by omega,h1,h2,h3, ?_⟩;rw[show (i+1).toNat=i.toNat+1 by omega,List.take_succ_eq_append_getElem hn];unfold onesR at h4 ⊢;rw[List.map_append,grow_app,h4,← getD_at hn];exact one_sub hq hs
  rw[zT hi,inb_ok h0 hi,l1,w]at hx;right
  cases hb:bigS (getD g.2 i.toNat d0).2
  ·rw[hb]at hx;obtain⟨q1,q2⟩:=quiet fun c hc=>by
    unfold oneV adR at hc;rw[hb]at hc
    cases hin:inS o (((getD g.2 i.toNat d0).1.getD 0 0).toNat:Int)<;>(rw[hin]at hc;cases hc)
   exact⟨o,i+1,g,q1,q2,rfl,fun R=>hx R⟩
  ·obtain ⟨c2,e2,hc2⟩:=bigS_one hb;have l2:inb 0 (length (getD g.2 i.toNat d0).2)=true:=by rw[e2];rfl
   have hbl:byteAt (getD g.2 i.toNat d0).1 0=(((getD g.2 i.toNat d0).1.getD 0 0).toNat:Int):=rfl;have hbr:byteAt (getD g.2 i.toNat d0).2 0=(c2.toNat:Int):=by rw[e2];rfl
   rw[hb,l2,hbl,hbr]at hx
   cases hin:inS o (((getD g.2 i.toNat d0).1.getD 0 0).toNat:Int)
   ·rw[hin]at hx;obtain⟨q1,q2⟩:=quiet fun c hc=>by
     unfold oneV at hc;rw[hin]at hc;cases hc
    exact⟨o,i+1,g,q1,q2,rfl,fun R=>hx R⟩
   ·rw[hin]at hx;have hone:oneV o (getD g.2 i.toNat d0)=[c2]:=by
     unfold oneV adR;rw[hin,hb];exact e2
    cases hin2:inS o (c2.toNat:Int)
    ·rw[hin2,show (o.length.ble 1000000)=true from ble_iff.2 (by omega)]at hx;have hcn:c2∉o:=fun hm=>by rw[inS_mem.2 hm]at hin2;cases hin2
     have hu:UInt8.ofNat ((c2.toNat:Int)).toNat=c2:=by rw[Int.toNat_natCast,UInt8.ofNat_toNat]
     have w0:W64 (Int.neg 1+1)=0:=rfl;rw[hu,w0]at hx;have hos:okS (addS c2 o):=⟨addS_asc hs.1,fun c hc=>by
      rcases addS_mem.1 hc with rfl | hc
      ·exact hc2
      ·exact hs.2 c hc⟩
     have hsub:∀c∈o,c∈addS c2 o:=fun c hc=>addS_mem.2 (.inr hc);have hlt:=asc_grow hs.1 hos.1 hsub fun e=>hcn (by rw[← e];exact addS_mem.2 (.inl rfl));have h6:=big_five hos.1 hos.2;refine⟨addS c2 o,0,g, ?_, ?_, ?_,fun R=>hx R⟩
     ·simp only[pre_son,andd,dec_iff];exact⟨Int.le_refl 0,h1,okSB_iff.2 hos,by omega,rfl⟩
     ·simp only[mu_son];obtain⟨k,hk⟩:∃k,6-length o=k+1:=⟨5-length o,by omega⟩;have hk2:6-(addS c2 o).length≤k:=by omega
      have:=Nat.mul_le_mul_right (length g.2+2) hk2;rw[hk,Nat.add_mul,Nat.one_mul];omega
     ·have hmet:∀c∈addS c2 o,Met (o,onesR g.2) c:=fun c hc=>by
       rcases addS_mem.1 hc with rfl | hc
       ·refine .step (r:=((getD g.2 i.toNat d0).1,adR (getD g.2 i.toNat d0))) (List.mem_map.2 ⟨_,hmem,rfl⟩) (.start (inS_mem.1 hin)) ?_ hc2;show c∈adR (getD g.2 i.toNat d0);unfold adR;rw[hb,cond_true,e2];exact mem_cons_self
       ·exact .start hc
      simp only[res_son,onesG_same hs hs0 hos hsub hmet]
    ·rw[hin2]at hx;obtain⟨q1,q2⟩:=quiet fun c hc=>by
      rw[hone]at hc;rw[mem_singleton.1 hc];exact inS_mem.1 hin2
     exact⟨o,i+1,g,q1,q2,rfl,fun R=>hx R⟩
 ·left;intro R;refine(hx R).trans ?_;rw[List.take_of_length_le (by omega)]at h4;rw[zF hi];simp only[res_son,onesG_fix h4];rfl
def g_son:St→Cont→Option Fin:=gP sh_son (fun v=>match v with | ((o,i,()),(g,()))=>pre_son o i g) (fun v K=>match v with | ((o,i,()),(g,()))=>res_son o i g K)
def L_son:LpL:=(3,g_son)::[]
def cx_son:Cx:=(cb_son).withLoops (look L_son)
theorem l_son {L:LpL} (n:Nat) (h1:L.drop n=[]) (h2:idsFree (L.take n) (loopOf Tryz.f84 0)=true):LoopsTo g_son (cb_son) (loopOf Tryz.f84 0) 3 L :=
 with_drop h1 h2 (gP_ok (fun v=>match v with | ((o,i,()),(g,()))=>mu_son o i g) fun v K hI=>by
  obtain⟨⟨o,i,⟨⟩⟩,⟨g,⟨⟩⟩⟩:=v;exact(r_son o i g K hI).imp id fun⟨o',i',g',h⟩=>⟨((o',i',()),(g',())),h⟩)
theorem y_spec_l12Ones (g:Gram) (a:Str):evFn cx_son Tryz.f84 true [ofD TG g,ofD .str a] []=(
need (pre_son a 0 g) <| some ((vS (onesG g.snd a)),[])):=by kernel_rfl
theorem s_spec_l12Ones (g:Gram) (_hg:Fit TG g) (a:Str) (_ha:Fit .str a) (hpre:(okG g&&bigS a)=true):Sat Tryz.prog 84 [ofD TG g,ofD .str a] [] (.d (ofD .str (onesG g.2 a))) [] :=
 fn_sound (cx:=cx_son) Tryz.func84 rfl ttOk Γ97ok mixed (fun c hc=>LoopsOk.all (l:=[(3,loopOf Tryz.f84 0)]) (by cases hc;kernel_rfl) ⟨atLoop rfl (l_son 1 rfl (by kernel_rfl)),trivial⟩) (ro:=true) (by
  obtain⟨h1,h2⟩:=andd.1 hpre;obtain⟨q1,q2,_⟩:=okS_big h2;have kp:pre_son a 0 g=true:=by
   simp only[pre_son,andd,dec_iff];exact⟨Int.le_refl 0,h1,q1,q2,rfl⟩
  rw[y_spec_l12Ones,kp];rfl)
def c_spec_l12Ones:Con:=conT [TG, .str] fun(g:Gram) (a:Str)=>(some (okG g&&bigS a), .d (ofD .str (onesG g.2 a)))
theorem k_spec_l12Ones:ConOk Tryz.prog 84 c_spec_l12Ones:=conT_ok Tryz.call84 fun g hg a ha hqq=>s_spec_l12Ones g hg a ha (pre_of hqq)
def Γ98:GL:=(84,c_spec_l12Ones)::Γ97
theorem Γ98ok:GO Γ98 := .cons k_spec_l12Ones Γ97ok
theorem ones_der {g:Gram} {a s:Str} (h:okG g=true) (ha:bigS a=true) {c:UInt8} (hm:Met (a,onesR g.2) c) {i j:Int} (i0:0≤i) (i1:i≤j) (i2:j≤(length s:Int)) (hd:DerG s g.2 [c] i j):DerG s g.2 a i j:=by
 induction hm with
 |start hc =>
  obtain⟨c0,e,_⟩:=bigS_one ha;have hc:_∈a:=hc;rw[e,mem_singleton]at hc;rw[e,← hc];exact hd
 | @step r c hr _ g2 g3 ih =>
  obtain⟨r0,hr0,rfl⟩:=List.mem_map.1 hr;obtain⟨c1,e1,_⟩:=bigS_one ((okG_iff h).2.2 r0 hr0).1;have g2:c∈adR r0:=g2;rcases adR_one (r:=r0)with e | ⟨c2,e,_,e2⟩
  ·rw[e]at g2;cases g2
  ·rw[e,mem_singleton]at g2;subst g2;refine ih ?_;show DerG s g.2 [r0.1.getD 0 0] i j;rw[show [r0.1.getD 0 0]=r0.1 by rw[e1];rfl];refine Der_closed r0 hr0 i j i0 i1 i2 ?_;rw[e2];refine⟨j,i1,Int.le_refl _, ?_,rfl⟩;unfold derP;rw[if_neg (by rw[show smallS [c]=small c from rfl];exact fun h=>big_small c ⟨g3,h⟩)];exact hd
def cb_ias:Cx:=(cxOf Γ98 Tryz.f35.ntmps [(4,[3,4,29,30,31])] [(0,[]),(1,[3,4,29,30,31]),(1000000,[6,7])] [] []).parted [1]
abbrev st_ias (l:List Str) (n i:Int) (g h:Gram):St:=⟨[(3, kp0),(4, kp1),(29, .d (ofD TSS l)),(30,vI n),(31,vI i)],[(500000,some (boxD 25 TG g)),(500001,some (boxD 25 TG h))]⟩
theorem x_impl_AllSame (g h:Gram) (l:List Str) (n i:Int) (R:St→Option Fin) (K:Cont):evC (cb_ias.withLoops (look [])) (loopOf Tryz.f35 0) (st_ias l n i g h) (onward (headAt (cb_ias.withLoops (look [])) 4) R K)=(
branch (decide (i<n)) (
 need (inb i l.length) <|
 need (okRs g.snd&&(length (l.getD i.toNat ([]:Str))).ble 1000) <|
 need (okRs h.snd&&(length (l.getD i.toNat ([]:Str))).ble 1000) <|
 branch (!decide (derB (l.getD i.toNat ([]:Str)) (chartM (l.getD i.toNat ([]:Str)) g.snd) g.fst 0 (length (l.getD i.toNat ([]:Str)):Int)=derB (l.getD i.toNat ([]:Str)) (chartM (l.getD i.toNat ([]:Str)) h.snd) h.fst 0 (length (l.getD i.toNat ([]:Str)):Int))) ( K (.ret) (.mk [(6,vS (l.getD i.toNat ([]:Str))),(7,vB true)] [])) ( R (st_ias l n (W64 (i+1)) g h))) ( K (.exit 0) (.mk [] []))):=by kernel_rfl
def diffB (g h:Gram) (w:Str):Bool := !decide (isD g w=isD h w)
def cx0_ias:Cx:=(cb_ias).withLoops (look [])
def sh_ias:Sh:=([(3, .ptr 500000 0),(4, .ptr 500001 0),(29, .d TSS),(30, .d TI64),(31, .d TI64)],[(500000, .box 25 TG),(500001, .box 25 TG)])
def pre_ias (l:List Str) (n i:Int) (g h:Gram):Bool:=decide (0≤i)&&(decide (n=(length l:Int))&&(okG g&&(okG h&&(fewS l&&decide (length l≤100000)))))
def res_ias (l:List Str) (_n i:Int) (g h:Gram) (K:Cont):Option Fin:=branch (firstD (diffB g h) (List.drop i.toNat l)).2 (K .ret ⟨[(6,vS (firstD (diffB g h) (List.drop i.toNat l)).1),(7,vB true)],[]⟩) (K (.exit 0) ⟨[],[]⟩)
def mu_ias (l:List Str) (_n i:Int) (_g _h:Gram):Nat:=length l-i.toNat
theorem r_ias (l:List Str) (n i:Int) (g h:Gram) (K:Cont) (hI:pre_ias l n i g h=true):(∀R:St→Option Fin,evC cx0_ias (loopOf Tryz.f35 0) (st_ias l n i g h) (onward (headAt cx0_ias 4) R K)=res_ias l n i g h K) ∨
  (∃(l':List Str) (n' i':Int) (g' h':Gram),pre_ias l' n' i' g' h'=true∧mu_ias l' n' i' g' h'<mu_ias l n i g h∧res_ias l' n' i' g' h' K=res_ias l n i g h K∧∀R:St→Option Fin,evC cx0_ias (loopOf Tryz.f35 0) (st_ias l n i g h) (onward (headAt cx0_ias 4) R K)=R (st_ias l' n' i' g' h')):=by
 have hx:=fun R=>x_impl_AllSame g h l n i R K;simp only[pre_ias,andd,dec_iff]at hI;obtain⟨h0,rfl,h1,h2,h3,h4⟩:=hI
 by_cases hi:i<(length l:Int)
 ·have w:W64 (i+1)=i+1:=wrap_small (by omega) (by omega);have hw:=all_eq_true.1 h3 _ (getD_mem (d:=([]:Str)) (by omega:i.toNat<length l));have hg:=dropS_at h0 hi;have kk:(okRs g.2&&(length (l.getD i.toNat ([]:Str))).ble 1000)=true:=andd.2 ⟨ok_rs h1,hw⟩;have kh:(okRs h.2&&(length (l.getD i.toNat ([]:Str))).ble 1000)=true:=andd.2 ⟨ok_rs h2,hw⟩;have ht:firstD (diffB g h) (List.drop i.toNat l)=bif diffB g h (getD l i.toNat [])then(getD l i.toNat [],true)else firstD (diffB g h) (List.drop (i+1).toNat l):=by rw[hg];rfl
  rw[zT hi,inb_ok h0 hi,kk,kh,w]at hx;change ∀R:St→Option Fin,_=branch (diffB g h (getD l i.toNat [])) _ _ at hx
  cases hc:diffB g h (getD l i.toNat [])
  ·rw[hc]at hx ht;right;refine⟨l,(length l:Int),i+1,g,h, ?_, ?_, ?_,fun R=>hx R⟩
   ·simp only[pre_ias,andd,dec_iff];exact⟨by omega,trivial,h1,h2,h3,h4⟩
   ·simp only[mu_ias];omega
   ·simp only[res_ias,ht];rfl
  ·rw[hc]at hx ht;left;intro R;refine(hx R).trans ?_;simp only[res_ias,ht];rfl
 ·left;intro R;refine(hx R).trans ?_;rw[zF hi];have e:List.drop i.toNat l=[]:=drop_eq_nil_of_le (by omega);simp only[res_ias,e];rfl
def g_ias:St→Cont→Option Fin:=gP sh_ias (fun v=>match v with | ((l,n,i,()),(g,h,()))=>pre_ias l n i g h) (fun v K=>match v with | ((l,n,i,()),(g,h,()))=>res_ias l n i g h K)
def L_ias:LpL:=(4,g_ias)::[]
def cx_ias:Cx:=(cb_ias).withLoops (look L_ias)
theorem l_ias {L:LpL} (n:Nat) (h1:L.drop n=[]) (h2:idsFree (L.take n) (loopOf Tryz.f35 0)=true):LoopsTo g_ias (cb_ias) (loopOf Tryz.f35 0) 4 L :=
 with_drop h1 h2 (gP_ok (fun v=>match v with | ((l,n,i,()),(g,h,()))=>mu_ias l n i g h) fun v K hI=>by
  obtain⟨⟨l,n,i,⟨⟩⟩,⟨g,h,⟨⟩⟩⟩:=v;exact(r_ias l n i g h K hI).imp id fun⟨l',n',i',g',h',h⟩=>⟨((l',n',i',()),(g',h',())),h⟩)
theorem y_impl_AllSame (g:Gram) (h:Gram) (n:Int):evFn cx_ias Tryz.f35 true [ofD TG g,ofD TG h,ofD TI64 n] []=(
branch (decide ((!okG g)=false)) (
 branch (decide ((bif false then true else !okG h)=false)) (
 branch (bif false then true else !isM n) ( some ((.tup [(.one (.r (.v (Value.string (mk []))))),(.one (.r (.v (Value.bool false))))]),[])) (
  need ((length (bif okG g then smallsG g else [])+length (bif okG h then smallsG h else [])).blt 50) <|
  need (decide ((length (unionV (bif okG g then smallsG g else []) (bif okG h then smallsG h else [])))≤4)&&isM n) <|
  need (pre_ias (upTo (unionV (bif okG g then smallsG g else []) (bif okG h then smallsG h else [])) n.toNat) (((upTo (unionV (bif okG g then smallsG g else []) (bif okG h then smallsG h else [])) n.toNat).length:Int)) 0 g h) <|
  branch ((firstD (diffB g h) (id (upTo (unionV (bif okG g then smallsG g else []) (bif okG h then smallsG h else [])) n.toNat))).snd) ( some ((.tup [(.one (.r (.v (Value.string (mk (firstD (diffB g h) (id (upTo (unionV (bif okG g then smallsG g else []) (bif okG h then smallsG h else [])) n.toNat))).fst))))),(.one (.r (.v (Value.bool true))))]),[])) ( some ((.tup [(.one (.r (.v (Value.string (mk []))))),(.one (.r (.v (Value.bool false))))]),[])))) ( some ((.tup [(.one (.r (.v (Value.string (mk []))))),(.one (.r (.v (Value.bool false))))]),[]))) ( some ((.tup [(.one (.r (.v (Value.string (mk []))))),(.one (.r (.v (Value.bool false))))]),[]))):=by kernel_rfl
theorem firstD_no {f:Str→Bool}:∀ {l:List Str},(firstD f l).2=false→firstD f l=([],false)
 | [],_=>rfl
 |w::l,h=>by
  unfold firstD at h ⊢
  cases hf:f w
  ·rw[hf]at h;exact firstD_no (l:=l) h
  ·rw[hf]at h;cases h
theorem both_small {g h:Gram}:∀x∈unionV (smallsG g) (smallsG h),small x=true:=fun x hx=>by
 rcases unionV_mem.1 hx with hx | hx
 ·exact (setS_mem.1 hx).2
 ·exact (setS_mem.1 hx).2
theorem both_four {g h:Gram}:(unionV (smallsG g) (smallsG h)).length≤4:=asc_len (a:=97) (b:=101) unionV_asc fun x hx=>by
 have:=both_small x hx;unfold small at this;rw[andd,ble_iff,ble_iff]at this;omega
def partG (g h:Gram) (n:Int):Str×Bool:=bif okG g&&(okG h&&isM n)then firstD (diffB g h) (upTo (unionV (smallsG g) (smallsG h)) n.toNat)else([],false)
theorem s_impl_AllSame (g:Gram) (_hg:Fit TG g) (h:Gram) (_hh:Fit TG h) (n:Int) (_hn:Fit TI64 n):Sat Tryz.prog 35 [ofD TG g,ofD TG h,ofD TI64 n] [] (.tup [ofD .str (partG g h n).1,ofD .bool (partG g h n).2]) [] :=
 fn_sound (cx:=cx_ias) Tryz.func35 rfl ttOk Γ98ok mixed (fun c hc=>LoopsOk.all (l:=[(4,loopOf Tryz.f35 0)]) (by cases hc;kernel_rfl) ⟨atLoop rfl (l_ias 1 rfl (by kernel_rfl)),trivial⟩) (ro:=true) (by
  rw[y_impl_AllSame];unfold partG
  cases h1:okG g
  ·rfl
  ·cases h2:okG h
   ·rfl
   ·cases h3:isM n
    ·rfl
    ·obtain ⟨n0,n1⟩:=isM_iff.1 h3;have hl:=len_upTo (c:=unionV (smallsG g) (smallsG h)) both_four (n:=n.toNat) (by omega);have k1:(length (bif true then smallsG g else [])+length (bif true then smallsG h else [])).blt 50=true:=ble_iff.2 (by
      have:=smalls_four (g:=g);have:=smalls_four (g:=h);show(smallsG g).length+(smallsG h).length+1≤50;omega)
     have k2:decide (length (unionV (bif true then smallsG g else []) (bif true then smallsG h else []))≤4)=true:=zT both_four;have k3:pre_ias (upTo (unionV (bif true then smallsG g else []) (bif true then smallsG h else [])) n.toNat) ((upTo (unionV (bif true then smallsG g else []) (bif true then smallsG h else [])) n.toNat).length:Int) 0 g h=true:=by
      simp only[pre_ias,andd,dec_iff];exact⟨Int.le_refl 0,trivial,h1,h2,few_upTo (by omega),by show(upTo (unionV (smallsG g) (smallsG h)) n.toNat).length≤100000;omega⟩
     rw[k1,k2,k3];show branch (firstD (diffB g h) (upTo (unionV (smallsG g) (smallsG h)) n.toNat)).2 _ _=some (T.tup [ofD .str (firstD (diffB g h) (upTo (unionV (smallsG g) (smallsG h)) n.toNat)).1,ofD .bool (firstD (diffB g h) (upTo (unionV (smallsG g) (smallsG h)) n.toNat)).2],[])
     cases hd:(firstD (diffB g h) (upTo (unionV (smallsG g) (smallsG h)) n.toNat)).2
     ·rw[firstD_no hd];rfl
     ·rfl)
def c_impl_AllSame:Con:=conT [TG,TG,TI64] fun(g:Gram) (h:Gram) (n:Int)=>(none, .tup [ofD .str (partG g h n).1,ofD .bool (partG g h n).2])
theorem k_impl_AllSame:ConOk Tryz.prog 35 c_impl_AllSame:=conT_ok Tryz.call35 fun g hg h hh n hn _=>s_impl_AllSame g hg h hh n hn
def Γ99:GL:=(35,c_impl_AllSame)::Γ98
theorem Γ99ok:GO Γ99 := .cons k_impl_AllSame Γ98ok
theorem firstD_none {f:Str→Bool} (h:∀w,f w=false):∀ {l:List Str},firstD f l=([],false)
 | []=>rfl
 |w::l=>by unfold firstD;rw[h w];exact firstD_none h
def addR (l:List Rule) (r:Rule):List Rule:=bif hasRule l r then l else l++[r]
def plR (a o:Str) (l:List Rule) (r:Rule):List Rule:=bif (bif inS o (byteAt r.1 0)then !bigS r.2 else false)then addR l (a,r.2)else l
def plF (a o:Str) (rl l:List Rule):List Rule:=rl.foldl (plR a o) l
def plO (rl:List Rule) (us:List Str) (l:List Rule):List Rule:=us.foldl (fun l a=>plF a (onesG rl a) rl l) l
def outG (g:Gram):Gram×Bool:=bif decide (length g.2≤8)then(g,true)else(([],[]),false)
theorem dec8 (n:Nat):decide ((8:Int)<(n:Int)) = !decide (n≤8):=by
 by_cases h:n≤8
 ·rw[zT h,zF (by omega)];rfl
 ·rw[zF h,zT (by omega)];rfl
def plainL (g:Gram):List Rule:=plO g.2 (onesL (bigsG g)) []
def plainG (g:Gram):Gram:=(g.1,plainL g)
def plainV (g:Gram):Gram×Bool:=bif okG g then outG (plainG g)else(([],[]),false)
theorem addR_len {l:List Rule} {r:Rule}:(addR l r).length≤l.length+1:=by
 unfold addR
 cases hasRule l r
 ·rw[cond_false,length_append,length_singleton];exact Nat.le_refl _
 ·exact Nat.le_succ _
theorem plR_len {a o:Str} {l:List Rule} {r:Rule}:(plR a o l r).length≤l.length+1:=by
 unfold plR
 cases (bif inS o (byteAt r.1 0)then !bigS r.2 else false)
 ·exact Nat.le_succ _
 ·exact addR_len
theorem plF_len {a o:Str}:∀ {rl l:List Rule},(plF a o rl l).length≤l.length+rl.length
 | [],l=>Nat.le_refl _
 |r::rl,l=>by
  have h1:=plF_len (a:=a) (o:=o) (rl:=rl) (l:=plR a o l r);have h2:=plR_len (a:=a) (o:=o) (l:=l) (r:=r);show(plF a o rl (plR a o l r)).length≤_;rw[length_cons];omega
theorem plF_at {a o:Str} {rl l:List Rule} {k:Int} (h0:0≤k) (h1:k<(rl.length:Int)):plF a o (rl.drop k.toNat) l=plF a o (rl.drop (k+1).toNat) (plR a o l (rl.getD k.toNat d0)):=by
 have hn:k.toNat<rl.length:=by omega
 rw[drop_eq_getElem_cons hn,show (k+1).toNat=k.toNat+1 by omega,getD_at hn];rfl
theorem plO_at {rl l:List Rule} {us:List Str} {i:Int} (h0:0≤i) (h1:i<(us.length:Int)):plO rl (us.drop i.toNat) l=plO rl (us.drop (i+1).toNat) (plF (us.getD i.toNat []) (onesG rl (us.getD i.toNat [])) rl l):=by
 have hn:i.toNat<us.length:=by omega
 rw[drop_eq_getElem_cons hn,show (i+1).toNat=i.toNat+1 by omega,zG,zE hn];rfl
theorem sat_box {P:Program} {f:FuncId} {ds:List D} {os:List Obj} {t u:TypeId} {z:R} {e:Ty} {l:List (Den e)} (hos:os.length≤2) (S:Sat P f ds os (.tup []) [(0,some (.box t [.r z, .own 1])),(1,some (.lis u e l))]) :
  Sat P f ds os (.tup []) [(0,some (.box t [.r z, .own 1000])),(1000,some (.lis u e l)),(1,none)]:=by
 intro w F β args H hds;refine(S w F β args H hds).mono ?_;rintro ex w' ⟨v,F',β',r1,r2,r3,r4,r5,r6⟩;have h0:look [(0,some (Obj.box t [.r z, .own 1])),(1,some (Obj.lis u e l))] 0=some (some (.box t [.r z, .own 1])):=rfl;have h1:look [(0,some (Obj.box t [.r z, .own 1])),(1,some (Obj.lis u e l))] 1=some (some (.lis u e l)):=rfl;obtain⟨b,us,q1,q2,q3⟩:=r2.obj 0 _ h0;obtain⟨H1,_⟩:=r2.kill 1;rw[setB_self]at H1;have hs1:setH (look [(0,some (Obj.box t [.r z, .own 1])),(1,some (Obj.lis u e l))]) 1 none 1000=none:=rfl;have hlook:∀j o',setH (look [(0,some (Obj.box t [.r z, .own 1])),(1,some (Obj.lis u e l))]) 1 none j=some (some o')→j=0:=by
  intro j o' hj
  match j with
  |0=>rfl
  |1=>cases hj
  |j+2=>cases hj
 have T:=H1.turn (w':=w') (F':=F') 1000 (some (.lis u e l)) (β' 1) rfl rfl rfl (Nat.le_refl _) (fun b=>Blk (β' 1) b)
  (fun b hb=>⟨r2.notF 1 _ b h1 hb,fun j o' _ hj hbj=>by
   have e0:=hlook j o' hj;subst e0;exact absurd (r2.apart 0 1 _ _ b h0 h1 hbj hb) (by omega),r2.fromO 1 _ b h1 hb⟩)
  (fun _ _ _=>rfl) (fun _ hf=>hf) (fun _ hf => .inl hf) (fun q0 _ hh=>by rw[hs1]at hh;cases hh)
  (fun _ ob hob=>by
   cases hob
   refine⟨RepO.leaf.2 ?_,fun b hb => .inl hb⟩;have:=RepO.leaf.1 (r2.obj 1 _ h1)
   simpa [setB]using this)
 obtain⟨H2,_⟩:=T;have hlook2:∀j o',setH (setH (look [(0,some (Obj.box t [.r z, .own 1])),(1,some (Obj.lis u e l))]) 1 none) 1000 (some (.lis u e l)) j=some (some o')→j=0∨j=1000:=by
  intro j o' hj
  by_cases e0:j=1000
  ·exact .inr e0
  ·refine .inl (hlook j o' ?_)
   simpa [setH,e0]using hj
 have T2:=H2.turn (w':=w') (F':=F') 0 (some (.box t [.r z, .own 1000])) (β' 0) rfl rfl rfl (Nat.le_refl _) (fun b=>Blk (β' 0) b)
  (fun b hb=>⟨r2.notF 0 _ b h0 hb,fun j o' hj0 hj hbj=>by
   rcases hlook2 j o' hj with e0 | e0
   ·exact hj0 e0
   ·subst e0;have hbj:Blk (β' 1) b:=by simpa [setB]using hbj
    exact absurd (r2.apart 0 1 _ _ b h0 h1 hb hbj) (by omega),r2.fromO 0 _ b h0 hb⟩)
  (fun _ _ _=>rfl) (fun _ hf=>hf) (fun _ hf => .inl hf) (fun q0 o hh _=>⟨by
   have:some (some (Obj.box t [.r z, .own 1]))=some q0:=hh;exact⟨_,(Option.some.inj this).symm⟩,by simp[setB]⟩)
  (fun _ ob hob=>by
   cases hob
   refine⟨⟨b,us,by simp[setB,q1],q2, ?_⟩,fun b hb => .inl hb⟩
   generalize us.toList=ul at q3
   cases q3 with | cons g1 g2=>cases g2 with | cons g2 g3 =>
   cases g3
   refine .cons g1 (.cons ⟨g2.1,⟨some (.lis u e l),by simp[setH]⟩,fun o _ => ?_⟩ .nil);have:=g2.2.2 _ h1
   simpa [setB]using this)
 obtain⟨H3,_⟩:=T2;have hcomm:setH (setH (setH (look [(0,some (Obj.box t [.r z, .own 1])),(1,some (Obj.lis u e l))]) 1 none) 1000 (some (.lis u e l))) 0 (some (.box t [.r z, .own 1000]))=look [(0,some (Obj.box t [.r z, .own 1000])),(1000,some (Obj.lis u e l)),(1,none)]:=by
  funext j
  match j with
  |0=>rfl
  |1=>rfl
  |j+2 =>
   by_cases hj:j+2=1000
   ·rw[hj];rfl
   ·have e2:Nat.beq 1000 (j+2)=false:=by cases h:Nat.beq 1000 (j+2)with | false=>rfl | true=>exact absurd (zB h).symm hj
    simp only[setH,look,e2,hj,if_false];rfl
 rw[hcomm]at H3;refine⟨v,F',_,r1,H3,fun i hi => ?_,fun i o hi ho => ?_,fun _ _ _=>by simp, ?_⟩
 ·match i with
  |0=>exact ⟨_,rfl⟩
  |1=>exact ⟨_,rfl⟩
  |i+2=>omega
 ·match i with
  |0 =>
   have:=r4 0 _ hi h0
   simpa [setB]using this
  |1=>cases ho
  |i+2=>omega
 ·obtain ⟨us2,hv,hall⟩:=r6;refine⟨us2,hv, ?_⟩
  generalize us2.toList=ul at hall
  cases hall
  exact .nil
theorem y_impl_addRule (s:Str) (l:List Rule) (r:Rule):evFn (cxOf Γ99 Tryz.f82.ntmps [] [] [] []) Tryz.f82 false [.one (.ptr 0 0),ofD TRu r] [.box 25 [.r (.v (.string (mk s))), .own 1], .lis 63 TRu l]=(
branch (!hasRule l r) (
 need (fits (l.length+[r].length) Tryz.t63.bytes) <| some ((.tup []),[(0,(.some (.box 25 [(.r (.v (Value.string (mk s)))),(.own 1000)]))),(1000,(.some (.lis 63 ty63 (l.append [r])))),(1,(.none))])) ( some ((.tup []),[(0,(.some (.box 25 [(.r (.v (Value.string (mk s)))),(.own 1)]))),(1,some (.lis 63 TRu l))]))):=by kernel_rfl
theorem s_addRule (s:Str) (l:List Rule) (r:Rule) (h:decide (length l≤90000)=true):Sat Tryz.prog 82 [.one (.ptr 0 0),ofD TRu r] [.box 25 [.r (.v (.string (mk s))), .own 1], .lis 63 TRu l] (.tup []) [(0,some (.box 25 [.r (.v (.string (mk s))), .own 1000])),(1000,some (.lis 63 TRu (addR l r))),(1,none)]:=by
 have snd:∀ {x:T} {objs:Heap},evFn (cxOf Γ99 Tryz.f82.ntmps [] [] [] []) Tryz.f82 false [.one (.ptr 0 0),ofD TRu r] [.box 25 [.r (.v (.string (mk s))), .own 1], .lis 63 TRu l]=some (x,objs)→Sat Tryz.prog 82 [.one (.ptr 0 0),ofD TRu r] [.box 25 [.r (.v (.string (mk s))), .own 1], .lis 63 TRu l] x objs:=fun he =>
  fn_sound (cx:=cxOf Γ99 Tryz.f82.ntmps [] [] [] []) Tryz.func82 rfl ttOk Γ99ok mixed (fun c hc=>LoopsOk.nil (by cases hc;kernel_rfl)) (ro:=false) he
 have y:=y_impl_addRule s l r;have hl:=of_decide_eq_true h;unfold addR
 cases hr:hasRule l r
 ·rw[hr,ruleBytes,fits_ok (by rw[length_singleton];omega) (by omega)]at y;exact snd y
 ·rw[hr]at y;exact sat_box (Nat.le_refl _) (snd y)
def c_impl_addRule:Con:=⟨false,fun ds os=>match ds,os with
 | [.one (.ptr 0 0),d],[.box t [.r (.v (.string z)), .own 1],o]=>match asD TRu d,exLis 63 TRu (some o),Nat.beq t 25 with
  |some r,some l,true=>some (some (decide (length l≤90000)), .tup [],[(0,some (.box 25 [.r (.v (.string z)), .own 1000])),(1000,some (.lis 63 TRu (addR l r))),(1,none)])
  |_,_,_=>none
 |_,_=>none⟩
theorem k_impl_addRule:ConOk Tryz.prog 82 c_impl_addRule:=by
 refine⟨Tryz.call82,fun ds os c x objs hc hok => ?_⟩;unfold c_impl_addRule at hc;dsimp only at hc
 split at hc
 ·rename_i d t z o
  split at hc
  ·rename_i r l e1 e2 e3
   cases hc
   have e2:=Option.some.inj (exLis_some e2);subst e2;have e3:=zB e3;subst e3;intro w F β args H hds
   cases hds with | cons h1 h2=>cases h2 with | cons h2 h3 =>
   exact s_addRule z.data.toList l r (pre_of hok) w F β _ H (.cons h1 (.cons (asD_sound e1 h2 _ β) h3))
  ·cases hc
 ·cases hc
def Γ100:GL:=(82,c_impl_addRule)::Γ99
theorem Γ100ok:GO Γ100 := .cons k_impl_addRule Γ99ok
theorem y_spec_l12Add (l:List Rule) (r:Rule):evFn (cxOf Γ100 Tryz.f87.ntmps [] [] [] []) Tryz.f87 false [.one (.own 0),ofD TRu r] [.lis 63 TRu l]=(
branch (decide (0≤placeV l r)) ( some ((.d (.one (.own 0))),[(0,some (.lis 63 TRu l))])) (
 need (fits (l.length+[r].length) Tryz.t63.bytes) <| some ((.d (.one (.own 1000))),[(1000,(.some (.lis 63 ty63 (l.append [r])))),(0,(.none))]))):=by kernel_rfl
theorem s_l12Add (l:List Rule) (r:Rule) (h:decide (length l≤90000)=true):Sat Tryz.prog 87 [.one (.own 0),ofD TRu r] [.lis 63 TRu l] (.d (.one (.own 1000))) [(1000,some (.lis 63 TRu (addR l r))),(0,none)]:=by
 have snd:∀ {x:T} {objs:Heap},evFn (cxOf Γ100 Tryz.f87.ntmps [] [] [] []) Tryz.f87 false [.one (.own 0),ofD TRu r] [.lis 63 TRu l]=some (x,objs)→Sat Tryz.prog 87 [.one (.own 0),ofD TRu r] [.lis 63 TRu l] x objs:=fun he =>
  fn_sound (cx:=cxOf Γ100 Tryz.f87.ntmps [] [] [] []) Tryz.func87 rfl ttOk Γ100ok mixed (fun c hc=>LoopsOk.nil (by cases hc;kernel_rfl)) (ro:=false) he
 have y:=y_spec_l12Add l r;have hl:=of_decide_eq_true h;rw[show decide (0≤placeV l r)=hasRule l r from placeV_neg]at y;unfold addR
 cases hr:hasRule l r
 ·rw[hr,ruleBytes,fits_ok (by rw[length_singleton];omega) (by omega)]at y;exact snd y
 ·rw[hr]at y;exact sat_move (snd y)
def c_spec_l12Add:Con:=conLN 63 TRu [TRu] fun(l:List Rule) (r:Rule)=>(some (decide (length l≤90000)),addR l r)
theorem k_spec_l12Add:ConOk Tryz.prog 87 c_spec_l12Add:=conLN_ok rfl Tryz.call87 fun l _ r _ hqq=>s_l12Add l r (pre_of hqq)
def Γ101:GL:=(87,c_spec_l12Add)::Γ100
theorem Γ101ok:GO Γ101 := .cons k_spec_l12Add Γ100ok
theorem y_impl_gramOr (g:Gram):evFn (cxOf Γ101 Tryz.f83.ntmps [] [] [] []) Tryz.f83 true [ofD TG g] []=(
branch (decide (8<(length g.snd:Int))) ( some ((.tup [(.agg [(.r (.v (Value.string (mk [])))),(.r (.li ty63 ([])))]),(.one (.r (.v (Value.bool false))))]),[])) ( some ((.tup [(.agg [(.r (.v (Value.string (mk g.fst)))),(.r (.li TRu (g.snd)))]),(.one (.r (.v (Value.bool true))))]),[]))):=by kernel_rfl
theorem s_impl_gramOr (g:Gram) (_hg:Fit TG g):Sat Tryz.prog 83 [ofD TG g] [] (.tup [ofD TG (outG g).1,ofD .bool (outG g).2]) [] :=
 fn_sound (cx:=cxOf Γ101 Tryz.f83.ntmps [] [] [] []) Tryz.func83 rfl ttOk Γ101ok mixed (fun _ _=>LoopsOk.no fun _=>rfl) (ro:=true) (by
  rw[y_impl_gramOr,dec8];unfold outG
  cases decide (length g.2≤8)<;>rfl)
def c_impl_gramOr:Con:=conT [TG] fun(g:Gram)=>(none, .tup [ofD TG (outG g).1,ofD .bool (outG g).2])
theorem k_impl_gramOr:ConOk Tryz.prog 83 c_impl_gramOr:=conT_ok Tryz.call83 fun g hg _=>s_impl_gramOr g hg
def Γ102:GL:=(83,c_impl_gramOr)::Γ101
theorem Γ102ok:GO Γ102 := .cons k_impl_gramOr Γ101ok
theorem y_spec_l12Out (s:Str) (l:List Rule):evFn (cxOf Γ102 Tryz.f88.ntmps [] [] [] []) Tryz.f88 true [ofD .str s,ofD TRL l] []=(
branch (decide (8<(l.length:Int))) ( some ((.tup [(.agg [(.r (.v (Value.string (mk [])))),(.r (.li ty63 ([])))]),(.one (.r (.v (Value.bool false))))]),[])) ( some ((.tup [(.agg [(.r (.v (Value.string (mk s)))),(.r (.li TRu l))]),(.one (.r (.v (Value.bool true))))]),[]))):=by kernel_rfl
theorem s_spec_l12Out (s:Str) (_hs:Fit .str s) (l:List Rule) (_hl:Fit TRL l):Sat Tryz.prog 88 [ofD .str s,ofD TRL l] [] (.tup [ofD TG (outG (s,l)).1,ofD .bool (outG (s,l)).2]) [] :=
 fn_sound (cx:=cxOf Γ102 Tryz.f88.ntmps [] [] [] []) Tryz.func88 rfl ttOk Γ102ok mixed (fun _ _=>LoopsOk.no fun _=>rfl) (ro:=true) (by
  rw[y_spec_l12Out,dec8];unfold outG;show branch (!decide (length l≤8)) _ _=some (T.tup [ofD TG (bif decide (length l≤8)then((s,l),true)else(([],[]),false)).1,ofD .bool (bif decide (length l≤8)then((s,l),true)else(([],[]),false)).2],[])
  cases decide (length l≤8)<;>rfl)
def c_spec_l12Out:Con:=conT [.str,TRL] fun(s:Str) (l:List Rule)=>(none, .tup [ofD TG (outG (s,l)).1,ofD .bool (outG (s,l)).2])
theorem k_spec_l12Out:ConOk Tryz.prog 88 c_spec_l12Out:=conT_ok Tryz.call88 fun s hs l hl _=>s_spec_l12Out s hs l hl
def Γ103:GL:=(88,c_spec_l12Out)::Γ102
theorem Γ103ok:GO Γ103 := .cons k_spec_l12Out Γ102ok
def cb_ipl:Cx:=cxOf Γ103 Tryz.f39.ntmps [(9,[1,2,4,6,7,19,20,21,29,30,31]),(5,[1,2,4,19,20,21])] [(0,[2,4]),(1,[1,2,4,19,20,21]),(2,[1,2,4,19,20,21]),(3,[1,2,4,6,7,19,20,21,29,30,31]),(1000000,[2,3])] [(5,[(200004,63,TRu)])] []
abbrev grQ (n:Nat) (s:Str):Option Obj:=some (.box 25 [.r (.v (.string (mk s))), .own n])
theorem x_impl_GramPlain_1 (g:Gram) (z s a o:Str) (us:List Str) (rl l:List Rule) (n i m k:Int) (R:St→Option Fin) (K:Cont):evC (cb_ipl.withLoops (look [])) (loopOf Tryz.f39 1) ⟨[(1, kp0),(2, kp1),(4, .d (.one (.ptr 500002 0))),(6,vS a),(7,vS o),(19, .d (ofD TSS us)),(20,vI n),(21,vI i),(29, .d (ofD TRL rl)),(30,vI m),(31,vI k)],[(500000,some (boxD 25 TG g)),(500001,smO z),(500002,grQ 500003 s),(500003,some (.lis 63 TRu l))]⟩ (onward (headAt (cb_ipl.withLoops (look [])) 9) R K)=(
branch (decide (k<m)) (
 need (inb k rl.length) <|
 need ((length (rl.getD k.toNat d0).fst).beq 1) <|
 branch (bif inS o ((getD (rl.getD k.toNat d0).fst 0 0).toNat:Int)then !bigS (rl.getD k.toNat d0).snd else false) (
 need (decide (l.length≤90000)) <| R (.mk [(1,kp0),(2,kp1),(4,(.d (.one (.ptr 500002 0)))),(6,vS a),(7,vS o),(19,(.d (.one (.r (.li (Ty.str) us))))),(20,vI n),(21,vI i),(29,(.d (.one (.r (.li TRu rl))))),(30,vI m),(31,vI (W64 (k+1)))] [(500000,some (boxD 25 TG g)),(500001,(.some (.box 25 [(.r (.v (Value.string (mk z)))),(.r (.v (Value.slice none 0 0)))]))),(500002,(.some (.box 25 [(.r (.v (Value.string (mk s)))),(.own 500003)]))),(500003,(.some (.lis 63 TRu (addR l (a,(rl.getD k.toNat d0).snd)))))])) ( R (.mk [(1,kp0),(2,kp1),(4,(.d (.one (.ptr 500002 0)))),(6,vS a),(7,vS o),(19,(.d (.one (.r (.li (Ty.str) us))))),(20,vI n),(21,vI i),(29,(.d (.one (.r (.li TRu rl))))),(30,vI m),(31,vI (W64 (k+1)))] [(500000,some (boxD 25 TG g)),(500001,(.some (.box 25 [(.r (.v (Value.string (mk z)))),(.r (.v (Value.slice none 0 0)))]))),(500002,(.some (.box 25 [(.r (.v (Value.string (mk s)))),(.own 500003)]))),(500003,some (.lis 63 TRu l))]))) ( K (.exit 2) (.mk [(1,kp0),(2,kp1),(4,(.d (.one (.ptr 500002 0)))),(19,(.d (.one (.r (.li (Ty.str) us))))),(20,vI n),(21,vI i)] [(500000,some (boxD 25 TG g)),(500001,(.some (.box 25 [(.r (.v (Value.string (mk z)))),(.r (.v (Value.slice none 0 0)))]))),(500002,(.some (.box 25 [(.r (.v (Value.string (mk s)))),(.own 500003)]))),(500003,some (.lis 63 TRu l))]))):=by kernel_rfl
theorem plF_end {a o:Str} {rl l:List Rule} {k:Int} (h:¬k<(rl.length:Int)):plF a o (rl.drop k.toNat) l=l:=by
 rw[drop_eq_nil_of_le (by omega)];rfl
def cx0_ip2:Cx:=(cb_ipl).withLoops (look [])
def sh_ip2:Sh:=([(1, .ptr 500000 0),(2, .ptr 500001 0),(4, .ptr 500002 0),(6, .d .str),(7, .d .str),(19, .d TSS),(20, .d TI64),(21, .d TI64),(29, .d TRL),(30, .d TI64),(31, .d TI64)],[(500000, .box 25 TG),(500001, .mix 25 [.d .str, .nil]),(500002, .mix 25 [.d .str, .own 500003]),(500003, .lis 63 TRu)])
abbrev st_ip2 (a o:Str) (us:List Str) (n i:Int) (rl:List Rule) (m k:Int) (g:Gram) (z s:Str) (l:List (Rule)):St:=⟨[(1, kp0),(2, kp1),(4, .d (.one (.ptr 500002 0))),(6,vS a),(7,vS o),(19, .d (ofD TSS us)),(20,vI n),(21,vI i),(29, .d (ofD TRL rl)),(30,vI m),(31,vI k)],[(500000,some (boxD 25 TG g)),(500001,some (.box 25 ((cellsR .str z).map C.r++[.r (.v (.slice none 0 0))]))),(500002,some (.box 25 ((cellsR .str s).map C.r++[.own 500003]))),(500003,some (.lis 63 TRu l))]⟩
def pre_ip2 (_a _o:Str) (_us:List Str) (_n _i:Int) (rl:List Rule) (m k:Int) (_g:Gram) (_z _s:Str) (l:List (Rule)):Bool:=decide (0≤k)&&(decide (m=(length rl:Int))&&(List.all rl okR0&&(decide (length rl≤1000)&&decide ((length l:Int)+(m-k)≤80000))))
def res_ip2 (a o:Str) (us:List Str) (n i:Int) (rl:List Rule) (_m k:Int) (g:Gram) (z s:Str) (l:List (Rule)) (K:Cont):Option Fin:=K (.exit 2) ⟨[(1, kp0),(2, kp1),(4, .d (.one (.ptr 500002 0))),(19, .d (ofD TSS us)),(20,vI n),(21,vI i)],[(500000,some (boxD 25 TG g)),(500001,smO z),(500002,grQ 500003 s),(500003,some (.lis 63 TRu (plF a o (rl.drop k.toNat) l)))]⟩
def mu_ip2 (_a _o:Str) (_us:List Str) (_n _i:Int) (rl:List Rule) (_m k:Int) (_g:Gram) (_z _s:Str) (_l:List (Rule)):Nat:=length rl-k.toNat
theorem r_ip2 (a o:Str) (us:List Str) (n i:Int) (rl:List Rule) (m k:Int) (g:Gram) (z s:Str) (l:List (Rule)) (K:Cont) (hI:pre_ip2 a o us n i rl m k g z s l=true):(∀R:St→Option Fin,evC cx0_ip2 (loopOf Tryz.f39 1) (st_ip2 a o us n i rl m k g z s l) (onward (headAt cx0_ip2 9) R K)=res_ip2 a o us n i rl m k g z s l K) ∨
  (∃(a' o':Str) (us':List Str) (n' i':Int) (rl':List Rule) (m' k':Int) (g':Gram) (z' s':Str) (l':List (Rule)),pre_ip2 a' o' us' n' i' rl' m' k' g' z' s' l'=true∧mu_ip2 a' o' us' n' i' rl' m' k' g' z' s' l'<mu_ip2 a o us n i rl m k g z s l∧res_ip2 a' o' us' n' i' rl' m' k' g' z' s' l' K=res_ip2 a o us n i rl m k g z s l K∧∀R:St→Option Fin,evC cx0_ip2 (loopOf Tryz.f39 1) (st_ip2 a o us n i rl m k g z s l) (onward (headAt cx0_ip2 9) R K)=R (st_ip2 a' o' us' n' i' rl' m' k' g' z' s' l')):=by
 have hx:=fun R=>x_impl_GramPlain_1 g z s a o us rl l n i m k R K;simp only[pre_ip2,andd,dec_iff]at hI;obtain⟨h0,rfl,h1,h2,h3⟩:=hI
 by_cases hi:k<(length rl:Int)
 ·have hg:=plF_at (a:=a) (o:=o) (l:=l) h0 hi;have w:W64 (k+1)=k+1:=wrap_small (by omega) (by omega);have hr:=(andd.1 (all_eq_true.1 h1 _ (getD_mem (d:=d0) (by omega:k.toNat<length rl)))).1;have hlen:=plR_len (a:=a) (o:=o) (l:=l) (r:=rl.getD k.toNat d0);rw[zT hi,inb_ok h0 hi,hr,w,zT (by omega:length l≤90000)]at hx;change ∀R:St→Option Fin,_=branch (bif inS o (byteAt (rl.getD k.toNat d0).1 0)then !bigS (rl.getD k.toNat d0).2 else false) _ _ at hx;right;refine⟨a,o,us,n,i,rl,(length rl:Int),k+1,g,z,s,plR a o l (rl.getD k.toNat d0), ?_, ?_, ?_,fun R=>(hx R).trans ?_⟩
  ·simp only[pre_ip2,andd,dec_iff];exact⟨by omega,trivial,h1,h2,by omega⟩
  ·simp only[mu_ip2];omega
  ·simp only[res_ip2,hg]
  ·unfold plR
   cases (bif inS o (byteAt (rl.getD k.toNat d0).1 0)then !bigS (rl.getD k.toNat d0).2 else false)<;>rfl
 ·left;intro R;refine(hx R).trans ?_;rw[zF hi];simp only[res_ip2,plF_end hi];rfl
def g_ip2:St→Cont→Option Fin:=gP sh_ip2 (fun v=>match v with | ((a,o,us,n,i,rl,m,k,()),(g,(z,()),(s,()),l,()))=>pre_ip2 a o us n i rl m k g z s l) (fun v K=>match v with | ((a,o,us,n,i,rl,m,k,()),(g,(z,()),(s,()),l,()))=>res_ip2 a o us n i rl m k g z s l K)
def L_ip2:LpL:=(9,g_ip2)::[]
theorem l_ip2 {L:LpL} (n:Nat) (h1:L.drop n=[]) (h2:idsFree (L.take n) (loopOf Tryz.f39 1)=true):LoopsTo g_ip2 (cb_ipl) (loopOf Tryz.f39 1) 9 L :=
 with_drop h1 h2 (gP_ok (fun v=>match v with | ((a,o,us,n,i,rl,m,k,()),(g,(z,()),(s,()),l,()))=>mu_ip2 a o us n i rl m k g z s l) fun v K hI=>by
  obtain⟨⟨a,o,us,n,i,rl,m,k,⟨⟩⟩,⟨g,⟨z,⟨⟩⟩,⟨s,⟨⟩⟩,l,⟨⟩⟩⟩:=v;exact(r_ip2 a o us n i rl m k g z s l K hI).imp id fun⟨a',o',us',n',i',rl',m',k',g',z',s',l',h⟩=>⟨((a',o',us',n',i',rl',m',k',()),(g',(z',()),(s',()),l',())),h⟩)
theorem x_impl_GramPlain (g:Gram) (z s:Str) (us:List Str) (l:List Rule) (n i:Int) (R:St→Option Fin) (K:Cont):evC (cb_ipl.withLoops (look L_ip2)) (loopOf Tryz.f39 0) ⟨[(1, kp0),(2, kp1),(4, .d (.one (.ptr 500002 0))),(19, .d (ofD TSS us)),(20,vI n),(21,vI i)],[(500000,some (boxD 25 TG g)),(500001,smO z),(500002,grQ 500003 s),(500003,some (.lis 63 TRu l))]⟩ (onward (headAt (cb_ipl.withLoops (look L_ip2)) 5) R K)=(
branch (decide (i<n)) (
 need (inb i us.length) <|
 need (okG g&&bigS (us.getD i.toNat ([]:Str))) <|
 need (pre_ip2 (us.getD i.toNat ([]:Str)) (onesG g.snd (us.getD i.toNat ([]:Str))) us n i g.snd ((length g.snd:Int)) 0 g z s l) <| R (.mk [(1,kp0),(2,kp1),(4,(.d (.one (.ptr 500002 0)))),(19,(.d (.one (.r (.li (Ty.str) us))))),(20,vI n),(21,vI (W64 (i+1)))] [(500000,some (boxD 25 TG g)),(500001,(.some (.box 25 [(.r (.v (Value.string (mk z)))),(.r (.v (Value.slice none 0 0)))]))),(500002,(.some (.box 25 [(.r (.v (Value.string (mk s)))),(.own 500003)]))),(500003,(.some (.lis 63 TRu (plF (us.getD i.toNat ([]:Str)) (onesG g.snd (us.getD i.toNat ([]:Str))) g.snd l))))])) ( K (.exit 0) (.mk [(2,kp0),(4,kp1)] [(500000,(.some (.box 25 [(.r (.v (Value.string (mk z)))),(.r (.v (Value.slice none 0 0)))]))),(500001,(.some (.box 25 [(.r (.v (Value.string (mk s)))),(.own 500002)]))),(500002,some (.lis 63 TRu l))]))):=by kernel_rfl
def cx0_ip1:Cx:=(cb_ipl).withLoops (look L_ip2)
def sh_ip1:Sh:=([(1, .ptr 500000 0),(2, .ptr 500001 0),(4, .ptr 500002 0),(19, .d TSS),(20, .d TI64),(21, .d TI64)],[(500000, .box 25 TG),(500001, .mix 25 [.d .str, .nil]),(500002, .mix 25 [.d .str, .own 500003]),(500003, .lis 63 TRu)])
abbrev st_ip1 (us:List Str) (n i:Int) (g:Gram) (z s:Str) (l:List (Rule)):St:=⟨[(1, kp0),(2, kp1),(4, .d (.one (.ptr 500002 0))),(19, .d (ofD TSS us)),(20,vI n),(21,vI i)],[(500000,some (boxD 25 TG g)),(500001,some (.box 25 ((cellsR .str z).map C.r++[.r (.v (.slice none 0 0))]))),(500002,some (.box 25 ((cellsR .str s).map C.r++[.own 500003]))),(500003,some (.lis 63 TRu l))]⟩
def pre_ip1 (us:List Str) (n i:Int) (g:Gram) (_z _s:Str) (l:List (Rule)):Bool:=decide (0≤i)&&(decide (n=(length us:Int))&&(okG g&&(List.all us bigS&&(decide (length us≤1000)&&decide ((length l:Int)≤i*20)))))
def res_ip1 (us:List Str) (_n i:Int) (g:Gram) (z s:Str) (l:List (Rule)) (K:Cont):Option Fin:=K (.exit 0) ⟨[(2, kp0),(4, kp1)],[(500000,smO z),(500001,grQ 500002 s),(500002,some (.lis 63 TRu (plO g.2 (us.drop i.toNat) l)))]⟩
def mu_ip1 (us:List Str) (_n i:Int) (_g:Gram) (_z _s:Str) (_l:List (Rule)):Nat:=length us-i.toNat
theorem r_ip1 (us:List Str) (n i:Int) (g:Gram) (z s:Str) (l:List (Rule)) (K:Cont) (hI:pre_ip1 us n i g z s l=true):(∀R:St→Option Fin,evC cx0_ip1 (loopOf Tryz.f39 0) (st_ip1 us n i g z s l) (onward (headAt cx0_ip1 5) R K)=res_ip1 us n i g z s l K) ∨
  (∃(us':List Str) (n' i':Int) (g':Gram) (z' s':Str) (l':List (Rule)),pre_ip1 us' n' i' g' z' s' l'=true∧mu_ip1 us' n' i' g' z' s' l'<mu_ip1 us n i g z s l∧res_ip1 us' n' i' g' z' s' l' K=res_ip1 us n i g z s l K∧∀R:St→Option Fin,evC cx0_ip1 (loopOf Tryz.f39 0) (st_ip1 us n i g z s l) (onward (headAt cx0_ip1 5) R K)=R (st_ip1 us' n' i' g' z' s' l')):=by
 have hx:=fun R=>x_impl_GramPlain g z s us l n i R K;simp only[pre_ip1,andd,dec_iff]at hI;obtain⟨h0,rfl,h1,h2,h3,h4⟩:=hI;have h8:length g.2≤8:=(okG_iff h1).2.1
 by_cases hi:i<(length us:Int)
 ·have hg:=plO_at (rl:=g.2) (l:=l) h0 hi;have w:W64 (i+1)=i+1:=wrap_small (by omega) (by omega);have hb:=all_eq_true.1 h2 _ (getD_mem (d:=([]:Str)) (by omega:i.toNat<length us));have hlen:=plF_len (a:=us.getD i.toNat []) (o:=onesG g.2 (us.getD i.toNat [])) (rl:=g.2) (l:=l);have k1:pre_ip2 (us.getD i.toNat ([]:Str)) (onesG g.2 (us.getD i.toNat ([]:Str))) us (length us:Int) i g.2 (length g.2:Int) 0 g z s l=true:=by
   simp only[pre_ip2,andd,dec_iff];exact⟨Int.le_refl 0,trivial,okR_G h1,by omega,by omega⟩
  rw[zT hi,inb_ok h0 hi,h1,hb,k1,w]at hx;right;refine⟨us,(length us:Int),i+1,g,z,s,plF (us.getD i.toNat []) (onesG g.2 (us.getD i.toNat [])) g.2 l, ?_, ?_, ?_,fun R=>hx R⟩
  ·simp only[pre_ip1,andd,dec_iff];exact⟨by omega,trivial,h1,h2,h3,by omega⟩
  ·simp only[mu_ip1];omega
  ·simp only[res_ip1,hg]
 ·left;intro R;refine(hx R).trans ?_;rw[zF hi];have e:us.drop i.toNat=[]:=drop_eq_nil_of_le (by omega);simp only[res_ip1,e];rfl
def g_ip1:St→Cont→Option Fin:=gP sh_ip1 (fun v=>match v with | ((us,n,i,()),(g,(z,()),(s,()),l,()))=>pre_ip1 us n i g z s l) (fun v K=>match v with | ((us,n,i,()),(g,(z,()),(s,()),l,()))=>res_ip1 us n i g z s l K)
def L_ip1:LpL:=(5,g_ip1)::L_ip2
def cx_ip1:Cx:=(cb_ipl).withLoops (look L_ip1)
theorem l_ip1 {L:LpL} (n:Nat) (h1:L.drop n=L_ip2) (h2:idsFree (L.take n) (loopOf Tryz.f39 0)=true):LoopsTo g_ip1 (cb_ipl) (loopOf Tryz.f39 0) 5 L :=
 with_drop h1 h2 (gP_ok (fun v=>match v with | ((us,n,i,()),(g,(z,()),(s,()),l,()))=>mu_ip1 us n i g z s l) fun v K hI=>by
  obtain⟨⟨us,n,i,⟨⟩⟩,⟨g,⟨z,⟨⟩⟩,⟨s,⟨⟩⟩,l,⟨⟩⟩⟩:=v;exact(r_ip1 us n i g z s l K hI).imp id fun⟨us',n',i',g',z',s',l',h⟩=>⟨((us',n',i',()),(g',(z',()),(s',()),l',())),h⟩)
theorem y_impl_GramPlain (g:Gram):evFn cx_ip1 Tryz.f39 true [ofD TG g] []=(
branch (!okG g) ( some ((.tup [(.agg [(.r (.v (Value.string (mk [])))),(.r (.li ty63 ([])))]),(.one (.r (.v (Value.bool false))))]),[])) (
 need (decide (([]:Str)=[])&&((length (bif okG g then bigsG g else [])).ble 1000&&asc7 (bif okG g then bigsG g else []))) <|
 need (pre_ip1 (onesL (bif okG g then bigsG g else [])) (((onesL (bif okG g then bigsG g else [])).length:Int)) 0 g ([]:Str) g.fst []) <| some ((.tup [(.agg [(.r (.v (Value.string (mk (outG (g.fst,plO g.snd (id (onesL (bif okG g then bigsG g else []))) [])).fst.fst)))),(.r (.li TRu ((outG (g.fst,plO g.snd (id (onesL (bif okG g then bigsG g else []))) [])).fst.snd)))]),(.one (.r (.v (Value.bool (outG (g.fst,plO g.snd (id (onesL (bif okG g then bigsG g else []))) [])).snd))))]),[]))):=by kernel_rfl
theorem bigs_len {g:Gram}:(bigsG g).length≤5:=big_five setS_asc fun c hc=>(setS_mem.1 hc).2
theorem bigs_all {g:Gram}:List.all (bigsG g) bigc=true:=all_eq_true.2 fun c hc=>(setS_mem.1 hc).2
theorem ones_all {g:Gram}:List.all (onesL (bigsG g)) bigS=true:=all_eq_true.2 fun a ha=>by
 obtain⟨c,hc,rfl⟩:=List.mem_map.1 ha;exact(setS_mem.1 hc).2
theorem ones_len {g:Gram}:(onesL (bigsG g)).length≤5:=by
 unfold onesL;rw[List.length_map];exact bigs_len
theorem s_impl_GramPlain (g:Gram) (_hg:Fit TG g):Sat Tryz.prog 39 [ofD TG g] [] (.tup [ofD TG (plainV g).1,ofD .bool (plainV g).2]) [] :=
 fn_sound (cx:=cx_ip1) Tryz.func39 rfl ttOk Γ103ok mixed (fun c hc=>LoopsOk.all (l:=[(5,loopOf Tryz.f39 0),(9,loopOf Tryz.f39 1)]) (by cases hc;kernel_rfl) ⟨atLoop rfl (l_ip1 1 rfl (by kernel_rfl)),atLoop rfl (l_ip2 2 rfl (by kernel_rfl)),trivial⟩) (ro:=true) (by
  rw[y_impl_GramPlain];unfold plainV
  cases h:okG g
  ·rfl
  ·have h5:=bigs_len (g:=g);have h6:=ones_len (g:=g);have k1:(decide (([]:Str)=[])&&((length (bif true then bigsG g else [])).ble 1000&&asc7 (bif true then bigsG g else [])))=true:=by
    refine andd.2 ⟨zT rfl,andd.2 ⟨ble_iff.2 (show (bigsG g).length≤1000 by omega),all_eq_true.2 fun c hc=>blt_iff.2 ?_⟩⟩;have:=all_eq_true.1 (bigs_all (g:=g)) c hc;unfold bigc at this;rw[andd,ble_iff,ble_iff]at this;omega
   have k2:pre_ip1 (onesL (bif true then bigsG g else [])) ((onesL (bif true then bigsG g else [])).length:Int) 0 g ([]:Str) g.1 []=true:=by
    simp only[pre_ip1,andd,dec_iff];exact⟨Int.le_refl 0,trivial,h,ones_all,show (onesL (bigsG g)).length≤1000 by omega,Int.le_refl 0⟩
   rw[k1,k2];rfl)
def c_impl_GramPlain:Con:=conT [TG] fun(g:Gram)=>(none, .tup [ofD TG (plainV g).1,ofD .bool (plainV g).2])
theorem k_impl_GramPlain:ConOk Tryz.prog 39 c_impl_GramPlain:=conT_ok Tryz.call39 fun g hg _=>s_impl_GramPlain g hg
def Γ104:GL:=(39,c_impl_GramPlain)::Γ103
theorem Γ104ok:GO Γ104 := .cons k_impl_GramPlain Γ103ok
def cb_spl:Cx:=cxOf Γ104 Tryz.f40.ntmps [(10,[1,2,4,5,6,7,8]),(6,[1,2,4,5,6])] [(0,[1,2,5]),(1,[1,2,4,5,6]),(2,[1,2,4,5,6]),(3,[1,2,4,5,6,7,8]),(1000000,[2,3])] [] []
theorem x_spec_GramPlain_1 (g:Gram) (z b o:Str) (l:List Rule) (i k:Int) (R:St→Option Fin) (K:Cont):evC (cb_spl.withLoops (look [])) (loopOf Tryz.f40 1) ⟨[(1, kp0),(2, kp1),(4,vS b),(5, ko2),(6,vI i),(7,vS o),(8,vI k)],[(500000,some (boxD 25 TG g)),(500001,smO z),(500002,some (.lis 63 TRu l))]⟩ (onward (headAt (cb_spl.withLoops (look [])) 10) R K)=(
branch (decide (k<(length g.snd:Int))) (
 need (inb k (length g.snd)) <|
 need (inb 0 (length (getD g.snd k.toNat d0).fst)) <|
 need (bif decide (inS o (byteAt (getD g.snd k.toNat d0).fst 0)=true)then inb k (length g.snd)else true) <|
 branch (bif inS o (byteAt (getD g.snd k.toNat d0).fst 0)then !bigS (getD g.snd k.toNat d0).snd else false) (
 need (inr i (W64 (i+1)) b.length) <|
 need (inb k (length g.snd)) <|
 need (decide (l.length≤90000)) <| R (.mk [(1,kp0),(2,kp1),(4,vS b),(5,ko2),(6,vI i),(7,vS o),(8,vI (W64 (k+1)))] [(500000,some (boxD 25 TG g)),(500001,(.some (.box 25 [(.r (.v (Value.string (mk z)))),(.r (.v (Value.slice none 0 0)))]))),(500002,(.some (.lis 63 TRu (addR l (List.take ((W64 (i+1)).toNat-i.toNat) (List.drop i.toNat b),(getD g.snd k.toNat d0).snd)))))])) ( R (.mk [(1,kp0),(2,kp1),(4,vS b),(5,ko2),(6,vI i),(7,vS o),(8,vI (W64 (k+1)))] [(500000,some (boxD 25 TG g)),(500001,(.some (.box 25 [(.r (.v (Value.string (mk z)))),(.r (.v (Value.slice none 0 0)))]))),(500002,some (.lis 63 TRu l))]))) ( K (.exit 2) (.mk [(1,kp0),(2,kp1),(4,vS b),(5,ko2),(6,vI i)] [(500000,some (boxD 25 TG g)),(500001,(.some (.box 25 [(.r (.v (Value.string (mk z)))),(.r (.v (Value.slice none 0 0)))]))),(500002,some (.lis 63 TRu l))]))):=by kernel_rfl
theorem one_at {b:Str} {i:Int} (h0:0≤i) (h1:i<(b.length:Int)) (h2:b.length≤1000):List.take ((W64 (i+1)).toNat-i.toNat) (List.drop i.toNat b)=[b.getD i.toNat 0]:=by
 have w:W64 (i+1)=i+1:=wrap_small (by omega) (by omega);have hn:i.toNat<b.length:=by omega
 rw[w,show (i+1).toNat-i.toNat=1 by omega,drop_eq_getElem_cons hn,zG,zE hn];rfl
def cx0_spl2:Cx:=(cb_spl).withLoops (look [])
def sh_spl2:Sh:=([(1, .ptr 500000 0),(2, .ptr 500001 0),(4, .d .str),(5, .own 500002),(6, .d TI64),(7, .d .str),(8, .d TI64)],[(500000, .box 25 TG),(500001, .mix 25 [.d .str, .nil]),(500002, .lis 63 TRu)])
abbrev st_spl2 (b:Str) (i:Int) (o:Str) (k:Int) (g:Gram) (z:Str) (l:List (Rule)):St:=⟨[(1, kp0),(2, kp1),(4,vS b),(5, ko2),(6,vI i),(7,vS o),(8,vI k)],[(500000,some (boxD 25 TG g)),(500001,some (.box 25 ((cellsR .str z).map C.r++[.r (.v (.slice none 0 0))]))),(500002,some (.lis 63 TRu l))]⟩
def pre_spl2 (b:Str) (i:Int) (_o:Str) (k:Int) (g:Gram) (_z:Str) (l:List (Rule)):Bool:=decide (0≤k)&&(decide (0≤i)&&(decide (i<(length b:Int))&&(decide (length b≤1000)&&(List.all g.2 okR0&&(decide (length g.2≤1000)&&decide ((length l:Int)+((length g.2:Int)-k)≤80000))))))
def res_spl2 (b:Str) (i:Int) (o:Str) (k:Int) (g:Gram) (z:Str) (l:List (Rule)) (K:Cont):Option Fin:=K (.exit 2) ⟨[(1, kp0),(2, kp1),(4,vS b),(5, ko2),(6,vI i)],[(500000,some (boxD 25 TG g)),(500001,smO z),(500002,some (.lis 63 TRu (plF [getD b i.toNat 0] o (List.drop k.toNat g.2) l)))]⟩
def mu_spl2 (_b:Str) (_i:Int) (_o:Str) (k:Int) (g:Gram) (_z:Str) (_l:List (Rule)):Nat:=length g.2-k.toNat
theorem r_spl2 (b:Str) (i:Int) (o:Str) (k:Int) (g:Gram) (z:Str) (l:List (Rule)) (K:Cont) (hI:pre_spl2 b i o k g z l=true):(∀R:St→Option Fin,evC cx0_spl2 (loopOf Tryz.f40 1) (st_spl2 b i o k g z l) (onward (headAt cx0_spl2 10) R K)=res_spl2 b i o k g z l K) ∨
  (∃(b':Str) (i':Int) (o':Str) (k':Int) (g':Gram) (z':Str) (l':List (Rule)),pre_spl2 b' i' o' k' g' z' l'=true∧mu_spl2 b' i' o' k' g' z' l'<mu_spl2 b i o k g z l∧res_spl2 b' i' o' k' g' z' l' K=res_spl2 b i o k g z l K∧∀R:St→Option Fin,evC cx0_spl2 (loopOf Tryz.f40 1) (st_spl2 b i o k g z l) (onward (headAt cx0_spl2 10) R K)=R (st_spl2 b' i' o' k' g' z' l')):=by
 have hx:=fun R=>x_spec_GramPlain_1 g z b o l i k R K;simp only[pre_spl2,andd,dec_iff]at hI;obtain⟨h0,i0,i1,i2,h1,h2,h3⟩:=hI
 by_cases hi:k<(length g.2:Int)
 ·have hg:=plF_at (a:=[getD b i.toNat 0]) (o:=o) (l:=l) (rl:=g.2) h0 hi;have w:W64 (k+1)=k+1:=wrap_small (by omega) (by omega);have hr:=zB (andd.1 (all_eq_true.1 h1 _ (getD_mem (d:=d0) (by omega:k.toNat<length g.2)))).1;have hl:inb 0 (length (getD g.2 k.toNat d0).1)=true:=by rw[hr];rfl
  have hr2:inr i (W64 (i+1)) b.length=true:=by
   rw[show W64 (i+1)=i+1 from wrap_small (by omega) (by omega)];exact zT ⟨by omega,by omega,by omega⟩
  have hlen:=plR_len (a:=[getD b i.toNat 0]) (o:=o) (l:=l) (r:=getD g.2 k.toNat d0);rw[zT hi,inb_ok h0 hi,hl,Bool.cond_self,hr2,w,one_at i0 i1 i2,zT (by omega:length l≤90000)]at hx;right;refine⟨b,i,o,k+1,g,z,plR [getD b i.toNat 0] o l (getD g.2 k.toNat d0), ?_, ?_, ?_,fun R=>(hx R).trans ?_⟩
  ·simp only[pre_spl2,andd,dec_iff];exact⟨by omega,i0,i1,i2,h1,h2,by omega⟩
  ·simp only[mu_spl2];omega
  ·simp only[res_spl2,hg]
  ·unfold plR
   cases (bif inS o (byteAt (getD g.2 k.toNat d0).1 0)then !bigS (getD g.2 k.toNat d0).2 else false)<;>rfl
 ·left;intro R;refine(hx R).trans ?_;rw[zF hi];have e:=plF_end (a:=[getD b i.toNat 0]) (o:=o) (l:=l) hi;simp only[res_spl2,e];rfl
def g_spl2:St→Cont→Option Fin:=gP sh_spl2 (fun v=>match v with | ((b,i,o,k,()),(g,(z,()),l,()))=>pre_spl2 b i o k g z l) (fun v K=>match v with | ((b,i,o,k,()),(g,(z,()),l,()))=>res_spl2 b i o k g z l K)
def L_spl2:LpL:=(10,g_spl2)::[]
theorem l_spl2 {L:LpL} (n:Nat) (h1:L.drop n=[]) (h2:idsFree (L.take n) (loopOf Tryz.f40 1)=true):LoopsTo g_spl2 (cb_spl) (loopOf Tryz.f40 1) 10 L :=
 with_drop h1 h2 (gP_ok (fun v=>match v with | ((b,i,o,k,()),(g,(z,()),l,()))=>mu_spl2 b i o k g z l) fun v K hI=>by
  obtain⟨⟨b,i,o,k,⟨⟩⟩,⟨g,⟨z,⟨⟩⟩,l,⟨⟩⟩⟩:=v;exact(r_spl2 b i o k g z l K hI).imp id fun⟨b',i',o',k',g',z',l',h⟩=>⟨((b',i',o',k',()),(g',(z',()),l',())),h⟩)
theorem x_spec_GramPlain (g:Gram) (z b:Str) (l:List Rule) (i:Int) (R:St→Option Fin) (K:Cont):evC (cb_spl.withLoops (look L_spl2)) (loopOf Tryz.f40 0) ⟨[(1, kp0),(2, kp1),(4,vS b),(5, ko2),(6,vI i)],[(500000,some (boxD 25 TG g)),(500001,smO z),(500002,some (.lis 63 TRu l))]⟩ (onward (headAt (cb_spl.withLoops (look L_spl2)) 6) R K)=(
branch (decide (i<(b.length:Int))) (
 need (inr i (W64 (i+1)) b.length) <|
 need (okG g&&bigS (List.take ((W64 (i+1)).toNat-i.toNat) (List.drop i.toNat b))) <|
 need (pre_spl2 b i (onesG g.snd (List.take ((W64 (i+1)).toNat-i.toNat) (List.drop i.toNat b))) 0 g z l) <| R (.mk [(1,kp0),(2,kp1),(4,vS b),(5,ko2),(6,vI (W64 (i+1)))] [(500000,some (boxD 25 TG g)),(500001,(.some (.box 25 [(.r (.v (Value.string (mk z)))),(.r (.v (Value.slice none 0 0)))]))),(500002,(.some (.lis 63 TRu (plF [getD b i.toNat 0] (onesG g.snd (List.take ((W64 (i+1)).toNat-i.toNat) (List.drop i.toNat b))) g.snd l))))])) ( K (.exit 0) (.mk [(1,kp0),(2,kp1),(5,ko2)] [(500000,some (boxD 25 TG g)),(500001,(.some (.box 25 [(.r (.v (Value.string (mk z)))),(.r (.v (Value.slice none 0 0)))]))),(500002,some (.lis 63 TRu l))]))):=by kernel_rfl
theorem plL_at {rl l:List Rule} {b:Str} {i:Int} (h0:0≤i) (h1:i<(b.length:Int)):plO rl (onesL (b.drop i.toNat)) l=plO rl (onesL (b.drop (i+1).toNat)) (plF [b.getD i.toNat 0] (onesG rl [b.getD i.toNat 0]) rl l):=by
 have hn:i.toNat<b.length:=by omega
 rw[drop_eq_getElem_cons hn,show (i+1).toNat=i.toNat+1 by omega,zG,zE hn];rfl
def cx0_spl1:Cx:=(cb_spl).withLoops (look L_spl2)
def sh_spl1:Sh:=([(1, .ptr 500000 0),(2, .ptr 500001 0),(4, .d .str),(5, .own 500002),(6, .d TI64)],[(500000, .box 25 TG),(500001, .mix 25 [.d .str, .nil]),(500002, .lis 63 TRu)])
abbrev st_spl1 (b:Str) (i:Int) (g:Gram) (z:Str) (l:List (Rule)):St:=⟨[(1, kp0),(2, kp1),(4,vS b),(5, ko2),(6,vI i)],[(500000,some (boxD 25 TG g)),(500001,some (.box 25 ((cellsR .str z).map C.r++[.r (.v (.slice none 0 0))]))),(500002,some (.lis 63 TRu l))]⟩
def pre_spl1 (b:Str) (i:Int) (g:Gram) (_z:Str) (l:List (Rule)):Bool:=decide (0≤i)&&(okG g&&(List.all b bigc&&(decide (length b≤1000)&&decide ((length l:Int)≤i*20))))
def res_spl1 (b:Str) (i:Int) (g:Gram) (z:Str) (l:List (Rule)) (K:Cont):Option Fin:=K (.exit 0) ⟨[(1, kp0),(2, kp1),(5, ko2)],[(500000,some (boxD 25 TG g)),(500001,smO z),(500002,some (.lis 63 TRu (plO g.2 (onesL (b.drop i.toNat)) l)))]⟩
def mu_spl1 (b:Str) (i:Int) (_g:Gram) (_z:Str) (_l:List (Rule)):Nat:=length b-i.toNat
theorem r_spl1 (b:Str) (i:Int) (g:Gram) (z:Str) (l:List (Rule)) (K:Cont) (hI:pre_spl1 b i g z l=true):(∀R:St→Option Fin,evC cx0_spl1 (loopOf Tryz.f40 0) (st_spl1 b i g z l) (onward (headAt cx0_spl1 6) R K)=res_spl1 b i g z l K) ∨
  (∃(b':Str) (i':Int) (g':Gram) (z':Str) (l':List (Rule)),pre_spl1 b' i' g' z' l'=true∧mu_spl1 b' i' g' z' l'<mu_spl1 b i g z l∧res_spl1 b' i' g' z' l' K=res_spl1 b i g z l K∧∀R:St→Option Fin,evC cx0_spl1 (loopOf Tryz.f40 0) (st_spl1 b i g z l) (onward (headAt cx0_spl1 6) R K)=R (st_spl1 b' i' g' z' l')):=by
 have hx:=fun R=>x_spec_GramPlain g z b l i R K;simp only[pre_spl1,andd,dec_iff]at hI;obtain⟨h0,h1,h2,h3,h4⟩:=hI;have h8:length g.2≤8:=(okG_iff h1).2.1
 by_cases hi:i<(length b:Int)
 ·have hg:=plL_at (rl:=g.2) (l:=l) h0 hi;have w:W64 (i+1)=i+1:=wrap_small (by omega) (by omega);have hb:bigS [b.getD i.toNat 0]=true:=all_eq_true.1 h2 _ (getD_mem (d:=(0:UInt8)) (by omega:i.toNat<length b));have hlen:=plF_len (a:=[b.getD i.toNat 0]) (o:=onesG g.2 [b.getD i.toNat 0]) (rl:=g.2) (l:=l);have k1:pre_spl2 b i (onesG g.2 [b.getD i.toNat 0]) 0 g z l=true:=by
   simp only[pre_spl2,andd,dec_iff];exact⟨Int.le_refl 0,h0,hi,h3,okR_G h1,by omega,by omega⟩
  have hr2:inr i (W64 (i+1)) b.length=true:=by
   rw[w];exact zT ⟨by omega,by omega,by omega⟩
  rw[zT hi,hr2,one_at h0 hi h3,h1,hb,k1,w]at hx;right;refine⟨b,i+1,g,z,plF [b.getD i.toNat 0] (onesG g.2 [b.getD i.toNat 0]) g.2 l, ?_, ?_, ?_,fun R=>hx R⟩
  ·simp only[pre_spl1,andd,dec_iff];exact⟨by omega,h1,h2,h3,by omega⟩
  ·simp only[mu_spl1];omega
  ·simp only[res_spl1,hg]
 ·left;intro R;refine(hx R).trans ?_;rw[zF hi];have e:b.drop i.toNat=[]:=drop_eq_nil_of_le (by omega);simp only[res_spl1,e];rfl
def g_spl1:St→Cont→Option Fin:=gP sh_spl1 (fun v=>match v with | ((b,i,()),(g,(z,()),l,()))=>pre_spl1 b i g z l) (fun v K=>match v with | ((b,i,()),(g,(z,()),l,()))=>res_spl1 b i g z l K)
def L_spl1:LpL:=(6,g_spl1)::L_spl2
def cx_spl1:Cx:=(cb_spl).withLoops (look L_spl1)
theorem l_spl1 {L:LpL} (n:Nat) (h1:L.drop n=L_spl2) (h2:idsFree (L.take n) (loopOf Tryz.f40 0)=true):LoopsTo g_spl1 (cb_spl) (loopOf Tryz.f40 0) 6 L :=
 with_drop h1 h2 (gP_ok (fun v=>match v with | ((b,i,()),(g,(z,()),l,()))=>mu_spl1 b i g z l) fun v K hI=>by
  obtain⟨⟨b,i,⟨⟩⟩,⟨g,⟨z,⟨⟩⟩,l,⟨⟩⟩⟩:=v;exact(r_spl1 b i g z l K hI).imp id fun⟨b',i',g',z',l',h⟩=>⟨((b',i',()),(g',(z',()),l',())),h⟩)
theorem y_spec_GramPlain (g:Gram):evFn cx_spl1 Tryz.f40 true [ofD TG g] []=(
branch (!okG g) ( some ((.tup [(.agg [(.r (.v (Value.string (mk [])))),(.r (.li ty63 ([])))]),(.one (.r (.v (Value.bool false))))]),[])) (
 need (okG g) <|
 need (pre_spl1 (setS (bigIs true) (signsG g)) 0 g ([]:Str) []) <| some ((.tup [(.agg [(.r (.v (Value.string (mk (outG (g.fst,plO g.snd (onesL (id (setS (bigIs true) (signsG g)))) [])).fst.fst)))),(.r (.li TRu ((outG (g.fst,plO g.snd (onesL (id (setS (bigIs true) (signsG g)))) [])).fst.snd)))]),(.one (.r (.v (Value.bool (outG (g.fst,plO g.snd (onesL (id (setS (bigIs true) (signsG g)))) [])).snd))))]),[]))):=by kernel_rfl
theorem s_spec_GramPlain (g:Gram) (_hg:Fit TG g):Sat Tryz.prog 40 [ofD TG g] [] (.tup [ofD TG (plainV g).1,ofD .bool (plainV g).2]) [] :=
 fn_sound (cx:=cx_spl1) Tryz.func40 rfl ttOk Γ104ok mixed (fun c hc=>LoopsOk.all (l:=[(6,loopOf Tryz.f40 0),(10,loopOf Tryz.f40 1)]) (by cases hc;kernel_rfl) ⟨atLoop rfl (l_spl1 1 rfl (by kernel_rfl)),atLoop rfl (l_spl2 2 rfl (by kernel_rfl)),trivial⟩) (ro:=true) (by
  rw[y_spec_GramPlain];unfold plainV
  cases h:okG g
  ·rfl
  ·have h5:=bigs_len (g:=g);have e:setS (bigIs true) (signsG g)=bigsG g:=bigs_eq;have k2:pre_spl1 (bigsG g) 0 g ([]:Str) []=true:=by
    simp only[pre_spl1,andd,dec_iff];exact⟨Int.le_refl 0,h,bigs_all,by omega,Int.le_refl 0⟩
   rw[e,k2];rfl)
def c_spec_GramPlain:Con:=conT [TG] fun(g:Gram)=>(none, .tup [ofD TG (plainV g).1,ofD .bool (plainV g).2])
theorem k_spec_GramPlain:ConOk Tryz.prog 40 c_spec_GramPlain:=conT_ok Tryz.call40 fun g hg _=>s_spec_GramPlain g hg
def Γ105:GL:=(40,c_spec_GramPlain)::Γ104
theorem Γ105ok:GO Γ105 := .cons k_spec_GramPlain Γ104ok
theorem e_spec_DrawGramPlain (l:List Int) (hl:Fit TB l):∃q:Gram,evFn (cxOf Γ105 Tryz.f37.ntmps [] [] [] []) Tryz.f37 true [ofD TB l] []=some (.d (ofD TG q),[])∧(szG 20 q=true):=by
 obtain⟨r,h1,h2⟩:Ok (evFn (cxOf Γ105 Tryz.f37.ntmps [] [] [] []) Tryz.f37 true [ofD TB l] []) (fun r=>∃(v:Gram),r=(.d (ofD TG v),[])∧(szG 20 v=true)):=by
  have y:evFn (cxOf Γ105 Tryz.f37.ntmps [] [] [] []) Tryz.f37 true [ofD TB l] []=some (.d (ofD TG (F_spec_l1Draw l)),[]):=by kernel_rfl
  rw[y];exact Ok.ret ⟨_,rfl,p_spec_l1Draw l hl⟩
 obtain⟨v,h2,h3⟩:=h2;exact⟨v,by rw[h1,h2],h3⟩
def F_spec_DrawGramPlain (l:List Int):Gram:=oneOf (fun q:Gram=>evFn (cxOf Γ105 Tryz.f37.ntmps [] [] [] []) Tryz.f37 true [ofD TB l] []=some (.d (ofD TG q),[])∧(szG 20 q=true))
theorem s_spec_DrawGramPlain (l:List Int) (hl:Fit TB l):Sat Tryz.prog 37 [ofD TB l] [] (.d (ofD TG (F_spec_DrawGramPlain l))) [] :=
 fn_sound (cx:=cxOf Γ105 Tryz.f37.ntmps [] [] [] []) Tryz.func37 rfl ttOk Γ105ok mixed (fun _ _=>LoopsOk.no fun _=>rfl) (ro:=true) (oneOf_spec (e_spec_DrawGramPlain l hl)).1
def c_spec_DrawGramPlain:Con:=conT [TB] fun(l:List Int)=>(none, .d (ofD TG (F_spec_DrawGramPlain l)))
theorem k_spec_DrawGramPlain:ConOk Tryz.prog 37 c_spec_DrawGramPlain:=conT_ok Tryz.call37 fun l hl _=>s_spec_DrawGramPlain l hl
def Γ106:GL:=(37,c_spec_DrawGramPlain)::Γ105
theorem Γ106ok:GO Γ106 := .cons k_spec_DrawGramPlain Γ105ok
theorem addR_mem {l:List Rule} {r x:Rule}:x∈addR l r↔x∈l∨x=r:=by
 unfold addR
 cases h:hasRule l r
 ·rw[cond_false,mem_append,mem_singleton]
 ·rw[cond_true]
  constructor
  ·exact .inl
  ·rintro (h1 | rfl)
   ·exact h1
   ·obtain ⟨y,hy,e⟩:=List.any_eq_true.1 h;rw[← eqRu_iff.1 e];exact hy
def plainB (o:Str) (r:Rule):Bool:=bif inS o (byteAt r.1 0)then !bigS r.2 else false
theorem plF_mem {a o:Str} {x:Rule}:∀ {rl l:List Rule},x∈plF a o rl l↔x∈l∨∃r∈rl,plainB o r=true∧x=(a,r.2)
 | [],l=>by
  constructor
  ·exact .inl
  ·rintro (h | ⟨r,hr,_⟩)
   ·exact h
   ·cases hr
 |r::rl,l=>by
  show x∈plF a o rl (plR a o l r)↔_;rw[plF_mem (rl:=rl)];have e:x∈plR a o l r↔x∈l∨(plainB o r=true∧x=(a,r.2)):=by
   unfold plR
   cases h:(bif inS o (byteAt r.1 0)then !bigS r.2 else false)
   ·rw[cond_false]
    constructor
    ·exact .inl
    ·rintro (h1 | ⟨h1,_⟩)
     ·exact h1
     ·rw[show plainB o r=false from h]at h1;cases h1
   ·rw[cond_true,addR_mem]
    constructor
    ·rintro (h1 | h1)
     ·exact .inl h1
     ·exact .inr ⟨h,h1⟩
    ·rintro (h1 | ⟨_,h1⟩)
     ·exact .inl h1
     ·exact .inr h1
  rw[e]
  constructor
  ·rintro ((h1 | h1) | ⟨q,hq,h1⟩)
   ·exact .inl h1
   ·exact .inr ⟨r,mem_cons_self,h1⟩
   ·exact .inr ⟨q,mem_cons_of_mem _ hq,h1⟩
  ·rintro (h1 | ⟨q,hq,h1⟩)
   ·exact .inl (.inl h1)
   ·rcases List.mem_cons.1 hq with rfl | hq
    ·exact .inl (.inr h1)
    ·exact .inr ⟨q,hq,h1⟩
theorem plO_mem {rl:List Rule} {x:Rule}:∀ {us:List Str} {l:List Rule},x∈plO rl us l↔x∈l∨∃a∈us,∃r∈rl,plainB (onesG rl a) r=true∧x=(a,r.2)
 | [],l=>by
  constructor
  ·exact .inl
  ·rintro (h | ⟨a,ha,_⟩)
   ·exact h
   ·cases ha
 |a::us,l=>by
  show x∈plO rl us (plF a (onesG rl a) rl l)↔_;rw[plO_mem (us:=us),plF_mem]
  constructor
  ·rintro ((h1 | h1) | ⟨b,hb,h1⟩)
   ·exact .inl h1
   ·exact .inr ⟨a,mem_cons_self,h1⟩
   ·exact .inr ⟨b,mem_cons_of_mem _ hb,h1⟩
  ·rintro (h1 | ⟨b,hb,h1⟩)
   ·exact .inl (.inl h1)
   ·rcases List.mem_cons.1 hb with rfl | hb
    ·exact .inl (.inr h1)
    ·exact .inr ⟨b,hb,h1⟩
theorem plain_mem {g:Gram} {x:Rule}:x∈plainL g↔∃c∈bigsG g,∃r∈g.2,plainB (onesG g.2 [c]) r=true∧x=([c],r.2):=by
 unfold plainL;rw[plO_mem]
 constructor
 ·rintro (h | ⟨a,ha,h⟩)
  ·cases h
  ·obtain ⟨c,hc,rfl⟩:=List.mem_map.1 ha;exact⟨c,hc,h⟩
 ·rintro ⟨c,hc,h⟩;exact .inr ⟨[c],List.mem_map.2 ⟨c,hc,rfl⟩,h⟩
theorem plainB_iff {o:Str} {r:Rule} {b:UInt8} (hb:r.1=[b]):plainB o r=true↔b∈o∧bigS r.2=false:=by
 unfold plainB;have e:inS o (byteAt r.1 0)=true↔b∈o:=by
  rw[hb];exact inS_mem (c:=b)
 cases h:inS o (byteAt r.1 0)
 ·rw[cond_false]
  constructor
  ·intro h1;cases h1
  ·rintro ⟨h1,_⟩;rw[e.2 h1]at h;cases h
 ·rw[cond_true]
  cases bigS r.2
  ·exact ⟨fun _=>⟨e.1 h,rfl⟩,fun _=>rfl⟩
  ·exact ⟨fun h1=>(by cases h1),fun h1=>(by cases h1.2)⟩
theorem okS_one {c:UInt8} (hc:bigc c=true):okS [c]:=⟨List.pairwise_singleton _ _,fun d hd=>by rw[mem_singleton.1 hd];exact hc⟩
theorem ones_iff {l:List Rule} {c b:UInt8} (hc:bigc c=true):b∈onesG l [c]↔Met ([c],onesR l) b:=onesG_mem (okS_one hc) (by simp)
theorem ones_self {l:List Rule} {c:UInt8} (hc:bigc c=true):c∈onesG l [c]:=(ones_iff hc).2 (.start mem_cons_self)
theorem ones_step {l:List Rule} {c b d:UInt8} {r:Rule} (hc:bigc c=true) (hb:b∈onesG l [c]) (hr:r∈l) (h1:r.1=[b]) (h2:r.2=[d]) (hd:bigc d=true):d∈onesG l [c]:=by
 refine(ones_iff hc).2 (.step (r:=(r.1,adR r)) (List.mem_map.2 ⟨r,hr,rfl⟩) ?_ ?_ hd)
 ·rw[h1];exact (ones_iff hc).1 hb
 ·show d∈adR r;unfold adR;rw[h2];show d∈bif bigc d then [d] else [];rw[hd];exact mem_cons_self
theorem plain_der {g:Gram} {s a:Str} {i j:Int} (h:okG g=true) (hd:DerG s (plainL g) a i j):DerG s g.2 a i j:=by
 refine hd (DerG s g.2) fun x hx i j h0 h1 h2 h3 => ?_;obtain⟨c,hc,r,hr,hp,rfl⟩:=plain_mem.1 hx;obtain⟨b,e,_⟩:=bigS_one ((okG_iff h).2.2 r hr).1;have hbig:bigc c=true:=(setS_mem.1 hc).2;have h4:=Der_closed r hr i j h0 h1 h2 h3;rw[e]at h4;exact ones_der h (a:=[c]) hbig ((ones_iff hbig).1 ((plainB_iff e).1 hp).1) h0 h1 h2 h4
theorem splP_mem {s:Str} {P Q:Str→Int→Int→Prop}:∀ {r:Str} {i j:Int},(∀d∈r,smallS [d]=false→∀i j,P [d] i j→Q [d] i j)→splP s P r i j→splP s Q r i j
 | [],_,_,_,h=>h
 |c::r,i,j,hPQ,⟨k,k1,k2,k3,k4⟩=>by
  refine⟨k,k1,k2, ?_,splP_mem (fun d hd=>hPQ d (mem_cons_of_mem _ hd)) k4⟩;unfold derP at k3 ⊢
  split
  ·rename_i hs;rw[if_pos hs]at k3;exact k3
  ·rename_i hs;rw[if_neg hs]at k3;exact hPQ c mem_cons_self (by
    cases h:smallS [c]
    ·rfl
    ·exact absurd h hs) _ _ k3
theorem big_in {g:Gram} {r:Rule} {d:UInt8} (h:okG g=true) (hr:r∈g.2) (hd:d∈r.2) (hs:smallS [d]=false):d∈bigsG g:=by
 refine setS_mem.2 ⟨?_, ?_⟩
 ·unfold signsG sgsOf;exact mem_append.2 (.inr (List.mem_flatMap.2 ⟨r,hr,mem_append.2 (.inr hd)⟩))
 ·have h1:=(areS_iff ((okG_iff h).2.2 r hr).2).1 d hd;unfold sign at h1;have h2:small d=false:=hs;rw[h2]at h1
  cases hb:bigc d
  ·rw[hb]at h1;cases h1
  ·rfl
theorem der_plain {g:Gram} {s a:Str} {i j:Int} (h:okG g=true) (hd:DerG s g.2 a i j):∀b,a=[b]→∀c,c∈bigsG g→b∈onesG g.2 [c]→DerG s (plainL g) [c] i j:=by
 refine hd (fun a i j=>∀b,a=[b]→∀c,c∈bigsG g→b∈onesG g.2 [c]→DerG s (plainL g) [c] i j) fun r hr i j h0 h1 h2 h3 b e c hc hb => ?_;have hbig:bigc c=true:=(setS_mem.1 hc).2
 cases hu:bigS r.2
 ·refine Der_closed ([c],r.2) (plain_mem.2 ⟨c,hc,r,hr,(plainB_iff e).2 ⟨hb,hu⟩,rfl⟩) i j h0 h1 h2 ?_;refine splP_mem (fun d hd hs i j hP => ?_) h3;have hd2:=big_in h hr hd hs;exact hP d rfl d hd2 (ones_self (setS_mem.1 hd2).2)
 ·obtain ⟨d,e2,hd⟩:=bigS_one hu;rw[e2]at h3;obtain⟨k,_,_,k3,k4⟩:=h3;have k4:k=j:=k4;subst k4;unfold derP at k3;rw[if_neg (by rw[show smallS [d]=small d from rfl];exact fun hh=>big_small d ⟨hd,hh⟩)]at k3;exact k3 d rfl c hc (ones_step hbig hb hr e e2 hd)
theorem start_in {g:Gram} {c:UInt8} (h:g.1=[c]) (hc:bigc c=true):c∈bigsG g:=by
 refine setS_mem.2 ⟨?_,hc⟩;unfold signsG;rw[h];exact mem_append.2 (.inl mem_cons_self)
theorem plain_isD {g:Gram} (h:okG g=true) (s:Str):isD (plainG g) s=isD g s:=by
 have hb:=okG_big h;have e1:=isD_iff (g:=plainG g) (s:=s) hb;have e2:=isD_iff (g:=g) (s:=s) hb;obtain⟨c,e,hc⟩:=bigS_one hb;have e3:DerG s (plainL g) g.1 0 (s.length:Int)↔DerG s g.2 g.1 0 (s.length:Int):=by
  constructor
  ·exact plain_der h
  ·intro hd;have:=der_plain h hd c e c (start_in e hc) (ones_self hc);rw[e];exact this
 have e4:=e1.trans (e3.trans e2.symm)
 cases h1:isD (plainG g) s<;>cases h2:isD g s
 ·rfl
 ·rw[e4.2 h2]at h1;cases h1
 ·rw[e4.1 h1]at h2;cases h2
 ·rfl
theorem okFrom_app {l:List Rule} {r:Rule} (h:okFrom l 0=true) (h1:bigS r.1=true) (h2:areS r.2 4=true) (h3:hasRule l r=false):okFrom (l++[r]) 0=true:=by
 unfold okFrom at h ⊢;rw[all_eq_true]at h ⊢;intro i hi;have hi:=List.mem_range'_1.1 hi;rw[length_append,length_singleton]at hi
 by_cases hl:i<l.length
 ·have:=h i (List.mem_range'_1.2 ⟨by omega,by omega⟩);unfold okAt at this ⊢;rw[zG,getElem?_append_left hl,← zG,List.take_append_of_le_length (by omega)];exact this
 ·have e:i=l.length:=by omega
  subst e;unfold okAt;rw[zG,getElem?_append_right (Nat.le_refl _),Nat.sub_self,List.take_append_of_le_length (Nat.le_refl _),List.take_length];show(bigS r.1&&(areS r.2 4 && !hasRule l r))=true;rw[h1,h2,h3];rfl
theorem addR_ok {l:List Rule} {r:Rule} (h:okFrom l 0=true) (h1:bigS r.1=true) (h2:areS r.2 4=true):okFrom (addR l r) 0=true:=by
 unfold addR
 cases hh:hasRule l r
 ·exact okFrom_app h h1 h2 hh
 ·exact h
theorem plF_ok {a o:Str} (ha:bigS a=true):∀ {rl l:List Rule},(∀r∈rl,areS r.2 4=true)→okFrom l 0=true→okFrom (plF a o rl l) 0=true
 | [],_,_,h=>h
 |r::rl,l,hr,h=>by
  refine plF_ok ha (rl:=rl) (l:=plR a o l r) (fun q hq=>hr q (mem_cons_of_mem _ hq)) ?_;unfold plR
  cases (bif inS o (byteAt r.1 0)then !bigS r.2 else false)
  ·exact h
  ·exact addR_ok h ha (hr r mem_cons_self)
theorem plO_ok {rl:List Rule} (hr:∀r∈rl,areS r.2 4=true):∀ {us:List Str} {l:List Rule},(∀a∈us,bigS a=true)→okFrom l 0=true→okFrom (plO rl us l) 0=true
 | [],_,_,h=>h
 |a::us,l,ha,h=>plO_ok hr (us:=us) (l:=plF a (onesG rl a) rl l) (fun b hb=>ha b (mem_cons_of_mem _ hb)) (plF_ok (ha a mem_cons_self) hr h)
theorem plain_ok {g:Gram} (h:okG g=true) (h8:length (plainL g)≤8):okG (plainG g)=true:=by
 have hf:okFrom (plainL g) 0=true:=plO_ok (fun r hr=>((okG_iff h).2.2 r hr).2) (fun a ha=>by
  obtain⟨c,hc,rfl⟩:=List.mem_map.1 ha;exact(setS_mem.1 hc).2) rfl
 have hb:bigS g.1=true:=okG_big h;exact andd.2 ⟨hb,andd.2 ⟨zT (by show((plainL g).length:Int)≤8;omega),hf⟩⟩
theorem plain_right {g:Gram} (h:okG g=true):List.all (plainL g) (fun r => !bigS r.2)=true:=all_eq_true.2 fun x hx=>by
 obtain⟨c,hc,r,hr,hp,rfl⟩:=plain_mem.1 hx;obtain⟨b,e,_⟩:=bigS_one ((okG_iff h).2.2 r hr).1;rw[((plainB_iff e).1 hp).2];rfl
theorem plain_part {g:Gram} (h:okG g=true) (n:Int):partG g (plainG g) n=([],false):=by
 unfold partG
 cases okG g&&(okG (plainG g)&&isM n)
 ·rfl
 ·exact firstD_none fun w=>by unfold diffB;rw[plain_isD h,zT rfl];rfl
def cb_lgp:Cx:=(cxOf Γ106 Tryz.f11.ntmps [(10,[3,5,6,10])] [(0,[3,5,6]),(1,[3,5,6,10]),(1000000,[2])] [] []).parted [7,8]
abbrev st_lgp (s:Str) (i:Int) (g x:Gram):St:=⟨[(3, kp0),(5,vS s),(6, kp1),(10,vI i)],[(500000,some (boxD 25 TG g)),(500001,some (boxD 25 TG x))]⟩
theorem x_laws_FnGramPlain (g x:Gram) (s:Str) (i:Int) (R:St→Option Fin) (K:Cont):evC (cb_lgp.withLoops (look [])) (loopOf Tryz.f11 0) (st_lgp s i g x) (onward (headAt (cb_lgp.withLoops (look [])) 10) R K)=(
branch (decide (i<(length x.snd:Int))) (
 need (inb i (length x.snd)) <|
 branch (bigS (getD x.snd i.toNat d0).snd) ( K (.ret) (.mk [(2,vB false)] [])) ( R (st_lgp s (W64 (i+1)) g x))) ( K (.exit 0) (.mk [(3,kp0),(5,vS s),(6,kp1)] [(500000,some (boxD 25 TG g)),(500001,some (boxD 25 TG x))]))):=by kernel_rfl
theorem allR_at {p:Rule→Bool} {l:List Rule} {i:Int} (h0:0≤i) (h1:i<(l.length:Int)):List.all (l.drop i.toNat) p=(p (l.getD i.toNat d0)&&List.all (l.drop (i+1).toNat) p):=by
 have hn:i.toNat<l.length:=by omega
 rw[drop_eq_getElem_cons hn,show (i+1).toNat=i.toNat+1 by omega,getD_at hn,List.all_cons]
def cx0_lgp:Cx:=(cb_lgp).withLoops (look [])
def sh_lgp:Sh:=([(3, .ptr 500000 0),(5, .d .str),(6, .ptr 500001 0),(10, .d TI64)],[(500000, .box 25 TG),(500001, .box 25 TG)])
def pre_lgp (_s:Str) (i:Int) (_g x:Gram):Bool:=decide (0≤i)&&Nat.ble (length x.2) big
def res_lgp (s:Str) (i:Int) (g x:Gram) (K:Cont):Option Fin:=branch (List.all (List.drop i.toNat x.2) (fun r => !bigS r.2)) (K (.exit 0) ⟨[(3, kp0),(5,vS s),(6, kp1)],[(500000,some (boxD 25 TG g)),(500001,some (boxD 25 TG x))]⟩) (K .ret ⟨[(2,vB false)],[]⟩)
def mu_lgp (_s:Str) (i:Int) (_g x:Gram):Nat:=length x.2-i.toNat
theorem r_lgp (s:Str) (i:Int) (g x:Gram) (K:Cont) (hI:pre_lgp s i g x=true):(∀R:St→Option Fin,evC cx0_lgp (loopOf Tryz.f11 0) (st_lgp s i g x) (onward (headAt cx0_lgp 10) R K)=res_lgp s i g x K) ∨
  (∃(s':Str) (i':Int) (g' x':Gram),pre_lgp s' i' g' x'=true∧mu_lgp s' i' g' x'<mu_lgp s i g x∧res_lgp s' i' g' x' K=res_lgp s i g x K∧∀R:St→Option Fin,evC cx0_lgp (loopOf Tryz.f11 0) (st_lgp s i g x) (onward (headAt cx0_lgp 10) R K)=R (st_lgp s' i' g' x')):=by
 have hx:=fun R=>x_laws_FnGramPlain g x s i R K;simp only[pre_lgp,andd,dec_iff,ble_iff]at hI;obtain⟨h0,h1⟩:=hI
 by_cases hi:i<(length x.2:Int)
 ·have hg:=allR_at (p:=fun r => !bigS r.2) (l:=x.2) h0 hi;rw[zT hi,inb_ok h0 hi,W1 h0 hi h1]at hx
  cases hc:bigS (getD x.2 i.toNat d0).2
  ·rw[hc]at hx hg;right;refine⟨s,i+1,g,x, ?_, ?_, ?_,fun R=>hx R⟩
   ·exact andd.2 ⟨dec_iff.2 (by omega),ble_iff.2 h1⟩
   ·simp only[mu_lgp];omega
   ·simp only[res_lgp,hg];rfl
  ·rw[hc]at hx hg;left;intro R;refine(hx R).trans ?_;simp only[res_lgp,hg];rfl
 ·left;intro R;refine(hx R).trans ?_;rw[zF hi];have e:List.drop i.toNat x.2=[]:=drop_eq_nil_of_le (by omega);simp only[res_lgp,e];rfl
def g_lgp:St→Cont→Option Fin:=gP sh_lgp (fun v=>match v with | ((s,i,()),(g,x,()))=>pre_lgp s i g x) (fun v K=>match v with | ((s,i,()),(g,x,()))=>res_lgp s i g x K)
def L_lgp:LpL:=(10,g_lgp)::[]
def cx_lgp:Cx:=(cb_lgp).withLoops (look L_lgp)
theorem l_lgp {L:LpL} (n:Nat) (h1:L.drop n=[]) (h2:idsFree (L.take n) (loopOf Tryz.f11 0)=true):LoopsTo g_lgp (cb_lgp) (loopOf Tryz.f11 0) 10 L :=
 with_drop h1 h2 (gP_ok (fun v=>match v with | ((s,i,()),(g,x,()))=>mu_lgp s i g x) fun v K hI=>by
  obtain⟨⟨s,i,⟨⟩⟩,⟨g,x,⟨⟩⟩⟩:=v;exact(r_lgp s i g x K hI).imp id fun⟨s',i',g',x',h⟩=>⟨((s',i',()),(g',x',())),h⟩)
theorem eqRs_self:∀ {l:List Rule},eqRs l l=true
 | []=>rfl
 |r::l=>by simp[eqRs,eqRu,eqRs_self (l:=l)]
theorem plainV_some {g:Gram} (h:(plainV g).2=true):okG g=true∧length (plainL g)≤8∧(plainV g).1=plainG g:=by
 unfold plainV at h ⊢
 cases h1:okG g
 ·rw[h1]at h;cases h
 ·rw[h1,cond_true]at h;rw[cond_true];unfold outG at h ⊢
  by_cases h2:length (plainG g).2≤8
  ·rw[zT h2];exact ⟨rfl,h2,rfl⟩
  ·rw[zF h2]at h;cases h
theorem plain_both {g:Gram} (h:okG g=true) (h8:length (plainL g)≤8) (s:Str):both2 (plainG g) s=both2 g s:=by
 unfold both2;rw[plain_ok h h8,h]
theorem y_laws_FnGramPlain (l:List Int):evFn cx_lgp Tryz.f11 true [ofD TB l] []=(
branch (decide (1048576<(l.length:Int))) ( some ((vB true),[])) (
 branch (decide ((!decide ((plainV (F_spec_DrawGramPlain l)).snd=(plainV (F_spec_DrawGramPlain l)).snd))=false)) (
 branch (decide ((bif false then true else !sameG (plainV (F_spec_DrawGramPlain l)).fst (plainV (F_spec_DrawGramPlain l)).fst)=false)) (
  branch (bif false then true else !(plainV (F_spec_DrawGramPlain l)).snd) (
  branch (decide (decide ((plainV (F_spec_DrawGramPlain l)).snd=(plainV (F_spec_DrawGramPlain l)).snd)=true)) ( some ((vB (bif true then sameG (plainV (F_spec_DrawGramPlain l)).fst (plainV (F_spec_DrawGramPlain l)).fst else false)),[])) ( some ((vB false),[]))) (
  need (pre_lgp (F_spec_DrawAllIs l).snd 0 (F_spec_DrawGramPlain l) (plainV (F_spec_DrawGramPlain l)).fst) <|
  branch ((id (plainV (F_spec_DrawGramPlain l)).fst.snd).all fun r => !bigS r.snd) ( some ((vB (bif bif okG (plainV (F_spec_DrawGramPlain l)).fst then decide ((both2 (plainV (F_spec_DrawGramPlain l)).fst (F_spec_DrawAllIs l).snd&&isD (plainV (F_spec_DrawGramPlain l)).fst (F_spec_DrawAllIs l).snd)=(both2 (F_spec_DrawGramPlain l) (F_spec_DrawAllIs l).snd&&isD (F_spec_DrawGramPlain l) (F_spec_DrawAllIs l).snd))else false then !(partG (F_spec_DrawGramPlain l) (plainV (F_spec_DrawGramPlain l)).fst 3).snd else false)),[])) ( some ((vB false),[])))) (
  branch (decide (decide ((plainV (F_spec_DrawGramPlain l)).snd=(plainV (F_spec_DrawGramPlain l)).snd)=true)) ( some ((vB (bif true then sameG (plainV (F_spec_DrawGramPlain l)).fst (plainV (F_spec_DrawGramPlain l)).fst else false)),[])) ( some ((vB false),[])))) (
 branch (decide (decide ((plainV (F_spec_DrawGramPlain l)).snd=(plainV (F_spec_DrawGramPlain l)).snd)=true)) ( some ((vB (bif true then sameG (plainV (F_spec_DrawGramPlain l)).fst (plainV (F_spec_DrawGramPlain l)).fst else false)),[])) ( some ((vB false),[]))))):=by kernel_rfl
theorem s_laws_FnGramPlain (l:List Int) (_hl:Fit TB l):Sat Tryz.prog 11 [ofD TB l] [] (.d (ofD .bool true)) [] :=
 fn_sound (cx:=cx_lgp) Tryz.func11 rfl ttOk Γ106ok mixed (fun c hc=>LoopsOk.all (l:=[(10,loopOf Tryz.f11 0)]) (by cases hc;kernel_rfl) ⟨atLoop rfl (l_lgp 1 rfl (by kernel_rfl)),trivial⟩) (ro:=true) (by
  rw[y_laws_FnGramPlain]
  generalize F_spec_DrawGramPlain l=g
  generalize (F_spec_DrawAllIs l).2=s
  cases decide (1048576<(length l:Int))
  ·have hself:sameG (plainV g).1 (plainV g).1=true:=by
    unfold sameG;rw[zT rfl];exact eqRs_self
   rw[hself,zT (rfl:(plainV g).2=(plainV g).2)]
   cases hok:(plainV g).2
   ·rfl
   ·obtain ⟨h1,h2,e⟩:=plainV_some hok;have k1:pre_lgp s 0 g (plainG g)=true:=andd.2 ⟨rfl,ble_iff.2 (show length (plainL g)≤big by unfold big;omega)⟩;have k2:(List.all (id (plainG g).2) fun r => !bigS r.2)=true:=plain_right h1;rw[e,k1,k2,plain_ok h1 h2,plain_isD h1,plain_both h1 h2,plain_part h1,zT (rfl:(both2 g s&&isD g s)=(both2 g s&&isD g s))];rfl
  ·rfl)
end
end Go.Proofs.YtmeiebnfmhddnaaGreatDoor.Ev
