/-
  The program's chart: what a sign comes to, and signs.
-/
import Derived.Test.YtmeiebnfmhddnaaGreatDoorHp
namespace Go.Proofs.YtmeiebnfmhddnaaGreatDoor.Ev
open Go
abbrev TP:Ty := .struct (.pair .str (.pair TI64 TI64))
abbrev Part:Type:=Str×Int×Int
abbrev PMap:Type:=List (Part×Bool)
abbrev TCh:Ty := .struct (.pair TG (.pair .str (.map TP .bool)))
abbrev Chart:Type:=Gram×Str×PMap
def hasM (m:PMap) (p:Part):Bool:=(mget TP .bool p m).getD false
def derB (s:Str) (m:PMap) (a:Str) (i j:Int):Bool:=bif smallS a then(bif decide (j=i+1)then decide (([s.getD i.toNat 0]:Str)=a)else false)else hasM m (a,i,j)
def anyI (f:Int→Bool):Nat→Int→Bool
 |0,_=>false
 |n+1,a=>f a||anyI f n (a+1)
def splitB (s:Str) (m:PMap):Str→Int→Int→Bool
 | [],i,j=>decide (i=j)
 |c::r,i,j=>anyI (fun k=>derB s m [c] i k&&splitB s m r k j) (j+1-i).toNat i
def okIJ (s:Str) (i j:Int):Bool:=decide (0≤i)&&(decide (i≤j)&&decide (j≤(s.length:Int)))
theorem okIJ_iff {s:Str} {i j:Int}:okIJ s i j=true↔0≤i∧i≤j∧j≤(s.length:Int):=by
 unfold okIJ
 rw[andd,andd,dec_iff,dec_iff,dec_iff]
theorem y_impl_chart_derives (c:Chart) (a:Str) (i:Int) (j:Int):evFn (cxOf Γ73 Tryz.f101.ntmps [] [] [] []) Tryz.f101 true [ofD (.ref TCh) c,ofD .str a,ofD TI64 i,ofD TI64 j] []=(
branch (smallS a) (
 need (bif decide (decide (j=W64 (i+1))=true)then inr i j (List.length c.snd.fst)else true) <| some ((vB (bif decide (j=W64 (i+1))then decide ((List.take (j.toNat-i.toNat) (List.drop i.toNat c.snd.fst))=a)else false)),[])) ( some ((vB ((mget ty106 ty4 (a,i,j) c.snd.snd).getD false)),[]))):=by kernel_rfl
theorem s_impl_chart_derives (c:Chart) (hc:Fit (.ref TCh) c) (a:Str) (_ha:Fit .str a) (i:Int) (_hi:Fit TI64 i) (j:Int) (_hj:Fit TI64 j) (hpre:(okIJ c.2.1 i j)=true):Sat Tryz.prog 101 [ofD (.ref TCh) c,ofD .str a,ofD TI64 i,ofD TI64 j] [] (.d (ofD .bool (derB c.2.1 c.2.2 a i j))) [] :=
 fn_sound (cx:=cxOf Γ73 Tryz.f101.ntmps [] [] [] []) Tryz.func101 rfl ttOk Γ73ok mixed (fun _ _=>LoopsOk.no fun _=>rfl) (ro:=true) (by
  obtain⟨h0,h1,h2⟩:=okIJ_iff.1 hpre
  refine(y_impl_chart_derives c a i j).trans ?_
  unfold derB
  have hl:(c.2.1.length:Int)≤9223372036854775807:=by
   have:c.2.1.length≤9223372036854775807:=hc.2.1
   omega
  have w:W64 (i+1)=i+1∨i=9223372036854775807:=by
   by_cases h:i=9223372036854775807
   ·exact .inr h
   ·exact .inl (wrap_small (by omega) (by omega))
  cases hs:smallS a
  ·rfl
  ·by_cases hjj:j=i+1
   ·have w:W64 (i+1)=i+1:=wrap_small (by omega) (by omega)
    rw[w,decide_eq_true hjj,hjj,slice_one h0 (by omega),inr_iff.2 (by omega:0≤i∧i≤i+1∧i+1≤(c.2.1.length:Int))];rfl
   ·have hj2:¬j=W64 (i+1):=by
     rcases w with w | w
     ·rw[w];exact hjj
     ·rw[w]
      have:W64 (9223372036854775807+1) = -9223372036854775808:=rfl
      rw[this];omega
    rw[decide_eq_false hjj,decide_eq_false hj2];rfl)
noncomputable def c_impl_chart_derives:Con:=conT [(.ref TCh), .str,TI64,TI64] fun(c:Chart) (a:Str) (i:Int) (j:Int)=>(some (okIJ c.2.1 i j), .d (ofD .bool (derB c.2.1 c.2.2 a i j)))
theorem k_impl_chart_derives:ConOk Tryz.prog 101 c_impl_chart_derives:=conT_ok Tryz.call101 fun c hc a ha i hi j hj hqq=>s_impl_chart_derives c hc a ha i hi j hj (pre_of hqq)
noncomputable def Γ74:List (Nat×Con):=(101,c_impl_chart_derives)::Γ73
theorem Γ74ok:EnvOk Tryz.prog (look Γ74) := .cons k_impl_chart_derives Γ73ok
noncomputable def conSplit (n:Nat):Con:=conT [.ref TCh, .str,TI64,TI64] fun(c:Chart) (a:Str) (i:Int) (j:Int)=>(some (Nat.blt (List.length a) n&&(okIJ c.2.1 i j&&Nat.ble (List.length c.2.1) 1000)), .d (ofD .bool (splitB c.2.1 c.2.2 a i j)))
structure LevD where
 n:Nat
 h:ConOk Tryz.prog 132 (conSplit n)
noncomputable section
variable [Inhabited LevD]
abbrev lvD:Nat:=(default:LevD).n
noncomputable def c_impl_chart_splitR:Con:=conSplit lvD
theorem k_impl_chart_splitR:ConOk Tryz.prog 132 c_impl_chart_splitR:=(default:LevD).h
noncomputable def Γ75:List (Nat×Con):=(132,c_impl_chart_splitR)::Γ74
theorem Γ75ok:EnvOk Tryz.prog (look Γ75) := .cons k_impl_chart_splitR Γ74ok
noncomputable def cb_split:Cx:=(cxOf Γ75 Tryz.f132.ntmps [(4,[0,1,2,3,9])] [(0,[]),(1,[0,1,2,3,9]),(1000000,[8])] [] []).parted [6]
theorem x_impl_chart_split (c:Chart) (a:Str) (i j k:Int) (R:St→Option Fin) (K:Cont):evC (cb_split.withLoops (look [])) (loopOf Tryz.f132 0) ⟨[(0, .d (ofD (.ref TCh) c)),(1,vS a),(2,vI i),(3,vI j),(9,vI k)],[]⟩ (onward (headAt (cb_split.withLoops (look [])) 4) R K)=(
branch (decide (k≤j)) (
 need (inr 0 1 a.length) <|
 need (okIJ c.snd.fst i k) <|
 branch (decide (derB c.snd.fst c.snd.snd (List.take (Int.toNat 1-(0:Int).toNat) a) i k=true)) (
 need (inr 1 ((a.length:Int)) a.length) <|
 need ((List.take (((a.length:Int)).toNat-Int.toNat 1) (List.drop (Int.toNat 1) a)).length.blt lvD&&(okIJ c.snd.fst k j&&(List.length c.snd.fst).ble 1000)) <|
 branch (bif true then splitB c.snd.fst c.snd.snd (List.take (((a.length:Int)).toNat-Int.toNat 1) (List.drop (Int.toNat 1) a)) k j else false) ( K (.ret) (.mk [(8,(vB true))] [])) ( R (.mk [(0,(.d (.one (.r (.rf TCh c))))),(1,(vS a)),(2,(vI i)),(3,(vI j)),(9,(vI (W64 (k+1))))] []))) ( R (.mk [(0,(.d (.one (.r (.rf TCh c))))),(1,(vS a)),(2,(vI i)),(3,(vI j)),(9,(vI (W64 (k+1))))] []))) ( K (.exit 0) (.mk [] []))):=by kernel_rfl
noncomputable def cx0_sp1:Cx:=(cb_split).withLoops (look [])
def sh_sp1:Sh:=([(0, .d (.ref TCh)),(1, .d .str),(2, .d TI64),(3, .d TI64),(9, .d TI64)],[])
abbrev st_sp1 (c:Chart) (a:Str) (i j k:Int):St:=⟨[(0, .d (ofD (.ref TCh) c)),(1, .d (ofD .str a)),(2, .d (ofD TI64 i)),(3, .d (ofD TI64 j)),(9, .d (ofD TI64 k))],[]⟩
def pre_sp1 (c:Chart) (a:Str) (i j k:Int):Bool:=decide (0≤i)&&(decide (i≤k)&&(decide (k≤j+1)&&(decide (j≤(c.2.1.length:Int))&&(Nat.ble (List.length c.2.1) 1000&&(Nat.blt 0 (List.length a)&&Nat.ble (List.length a) lvD)))))
noncomputable def res_sp1 (c:Chart) (a:Str) (i j k:Int) (K:Cont):Option Fin:=branch (anyI (fun k'=>derB c.2.1 c.2.2 (List.take 1 a) i k'&&splitB c.2.1 c.2.2 (List.drop 1 a) k' j) (j+1-k).toNat k) (K .ret ⟨[(8,vB true)],[]⟩) (K (.exit 0) ⟨[],[]⟩)
def mu_sp1 (_c:Chart) (_a:Str) (_i j k:Int):Nat:=(j+1-k).toNat
theorem r_sp1 (c:Chart) (a:Str) (i j k:Int) (K:Cont) (hI:pre_sp1 c a i j k=true):(∀R:St→Option Fin,evC cx0_sp1 (loopOf Tryz.f132 0) (st_sp1 c a i j k) (onward (headAt cx0_sp1 4) R K)=res_sp1 c a i j k K) ∨
  (∃(c':Chart) (a':Str) (i' j' k':Int),pre_sp1 c' a' i' j' k'=true∧mu_sp1 c' a' i' j' k'<mu_sp1 c a i j k∧res_sp1 c' a' i' j' k' K=res_sp1 c a i j k K∧∀R:St→Option Fin,evC cx0_sp1 (loopOf Tryz.f132 0) (st_sp1 c a i j k) (onward (headAt cx0_sp1 4) R K)=R (st_sp1 c' a' i' j' k')):=by
 have hx:=fun R=>x_impl_chart_split c a i j k R K
 simp only[pre_sp1]at hI
 rw[andd,andd,andd,andd,andd,andd,dec_iff,dec_iff,dec_iff,dec_iff,ble_iff,blt_iff,ble_iff]at hI
 obtain⟨h0,h1,h2,h3,h4,h5,h6⟩:=hI
 by_cases hk:k≤j
 ·have w:W64 (k+1)=k+1:=wrap_small (by omega) (by omega)
  obtain⟨n,hn⟩:∃n,(j+1-k).toNat=n+1:=⟨(j+1-k).toNat-1,by omega⟩
  have hn2:(j+1-(k+1)).toNat=n:=by omega
  have hg:anyI (fun k'=>derB c.2.1 c.2.2 (List.take 1 a) i k'&&splitB c.2.1 c.2.2 (List.drop 1 a) k' j) (n+1) k=((derB c.2.1 c.2.2 (List.take 1 a) i k&&splitB c.2.1 c.2.2 (List.drop 1 a) k j)||anyI (fun k'=>derB c.2.1 c.2.2 (List.take 1 a) i k'&&splitB c.2.1 c.2.2 (List.drop 1 a) k' j) n (k+1)):=rfl
  have t1:List.take (((List.length a:Int)).toNat-Int.toNat 1) (List.drop (Int.toNat 1) a)=List.drop 1 a:=List.take_of_length_le (by rw[List.length_drop];omega)
  have k1:okIJ c.2.1 i k=true:=okIJ_iff.2 ⟨by omega,by omega,by omega⟩
  have k2:okIJ c.2.1 k j=true:=okIJ_iff.2 ⟨by omega,by omega,by omega⟩
  have k3:(List.length (List.drop 1 a)).blt lvD=true:=blt_iff.2 (by rw[List.length_drop];omega)
  have k4:(List.length c.2.1).ble 1000=true:=ble_iff.2 h4
  rw[decide_eq_true hk,t1,k1,k2,k3,k4,w,inr_iff.2 (by omega:(0:Int)≤0∧(0:Int)≤1∧1≤(List.length a:Int)),inr_iff.2 (by omega:(0:Int)≤1∧1≤(List.length a:Int)∧(List.length a:Int)≤(List.length a:Int))]at hx
  change ∀R:St→Option Fin,_=branch true (need true (need true (branch (decide (derB c.2.1 c.2.2 (List.take 1 a) i k=true)) (need true (need true (branch (bif true then splitB c.2.1 c.2.2 (List.drop 1 a) k j else false) _ _))) _))) _ at hx
  cases hcs:(derB c.2.1 c.2.2 (List.take 1 a) i k&&splitB c.2.1 c.2.2 (List.drop 1 a) k j)
  ·right
   refine⟨c,a,i,j,k+1, ?_, ?_, ?_,fun R=>(hx R).trans ?_⟩
   ·simp only[pre_sp1]
    rw[andd,andd,andd,andd,andd,andd,dec_iff,dec_iff,dec_iff,dec_iff,ble_iff,blt_iff,ble_iff]
    exact⟨by omega,by omega,by omega,h3,h4,h5,h6⟩
   ·simp only[mu_sp1];omega
   ·simp only[res_sp1,hn,hn2,hg,hcs,Bool.false_or]
   ·cases c1:derB c.2.1 c.2.2 (List.take 1 a) i k
    ·rfl
    ·rw[c1]at hcs
     have c2:splitB c.2.1 c.2.2 (List.drop 1 a) k j=false:=hcs
     rw[c2];rfl
  ·obtain ⟨c1,c2⟩:=andd.1 hcs
   left
   intro R
   refine(hx R).trans ?_
   simp only[res_sp1,hn,hg,hcs]
   rw[c1,c2];rfl
 ·left
  intro R
  refine(hx R).trans ?_
  rw[decide_eq_false hk]
  have e:(j+1-k).toNat=0:=by omega
  simp only[res_sp1,e];rfl
noncomputable def g_sp1:St→Cont→Option Fin:=gP sh_sp1 (fun v=>match v with | ((c,a,i,j,k,()),())=>pre_sp1 c a i j k) (fun v K=>match v with | ((c,a,i,j,k,()),())=>res_sp1 c a i j k K)
noncomputable def L_sp1:List (Nat×(St→Cont→Option Fin)):=(4,g_sp1)::[]
noncomputable def cx_sp1:Cx:=(cb_split).withLoops (look L_sp1)
theorem l_sp1 {L:List (Nat×(St→Cont→Option Fin))} (n:Nat) (h1:L.drop n=[]) (h2:idsFree (L.take n) (loopOf Tryz.f132 0)=true):∀st K r,g_sp1 st K=some r→∃N,iter (evC ((cb_split).withLoops (look L)) (loopOf Tryz.f132 0)) (headAt ((cb_split).withLoops (look L)) 4) N st K=some r :=
 with_drop h1 h2 (gP_ok (fun v=>match v with | ((c,a,i,j,k,()),())=>mu_sp1 c a i j k) fun v K hI=>by
  obtain⟨⟨(c:Chart),(a:Str),(i:Int),(j:Int),(k:Int),⟨⟩⟩,⟨⟩⟩:=v
  rcases r_sp1 c a i j k K hI with h1 | ⟨c',a',i',j',k',h1,h2,h3,h4⟩
  ·exact .inl h1
  ·exact .inr ⟨((c',a',i',j',k',()),()),h1,h2,h3,h4⟩)
theorem y_impl_chart_split (c:Chart) (a:Str) (i:Int) (j:Int):evFn cx_sp1 Tryz.f132 true [ofD (.ref TCh) c,ofD .str a,ofD TI64 i,ofD TI64 j] []=(
branch (decide (a=[])) ( some ((vB (decide (i=j))),[])) (
 need (pre_sp1 c a i j i) <|
 branch (anyI (fun k'=>derB c.snd.fst c.snd.snd (List.take 1 a) i k'&&splitB c.snd.fst c.snd.snd (List.drop 1 a) k' j) (j+1-i).toNat i) ( some ((vB true),[])) ( some ((vB false),[])))):=by kernel_rfl
theorem split_up:ConOk Tryz.prog 132 (conSplit (lvD+1)):=conT_ok Tryz.call132 fun(c:Chart) _ (a:Str) _ (i:Int) _ (j:Int) _ hqq=>by
 obtain⟨h1,h2⟩:=andd.1 (pre_of hqq)
 obtain⟨h2,h3⟩:=andd.1 h2
 obtain⟨i0,i1,i2⟩:=okIJ_iff.1 h2
 have h1:=blt_iff.1 h1
 refine fn_sound (cx:=cx_sp1) Tryz.func132 rfl ttOk Γ75ok mixed (fun c hc=>LoopsOk.all (l:=[(4,loopOf Tryz.f132 0)]) (by cases hc;kernel_rfl) ⟨atLoop rfl (l_sp1 1 rfl (by kernel_rfl)),trivial⟩) (ro:=true) ?_
 refine(y_impl_chart_split c a i j).trans ?_
 cases a with
 |nil=>rfl
 |cons q r =>
  have hp:pre_sp1 c (q::r) i j i=true:=by
   simp only[pre_sp1]
   rw[andd,andd,andd,andd,andd,andd,dec_iff,dec_iff,dec_iff,dec_iff,ble_iff,blt_iff,ble_iff]
   exact⟨i0,by omega,by omega,i2,ble_iff.1 h3,by simp,by omega⟩
  rw[hp]
  show branch (splitB c.2.1 c.2.2 (q::r) i j) _ _=_
  cases splitB c.2.1 c.2.2 (q::r) i j<;>rfl
end
theorem split_all:∀n,ConOk Tryz.prog 132 (conSplit n)
 |0=>conT_ok Tryz.call132 fun c _ (a:Str) _ i _ j _ hqq=>by
  have:=blt_iff.1 (andd.1 (pre_of hqq)).1
  omega
 |n+1=>@split_up ⟨⟨n,split_all n⟩⟩
noncomputable def c_impl_chart_split:Con:=conSplit 9
theorem k_impl_chart_split:ConOk Tryz.prog 132 c_impl_chart_split:=split_all 9
noncomputable def Γ76:List (Nat×Con):=(132,c_impl_chart_split)::Γ74
theorem Γ76ok:EnvOk Tryz.prog (look Γ76) := .cons k_impl_chart_split Γ74ok
def putM (q:Part) (m:PMap):PMap:=mset TP .bool q true m
def stepR (s:Str) (i j:Int) (r:Rule) (p:PMap×Bool):PMap×Bool:=bif !hasM p.1 (r.1,i,j)&&splitB s p.1 r.2 i j then(putM (r.1,i,j) p.1,true)else p
def rulesF (s:Str) (i j:Int):List Rule→PMap×Bool→PMap×Bool
 | [],p=>p
 |r::l,p=>rulesF s i j l (stepR s i j r p)
def tosF (s:Str) (l:List Rule) (i:Int):Nat→Int→PMap×Bool→PMap×Bool
 |0,_,p=>p
 |n+1,j,p=>tosF s l i n (j+1) (rulesF s i j l p)
def fromsF (s:Str) (l:List Rule):Nat→PMap×Bool→PMap×Bool
 |0,p=>p
 |n+1,p=>fromsF s l n (tosF s l (n:Int) (s.length+1-n) (n:Int) p)
theorem rulesF_at {s:Str} {i j k:Int} {l:List Rule} {p:PMap×Bool} (h0:0≤k) (h1:k<(l.length:Int)):rulesF s i j (l.drop k.toNat) p=rulesF s i j (l.drop (k+1).toNat) (stepR s i j (l.getD k.toNat d0) p):=by
 have hn:k.toNat<l.length:=by omega
 rw[List.drop_eq_getElem_cons hn,show (k+1).toNat=k.toNat+1 by omega,List.getD_eq_getElem?_getD,List.getElem?_eq_getElem hn];rfl
theorem eqP_iff {x y:Part}:eqDen TP x y=true↔x=y:=by
 obtain⟨a,i,j⟩:=x
 obtain⟨b,k,n⟩:=y
 show(decide (a=b)&&(decide (i=k)&&decide (j=n)))=true↔_
 rw[andd,andd,dec_iff,dec_iff,dec_iff]
 constructor
 ·rintro ⟨rfl,rfl,rfl⟩;rfl
 ·intro h;cases h;exact ⟨rfl,rfl,rfl⟩
theorem eqP_dec {x y:Part}:eqDen TP x y=decide (x=y):=by
 by_cases h:x=y
 ·rw[decide_eq_true h,eqP_iff.2 h]
 ·rw[decide_eq_false h]
  cases e:eqDen TP x y
  ·rfl
  ·exact absurd (eqP_iff.1 e) h
theorem has_cons {x a:Part} {u:Bool} {m:PMap}:hasM ((a,u)::m) x=bif decide (x=a)then u else hasM m x:=by
 rw[← eqP_dec]
 show(bif eqDen TP x a then some u else mget TP .bool x m).getD false=_
 cases eqDen TP x a<;>rfl
theorem has_set {q x:Part} {v:Bool}:∀ {m:PMap},hasM (mset TP .bool q v m) x=bif decide (x=q)then v else hasM m x
 | []=>has_cons (m:=[])
 | (a,u)::m=>by
  have ih:=has_set (q:=q) (x:=x) (v:=v) (m:=m)
  show hasM (bif eqDen TP q a then(q,v)::m else(a,u)::mset TP .bool q v m) x=_
  rw[eqP_dec,has_cons]
  by_cases h1:q=a
  ·subst h1
   rw[decide_eq_true rfl,cond_true,has_cons]
   cases decide (x=q)<;>rfl
  ·rw[decide_eq_false h1,cond_false]
   refine has_cons.trans ?_
   by_cases h:x=a
   ·have hx:¬x=q:=fun e=>h1 (e.symm.trans h)
    rw[decide_eq_false hx,decide_eq_true h];rfl
   ·rw[decide_eq_false h,cond_false,cond_false,ih]
theorem has_put {q x:Part} {m:PMap}:hasM (putM q m) x=bif decide (x=q)then true else hasM m x:=has_set
abbrev Vis:Type:=Int×Int×Rule
def keyV (v:Vis):Part:=(v.2.2.1,v.1,v.2.1)
def stepV (s:Str) (v:Vis) (p:PMap×Bool):PMap×Bool:=stepR s v.1 v.2.1 v.2.2 p
def visR (i j:Int) (l:List Rule):List Vis:=l.map fun r=>(i,j,r)
def visT (l:List Rule) (i:Int):Nat→Int→List Vis
 |0,_=>[]
 |n+1,j=>visR i j l++visT l i n (j+1)
def visF (s:Str) (l:List Rule):Nat→List Vis
 |0=>[]
 |n+1=>visT l (n:Int) (s.length+1-n) (n:Int)++visF s l n
theorem rules_vis {s:Str} {i j:Int}:∀ {l:List Rule} {p:PMap×Bool},rulesF s i j l p=foldG (stepV s) (visR i j l) p
 | [],_=>rfl
 |r::l,p=>rules_vis (l:=l) (p:=stepR s i j r p)
theorem tos_vis {s:Str} {l:List Rule} {i:Int}:∀ {n:Nat} {j:Int} {p:PMap×Bool},tosF s l i n j p=foldG (stepV s) (visT l i n j) p
 |0,_,_=>rfl
 |n+1,j,p=>by
  show tosF s l i n (j+1) (rulesF s i j l p)=foldG (stepV s) (visR i j l++visT l i n (j+1)) p
  rw[foldG_app,← rules_vis,tos_vis]
theorem froms_vis {s:Str} {l:List Rule}:∀ {n:Nat} {p:PMap×Bool},fromsF s l n p=foldG (stepV s) (visF s l n) p
 |0,_=>rfl
 |n+1,p=>by
  show fromsF s l n (tosF s l (n:Int) (s.length+1-n) (n:Int) p)=foldG (stepV s) (visT l (n:Int) (s.length+1-n) (n:Int)++visF s l n) p
  rw[foldG_app,← tos_vis,froms_vis]
theorem mem_visT {l:List Rule} {i:Int} {v:Vis}:∀ {n:Nat} {j:Int},v∈visT l i n j↔v.1=i∧j≤v.2.1∧v.2.1<j+n∧v.2.2∈l
 |0,j=>by
  unfold visT
  constructor
  ·intro h;cases h
  ·rintro ⟨_,h1,h2,_⟩;omega
 |n+1,j=>by
  unfold visT visR
  rw[List.mem_append,mem_visT (n:=n) (j:=j+1),List.mem_map]
  constructor
  ·rintro (⟨r,hr,rfl⟩ | ⟨h1,h2,h3,h4⟩)
   ·exact ⟨rfl,Int.le_refl _,by show j<j+_;omega,hr⟩
   ·exact ⟨h1,by omega,by omega,h4⟩
  ·rintro ⟨h1,h2,h3,h4⟩
   by_cases h:v.2.1=j
   ·exact .inl ⟨v.2.2,h4,by rw[← h1,← h]⟩
   ·exact .inr ⟨h1,by omega,by omega,h4⟩
theorem mem_visF {s:Str} {l:List Rule} {v:Vis}:∀ {n:Nat},n≤s.length+1→(v∈visF s l n↔0≤v.1∧v.1<n∧v.1≤v.2.1∧v.2.1≤(s.length:Int)∧v.2.2∈l)
 |0,_=>by
  unfold visF
  constructor
  ·intro h;cases h
  ·rintro ⟨h1,h2,_⟩;omega
 |n+1,hn=>by
  unfold visF
  rw[List.mem_append,mem_visT,mem_visF (n:=n) (by omega)]
  constructor
  ·rintro (⟨h1,h2,h3,h4⟩ | ⟨h1,h2,h3,h4,h5⟩)
   ·exact ⟨by omega,by omega,by omega,by omega,h4⟩
   ·exact ⟨by omega,by omega,by omega,by omega,h5⟩
  ·rintro ⟨h1,h2,h3,h4,h5⟩
   by_cases h:v.1=n
   ·exact .inl ⟨h,by omega,by omega,h5⟩
   ·exact .inr ⟨by omega,by omega,by omega,by omega,h5⟩
theorem stepV_ok (s:Str):StepOk (fun _=>True) (fun _=>True) hasM (fun v=>[keyV v]) (stepV s) where
 inv _ _ _ _:=trivial
 mono v p x _ _ h:=by
  unfold stepV stepR
  cases !hasM p.1 (v.2.2.1,v.1,v.2.1)&&splitB s p.1 v.2.2.2 v.1 v.2.1
  ·exact h
  ·show hasM (putM (v.2.2.1,v.1,v.2.1) p.1) x=true
   rw[has_put,h]
   cases decide (x=(v.2.2.1,v.1,v.2.1))<;>rfl
 new v p _ _ h:=by
  unfold stepV stepR at *
  cases hc:(!hasM p.1 (v.2.2.1,v.1,v.2.1)&&splitB s p.1 v.2.2.2 v.1 v.2.1)<;>rw[hc]at h
  ·exact .inl h
  ·refine .inr ⟨keyV v,List.mem_singleton.2 rfl, ?_, ?_⟩
   ·have:=(andd.1 hc).1
    show hasM p.1 (v.2.2.1,v.1,v.2.1)=false
    cases h2:hasM p.1 (v.2.2.1,v.1,v.2.1)
    ·rfl
    ·rw[h2]at this;cases this
   ·show hasM (putM (v.2.2.1,v.1,v.2.1) p.1) (keyV v)=true
    rw[has_put,decide_eq_true (show keyV v=(v.2.2.1,v.1,v.2.1)from rfl)];rfl
 quiet v p _ _ h:=by
  unfold stepV stepR at *
  cases hc:(!hasM p.1 (v.2.2.1,v.1,v.2.1)&&splitB s p.1 v.2.2.2 v.1 v.2.1)<;>rw[hc]at h
  ·exact ⟨h,rfl⟩
  ·cases h
theorem anyI_iff {f:Int→Bool}:∀ {n:Nat} {a:Int},anyI f n a=true↔∃k,a≤k∧k<a+n∧f k=true
 |0,a=>by
  unfold anyI
  constructor
  ·intro h;cases h
  ·rintro ⟨k,h1,h2,_⟩;omega
 |n+1,a=>by
  unfold anyI
  rw[Bool.or_eq_true,anyI_iff (n:=n) (a:=a+1)]
  constructor
  ·rintro (h | ⟨k,h1,h2,h3⟩)
   ·exact ⟨a,Int.le_refl _,by omega,h⟩
   ·exact ⟨k,by omega,by omega,h3⟩
  ·rintro ⟨k,h1,h2,h3⟩
   by_cases h:k=a
   ·exact .inl (by rw[← h];exact h3)
   ·exact .inr ⟨k,by omega,by omega,h3⟩
abbrev tabM (m:PMap) (a:Str) (i j:Int):Prop:=hasM m (a,i,j)=true
theorem derB_iff {s:Str} {m:PMap} {a:Str} {i j:Int}:derB s m a i j=true↔derP s (tabM m) a i j:=by
 unfold derB derP
 cases smallS a
 ·exact Iff.rfl
 ·rw[cond_true,if_pos rfl,b2,andd,dec_iff,dec_iff]
theorem splitB_iff {s:Str} {m:PMap}:∀ {r:Str} {i j:Int},splitB s m r i j=true↔splP s (tabM m) r i j
 | [],i,j=>by
  unfold splitB splP
  exact dec_iff
 |c::r,i,j=>by
  unfold splitB splP
  rw[anyI_iff]
  constructor
  ·rintro ⟨k,h1,h2,h3⟩
   obtain⟨h3,h4⟩:=andd.1 h3
   exact⟨k,h1,by omega,derB_iff.1 h3,splitB_iff.1 h4⟩
  ·rintro ⟨k,h1,h2,h3,h4⟩
   exact⟨k,h1,by omega,andd.2 ⟨derB_iff.2 h3,splitB_iff.2 h4⟩⟩
def chartM (s:Str) (l:List Rule):PMap:=runC hasM (fun v=>[keyV v]) (stepV s) (visF s l (s.length+1)) []
theorem chartM_iff {s:Str} {l:List Rule} {a:Str} {i j:Int}:hasM (chartM s l) (a,i,j)=true↔DerG s l a i j:=by
 refine Der_iff (T:=tabM (chartM s l)) (fun P hP a i j h => ?_) (fun r hr i j h0 h1 h2 h3 => ?_)
 ·refine (runC_end (stepV_ok s) (fun _ _=>trivial) (J:=fun m=>∀a i j,hasM m (a,i,j)=true→P a i j) (fun v hv p hp a i j h => ?_) (m:=[]) trivial (fun a i j h=>by cases h)).2.1 a i j h
  unfold stepV stepR at h
  cases hc:(!hasM p.1 (v.2.2.1,v.1,v.2.1)&&splitB s p.1 v.2.2.2 v.1 v.2.1)<;>rw[hc]at h
  ·exact hp.2 a i j h
  ·change hasM (putM (v.2.2.1,v.1,v.2.1) p.1) (a,i,j)=true at h
   rw[has_put]at h
   by_cases he:(a,i,j)=(v.2.2.1,v.1,v.2.1)
   ·cases he
    obtain⟨v1,v2,v3,v4,v5⟩:=(mem_visF (Nat.le_refl _)).1 hv
    exact hP v.2.2 v5 v.1 v.2.1 v1 v3 v4 (splP_mono (fun a i j _ _ _ h=>hp.2 a i j h) v1 v4 (splitB_iff.1 (andd.1 hc).2))
   ·rw[decide_eq_false he]at h
    exact hp.2 a i j h
 ·have h4:=(runC_end (stepV_ok s) (J:=fun _=>True) (vs:=visF s l (s.length+1)) (fun _ _=>trivial) (fun _ _ _ _=>trivial) (m:=[]) trivial trivial).2.2 (i,j,r) ((mem_visF (Nat.le_refl _)).2 ⟨h0,by show i<_;omega,h1,h2,hr⟩)
  change stepR s i j r (chartM s l,false)=(chartM s l,false)at h4
  show hasM (chartM s l) (r.1,i,j)=true
  unfold stepR at h4
  cases hc:hasM (chartM s l) (r.1,i,j)
  ·rw[hc,splitB_iff.2 h3]at h4
   cases congrArg Prod.snd h4
  ·rfl
noncomputable def cb_chart:Cx:=(cxOf Γ76 Tryz.f100.ntmps [(12,[1,2,5,6,7,8,32,33,34]),(9,[1,2,5,6,7,8]),(6,[1,2,5,6,7]),(3,[1,2,5,6])] [(0,[5]),(1,[1,2,5,6]),(2,[1,2,5,6]),(3,[1,2,5,6,7]),(4,[1,2,5,6,7]),(5,[1,2,5,6,7,8]),(6,[1,2,5,6,7,8]),(7,[1,2,5,6,7,8,32,33,34]),(1000000,[4])] [] [])
abbrev chO (a:Str) (l:List Rule) (s:Str) (i:Nat):Option Obj:=some (.box 146 [.r (.v (.string (mk a))), .r (.li TRu l), .r (.v (.string (mk s))), .own i])
abbrev chH (g:Gram) (a:Str) (l:List Rule) (s:Str) (m:PMap):Heap:=[(500000,some (boxD 25 TG g)),(500001,chO a l s 500002),(500002,some (.map TP .bool m))]
theorem x_impl_chartOf_3 (t s a:Str) (g:Gram) (l q:List Rule) (m:PMap) (b:Bool) (i j n k:Int) (R:St→Option Fin) (K:Cont):evC (cb_chart.withLoops (look [])) (loopOf Tryz.f100 3) ⟨[(1,vS t),(2, .d (.one (.ptr 500000 0))),(5, .d (.one (.ptr 500001 0))),(6,vB b),(7,vI i),(8,vI j),(32, .d (ofD TRL l)),(33,vI n),(34,vI k)],[(500000,some (boxD 25 TG g)),(500001,chO a q s 500002),(500002,some (.map TP .bool m))]⟩ (onward (headAt (cb_chart.withLoops (look [])) 12) R K)=(
branch (decide (k<n)) (
 need (inb k l.length) <|
 need (bif decide ((!hasM m ((l.getD k.toNat d0).1,i,j))=true)then Nat.blt (List.length (l.getD k.toNat d0).2) 9&&(okIJ s i j&&Nat.ble s.length 1000)else true) <|
 branch (bif !hasM m ((l.getD k.toNat d0).1,i,j)then splitB s m (l.getD k.toNat d0).2 i j else false) (R ⟨[(1,vS t),(2, .d (.one (.ptr 500000 0))),(5, .d (.one (.ptr 500001 0))),(6,vB true),(7,vI i),(8,vI j),(32, .d (ofD TRL l)),(33,vI n),(34,vI (W64 (k+1)))],chH g a q s (putM ((l.getD k.toNat d0).1,i,j) m)⟩) (R ⟨[(1,vS t),(2, .d (.one (.ptr 500000 0))),(5, .d (.one (.ptr 500001 0))),(6,vB b),(7,vI i),(8,vI j),(32, .d (ofD TRL l)),(33,vI n),(34,vI (W64 (k+1)))],chH g a q s m⟩)) (K (.exit 6) ⟨[(1,vS t),(2, .d (.one (.ptr 500000 0))),(5, .d (.one (.ptr 500001 0))),(6,vB b),(7,vI i),(8,vI j)],chH g a q s m⟩)):=by kernel_rfl
def okRs (l:List Rule):Bool:=Nat.ble (List.length l) 1000&&List.all l (fun r=>Nat.blt (List.length r.2) 9)
theorem okRs_iff {l:List Rule}:okRs l=true↔l.length≤1000∧List.all l (fun r=>Nat.blt (List.length r.2) 9)=true:=by
 unfold okRs
 rw[andd,ble_iff]
noncomputable def cx0_c4:Cx:=(cb_chart).withLoops (look [])
def sh_c4:Sh:=([(1, .d .str),(2, .ptr 500000 0),(5, .ptr 500001 0),(6, .d .bool),(7, .d TI64),(8, .d TI64),(32, .d TRL),(33, .d TI64),(34, .d TI64)],[(500000, .box 25 TG),(500001, .mix 146 [.d .str, .d TRL, .d .str, .own 500002]),(500002, .map TP .bool)])
abbrev st_c4 (t:Str) (b:Bool) (i j:Int) (l:List Rule) (n k:Int) (g:Gram) (a:Str) (q:List Rule) (s:Str) (m:List (Den TP×Den .bool)):St:=⟨[(1, .d (ofD .str t)),(2, .d (.one (.ptr 500000 0))),(5, .d (.one (.ptr 500001 0))),(6, .d (ofD .bool b)),(7, .d (ofD TI64 i)),(8, .d (ofD TI64 j)),(32, .d (ofD TRL l)),(33, .d (ofD TI64 n)),(34, .d (ofD TI64 k))],[(500000,some (boxD 25 TG g)),(500001,some (.box 146 ((cellsR .str a).map C.r++(cellsR TRL q).map C.r++(cellsR .str s).map C.r++[.own 500002]))),(500002,some (.map TP .bool m))]⟩
def pre_c4 (_t:Str) (_b:Bool) (i j:Int) (l:List Rule) (n k:Int) (_g:Gram) (_a:Str) (_q:List Rule) (s:Str) (_m:List (Den TP×Den .bool)):Bool:=decide (0≤k)&&(decide (n=(List.length l:Int))&&(okRs l&&(okIJ s i j&&Nat.ble (List.length s) 1000)))
noncomputable def res_c4 (t:Str) (b:Bool) (i j:Int) (l:List Rule) (_n k:Int) (g:Gram) (a:Str) (q:List Rule) (s:Str) (m:List (Den TP×Den .bool)) (K:Cont):Option Fin:=K (.exit 6) ⟨[(1,vS t),(2, .d (.one (.ptr 500000 0))),(5, .d (.one (.ptr 500001 0))),(6,vB (rulesF s i j (List.drop k.toNat l) (m,b)).2),(7,vI i),(8,vI j)],chH g a q s (rulesF s i j (List.drop k.toNat l) (m,b)).1⟩
def mu_c4 (_t:Str) (_b:Bool) (_i _j:Int) (l:List Rule) (_n k:Int) (_g:Gram) (_a:Str) (_q:List Rule) (_s:Str) (_m:List (Den TP×Den .bool)):Nat:=List.length l-k.toNat
theorem r_c4 (t:Str) (b:Bool) (i j:Int) (l:List Rule) (n k:Int) (g:Gram) (a:Str) (q:List Rule) (s:Str) (m:List (Den TP×Den .bool)) (K:Cont) (hI:pre_c4 t b i j l n k g a q s m=true):(∀R:St→Option Fin,evC cx0_c4 (loopOf Tryz.f100 3) (st_c4 t b i j l n k g a q s m) (onward (headAt cx0_c4 12) R K)=res_c4 t b i j l n k g a q s m K) ∨
  (∃(t':Str) (b':Bool) (i' j':Int) (l':List Rule) (n' k':Int) (g':Gram) (a':Str) (q':List Rule) (s':Str) (m':List (Den TP×Den .bool)),pre_c4 t' b' i' j' l' n' k' g' a' q' s' m'=true∧mu_c4 t' b' i' j' l' n' k' g' a' q' s' m'<mu_c4 t b i j l n k g a q s m∧res_c4 t' b' i' j' l' n' k' g' a' q' s' m' K=res_c4 t b i j l n k g a q s m K∧∀R:St→Option Fin,evC cx0_c4 (loopOf Tryz.f100 3) (st_c4 t b i j l n k g a q s m) (onward (headAt cx0_c4 12) R K)=R (st_c4 t' b' i' j' l' n' k' g' a' q' s' m')):=by
 have hx:=fun R=>x_impl_chartOf_3 t s a g l q m b i j n k R K
 simp only[pre_c4]at hI
 rw[andd,andd,andd,andd,dec_iff,dec_iff,okRs_iff,ble_iff]at hI
 obtain⟨h0,rfl,⟨h2,h3⟩,h4,h5⟩:=hI
 by_cases hk:k<(List.length l:Int)
 ·have w:W64 (k+1)=k+1:=wrap_small (by omega) (by omega)
  have hg:=rulesF_at (s:=s) (i:=i) (j:=j) (p:=(m,b)) h0 hk
  have hr:Nat.blt (List.length (l.getD k.toNat d0).2) 9=true:=List.all_eq_true.1 h3 _ (by
   have hn:k.toNat<List.length l:=by omega
   rw[getD_at hn];exact List.getElem_mem hn)
  rw[decide_eq_true hk,inb_ok h0 hk,w,hr,h4,ble_iff.2 h5]at hx
  simp only[Bool.and_self,Bool.cond_self]at hx
  change ∀R:St→Option Fin,_=branch (bif !hasM m ((l.getD k.toNat d0).1,i,j)then splitB s m (l.getD k.toNat d0).2 i j else false) _ _ at hx
  have hst:stepR s i j (l.getD k.toNat d0) (m,b)=bif !hasM m ((l.getD k.toNat d0).1,i,j)&&splitB s m (l.getD k.toNat d0).2 i j then(putM ((l.getD k.toNat d0).1,i,j) m,true)else(m,b):=rfl
  rw[b2]at hx
  right
  cases hc:(!hasM m ((l.getD k.toNat d0).1,i,j)&&splitB s m (l.getD k.toNat d0).2 i j)
  ·rw[hc]at hx hst
   rw[hst]at hg
   refine⟨t,b,i,j,l,(List.length l:Int),k+1,g,a,q,s,m, ?_, ?_, ?_,fun R=>hx R⟩
   ·simp only[pre_c4]
    rw[andd,andd,andd,andd,dec_iff,dec_iff,okRs_iff,ble_iff]
    exact⟨by omega,trivial,⟨h2,h3⟩,h4,h5⟩
   ·simp only[mu_c4];omega
   ·simp only[res_c4,hg];rfl
  ·rw[hc]at hx hst
   rw[hst]at hg
   refine⟨t,true,i,j,l,(List.length l:Int),k+1,g,a,q,s,putM ((l.getD k.toNat d0).1,i,j) m, ?_, ?_, ?_,fun R=>hx R⟩
   ·simp only[pre_c4]
    rw[andd,andd,andd,andd,dec_iff,dec_iff,okRs_iff,ble_iff]
    exact⟨by omega,trivial,⟨h2,h3⟩,h4,h5⟩
   ·simp only[mu_c4];omega
   ·simp only[res_c4,hg];rfl
 ·left
  intro R
  refine(hx R).trans ?_
  rw[decide_eq_false hk]
  have e:List.drop k.toNat l=[]:=List.drop_eq_nil_of_le (by omega)
  simp only[res_c4,e];rfl
noncomputable def g_c4:St→Cont→Option Fin:=gP sh_c4 (fun v=>match v with | ((t,b,i,j,l,n,k,()),(g,(a,q,s,()),m,()))=>pre_c4 t b i j l n k g a q s m) (fun v K=>match v with | ((t,b,i,j,l,n,k,()),(g,(a,q,s,()),m,()))=>res_c4 t b i j l n k g a q s m K)
noncomputable def L_c4:List (Nat×(St→Cont→Option Fin)):=(12,g_c4)::[]
theorem l_c4 {L:List (Nat×(St→Cont→Option Fin))} (n:Nat) (h1:L.drop n=[]) (h2:idsFree (L.take n) (loopOf Tryz.f100 3)=true):∀st K r,g_c4 st K=some r→∃N,iter (evC ((cb_chart).withLoops (look L)) (loopOf Tryz.f100 3)) (headAt ((cb_chart).withLoops (look L)) 12) N st K=some r :=
 with_drop h1 h2 (gP_ok (fun v=>match v with | ((t,b,i,j,l,n,k,()),(g,(a,q,s,()),m,()))=>mu_c4 t b i j l n k g a q s m) fun v K hI=>by
  obtain⟨⟨(t:Str),(b:Bool),(i:Int),(j:Int),(l:List Rule),(n:Int),(k:Int),⟨⟩⟩,⟨(g:Gram),⟨(a:Str),(q:List Rule),(s:Str),⟨⟩⟩,(m:List (Den TP×Den .bool)),⟨⟩⟩⟩:=v
  rcases r_c4 t b i j l n k g a q s m K hI with h1 | ⟨t',b',i',j',l',n',k',g',a',q',s',m',h1,h2,h3,h4⟩
  ·exact .inl h1
  ·exact .inr ⟨((t',b',i',j',l',n',k',()),(g',(a',q',s',()),m',())),h1,h2,h3,h4⟩)
theorem x_impl_chartOf_2 (t s a:Str) (g:Gram) (q:List Rule) (m:PMap) (b:Bool) (i j:Int) (R:St→Option Fin) (K:Cont):evC (cb_chart.withLoops (look L_c4)) (loopOf Tryz.f100 2) ⟨[(1,vS t),(2, .d (.one (.ptr 500000 0))),(5, .d (.one (.ptr 500001 0))),(6,vB b),(7,vI i),(8,vI j)],[(500000,some (boxD 25 TG g)),(500001,chO a q s 500002),(500002,some (.map TP .bool m))]⟩ (onward (headAt (cb_chart.withLoops (look L_c4)) 9) R K)=(
branch (decide (j≤(t.length:Int))) (
 need (pre_c4 t b i j g.snd ((List.length g.snd:Int)) 0 g a q s m) <| R (.mk [(1,(vS t)),(2,(.d (.one (.ptr 500000 0)))),(5,(.d (.one (.ptr 500001 0)))),(6,(vB (rulesF s i j g.snd (m,b)).snd)),(7,(vI i)),(8,(vI (W64 (j+1))))] [(500000,(some (boxD 25 TG g))),(500001,(.some (.box 146 [(.r (.v (Value.string (mk a)))),(.r (.li TRu q)),(.r (.v (Value.string (mk s)))),(.own 500002)]))),(500002,(.some (.map TP (Ty.bool) ((rulesF s i j g.snd (m,b)).fst))))])) ( K (.exit 4) (.mk [(1,(vS t)),(2,(.d (.one (.ptr 500000 0)))),(5,(.d (.one (.ptr 500001 0)))),(6,(vB b)),(7,(vI i))] [(500000,(some (boxD 25 TG g))),(500001,(.some (.box 146 [(.r (.v (Value.string (mk a)))),(.r (.li TRu q)),(.r (.v (Value.string (mk s)))),(.own 500002)]))),(500002,(.some (.map TP (Ty.bool) m)))]))):=by kernel_rfl
noncomputable def cx0_c3:Cx:=(cb_chart).withLoops (look L_c4)
def sh_c3:Sh:=([(1, .d .str),(2, .ptr 500000 0),(5, .ptr 500001 0),(6, .d .bool),(7, .d TI64),(8, .d TI64)],[(500000, .box 25 TG),(500001, .mix 146 [.d .str, .d TRL, .d .str, .own 500002]),(500002, .map TP .bool)])
abbrev st_c3 (t:Str) (b:Bool) (i j:Int) (g:Gram) (a:Str) (q:List Rule) (s:Str) (m:List (Den TP×Den .bool)):St:=⟨[(1, .d (ofD .str t)),(2, .d (.one (.ptr 500000 0))),(5, .d (.one (.ptr 500001 0))),(6, .d (ofD .bool b)),(7, .d (ofD TI64 i)),(8, .d (ofD TI64 j))],[(500000,some (boxD 25 TG g)),(500001,some (.box 146 ((cellsR .str a).map C.r++(cellsR TRL q).map C.r++(cellsR .str s).map C.r++[.own 500002]))),(500002,some (.map TP .bool m))]⟩
def pre_c3 (t:Str) (_b:Bool) (i j:Int) (g:Gram) (_a:Str) (_q:List Rule) (s:Str) (_m:List (Den TP×Den .bool)):Bool:=decide (0≤i)&&(decide (i≤j)&&(okRs g.2&&(decide (t=s)&&(Nat.ble (List.length s) 1000&&decide (j≤(List.length s:Int)+1)))))
noncomputable def res_c3 (t:Str) (b:Bool) (i j:Int) (g:Gram) (a:Str) (q:List Rule) (s:Str) (m:List (Den TP×Den .bool)) (K:Cont):Option Fin:=K (.exit 4) ⟨[(1,vS t),(2, .d (.one (.ptr 500000 0))),(5, .d (.one (.ptr 500001 0))),(6,vB (tosF s g.2 i ((s.length:Int)+1-j).toNat j (m,b)).2),(7,vI i)],chH g a q s (tosF s g.2 i ((s.length:Int)+1-j).toNat j (m,b)).1⟩
def mu_c3 (_t:Str) (_b:Bool) (_i j:Int) (_g:Gram) (_a:Str) (_q:List Rule) (s:Str) (_m:List (Den TP×Den .bool)):Nat:=(List.length s+1)-j.toNat
theorem r_c3 (t:Str) (b:Bool) (i j:Int) (g:Gram) (a:Str) (q:List Rule) (s:Str) (m:List (Den TP×Den .bool)) (K:Cont) (hI:pre_c3 t b i j g a q s m=true):(∀R:St→Option Fin,evC cx0_c3 (loopOf Tryz.f100 2) (st_c3 t b i j g a q s m) (onward (headAt cx0_c3 9) R K)=res_c3 t b i j g a q s m K) ∨
  (∃(t':Str) (b':Bool) (i' j':Int) (g':Gram) (a':Str) (q':List Rule) (s':Str) (m':List (Den TP×Den .bool)),pre_c3 t' b' i' j' g' a' q' s' m'=true∧mu_c3 t' b' i' j' g' a' q' s' m'<mu_c3 t b i j g a q s m∧res_c3 t' b' i' j' g' a' q' s' m' K=res_c3 t b i j g a q s m K∧∀R:St→Option Fin,evC cx0_c3 (loopOf Tryz.f100 2) (st_c3 t b i j g a q s m) (onward (headAt cx0_c3 9) R K)=R (st_c3 t' b' i' j' g' a' q' s' m')):=by
 have hx:=fun R=>x_impl_chartOf_2 t s a g q m b i j R K
 simp only[pre_c3]at hI
 rw[andd,andd,andd,andd,andd,dec_iff,dec_iff,dec_iff,ble_iff,dec_iff]at hI
 obtain⟨h0,h1,h2,rfl,h4,h5⟩:=hI
 by_cases hj:j≤(List.length t:Int)
 ·have w:W64 (j+1)=j+1:=wrap_small (by omega) (by omega)
  obtain⟨n,hn⟩:∃n,((List.length t:Int)+1-j).toNat=n+1:=⟨((List.length t:Int)+1-j).toNat-1,by omega⟩
  have hn2:((List.length t:Int)+1-(j+1)).toNat=n:=by omega
  have hg:tosF t g.2 i (n+1) j (m,b)=tosF t g.2 i n (j+1) (rulesF t i j g.2 (m,b)):=rfl
  have hp:pre_c4 t b i j g.2 ((List.length g.2:Int)) 0 g a q t m=true:=by
   simp only[pre_c4]
   rw[andd,andd,andd,andd,dec_iff,dec_iff,ble_iff]
   exact⟨by omega,trivial,h2,okIJ_iff.2 ⟨h0,h1,hj⟩,h4⟩
  rw[decide_eq_true hj,hp,w]at hx
  right
  refine⟨t,(rulesF t i j g.2 (m,b)).2,i,j+1,g,a,q,t,(rulesF t i j g.2 (m,b)).1, ?_, ?_, ?_,fun R=>hx R⟩
  ·simp only[pre_c3]
   rw[andd,andd,andd,andd,andd,dec_iff,dec_iff,dec_iff,ble_iff,dec_iff]
   exact⟨by omega,by omega,h2,trivial,h4,by omega⟩
  ·simp only[mu_c3];omega
  ·simp only[res_c3,hn,hn2,hg]
 ·left
  intro R
  refine(hx R).trans ?_
  rw[decide_eq_false hj]
  have e:((List.length t:Int)+1-j).toNat=0:=by omega
  simp only[res_c3,e];rfl
noncomputable def g_c3:St→Cont→Option Fin:=gP sh_c3 (fun v=>match v with | ((t,b,i,j,()),(g,(a,q,s,()),m,()))=>pre_c3 t b i j g a q s m) (fun v K=>match v with | ((t,b,i,j,()),(g,(a,q,s,()),m,()))=>res_c3 t b i j g a q s m K)
noncomputable def L_c3:List (Nat×(St→Cont→Option Fin)):=(9,g_c3)::L_c4
theorem l_c3 {L:List (Nat×(St→Cont→Option Fin))} (n:Nat) (h1:L.drop n=L_c4) (h2:idsFree (L.take n) (loopOf Tryz.f100 2)=true):∀st K r,g_c3 st K=some r→∃N,iter (evC ((cb_chart).withLoops (look L)) (loopOf Tryz.f100 2)) (headAt ((cb_chart).withLoops (look L)) 9) N st K=some r :=
 with_drop h1 h2 (gP_ok (fun v=>match v with | ((t,b,i,j,()),(g,(a,q,s,()),m,()))=>mu_c3 t b i j g a q s m) fun v K hI=>by
  obtain⟨⟨(t:Str),(b:Bool),(i:Int),(j:Int),⟨⟩⟩,⟨(g:Gram),⟨(a:Str),(q:List Rule),(s:Str),⟨⟩⟩,(m:List (Den TP×Den .bool)),⟨⟩⟩⟩:=v
  rcases r_c3 t b i j g a q s m K hI with h1 | ⟨t',b',i',j',g',a',q',s',m',h1,h2,h3,h4⟩
  ·exact .inl h1
  ·exact .inr ⟨((t',b',i',j',()),(g',(a',q',s',()),m',())),h1,h2,h3,h4⟩)
theorem x_impl_chartOf_1 (t s a:Str) (g:Gram) (q:List Rule) (m:PMap) (b:Bool) (i:Int) (R:St→Option Fin) (K:Cont):evC (cb_chart.withLoops (look L_c3)) (loopOf Tryz.f100 1) ⟨[(1,vS t),(2, .d (.one (.ptr 500000 0))),(5, .d (.one (.ptr 500001 0))),(6,vB b),(7,vI i)],[(500000,some (boxD 25 TG g)),(500001,chO a q s 500002),(500002,some (.map TP .bool m))]⟩ (onward (headAt (cb_chart.withLoops (look L_c3)) 6) R K)=(
branch (decide (0≤i)) (
 need (pre_c3 t b i i g a q s m) <| R (.mk [(1,(vS t)),(2,(.d (.one (.ptr 500000 0)))),(5,(.d (.one (.ptr 500001 0)))),(6,(vB (tosF s g.snd i ((s.length:Int)+1-i).toNat i (m,b)).snd)),(7,(vI (W64 (i-1))))] [(500000,(some (boxD 25 TG g))),(500001,(.some (.box 146 [(.r (.v (Value.string (mk a)))),(.r (.li TRu q)),(.r (.v (Value.string (mk s)))),(.own 500002)]))),(500002,(.some (.map TP (Ty.bool) ((tosF s g.snd i ((s.length:Int)+1-i).toNat i (m,b)).fst))))])) ( K (.exit 2) (.mk [(1,(vS t)),(2,(.d (.one (.ptr 500000 0)))),(5,(.d (.one (.ptr 500001 0)))),(6,(vB b))] [(500000,(some (boxD 25 TG g))),(500001,(.some (.box 146 [(.r (.v (Value.string (mk a)))),(.r (.li TRu q)),(.r (.v (Value.string (mk s)))),(.own 500002)]))),(500002,(.some (.map TP (Ty.bool) m)))]))):=by kernel_rfl
noncomputable def cx0_c2:Cx:=(cb_chart).withLoops (look L_c3)
def sh_c2:Sh:=([(1, .d .str),(2, .ptr 500000 0),(5, .ptr 500001 0),(6, .d .bool),(7, .d TI64)],[(500000, .box 25 TG),(500001, .mix 146 [.d .str, .d TRL, .d .str, .own 500002]),(500002, .map TP .bool)])
abbrev st_c2 (t:Str) (b:Bool) (i:Int) (g:Gram) (a:Str) (q:List Rule) (s:Str) (m:List (Den TP×Den .bool)):St:=⟨[(1, .d (ofD .str t)),(2, .d (.one (.ptr 500000 0))),(5, .d (.one (.ptr 500001 0))),(6, .d (ofD .bool b)),(7, .d (ofD TI64 i))],[(500000,some (boxD 25 TG g)),(500001,some (.box 146 ((cellsR .str a).map C.r++(cellsR TRL q).map C.r++(cellsR .str s).map C.r++[.own 500002]))),(500002,some (.map TP .bool m))]⟩
def pre_c2 (t:Str) (_b:Bool) (i:Int) (g:Gram) (_a:Str) (_q:List Rule) (s:Str) (_m:List (Den TP×Den .bool)):Bool:=decide (-1≤i)&&(decide (i≤(List.length s:Int))&&(okRs g.2&&(decide (t=s)&&Nat.ble (List.length s) 1000)))
noncomputable def res_c2 (t:Str) (b:Bool) (i:Int) (g:Gram) (a:Str) (q:List Rule) (s:Str) (m:List (Den TP×Den .bool)) (K:Cont):Option Fin:=K (.exit 2) ⟨[(1,vS t),(2, .d (.one (.ptr 500000 0))),(5, .d (.one (.ptr 500001 0))),(6,vB (fromsF s g.2 (i+1).toNat (m,b)).2)],chH g a q s (fromsF s g.2 (i+1).toNat (m,b)).1⟩
def mu_c2 (_t:Str) (_b:Bool) (i:Int) (_g:Gram) (_a:Str) (_q:List Rule) (_s:Str) (_m:List (Den TP×Den .bool)):Nat:=(i+1).toNat
theorem r_c2 (t:Str) (b:Bool) (i:Int) (g:Gram) (a:Str) (q:List Rule) (s:Str) (m:List (Den TP×Den .bool)) (K:Cont) (hI:pre_c2 t b i g a q s m=true):(∀R:St→Option Fin,evC cx0_c2 (loopOf Tryz.f100 1) (st_c2 t b i g a q s m) (onward (headAt cx0_c2 6) R K)=res_c2 t b i g a q s m K) ∨
  (∃(t':Str) (b':Bool) (i':Int) (g':Gram) (a':Str) (q':List Rule) (s':Str) (m':List (Den TP×Den .bool)),pre_c2 t' b' i' g' a' q' s' m'=true∧mu_c2 t' b' i' g' a' q' s' m'<mu_c2 t b i g a q s m∧res_c2 t' b' i' g' a' q' s' m' K=res_c2 t b i g a q s m K∧∀R:St→Option Fin,evC cx0_c2 (loopOf Tryz.f100 1) (st_c2 t b i g a q s m) (onward (headAt cx0_c2 6) R K)=R (st_c2 t' b' i' g' a' q' s' m')):=by
 have hx:=fun R=>x_impl_chartOf_1 t s a g q m b i R K
 simp only[pre_c2]at hI
 rw[andd,andd,andd,andd,dec_iff,dec_iff,dec_iff,ble_iff]at hI
 obtain⟨h0,h1,h2,rfl,h4⟩:=hI
 by_cases hi:0≤i
 ·have w:W64 (i-1)=i-1:=wrap_small (by omega) (by omega)
  have hn:(i+1).toNat=i.toNat+1:=by omega
  have hn2:(i-1+1).toNat=i.toNat:=by omega
  have hg:fromsF t g.2 (i.toNat+1) (m,b)=fromsF t g.2 i.toNat (tosF t g.2 ((i.toNat:Nat):Int) (t.length+1-i.toNat) ((i.toNat:Nat):Int) (m,b)):=rfl
  have e1:((i.toNat:Nat):Int)=i:=by omega
  have e2:((t.length:Int)+1-i).toNat=t.length+1-i.toNat:=by omega
  rw[e1]at hg
  have hp:pre_c3 t b i i g a q t m=true:=by
   simp only[pre_c3]
   rw[andd,andd,andd,andd,andd,dec_iff,dec_iff,dec_iff,ble_iff,dec_iff]
   exact⟨by omega,by omega,h2,trivial,h4,by omega⟩
  rw[decide_eq_true hi,hp,w,e2]at hx
  right
  refine⟨t,(tosF t g.2 i (t.length+1-i.toNat) i (m,b)).2,i-1,g,a,q,t,(tosF t g.2 i (t.length+1-i.toNat) i (m,b)).1, ?_, ?_, ?_,fun R=>hx R⟩
  ·simp only[pre_c2]
   rw[andd,andd,andd,andd,dec_iff,dec_iff,dec_iff,ble_iff]
   exact⟨by omega,by omega,h2,trivial,h4⟩
  ·simp only[mu_c2];omega
  ·simp only[res_c2,hn,hn2,hg]
 ·left
  intro R
  refine(hx R).trans ?_
  rw[decide_eq_false hi]
  have e:(i+1).toNat=0:=by omega
  simp only[res_c2,e];rfl
noncomputable def g_c2:St→Cont→Option Fin:=gP sh_c2 (fun v=>match v with | ((t,b,i,()),(g,(a,q,s,()),m,()))=>pre_c2 t b i g a q s m) (fun v K=>match v with | ((t,b,i,()),(g,(a,q,s,()),m,()))=>res_c2 t b i g a q s m K)
noncomputable def L_c2:List (Nat×(St→Cont→Option Fin)):=(6,g_c2)::L_c3
theorem l_c2 {L:List (Nat×(St→Cont→Option Fin))} (n:Nat) (h1:L.drop n=L_c3) (h2:idsFree (L.take n) (loopOf Tryz.f100 1)=true):∀st K r,g_c2 st K=some r→∃N,iter (evC ((cb_chart).withLoops (look L)) (loopOf Tryz.f100 1)) (headAt ((cb_chart).withLoops (look L)) 6) N st K=some r :=
 with_drop h1 h2 (gP_ok (fun v=>match v with | ((t,b,i,()),(g,(a,q,s,()),m,()))=>mu_c2 t b i g a q s m) fun v K hI=>by
  obtain⟨⟨(t:Str),(b:Bool),(i:Int),⟨⟩⟩,⟨(g:Gram),⟨(a:Str),(q:List Rule),(s:Str),⟨⟩⟩,(m:List (Den TP×Den .bool)),⟨⟩⟩⟩:=v
  rcases r_c2 t b i g a q s m K hI with h1 | ⟨t',b',i',g',a',q',s',m',h1,h2,h3,h4⟩
  ·exact .inl h1
  ·exact .inr ⟨((t',b',i',()),(g',(a',q',s',()),m',())),h1,h2,h3,h4⟩)
theorem x_impl_chartOf (t s a:Str) (g:Gram) (q:List Rule) (m:PMap) (b:Bool) (R:St→Option Fin) (K:Cont):evC (cb_chart.withLoops (look L_c2)) (loopOf Tryz.f100 0) ⟨[(1,vS t),(2, .d (.one (.ptr 500000 0))),(5, .d (.one (.ptr 500001 0))),(6,vB b)],[(500000,some (boxD 25 TG g)),(500001,chO a q s 500002),(500002,some (.map TP .bool m))]⟩ (onward (headAt (cb_chart.withLoops (look L_c2)) 3) R K)=(
branch b (
 need (pre_c2 t false ((t.length:Int)) g a q s m) <| R (.mk [(1,(vS t)),(2,(.d (.one (.ptr 500000 0)))),(5,(.d (.one (.ptr 500001 0)))),(6,(vB (fromsF s g.snd ((t.length:Int)+1).toNat (m,false)).snd))] [(500000,(some (boxD 25 TG g))),(500001,(.some (.box 146 [(.r (.v (Value.string (mk a)))),(.r (.li TRu q)),(.r (.v (Value.string (mk s)))),(.own 500002)]))),(500002,(.some (.map TP (Ty.bool) ((fromsF s g.snd ((t.length:Int)+1).toNat (m,false)).fst))))])) ( K (.exit 0) (.mk [(5,(.d (.one (.ptr 500000 0))))] [(500000,(.some (.box 146 [(.r (.v (Value.string (mk a)))),(.r (.li TRu q)),(.r (.v (Value.string (mk s)))),(.own 500001)]))),(500001,(.some (.map TP (Ty.bool) m)))]))):=by kernel_rfl
noncomputable def cx0_c1:Cx:=(cb_chart).withLoops (look L_c2)
def sh_c1:Sh:=([(1, .d .str),(2, .ptr 500000 0),(5, .ptr 500001 0),(6, .d .bool)],[(500000, .box 25 TG),(500001, .mix 146 [.d .str, .d TRL, .d .str, .own 500002]),(500002, .map TP .bool)])
abbrev st_c1 (t:Str) (b:Bool) (g:Gram) (a:Str) (q:List Rule) (s:Str) (m:List (Den TP×Den .bool)):St:=⟨[(1, .d (ofD .str t)),(2, .d (.one (.ptr 500000 0))),(5, .d (.one (.ptr 500001 0))),(6, .d (ofD .bool b))],[(500000,some (boxD 25 TG g)),(500001,some (.box 146 ((cellsR .str a).map C.r++(cellsR TRL q).map C.r++(cellsR .str s).map C.r++[.own 500002]))),(500002,some (.map TP .bool m))]⟩
def pre_c1 (t:Str) (_b:Bool) (g:Gram) (_a:Str) (_q:List Rule) (s:Str) (_m:List (Den TP×Den .bool)):Bool:=okRs g.2&&(decide (t=s)&&Nat.ble (List.length s) 1000)
noncomputable def res_c1 (_t:Str) (b:Bool) (g:Gram) (a:Str) (q:List Rule) (s:Str) (m:List (Den TP×Den .bool)) (K:Cont):Option Fin:=K (.exit 0) ⟨[(5, .d (.one (.ptr 500000 0)))],[(500000,chO a q s 500001),(500001,some (.map TP .bool (bif b then runC hasM (fun v=>[keyV v]) (stepV s) (visF s g.2 (s.length+1)) m else m)))]⟩
def mu_c1 (_t:Str) (b:Bool) (g:Gram) (_a:Str) (_q:List Rule) (s:Str) (m:List (Den TP×Den .bool)):Nat:=2*missG hasM ((visF s g.2 (s.length+1)).flatMap fun v=>[keyV v]) m+(bif b then 1 else 0)
theorem r_c1 (t:Str) (b:Bool) (g:Gram) (a:Str) (q:List Rule) (s:Str) (m:List (Den TP×Den .bool)) (K:Cont) (hI:pre_c1 t b g a q s m=true):(∀R:St→Option Fin,evC cx0_c1 (loopOf Tryz.f100 0) (st_c1 t b g a q s m) (onward (headAt cx0_c1 3) R K)=res_c1 t b g a q s m K) ∨
  (∃(t':Str) (b':Bool) (g':Gram) (a':Str) (q':List Rule) (s':Str) (m':List (Den TP×Den .bool)),pre_c1 t' b' g' a' q' s' m'=true∧mu_c1 t' b' g' a' q' s' m'<mu_c1 t b g a q s m∧res_c1 t' b' g' a' q' s' m' K=res_c1 t b g a q s m K∧∀R:St→Option Fin,evC cx0_c1 (loopOf Tryz.f100 0) (st_c1 t b g a q s m) (onward (headAt cx0_c1 3) R K)=R (st_c1 t' b' g' a' q' s' m')):=by
 have hx:=fun R=>x_impl_chartOf t s a g q m b R K
 simp only[pre_c1]at hI
 rw[andd,andd,dec_iff,ble_iff]at hI
 obtain⟨h2,rfl,h4⟩:=hI
 cases b
 ·left
  intro R
  refine(hx R).trans ?_
  simp only[res_c1];rfl
 ·have hp:pre_c2 t false ((t.length:Int)) g a q t m=true:=by
   simp only[pre_c2]
   rw[andd,andd,andd,andd,dec_iff,dec_iff,dec_iff,ble_iff]
   exact⟨by omega,by omega,h2,trivial,h4⟩
  have e:((t.length:Int)+1).toNat=t.length+1:=by omega
  rw[hp,e,froms_vis]at hx
  have hg:=runC_at (stepV_ok t) (vs:=visF t g.2 (t.length+1)) (m:=m) (fun _ _=>trivial) trivial
  right
  refine⟨t,(foldG (stepV t) (visF t g.2 (t.length+1)) (m,false)).2,g,a,q,t,(foldG (stepV t) (visF t g.2 (t.length+1)) (m,false)).1, ?_, ?_, ?_,fun R=>hx R⟩
  ·simp only[pre_c1]
   rw[andd,andd,dec_iff,ble_iff]
   exact⟨h2,trivial,h4⟩
  ·simp only[mu_c1]
   cases hc:(foldG (stepV t) (visF t g.2 (t.length+1)) (m,false)).2
   ·obtain ⟨_,h5,_⟩:=foldG_quiet (stepV_ok t) (fun _ _=>trivial) trivial hc
    rw[h5,cond_true,cond_false]
    show 2*missG hasM _ m+0<2*missG hasM _ m+1
    omega
   ·have:=miss_lt (stepV_ok t) (fun _ _=>trivial) trivial hc
    rw[cond_true];omega
  ·simp only[res_c1,cond_true]
   exact congrArg (fun z:PMap=>K (.exit 0) ⟨[(5, .d (.one (.ptr 500000 0)))],[(500000,chO a q t 500001),(500001,some (.map TP .bool z))]⟩) hg.symm
noncomputable def g_c1:St→Cont→Option Fin:=gP sh_c1 (fun v=>match v with | ((t,b,()),(g,(a,q,s,()),m,()))=>pre_c1 t b g a q s m) (fun v K=>match v with | ((t,b,()),(g,(a,q,s,()),m,()))=>res_c1 t b g a q s m K)
noncomputable def L_c1:List (Nat×(St→Cont→Option Fin)):=(3,g_c1)::L_c2
noncomputable def cx_c1:Cx:=(cb_chart).withLoops (look L_c1)
theorem l_c1 {L:List (Nat×(St→Cont→Option Fin))} (n:Nat) (h1:L.drop n=L_c2) (h2:idsFree (L.take n) (loopOf Tryz.f100 0)=true):∀st K r,g_c1 st K=some r→∃N,iter (evC ((cb_chart).withLoops (look L)) (loopOf Tryz.f100 0)) (headAt ((cb_chart).withLoops (look L)) 3) N st K=some r :=
 with_drop h1 h2 (gP_ok (fun v=>match v with | ((t,b,()),(g,(a,q,s,()),m,()))=>mu_c1 t b g a q s m) fun v K hI=>by
  obtain⟨⟨(t:Str),(b:Bool),⟨⟩⟩,⟨(g:Gram),⟨(a:Str),(q:List Rule),(s:Str),⟨⟩⟩,(m:List (Den TP×Den .bool)),⟨⟩⟩⟩:=v
  rcases r_c1 t b g a q s m K hI with h1 | ⟨t',b',g',a',q',s',m',h1,h2,h3,h4⟩
  ·exact .inl h1
  ·exact .inr ⟨((t',b',()),(g',(a',q',s',()),m',())),h1,h2,h3,h4⟩)
abbrev refC4 (g:Gram) (s:Str) (m:PMap):T := .d (.one (.r (.rop 4 (fun j=>[R.v (Value.string (mk g.1)),R.li TRu g.2,R.v (Value.string (mk s)),R.mp TP .bool m].getD j z0))))
theorem y_impl_chartOf (g:Gram) (s:Str):evFn cx_c1 Tryz.f100 true [ofD TG g,ofD .str s] []=need (pre_c1 s true g g.1 g.2 s []) (some (refC4 g s (chartM s g.2),[])):=by kernel_rfl
theorem s_impl_chartOf (g:Gram) (_hg:Fit TG g) (s:Str) (_hs:Fit .str s) (hpre:(okRs g.2&&Nat.ble (List.length s) 1000)=true):Sat Tryz.prog 100 [ofD TG g,ofD .str s] [] (refC4 g s (chartM s g.2)) [] :=
 fn_sound (cx:=cx_c1) Tryz.func100 rfl ttOk Γ76ok mixed (fun c hc=>LoopsOk.all (l:=[(3,loopOf Tryz.f100 0),(6,loopOf Tryz.f100 1),(9,loopOf Tryz.f100 2),(12,loopOf Tryz.f100 3)]) (by cases hc;kernel_rfl) ⟨atLoop rfl (l_c1 1 rfl (by kernel_rfl)),atLoop rfl (l_c2 2 rfl (by kernel_rfl)),atLoop rfl (l_c3 3 rfl (by kernel_rfl)),atLoop rfl (l_c4 4 rfl (by kernel_rfl)),trivial⟩) (ro:=true) (by
  obtain⟨h1,h2⟩:=andd.1 hpre
  have hp:pre_c1 s true g g.1 g.2 s []=true:=by
   simp only[pre_c1]
   rw[andd,andd,dec_iff]
   exact⟨h1,trivial,h2⟩
  refine(y_impl_chartOf g s).trans ?_
  rw[hp];rfl)
noncomputable def c_impl_chartOf:Con:=conT [TG, .str] fun(g:Gram) (s:Str)=>(some (okRs g.2&&Nat.ble (List.length s) 1000),refC4 g s (chartM s g.2))
theorem k_impl_chartOf:ConOk Tryz.prog 100 c_impl_chartOf:=conT_ok Tryz.call100 fun g hg s hs hqq=>s_impl_chartOf g hg s hs (pre_of hqq)
noncomputable def Γ77:List (Nat×Con):=(100,c_impl_chartOf)::Γ76
theorem Γ77ok:EnvOk Tryz.prog (look Γ77) := .cons k_impl_chartOf Γ76ok
theorem sat_typed {P:Program} {f:FuncId} {ds:List D} {os:List Obj} {d:D} {objs:Heap} {t:Ty} {x:Den t} (S:Sat P f ds os (.d d) objs) (h:asD t d=some x):Sat P f ds os (.d (ofD t x)) objs:=fun w F β args H hds=>(S w F β args H hds).mono (by
 rintro e w' ⟨v,F',β',h1,h2,h3,h4,_,h6⟩
 exact⟨v,F',β',h1,h2,h3,h4,fun _ _ _ hh=>(nomatch hh),asD_sound h h6 _ _⟩)
noncomputable def c_impl_chartOfC:Con:=conT [TG, .str] fun(g:Gram) (s:Str)=>(some (okRs g.2&&Nat.ble (List.length s) 1000), .d (ofD (.ref TCh) ((g,s,chartM s g.2):Chart)))
theorem k_impl_chartOfC:ConOk Tryz.prog 100 c_impl_chartOfC:=conT_ok Tryz.call100 fun g hg s hs hqq=>sat_typed (s_impl_chartOf g hg s hs (pre_of hqq)) rfl
noncomputable def Γ78:List (Nat×Con):=(100,c_impl_chartOfC)::Γ77
theorem Γ78ok:EnvOk Tryz.prog (look Γ78) := .cons k_impl_chartOfC Γ77ok
theorem der_step {s:Str} {P Q:Str→Int→Int→Prop} {a:Str} {i j p k:Int} (h0:0≤i) (h2:j≤(s.length:Int)) (p0:0≤p) (k1:k≤j-i) (hPQ:P a p k↔Q a (p+i) (k+i)):derP (subS s i j) P a p k↔derP s Q a (p+i) (k+i):=by
 unfold derP
 split
 ·constructor
  ·rintro ⟨h3,h4⟩
   exact⟨by omega,by rw[← sub_at (j:=j) h0 h2 p0 (by omega)];exact h4⟩
  ·rintro ⟨h3,h4⟩
   exact⟨by omega,by rw[sub_at (j:=j) h0 h2 p0 (by omega)];exact h4⟩
 ·exact hPQ
theorem spl_out {s:Str} {P:Str→Int→Int→Prop} {i j:Int} (h0:0≤i) (h2:j≤(s.length:Int)):∀ {r:Str} {p q:Int},0≤p→q≤j-i→splP (subS s i j) (fun a p q=>P a (p+i) (q+i)) r p q→splP s P r (p+i) (q+i)
 | [],_,_,_,_,h=>by
  unfold splP at h ⊢
  rw[h]
 |c::r,p,q,hp,hq,h=>by
  unfold splP at h ⊢
  obtain⟨k,k1,k2,k3,k4⟩:=h
  exact⟨k+i,by omega,by omega,(der_step h0 h2 hp (by omega) Iff.rfl).1 k3,spl_out h0 h2 (by omega) hq k4⟩
theorem spl_in {s:Str} {P:Str→Int→Int→Prop} {i j:Int} (h0:0≤i) (h2:j≤(s.length:Int)):∀ {r:Str} {p q:Int},0≤p→q≤j-i→splP s (fun a p q=>i≤p→q≤j→P a (p-i) (q-i)) r (p+i) (q+i)→splP (subS s i j) P r p q
 | [],_,_,_,_,h=>by
  unfold splP at h ⊢
  omega
 |c::r,p,q,hp,hq,h=>by
  unfold splP at h ⊢
  obtain⟨k,k1,k2,k3,k4⟩:=h
  have e:k-i+i=k:=by omega
  refine⟨k-i,by omega,by omega,(der_step (Q:=fun a p q=>P a (p-i) (q-i)) h0 h2 hp (by omega) ?_).2 ?_,spl_in h0 h2 (by omega) hq (by rw[e];exact k4)⟩
  ·show P [c] p (k-i)↔P [c] (p+i-i) (k-i+i-i)
   rw[show p+i-i=p by omega,show k-i+i-i=k-i by omega]
  ·rw[e]
   unfold derP at k3 ⊢
   split
   ·rename_i hs;rw[if_pos hs]at k3;exact k3
   ·rename_i hs;rw[if_neg hs]at k3;exact k3 (by omega) (by omega)
theorem Der_sub {s:Str} {l:List Rule} {a:Str} {i j:Int} (h0:0≤i) (h1:i≤j) (h2:j≤(s.length:Int)):DerG (subS s i j) l a 0 (j-i)↔DerG s l a i j:=by
 have hl:=sub_len h0 h1 h2
 constructor
 ·intro h P hP
  have:=h (fun a p q=>P a (p+i) (q+i)) (fun r hr p q p0 p1 p2 hs=>hP r hr (p+i) (q+i) (by omega) (by omega) (by omega) (spl_out h0 h2 p0 (by omega) hs))
  rw[show (0:Int)+i=i by omega,show j-i+i=j by omega]at this
  exact this
 ·intro h P hP
  have:=h (fun a p q=>i≤p→q≤j→P a (p-i) (q-i)) (fun r hr p q p0 p1 p2 hs hi hj=>hP r hr (p-i) (q-i) (by omega) (by omega) (by omega) (spl_in h0 h2 (by omega) (by omega) (by rw[show p-i+i=p by omega,show q-i+i=q by omega];exact hs))) (Int.le_refl _) (Int.le_refl _)
  rw[show i-i=0 by omega]at this
  exact this
end Go.Proofs.YtmeiebnfmhddnaaGreatDoor.Ev
