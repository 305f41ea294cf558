/-
  Draws of grammars and texts.
-/
import Derived.Test.YtmeiebnfmhddnaaGreatDoorGu
namespace Go.Proofs.YtmeiebnfmhddnaaGreatDoor.Ev
open Go
noncomputable section
theorem y_impl_TextOk (s:Str):evFn (cxOf Γ63 Tryz.f94.ntmps [] [] [] []) Tryz.f94 true [ofD .str s] []=(
some ((vB (areSm s 8)),[])):=by kernel_rfl
theorem s_impl_TextOk (s:Str) (_hs:Fit .str s):Sat Tryz.prog 94 [ofD .str s] [] (.d (ofD .bool (areSm s 8))) [] :=
 fn_sound (cx:=cxOf Γ63 Tryz.f94.ntmps [] [] [] []) Tryz.func94 rfl ttOk Γ63ok mixed (fun _ _=>LoopsOk.no fun _=>rfl) (ro:=true) (by
  rw[y_impl_TextOk];rfl)
def c_impl_TextOk:Con:=conT [.str] fun(s:Str)=>(none, .d (ofD .bool (areSm s 8)))
theorem k_impl_TextOk:ConOk Tryz.prog 94 c_impl_TextOk:=conT_ok Tryz.call94 fun s hs _=>s_impl_TextOk s hs
def Γ64:GL:=(94,c_impl_TextOk)::Γ63
theorem Γ64ok:GO Γ64 := .cons k_impl_TextOk Γ63ok
def cb_sTextOk:Cx:=cxOf Γ64 Tryz.f97.ntmps [(2,[0,3])] [(0,[0]),(1,[0,3]),(1000000,[2])] [] []
theorem x_spec_TextOk (s:Str) (i:Int) (R:St→Option Fin) (K:Cont):evC (cb_sTextOk.withLoops (look [])) (loopOf Tryz.f97 0) ⟨[(0,vS s),(3,vI i)],[]⟩ (onward (headAt (cb_sTextOk.withLoops (look [])) 2) R K)=(
branch (decide (i<(s.length:Int))) (
 need (inb i s.length) <|
 branch (!smallI (byteAt s i)) ( K (.ret) (.mk [(2,vB false)] [])) ( R (.mk [(0,vS s),(3,vI (W64 (i+1)))] []))) ( K (.exit 0) (.mk [(0,vS s)] []))):=by kernel_rfl
def cx0_sTextOk:Cx:=(cb_sTextOk).withLoops (look [])
def sh_sTextOk:Sh:=([(0, .d .str),(3, .d TI64)],[])
abbrev st_sTextOk (s:Str) (i:Int):St:=⟨[(0,vS s),(3,vI i)],[]⟩
def pre_sTextOk (s:Str) (i:Int):Bool:=decide (0≤i)&&Nat.ble (List.length s) big
def res_sTextOk (s:Str) (i:Int) (K:Cont):Option Fin:=branch ((s.drop i.toNat).all small) (K (.exit 0) ⟨[(0,vS s)],[]⟩) (K .ret ⟨[(2,vB false)],[]⟩)
def mu_sTextOk (s:Str) (i:Int):Nat:=List.length s-i.toNat
theorem r_sTextOk (s:Str) (i:Int) (K:Cont) (hI:pre_sTextOk s i=true):(∀R:St→Option Fin,evC cx0_sTextOk (loopOf Tryz.f97 0) (st_sTextOk s i) (onward (headAt cx0_sTextOk 2) R K)=res_sTextOk s i K) ∨
  (∃(s':Str) (i':Int),pre_sTextOk s' i'=true∧mu_sTextOk s' i'<mu_sTextOk s i∧res_sTextOk s' i' K=res_sTextOk s i K∧∀R:St→Option Fin,evC cx0_sTextOk (loopOf Tryz.f97 0) (st_sTextOk s i) (onward (headAt cx0_sTextOk 2) R K)=R (st_sTextOk s' i')):=by
 have hx:=fun R=>x_spec_TextOk s i R K
 simp only[pre_sTextOk,andd,dec_iff,ble_iff]at hI
 obtain⟨h0,h1⟩:=hI
 by_cases hi:i<(List.length s:Int)
 ·have hg:=smalls_at (p:=small) h0 hi
  have hc0:smallI (byteAt s i)=small (s.getD i.toNat 0):=smallI_nat _
  simp only[hi,decide_true,inb_ok h0 hi,branch_true,W1 h0 hi h1,hc0]at hx
  cases hc:small (s.getD i.toNat 0)
  ·left
   intro R
   rw[hc]at hg
   refine(hx R).trans ?_
   rw[hc]
   simp only[res_sTextOk,hg];rfl
  ·right
   rw[hc]at hg
   refine⟨s,i+1, ?_, ?_, ?_,fun R=>(hx R).trans ?_⟩
   ·simp only[pre_sTextOk,andd,dec_iff,ble_iff];exact ⟨by omega,h1⟩
   ·simp only[mu_sTextOk];omega
   ·simp only[res_sTextOk,hg];rfl
   ·rw[hc];rfl
 ·left
  intro R
  refine(hx R).trans ?_
  simp only[hi,decide_false,branch_false,res_sTextOk]
  rw[drop_end (by omega)];rfl
def g_sTextOk:St→Cont→Option Fin:=gP sh_sTextOk (fun v=>match v with | ((s,i,()),())=>pre_sTextOk s i) (fun v K=>match v with | ((s,i,()),())=>res_sTextOk s i K)
def L_sTextOk:LpL:=(2,g_sTextOk)::[]
def cx_sTextOk:Cx:=(cb_sTextOk).withLoops (look L_sTextOk)
theorem l_sTextOk {L:LpL} (n:Nat) (h1:L.drop n=[]) (h2:idsFree (L.take n) (loopOf Tryz.f97 0)=true):LoopsTo g_sTextOk (cb_sTextOk) (loopOf Tryz.f97 0) 2 L :=
 with_drop h1 h2 (gP_ok (fun v=>match v with | ((s,i,()),())=>mu_sTextOk s i) fun v K hI=>by
  obtain⟨⟨s,i,⟨⟩⟩,⟨⟩⟩:=v
  exact(r_sTextOk s i K hI).imp id fun⟨s',i',h⟩=>⟨((s',i',()),()),h⟩)
theorem y_spec_TextOk (s:Str):evFn cx_sTextOk Tryz.f97 true [ofD .str s] []=(
need (pre_sTextOk s 0) <|
branch (s.all small) ( some ((vB (decide ((s.length:Int)≤8))),[])) ( some ((vB false),[]))):=by kernel_rfl
theorem s_spec_TextOk (s:Str) (hs:Fit .str s):Sat Tryz.prog 97 [ofD .str s] [] (.d (ofD .bool (areSm s 8))) [] :=
 fn_sound (cx:=cx_sTextOk) Tryz.func97 rfl ttOk Γ64ok mixed (fun c hc=>LoopsOk.all (l:=[(2,loopOf Tryz.f97 0)]) (by cases hc;kernel_rfl) ⟨atLoop rfl (l_sTextOk 1 rfl (by kernel_rfl)),trivial⟩) (ro:=true) (by
  have h:pre_sTextOk s 0=true:=andd.2 ⟨rfl,ble_iff.2 hs⟩
  rw[y_spec_TextOk,h]
  unfold areSm
  show branch (s.all small) _ _=_
  cases s.all small<;>cases decide ((List.length s:Int)≤8)<;>rfl)
def c_spec_TextOk:Con:=conT [.str] fun(s:Str)=>(none, .d (ofD .bool (areSm s 8)))
theorem k_spec_TextOk:ConOk Tryz.prog 97 c_spec_TextOk:=conT_ok Tryz.call97 fun s hs _=>s_spec_TextOk s hs
def Γ65:GL:=(97,c_spec_TextOk)::Γ64
theorem Γ65ok:GO Γ65 := .cons k_spec_TextOk Γ64ok
abbrev l4tl:List Str:=[[101],[65],[32],[97,97,97,97,97,97,97,97,97]]
abbrev l4F (z:Rd):Str×Rd:=F_spec_l4Text (rdGo z 1) (pickV z 7)
def l4T (z:Rd):Option Fin:=need (rdOk z) <| need (rdAt (rdGo z 1) 10000000999000&&decide (pickV z 7≤1000)) <| need (rdOk (l4F z).2) <|
 branch (decide (pickV (l4F z).2 30=0)) (need (rdOk (rdGo (l4F z).2 1)&&Nat.blt 0 l4tl.length) <| need (decide (List.length (l4F z).1+List.length (ofV (rdGo (l4F z).2 1) l4tl)≤9223372036854775807)) <| some (vS (List.append (l4F z).1 (ofV (rdGo (l4F z).2 1) l4tl)),[(0,bR (rdGo (rdGo (l4F z).2 1) 1))]))
  (some (vS (l4F z).1,[(0,bR (rdGo (l4F z).2 1))]))
abbrev nT:List Int:=[4,5,6,3]
abbrev anF (x:Rd) (g:Gram):GTree×Rd:=F_any 9 (rdGo (rdGo x 1) 1) g g.1 (numV (rdGo x 1) nT)
abbrev anT (x:Rd) (g:Gram):GTree:=GTree.node (anF x g).1.sign (anF x g).1.rule (anF x g).1.kids
theorem y_spec_l4Some (x:Rd) (g:Gram):evFn ((cxOf Γ65 Tryz.f93.ntmps [] [] [] []).parted [1]) Tryz.f93 true [.one (.ptr 0 0),ofD TG g] [boxD 120 TR x] =
 branch (decide (okG g=true)) (need (rdOk x) <| branch (bif true then decide (0<pickV x 3)else false)
  (need (rdOk (rdGo x 1)&&Nat.blt 0 nT.length) <| need (anyPre 9 (rdGo (rdGo x 1) 1) g g.1 (numV (rdGo x 1) nT)) <| need (tOkP 10 (anT x g)&&Nat.ble 10 12) <|
   branch (areSm (yldP 10 (anT x g)) 8) (some (vS (yldP 10 (anT x g)),[(0,bR (anF x g).2)])) (l4T (anF x g).2))
  (l4T (rdGo x 1))) (l4T x):=by kernel_rfl
abbrev strG (n:Nat) (c:Int) (x:Rd) (r:Fin):Prop:=∃(v:Str) (x':Rd),r=(.d (ofD .str v),[(0,some (boxD 120 TR x'))])∧List.length v≤n∧Adv x x' c
theorem l4T_ok {z:Rd} (hf:fitR z=true) (hz:rdAt z 5000000000000=true):Ok (l4T z) (strG 100 100 z):=by
 have hb:BY z:=byB_iff.1 (andd.1 hf).1
 have k0:rdOk z=true:=ok1 hz (by omega)
 have hpk:=pickV_range (n:=7) hb k0 (by omega)
 have a1:=Adv.one z
 have r1:rdAt (rdGo z 1) 5000000000001=true:=a1.at hz (by omega)
 have hp:(rdAt (rdGo z 1) 10000000999000&&decide (pickV z 7≤1000))=true:=andd.2 ⟨a1.at hz (by omega),dec_iff.2 (by omega)⟩
 have hf1:fitR (rdGo z 1)=true:=by rw[fitR_adv a1];exact hf
 obtain⟨p1,p2⟩:=p_spec_l4Text (rdGo z 1) (pickV z 7) (fitR_fit hf1 r1 (by omega)) (wrap_small (by omega) (by omega)) hp
 have a2:Adv z (l4F z).2 8:=(a1.trans p2).le (by omega)
 have p1:List.length (l4F z).1≤7:=by have:List.length (l4F z).1≤(pickV z 7).toNat:=p1;omega
 have r2:rdAt (l4F z).2 5000000000008=true:=a2.at hz (by omega)
 have hof:(ofV (rdGo (l4F z).2 1) l4tl).length≤9:=ofV_len (by decide)
 unfold l4T
 refine Ok.need k0 (Ok.need hp (Ok.need (ok1 r2 (by omega)) (Ok.br (fun _ => ?_) fun _ => ?_)))
 ·refine Ok.need (andd.2 ⟨(Adv.one _).ok r2 (by omega),rfl⟩) (Ok.need (dec_iff.2 (by omega)) (Ok.ret ⟨_,_,rfl, ?_,((a2.trans (Adv.one _)).trans (Adv.one _)).le (by omega)⟩))
  rw[List.append_eq,List.length_append];omega
 ·exact Ok.ret ⟨_,_,rfl,by omega,(a2.trans (Adv.one _)).le (by omega)⟩
theorem e_spec_l4Some (x:Rd) (g:Gram) (hx:Fit TR x)  (hpre:(rdAt x 900000000&&szG 20 g)=true):∃q:(Str)×Rd,evFn (((cxOf Γ65 Tryz.f93.ntmps [] [] [] []).parted [1])) Tryz.f93 true [.one (.ptr 0 0),ofD TG g] [boxD 120 TR x]=some (.d (ofD .str q.1),[(0,some (boxD 120 TR q.2))])∧(List.length q.1≤100∧Adv x q.2 2000000000):=by
 obtain⟨r,h1,h2⟩:Ok (evFn (((cxOf Γ65 Tryz.f93.ntmps [] [] [] []).parted [1])) Tryz.f93 true [.one (.ptr 0 0),ofD TG g] [boxD 120 TR x]) (fun r=>∃(v:Str) (x':Rd),r=(.d (ofD .str v),[(0,some (boxD 120 TR x'))])∧(List.length v≤100∧Adv x x' 2000000000)):=by
  have f0:=fit_fitR hx
  obtain⟨hp,hg⟩:=andd.1 hpre
  have hb:BY x:=byB_iff.1 (andd.1 f0).1
  have k0:rdOk x=true:=ok1 hp (by omega)
  have a1:=Adv.one x
  have a2:=Adv.two x
  have k1:rdOk (rdGo x 1)=true:=a1.ok hp (by omega)
  have up:∀ {z:Rd} {c:Int},Adv x z c→c≤1900000000→Ok (l4T z) (strG 100 2000000000 x):=fun {z c} ha hc=>by
   refine(l4T_ok (by rw[fitR_adv ha];exact f0) (ha.at hp (by omega))).mono ?_
   rintro r ⟨v,x',e,h1,h2⟩
   exact⟨v,x',e,h1,(ha.trans h2).le (by omega)⟩
  rw[y_spec_l4Some]
  refine Ok.br (fun hok=>Ok.need k0 (Ok.br (fun _ => ?_) fun _=>up a1 (by omega))) fun _=>up (Adv.refl x) (by omega)
  have hok:okG g=true:=of_decide_eq_true hok
  have hn:=numV_le (x:=rdGo x 1) (l:=nT) (a:=3) (b:=6) (by decide) (BY_adv a1 hb) k1 (by decide)
  obtain⟨c0,e1,_⟩:=bigS_one (okG_big hok)
  have hpre9:anyPre 9 (rdGo (rdGo x 1) 1) g g.1 (numV (rdGo x 1) nT)=true:=by
   unfold anyPre
   simp only[andd,dec_iff,ble_iff]
   refine⟨a2.at hp (by rw[show pw 9=1000000000 from rfl];omega),hg,by omega,by omega,by rw[e1];simp,by omega⟩
  have hf2:fitR (rdGo (rdGo x 1) 1)=true:=by rw[show rdGo (rdGo x 1) 1=go2 x from rfl,fitR_adv a2];exact f0
  have r2:rdAt (rdGo (rdGo x 1) 1) 900000002=true:=a2.at hp (by omega)
  obtain⟨t1,t2⟩:=(oneOf_spec (any_all 9 (rdGo (rdGo x 1) 1) g g.1 (numV (rdGo x 1) nT) (fitR_fit hf2 r2 (by omega)) (szG_fit hg (by omega)) (by show g.1.length≤9223372036854775807;rw[e1];simp) (wrap_small (by omega) (by omega)) hpre9)).2
  have t1:tOk 9 (anF x g).1=true:=t1
  have t2:Adv (rdGo (rdGo x 1) 1) (anF x g).2 (pw 9):=t2
  have a3:Adv x (anF x g).2 1000000002:=(a2.trans t2).le (by rw[show pw 9=1000000000 from rfl];omega)
  have ht:(tOkP 10 (anT x g)&&Nat.ble 10 12)=true:=by
   unfold anT
   rw[tEta]
   exact andd.2 ⟨t1,rfl⟩
  refine Ok.need (andd.2 ⟨k1,rfl⟩) (Ok.need hpre9 (Ok.need ht (Ok.br (fun hc=>Ok.ret ⟨_,_,rfl, ?_,a3.le (by omega)⟩) fun _=>up a3 (by omega))))
  unfold areSm at hc
  rw[b2,andd]at hc
  have:=of_decide_eq_true hc.1
  omega
 obtain⟨v,x',h2,h3⟩:=h2
 exact⟨(v,x'),by rw[h1,h2],h3⟩
def F_spec_l4Some (x:Rd) (g:Gram):(Str)×Rd:=oneOf (fun q:(Str)×Rd=>evFn (((cxOf Γ65 Tryz.f93.ntmps [] [] [] []).parted [1])) Tryz.f93 true [.one (.ptr 0 0),ofD TG g] [boxD 120 TR x]=some (.d (ofD .str q.1),[(0,some (boxD 120 TR q.2))])∧(List.length q.1≤100∧Adv x q.2 2000000000))
theorem p_spec_l4Some (x:Rd) (g:Gram) (hx:Fit TR x)  (hpre:(rdAt x 900000000&&szG 20 g)=true):List.length (F_spec_l4Some x g).1≤100∧Adv x (F_spec_l4Some x g).2 2000000000:=(oneOf_spec (e_spec_l4Some x g hx  hpre)).2
theorem s_spec_l4Some (x:Rd) (g:Gram) (hx:Fit TR x)  (hpre:(rdAt x 900000000&&szG 20 g)=true):Sat Tryz.prog 93 [.one (.ptr 0 0),ofD TG g] [boxD 120 TR x] (.d (ofD .str (F_spec_l4Some x g).1)) [(0,some (boxD 120 TR (F_spec_l4Some x g).2))] :=
 fn_sound (cx:=((cxOf Γ65 Tryz.f93.ntmps [] [] [] []).parted [1])) Tryz.func93 rfl ttOk Γ65ok mixed (fun _ _=>LoopsOk.no fun _=>rfl) (ro:=true) (oneOf_spec (e_spec_l4Some x g hx  hpre)).1
def c_spec_l4Some:Con:=conB 120 TR [TG] fun(x:Rd) (g:Gram)=>(some (rdAt x 900000000&&szG 20 g), .d (ofD .str (F_spec_l4Some x g).1),(F_spec_l4Some x g).2)
theorem k_spec_l4Some:ConOk Tryz.prog 93 c_spec_l4Some:=conB_ok Tryz.call93 fun x hx g _ hqq=>s_spec_l4Some x g hx  (pre_of hqq)
def Γ66:GL:=(93,c_spec_l4Some)::Γ65
theorem Γ66ok:GO Γ66 := .cons k_spec_l4Some Γ65ok
theorem y_spec_l4Draw (l:List Int):evFn (cxOf Γ66 Tryz.f44.ntmps [] [] [] []) Tryz.f44 true [ofD TB l] []=(
need (rdAt (F_spec_l1Gram (openV l)).snd 10000000940000&&szG 20 (F_spec_l1Gram (openV l)).fst) <|
need (rdAt (F_spec_l1Bent (F_spec_l1Gram (openV l)).snd (F_spec_l1Gram (openV l)).fst).snd 900000000&&szG 20 (F_spec_l1Bent (F_spec_l1Gram (openV l)).snd (F_spec_l1Gram (openV l)).fst).fst) <| some ((.tup [(.agg [(.r (.v (Value.string (mk (F_spec_l1Bent (F_spec_l1Gram (openV l)).snd (F_spec_l1Gram (openV l)).fst).fst.fst)))),(.r (.li TRu ((F_spec_l1Bent (F_spec_l1Gram (openV l)).snd (F_spec_l1Gram (openV l)).fst).fst.snd)))]),(.one (.r (.v (Value.string (mk (F_spec_l4Some (F_spec_l1Bent (F_spec_l1Gram (openV l)).snd (F_spec_l1Gram (openV l)).fst).snd (F_spec_l1Bent (F_spec_l1Gram (openV l)).snd (F_spec_l1Gram (openV l)).fst).fst).fst)))))]),[])):=by kernel_rfl
theorem e_spec_l4Draw (l:List Int) (hl:Fit TB l):∃q:Gram×Str,evFn (cxOf Γ66 Tryz.f44.ntmps [] [] [] []) Tryz.f44 true [ofD TB l] []=some (.tup [ofD TG q.1,ofD .str q.2],[])∧(szG 20 q.1=true∧q.2.length≤100):=by
 obtain⟨r,h1,h2⟩:Ok (evFn (cxOf Γ66 Tryz.f44.ntmps [] [] [] []) Tryz.f44 true [ofD TB l] []) (fun r=>∃(v:Gram×Str),r=(.tup [ofD TG v.1,ofD .str v.2],[])∧(szG 20 v.1=true∧v.2.length≤100)):=by
  obtain⟨h0,h1,h2,h3⟩:=draw_ok hl
  rw[y_spec_l4Draw]
  have h4:(rdAt (drawV l).2 900000000&&szG 20 (drawV l).1)=true:=andd.2 ⟨h3.at (openV_at l) (by omega),h2⟩
  have h5:Fit TR (drawV l).2:=h3.fit (openV_fit hl) (openV_at l) (by omega)
  exact Ok.need h1 (Ok.need h4 (Ok.ret ⟨(_,_),rfl,h2,(p_spec_l4Some (drawV l).2 (drawV l).1 h5 h4).1⟩))
 obtain⟨v,h2,h3⟩:=h2
 exact⟨v,by rw[h1,h2],h3⟩
def F_spec_l4Draw (l:List Int):Gram×Str:=oneOf (fun q:Gram×Str=>evFn (cxOf Γ66 Tryz.f44.ntmps [] [] [] []) Tryz.f44 true [ofD TB l] []=some (.tup [ofD TG q.1,ofD .str q.2],[])∧(szG 20 q.1=true∧q.2.length≤100))
theorem p_spec_l4Draw (l:List Int) (hl:Fit TB l):szG 20 (F_spec_l4Draw l).1=true∧(F_spec_l4Draw l).2.length≤100:=(oneOf_spec (e_spec_l4Draw l hl)).2
theorem s_spec_l4Draw (l:List Int) (hl:Fit TB l):Sat Tryz.prog 44 [ofD TB l] [] (.tup [ofD TG (F_spec_l4Draw l).1,ofD .str (F_spec_l4Draw l).2]) [] :=
 fn_sound (cx:=cxOf Γ66 Tryz.f44.ntmps [] [] [] []) Tryz.func44 rfl ttOk Γ66ok mixed (fun _ _=>LoopsOk.no fun _=>rfl) (ro:=true) (oneOf_spec (e_spec_l4Draw l hl)).1
def c_spec_l4Draw:Con:=conT [TB] fun(l:List Int)=>(none, .tup [ofD TG (F_spec_l4Draw l).1,ofD .str (F_spec_l4Draw l).2])
theorem k_spec_l4Draw:ConOk Tryz.prog 44 c_spec_l4Draw:=conT_ok Tryz.call44 fun l hl _=>s_spec_l4Draw l hl
def Γ67:GL:=(44,c_spec_l4Draw)::Γ66
theorem Γ67ok:GO Γ67 := .cons k_spec_l4Draw Γ66ok
theorem e_spec_DrawMendNext (l:List Int) (hl:Fit TB l):∃q:Gram×Str,evFn (cxOf Γ67 Tryz.f18.ntmps [] [] [] []) Tryz.f18 true [ofD TB l] []=some (.tup [ofD TG q.1,ofD .str q.2],[])∧(szG 20 q.1=true∧q.2.length≤100):=by
 obtain⟨r,h1,h2⟩:Ok (evFn (cxOf Γ67 Tryz.f18.ntmps [] [] [] []) Tryz.f18 true [ofD TB l] []) (fun r=>∃(v:Gram×Str),r=(.tup [ofD TG v.1,ofD .str v.2],[])∧(szG 20 v.1=true∧v.2.length≤100)):=by
  have y:evFn (cxOf Γ67 Tryz.f18.ntmps [] [] [] []) Tryz.f18 true [ofD TB l] []=some (.tup [ofD TG (F_spec_l4Draw l).1,ofD .str (F_spec_l4Draw l).2],[]):=by kernel_rfl
  rw[y]
  exact Ok.ret ⟨_,rfl,p_spec_l4Draw l hl⟩
 obtain⟨v,h2,h3⟩:=h2
 exact⟨v,by rw[h1,h2],h3⟩
def F_spec_DrawMendNext (l:List Int):Gram×Str:=oneOf (fun q:Gram×Str=>evFn (cxOf Γ67 Tryz.f18.ntmps [] [] [] []) Tryz.f18 true [ofD TB l] []=some (.tup [ofD TG q.1,ofD .str q.2],[])∧(szG 20 q.1=true∧q.2.length≤100))
theorem s_spec_DrawMendNext (l:List Int) (hl:Fit TB l):Sat Tryz.prog 18 [ofD TB l] [] (.tup [ofD TG (F_spec_DrawMendNext l).1,ofD .str (F_spec_DrawMendNext l).2]) [] :=
 fn_sound (cx:=cxOf Γ67 Tryz.f18.ntmps [] [] [] []) Tryz.func18 rfl ttOk Γ67ok mixed (fun _ _=>LoopsOk.no fun _=>rfl) (ro:=true) (oneOf_spec (e_spec_DrawMendNext l hl)).1
def c_spec_DrawMendNext:Con:=conT [TB] fun(l:List Int)=>(none, .tup [ofD TG (F_spec_DrawMendNext l).1,ofD .str (F_spec_DrawMendNext l).2])
theorem k_spec_DrawMendNext:ConOk Tryz.prog 18 c_spec_DrawMendNext:=conT_ok Tryz.call18 fun l hl _=>s_spec_DrawMendNext l hl
def Γ68:GL:=(18,c_spec_DrawMendNext)::Γ67
theorem Γ68ok:GO Γ68 := .cons k_spec_DrawMendNext Γ67ok
def both2 (g:Gram) (s:Str):Bool:=bif okG g then areSm s 8 else false
theorem s_impl_areBoth (g:Gram) (_hg:Fit TG g) (s:Str) (_hs:Fit .str s):Sat Tryz.prog 45 [ofD TG g,ofD .str s] [] (.d (ofD .bool (both2 g s))) [] :=
 fn_sound (cx:=cxOf Γ68 Tryz.f45.ntmps [] [] [] []) Tryz.func45 rfl ttOk Γ68ok mixed (fun _ _=>LoopsOk.no fun _=>rfl) (ro:=true) (by
  have y:evFn (cxOf Γ68 Tryz.f45.ntmps [] [] [] []) Tryz.f45 true [ofD TG g,ofD .str s] []=some (vB (both2 g s),[]):=by kernel_rfl
  rw[y];rfl)
def c_impl_areBoth:Con:=conT [TG, .str] fun(g:Gram) (s:Str)=>(none, .d (ofD .bool (both2 g s)))
theorem k_impl_areBoth:ConOk Tryz.prog 45 c_impl_areBoth:=conT_ok Tryz.call45 fun g hg s hs _=>s_impl_areBoth g hg s hs
def Γ69:GL:=(45,c_impl_areBoth)::Γ68
theorem Γ69ok:GO Γ69 := .cons k_impl_areBoth Γ68ok
end
end Go.Proofs.YtmeiebnfmhddnaaGreatDoor.Ev
