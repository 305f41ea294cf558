/-
  FnMendFar: the law.
-/
import Derived.Test.YtmeiebnfmhddnaaGreatDoorHs
namespace Go.Proofs.YtmeiebnfmhddnaaGreatDoor.Ev
open Go
theorem e_spec_DrawMendFar (l:List Int) (hl:Fit TB l):∃q:Gram×Str,evFn (cxOf Γ99 Tryz.f12.ntmps [] [] [] []) Tryz.f12 true [ofD TB l] []=some (.tup [ofD TG q.1,ofD .str q.2],[])∧(szG 20 q.1=true∧q.2.length≤100):=by
 obtain⟨r,h1,h2⟩:Ok (evFn (cxOf Γ99 Tryz.f12.ntmps [] [] [] []) Tryz.f12 true [ofD TB l] []) (fun r=>∃(v:Gram×Str),r=(.tup [ofD TG v.1,ofD .str v.2],[])∧(szG 20 v.1=true∧v.2.length≤100)):=by
  have y:evFn (cxOf Γ99 Tryz.f12.ntmps [] [] [] []) Tryz.f12 true [ofD TB l] []=some (.tup [ofD TG (F_spec_l4Draw l).1,ofD .str (F_spec_l4Draw l).2],[]):=by kernel_rfl
  rw[y]
  exact Ok.ret ⟨_,rfl,p_spec_l4Draw l hl⟩
 obtain⟨v,h2,h3⟩:=h2
 exact⟨v,by rw[h1,h2],h3⟩
noncomputable def F_spec_DrawMendFar (l:List Int):Gram×Str:=oneOf (fun q:Gram×Str=>evFn (cxOf Γ99 Tryz.f12.ntmps [] [] [] []) Tryz.f12 true [ofD TB l] []=some (.tup [ofD TG q.1,ofD .str q.2],[])∧(szG 20 q.1=true∧q.2.length≤100))
theorem p_spec_DrawMendFar (l:List Int) (hl:Fit TB l):szG 20 (F_spec_DrawMendFar l).1=true∧(F_spec_DrawMendFar l).2.length≤100:=(oneOf_spec (e_spec_DrawMendFar l hl)).2
theorem s_spec_DrawMendFar (l:List Int) (hl:Fit TB l):Sat Tryz.prog 12 [ofD TB l] [] (.tup [ofD TG (F_spec_DrawMendFar l).1,ofD .str (F_spec_DrawMendFar l).2]) [] :=
 fn_sound (cx:=cxOf Γ99 Tryz.f12.ntmps [] [] [] []) Tryz.func12 rfl ttOk Γ99ok mixed (fun _ _=>LoopsOk.no fun _=>rfl) (ro:=true) (oneOf_spec (e_spec_DrawMendFar l hl)).1
noncomputable def c_spec_DrawMendFar:Con:=conT [TB] fun(l:List Int)=>(none, .tup [ofD TG (F_spec_DrawMendFar l).1,ofD .str (F_spec_DrawMendFar l).2])
theorem k_spec_DrawMendFar:ConOk Tryz.prog 12 c_spec_DrawMendFar:=conT_ok Tryz.call12 fun l hl _=>s_spec_DrawMendFar l hl
noncomputable def Γ100:List (Nat×Con):=(12,c_spec_DrawMendFar)::Γ99
theorem Γ100ok:EnvOk Tryz.prog (look Γ100) := .cons k_spec_DrawMendFar Γ99ok
noncomputable def cb_lmf:Cx:=(cxOf Γ100 Tryz.f3.ntmps [(11,[3,4,5,6,7])] [(0,[3,4,5]),(1,[3,4,5,6,7]),(1000000,[2])] [] [])
theorem x_laws_FnMendFar (g:Gram) (s:Str) (n i:Int) (l:List Str) (R:St→Option Fin) (K:Cont):evC (cb_lmf.withLoops (look [])) (loopOf Tryz.f3 0) ⟨[(3, .d (.one (.ptr 500000 0))),(4,vS s),(5,vI n),(6, .d (ofD TSS l)),(7,vI i)],[(500000,some (boxD 25 TG g))]⟩ (onward (headAt (cb_lmf.withLoops (look [])) 11) R K)=(
branch (decide (i<(l.length:Int))) (
 need (inb i l.length) <|
 need (decide (s.length≤1000)&&decide ((List.length (l.getD i.toNat ([]:Str)))≤1000)) <|
 branch (decide (edF s (l.getD i.toNat ([]:Str))<n)) ( K (.ret) (.mk [(2,(vB false))] [])) ( R (.mk [(3,(.d (.one (.ptr 500000 0)))),(4,(vS s)),(5,(vI n)),(6,(.d (.one (.r (.li (Ty.str) l))))),(7,(vI (W64 (i+1))))] [(500000,(some (boxD 25 TG g)))]))) ( K (.exit 0) (.mk [(3,(.d (.one (.ptr 500000 0)))),(4,(vS s)),(5,(vI n))] [(500000,(some (boxD 25 TG g)))]))):=by kernel_rfl
noncomputable def cx0_lmf:Cx:=(cb_lmf).withLoops (look [])
def sh_lmf:Sh:=([(3, .ptr 500000 0),(4, .d .str),(5, .d TI64),(6, .d TSS),(7, .d TI64)],[(500000, .box 25 TG)])
abbrev st_lmf (s:Str) (n:Int) (l:List Str) (i:Int) (g:Gram):St:=⟨[(3, .d (.one (.ptr 500000 0))),(4, .d (ofD .str s)),(5, .d (ofD TI64 n)),(6, .d (ofD TSS l)),(7, .d (ofD TI64 i))],[(500000,some (boxD 25 TG g))]⟩
def pre_lmf (s:Str) (n:Int) (l:List Str) (i:Int) (_g:Gram):Bool:=decide (0≤i)&&(decide (List.length s≤1000)&&(decide (List.length l≤1000)&&List.all l (fun w=>decide (List.length w≤1000)&&decide (n≤edF s w))))
noncomputable def res_lmf (s:Str) (n:Int) (_l:List Str) (_i:Int) (g:Gram) (K:Cont):Option Fin:=K (.exit 0) ⟨[(3, .d (.one (.ptr 500000 0))),(4,vS s),(5,vI n)],[(500000,some (boxD 25 TG g))]⟩
def mu_lmf (_s:Str) (_n:Int) (l:List Str) (i:Int) (_g:Gram):Nat:=List.length l-i.toNat
theorem r_lmf (s:Str) (n:Int) (l:List Str) (i:Int) (g:Gram) (K:Cont) (hI:pre_lmf s n l i g=true):(∀R:St→Option Fin,evC cx0_lmf (loopOf Tryz.f3 0) (st_lmf s n l i g) (onward (headAt cx0_lmf 11) R K)=res_lmf s n l i g K) ∨
  (∃(s':Str) (n':Int) (l':List Str) (i':Int) (g':Gram),pre_lmf s' n' l' i' g'=true∧mu_lmf s' n' l' i' g'<mu_lmf s n l i g∧res_lmf s' n' l' i' g' K=res_lmf s n l i g K∧∀R:St→Option Fin,evC cx0_lmf (loopOf Tryz.f3 0) (st_lmf s n l i g) (onward (headAt cx0_lmf 11) R K)=R (st_lmf s' n' l' i' g')):=by
 have hx:=fun R=>x_laws_FnMendFar g s n i l R K
 simp only[pre_lmf,andd,dec_iff]at hI
 obtain⟨h0,h1,h2,h3⟩:=hI
 by_cases hi:i<(List.length l:Int)
 ·have w:W64 (i+1)=i+1:=wrap_small (by omega) (by omega)
  have hw:=List.all_eq_true.1 h3 _ (getD_mem (d:=([]:Str)) (by omega:i.toNat<List.length l))
  rw[andd,dec_iff,dec_iff]at hw
  obtain⟨w1,w2⟩:=hw
  rw[decide_eq_true hi,inb_ok h0 hi,decide_eq_true h1,decide_eq_true w1,decide_eq_false (by omega:¬edF s (l.getD i.toNat ([]:Str))<n),w]at hx
  right
  refine⟨s,n,l,i+1,g, ?_, ?_,rfl,fun R=>hx R⟩
  ·simp only[pre_lmf,andd,dec_iff]
   exact⟨by omega,h1,h2,h3⟩
  ·simp only[mu_lmf];omega
 ·left
  intro R
  refine(hx R).trans ?_
  rw[decide_eq_false hi];rfl
noncomputable def g_lmf:St→Cont→Option Fin:=gP sh_lmf (fun v=>match v with | ((s,n,l,i,()),(g,()))=>pre_lmf s n l i g) (fun v K=>match v with | ((s,n,l,i,()),(g,()))=>res_lmf s n l i g K)
noncomputable def L_lmf:List (Nat×(St→Cont→Option Fin)):=(11,g_lmf)::[]
noncomputable def cx_lmf:Cx:=(cb_lmf).withLoops (look L_lmf)
theorem l_lmf {L:List (Nat×(St→Cont→Option Fin))} (n:Nat) (h1:L.drop n=[]) (h2:idsFree (L.take n) (loopOf Tryz.f3 0)=true):∀st K r,g_lmf st K=some r→∃N,iter (evC ((cb_lmf).withLoops (look L)) (loopOf Tryz.f3 0)) (headAt ((cb_lmf).withLoops (look L)) 11) N st K=some r :=
 with_drop h1 h2 (gP_ok (fun v=>match v with | ((s,n,l,i,()),(g,()))=>mu_lmf s n l i g) fun v K hI=>by
  obtain⟨⟨(s:Str),(n:Int),(l:List Str),(i:Int),⟨⟩⟩,⟨(g:Gram),⟨⟩⟩⟩:=v
  rcases r_lmf s n l i g K hI with h1 | ⟨s',n',l',i',g',h1,h2,h3,h4⟩
  ·exact .inl h1
  ·exact .inr ⟨((s',n',l',i',()),(g',())),h1,h2,h3,h4⟩)
theorem mend_cases {g:Gram} {s:Str}:(mendV g s = -1∧canB g s=false)∨(canB g s=true∧mendV g s=farV g s∧0≤farV g s∧both2 g s=true∧okG g=true∧List.length s≤8∧prodG g):=by
 cases hc:canB g s
 ·refine .inl ⟨?_,rfl⟩
  rw[mend_same]
  unfold sMendV
  rw[hc];rfl
 ·obtain ⟨h1,h2⟩:=canB_iff.1 hc
  obtain⟨h3,h4⟩:=both2_iff.1 h1
  have hl:=(areSm_iff.1 h4).1
  obtain⟨a1,a2,_⟩:=far_both h3 (by omega:List.length s≤1000) h2
  refine .inr ⟨rfl, ?_,a2,h1,h3,by omega,h2⟩
  rw[mend_same]
  unfold sMendV
  rw[hc,cond_true,a1]
theorem isD_word {g:Gram} {s:Str} (h:okG g=true):isD g s=true↔WordG g.2 g.1 s:=(isD_iff (okG_big h)).trans word_der.symm
theorem far_zero {g:Gram} {s:Str} (h:okG g=true) (hs:List.length s≤1000) (hp:prodG g):farV g s=0↔WordG g.2 g.1 s:=by
 obtain⟨_,a2,_,⟨w,w1,m,m1,m2⟩,a4⟩:=far_both h hs hp
 constructor
 ·intro e
  have:m=0:=by omega
  subst this
  rw[m2.zero];exact w1
 ·intro hw
  have:=a4 s 0 hw Ed.refl
  omega
theorem mend_is {g:Gram} {s:Str} (h:canB g s=true):decide (mendV g s=0)=(both2 g s&&isD g s):=by
 rcases mend_cases (g:=g) (s:=s)with⟨_,h2⟩ | ⟨_,h2,h3,h4,h5,h6,h7⟩
 ·rw[h]at h2;cases h2
 ·have e:mendV g s=0↔isD g s=true:=by rw[h2,far_zero h5 (by omega) h7,isD_word h5]
  rw[h4,Bool.true_and]
  cases hd:isD g s
  ·exact decide_eq_false fun hz=>by rw[e.1 hz]at hd;cases hd
  ·exact decide_eq_true (e.2 hd)
theorem mend_not {g:Gram} {s:Str} (h:canB g s=false):(both2 g s&&isD g s)=false:=by
 cases hb:both2 g s
 ·rfl
 ·cases hd:isD g s
  ·rfl
  ·have:=canB_iff.2 ⟨hb,s,(isD_word (both2_iff.1 hb).1).1 hd⟩
   rw[h]at this;cases this
theorem y_laws_FnMendFar (l:List Int):evFn cx_lmf Tryz.f3 true [ofD TB l] []=(
branch (decide (1048576<(l.length:Int))) ( some ((vB true),[])) (
 branch (!decide (mendV (F_spec_DrawMendFar l).fst (F_spec_DrawMendFar l).snd=sMendV (F_spec_DrawMendFar l).fst (F_spec_DrawMendFar l).snd)) ( some ((vB false),[])) (
 branch (decide (mendV (F_spec_DrawMendFar l).fst (F_spec_DrawMendFar l).snd<0)) ( some ((vB (bif decide (mendV (F_spec_DrawMendFar l).fst (F_spec_DrawMendFar l).snd=Int.neg 1)then !(both2 (F_spec_DrawMendFar l).fst (F_spec_DrawMendFar l).snd&&isD (F_spec_DrawMendFar l).fst (F_spec_DrawMendFar l).snd)else false)),[])) (
  need (pre_lmf (F_spec_DrawMendFar l).snd (mendV (F_spec_DrawMendFar l).fst (F_spec_DrawMendFar l).snd) (wordsG (F_spec_DrawMendFar l).fst 3) 0 (F_spec_DrawMendFar l).fst) <| some ((vB (decide (decide (mendV (F_spec_DrawMendFar l).fst (F_spec_DrawMendFar l).snd=0)=(both2 (F_spec_DrawMendFar l).fst (F_spec_DrawMendFar l).snd&&isD (F_spec_DrawMendFar l).fst (F_spec_DrawMendFar l).snd)))),[]))))):=by kernel_rfl
theorem s_laws_FnMendFar (l:List Int) (hl:Fit TB l):Sat Tryz.prog 3 [ofD TB l] [] (.d (ofD .bool true)) [] :=
 fn_sound (cx:=cx_lmf) Tryz.func3 rfl ttOk Γ100ok mixed (fun c hc=>LoopsOk.all (l:=[(11,loopOf Tryz.f3 0)]) (by cases hc;kernel_rfl) ⟨atLoop rfl (l_lmf 1 rfl (by kernel_rfl)),trivial⟩) (ro:=true) (by
  rw[y_laws_FnMendFar]
  have hv:=(p_spec_DrawMendFar l hl).2
  generalize F_spec_DrawMendFar l=v at hv ⊢
  obtain⟨g,s⟩:=v
  have hv:List.length s≤100:=hv
  show branch (decide (1048576<(List.length l:Int))) _ (branch (!decide (mendV g s=sMendV g s)) _ (branch (decide (mendV g s<0)) (some (vB (bif decide (mendV g s = -1)then !(both2 g s&&isD g s)else false),[])) (need (pre_lmf s (mendV g s) (wordsG g 3) 0 g) (some (vB (decide (decide (mendV g s=0)=(both2 g s&&isD g s))),[])))))=_
  rw[decide_eq_true (mend_same (g:=g) (s:=s))]
  cases decide (1048576<(List.length l:Int))
  ·rcases mend_cases (g:=g) (s:=s)with⟨h1,h2⟩ | ⟨h1,h2,h3,h4,h5,h6,h7⟩
   ·rw[decide_eq_true (by omega:mendV g s<0),decide_eq_true h1,mend_not h2];rfl
   ·have kp:pre_lmf s (mendV g s) (wordsG g 3) 0 g=true:=by
     simp only[pre_lmf,andd,dec_iff]
     have:=wordsG_len (g:=g) (n:=3)
     refine⟨Int.le_refl 0,by omega,by omega,List.all_eq_true.2 fun w hw => ?_⟩
     obtain⟨_,_,w3,w4,_⟩:=wordsG_mem hw
     obtain⟨e0,e1,_⟩:=edF_is (a:=s) (b:=w)
     have:=(far_both h5 (by omega:List.length s≤1000) h7).2.2.2.2 w _ ((isD_word h5).1 w3) e1
     rw[andd,dec_iff,dec_iff]
     exact⟨by omega,by omega⟩
    rw[decide_eq_false (by omega:¬mendV g s<0),kp,mend_is h1,decide_eq_true rfl];rfl
  ·rfl)
end Go.Proofs.YtmeiebnfmhddnaaGreatDoor.Ev
