/-
  The first edit that brings a text nearer: of the reference.
-/
import Derived.Test.YtmeiebnfmhddnaaGreatDoorHu
namespace Go.Proofs.YtmeiebnfmhddnaaGreatDoor.Ev
open Go
noncomputable section
def cb_sn:Cx:=cxOf Γ89 Tryz.f54.ntmps [(15,[1,2,3,6,8,9,10,13]),(11,[1,2,3,6,8,9,10,12]),(7,[1,2,3,6,8,9,10,11]),(3,[1,2,3,6,8,9])] [(0,[6]),(1,[1,2,3,6,8,9]),(6,[1,2,3,6,8,9]),(7,[1,2,3,6,8,9,10,13]),(4,[1,2,3,6,8,9,10]),(5,[1,2,3,6,8,9,10,12]),(2,[1,2,3,6,8,9,10]),(3,[1,2,3,6,8,9,10,11]),(1000000,[6,7])] [] []
theorem x_spec_l8Next_3 (g:Gram) (s c:Str) (f i k:Int) (q:Edit) (l:List Edit) (R:St→Option Fin) (K:Cont):evC (cb_sn.withLoops (look [])) (loopOf Tryz.f54 3) ⟨[(1,vS s),(2,vI f),(3, pA),(6, pB),(8,vS c),(9,vI i),(10, oC),(13,vI k)],[(500000,some (boxD 25 TG g)),(500001,some (boxD 35 TE q)),(500002,some (.lis 35 TE l))]⟩ (onward (headAt (cb_sn.withLoops (look [])) 15) R K)=(
branch (decide (k<(l.length:Int))) (
 need (inb k l.length) <|
 need (bif decide ((EdDo s (l.getD k.toNat ed0)).snd=true)then okG g&&decide ((List.length (EdDo s (l.getD k.toNat ed0)).fst)≤1000)else true) <|
 branch (bif (EdDo s (l.getD k.toNat ed0)).snd then decide (startC g (EdDo s (l.getD k.toNat ed0)).fst<f)else false) (
 need (inb k l.length) <| K (.ret) (.mk [(6,pA),(7,vB true)] [(500000,(.some (.box 35 [(.r (.v (Value.int IntKind.i64 (l.getD k.toNat ed0).fst))),(.r (.v (Value.int IntKind.i64 (l.getD k.toNat ed0).snd.fst))),(.r (.v (Value.string (mk (l.getD k.toNat ed0).snd.snd))))])))])) ( R (.mk [(1,vS s),(2,vI f),(3,pA),(6,pB),(8,vS c),(9,vI i),(10,oC),(13,vI (W64 (k+1)))] [(500000,some (boxD 25 TG g)),(500001,some (boxD 35 TE q)),(500002,some (.lis 35 TE l))]))) ( K (.exit 6) (.mk [(1,vS s),(2,vI f),(3,pA),(6,pB),(8,vS c),(9,vI i)] [(500000,some (boxD 25 TG g)),(500001,some (boxD 35 TE q))]))):=by kernel_rfl
def snR (g:Gram) (s c:Str) (f i:Int) (q:Edit) (K:Cont) (o:Option Edit):Option Fin:=branch o.isSome
 (K .ret ⟨[(6, pA),(7,vB true)],[(500000,some (boxD 35 TE (o.getD ed0)))]⟩)
 (K (.exit 6) ⟨[(1,vS s),(2,vI f),(3, pA),(6, pB),(8,vS c),(9,vI i)],[(500000,some (boxD 25 TG g)),(500001,some (boxD 35 TE q))]⟩)
def cx0_sn3:Cx:=(cb_sn).withLoops (look [])
def sh_sn3:Sh:=([(1, .d .str),(2, .d TI64),(3, .ptr 500000 0),(6, .ptr 500001 0),(8, .d .str),(9, .d TI64),(10, .own 500002),(13, .d TI64)],[(500000, .box 25 TG),(500001, .box 35 TE),(500002, .lis 35 TE)])
abbrev st_sn3 (s:Str) (f:Int) (c:Str) (i k:Int) (g:Gram) (q:Edit) (l:List (Edit)):St:=⟨[(1,vS s),(2,vI f),(3, .d (.one (.ptr 500000 0))),(6, .d (.one (.ptr 500001 0))),(8,vS c),(9,vI i),(10, .d (.one (.own 500002))),(13,vI k)],[(500000,some (boxD 25 TG g)),(500001,some (boxD 35 TE q)),(500002,some (.lis 35 TE l))]⟩
def pre_sn3 (_s:Str) (_f:Int) (_c:Str) (_i k:Int) (g:Gram) (_q:Edit) (l:List (Edit)):Bool:=decide (0≤k)&&(okG g&&decide (List.length l≤1000))
def res_sn3 (s:Str) (f:Int) (c:Str) (i k:Int) (g:Gram) (q:Edit) (l:List (Edit)) (K:Cont):Option Fin:=snR g s c f i q K (fstE (okN (startC g) s f) (List.drop k.toNat l))
def mu_sn3 (_s:Str) (_f:Int) (_c:Str) (_i k:Int) (_g:Gram) (_q:Edit) (l:List (Edit)):Nat:=List.length l-k.toNat
theorem r_sn3 (s:Str) (f:Int) (c:Str) (i k:Int) (g:Gram) (q:Edit) (l:List (Edit)) (K:Cont) (hI:pre_sn3 s f c i k g q l=true):(∀R:St→Option Fin,evC cx0_sn3 (loopOf Tryz.f54 3) (st_sn3 s f c i k g q l) (onward (headAt cx0_sn3 15) R K)=res_sn3 s f c i k g q l K) ∨
  (∃(s':Str) (f':Int) (c':Str) (i' k':Int) (g':Gram) (q':Edit) (l':List (Edit)),pre_sn3 s' f' c' i' k' g' q' l'=true∧mu_sn3 s' f' c' i' k' g' q' l'<mu_sn3 s f c i k g q l∧res_sn3 s' f' c' i' k' g' q' l' K=res_sn3 s f c i k g q l K∧∀R:St→Option Fin,evC cx0_sn3 (loopOf Tryz.f54 3) (st_sn3 s f c i k g q l) (onward (headAt cx0_sn3 15) R K)=R (st_sn3 s' f' c' i' k' g' q' l')):=by
 have hx:=fun R=>x_spec_l8Next_3 g s c f i k q l R K
 simp only[pre_sn3,andd,dec_iff]at hI
 obtain⟨h0,h2,h3⟩:=hI
 by_cases hk:k<(List.length l:Int)
 ·have w:W64 (k+1)=k+1:=wrap_small (by omega) (by omega)
  have hd:=dropE_at h0 hk
  have kk:(bif decide ((EdDo s (List.getD l k.toNat ed0)).2=true)then okG g&&decide ((List.length (EdDo s (List.getD l k.toNat ed0)).1)≤1000)else true)=true:=by
   cases hb:(EdDo s (List.getD l k.toNat ed0)).2
   ·rfl
   ·have:=(EdDo_short hb).2
    exact andd.2 ⟨h2,decide_eq_true (by omega)⟩
  rw[decide_eq_true hk,inb_ok h0 hk,kk,w]at hx
  change ∀R:St→Option Fin,_=branch (okN (startC g) s f (List.getD l k.toNat ed0)) _ _ at hx
  have hf:fstE (okN (startC g) s f) (List.drop k.toNat l)=bif okN (startC g) s f (List.getD l k.toNat ed0)then some (List.getD l k.toNat ed0)else fstE (okN (startC g) s f) (List.drop (k+1).toNat l):=by rw[hd];rfl
  cases hc:okN (startC g) s f (List.getD l k.toNat ed0)
  ·rw[hc]at hx hf
   right
   refine⟨s,f,c,i,k+1,g,q,l, ?_, ?_, ?_,fun R=>hx R⟩
   ·simp only[pre_sn3,andd,dec_iff]
    exact⟨by omega,h2,h3⟩
   ·simp only[mu_sn3];omega
   ·simp only[res_sn3,hf];rfl
  ·rw[hc]at hx hf
   left
   intro R
   refine(hx R).trans ?_
   simp only[res_sn3,hf];rfl
 ·left
  intro R
  refine(hx R).trans ?_
  rw[decide_eq_false hk]
  have e:List.drop k.toNat l=[]:=List.drop_eq_nil_of_le (by omega)
  simp only[res_sn3,e];rfl
def g_sn3:St→Cont→Option Fin:=gP sh_sn3 (fun v=>match v with | ((s,f,c,i,k,()),(g,q,l,()))=>pre_sn3 s f c i k g q l) (fun v K=>match v with | ((s,f,c,i,k,()),(g,q,l,()))=>res_sn3 s f c i k g q l K)
def L_sn3:LpL:=(15,g_sn3)::[]
theorem l_sn3 {L:LpL} (n:Nat) (h1:L.drop n=[]) (h2:idsFree (L.take n) (loopOf Tryz.f54 3)=true):LoopsTo g_sn3 (cb_sn) (loopOf Tryz.f54 3) 15 L :=
 with_drop h1 h2 (gP_ok (fun v=>match v with | ((s,f,c,i,k,()),(g,q,l,()))=>mu_sn3 s f c i k g q l) fun v K hI=>by
  obtain⟨⟨s,f,c,i,k,⟨⟩⟩,⟨g,q,l,⟨⟩⟩⟩:=v
  exact(r_sn3 s f c i k g q l K hI).imp id fun⟨s',f',c',i',k',g',q',l',h⟩=>⟨((s',f',c',i',k',()),(g',q',l',())),h⟩)
theorem x_spec_l8Next_2 (g:Gram) (s c:Str) (f i k:Int) (q:Edit) (l:List Edit) (R:St→Option Fin) (K:Cont):evC (cb_sn.withLoops (look L_sn3)) (loopOf Tryz.f54 2) ⟨[(1,vS s),(2,vI f),(3, pA),(6, pB),(8,vS c),(9,vI i),(10, oC),(12,vI k)],[(500000,some (boxD 25 TG g)),(500001,some (boxD 35 TE q)),(500002,some (.lis 35 TE l))]⟩ (onward (headAt (cb_sn.withLoops (look L_sn3)) 11) R K)=(
branch (decide (k<(c.length:Int))) (
 need (inr k (W64 (k+1)) c.length) <|
 need (fits (l.length+[(1,i,List.take ((W64 (k+1)).toNat-k.toNat) (List.drop k.toNat c))].length) Tryz.t35.bytes) <| R (.mk [(1,vS s),(2,vI f),(3,pA),(6,pB),(8,vS c),(9,vI i),(10,oC),(12,vI (W64 (k+1)))] [(500000,some (boxD 25 TG g)),(500001,some (boxD 35 TE q)),(500002,(.some (.lis 35 ty35 (l.append [(1,i,List.take ((W64 (k+1)).toNat-k.toNat) (List.drop k.toNat c))]))))])) ( K (.exit 4) (.mk [(1,vS s),(2,vI f),(3,pA),(6,pB),(8,vS c),(9,vI i),(10,oC)] [(500000,some (boxD 25 TG g)),(500001,some (boxD 35 TE q)),(500002,some (.lis 35 TE l))]))):=by kernel_rfl
def cx0_sn2:Cx:=(cb_sn).withLoops (look L_sn3)
def sh_sn2:Sh:=([(1, .d .str),(2, .d TI64),(3, .ptr 500000 0),(6, .ptr 500001 0),(8, .d .str),(9, .d TI64),(10, .own 500002),(12, .d TI64)],[(500000, .box 25 TG),(500001, .box 35 TE),(500002, .lis 35 TE)])
abbrev st_sn2 (s:Str) (f:Int) (c:Str) (i k:Int) (g:Gram) (q:Edit) (l:List (Edit)):St:=⟨[(1,vS s),(2,vI f),(3, .d (.one (.ptr 500000 0))),(6, .d (.one (.ptr 500001 0))),(8,vS c),(9,vI i),(10, .d (.one (.own 500002))),(12,vI k)],[(500000,some (boxD 25 TG g)),(500001,some (boxD 35 TE q)),(500002,some (.lis 35 TE l))]⟩
def pre_sn2 (_s:Str) (_f:Int) (c:Str) (_i k:Int) (_g:Gram) (_q:Edit) (l:List (Edit)):Bool:=decide (0≤k)&&(decide (List.length c≤10)&&decide ((List.length l:Int)+List.length c-k≤1000))
def res_sn2 (s:Str) (f:Int) (c:Str) (i k:Int) (g:Gram) (q:Edit) (l:List (Edit)) (K:Cont):Option Fin:=K (.exit 4) ⟨[(1,vS s),(2,vI f),(3, pA),(6, pB),(8,vS c),(9,vI i),(10, oC)],[(500000,some (boxD 25 TG g)),(500001,some (boxD 35 TE q)),(500002,some (.lis 35 TE (l++addE i (List.drop k.toNat c) 1)))]⟩
def mu_sn2 (_s:Str) (_f:Int) (c:Str) (_i k:Int) (_g:Gram) (_q:Edit) (_l:List (Edit)):Nat:=List.length c-k.toNat
theorem r_sn2 (s:Str) (f:Int) (c:Str) (i k:Int) (g:Gram) (q:Edit) (l:List (Edit)) (K:Cont) (hI:pre_sn2 s f c i k g q l=true):(∀R:St→Option Fin,evC cx0_sn2 (loopOf Tryz.f54 2) (st_sn2 s f c i k g q l) (onward (headAt cx0_sn2 11) R K)=res_sn2 s f c i k g q l K) ∨
  (∃(s':Str) (f':Int) (c':Str) (i' k':Int) (g':Gram) (q':Edit) (l':List (Edit)),pre_sn2 s' f' c' i' k' g' q' l'=true∧mu_sn2 s' f' c' i' k' g' q' l'<mu_sn2 s f c i k g q l∧res_sn2 s' f' c' i' k' g' q' l' K=res_sn2 s f c i k g q l K∧∀R:St→Option Fin,evC cx0_sn2 (loopOf Tryz.f54 2) (st_sn2 s f c i k g q l) (onward (headAt cx0_sn2 11) R K)=R (st_sn2 s' f' c' i' k' g' q' l')):=by
 have hx:=fun R=>x_spec_l8Next_2 g s c f i k q l R K
 simp only[pre_sn2,andd,dec_iff]at hI
 obtain⟨h0,h2,h3⟩:=hI
 by_cases hk:k<(List.length c:Int)
 ·have w:W64 (k+1)=k+1:=wrap_small (by omega) (by omega)
  have hd:l++addE i (List.drop k.toNat c) 1=(l++[((1,i,[List.getD c k.toNat 0]):Edit)])++addE i (List.drop (k+1).toNat c) 1:=by
   rw[dropC_at h0 hk,List.append_assoc];rfl
  rw[decide_eq_true hk,w,inr_iff.2 (by omega:0≤k∧k≤k+1∧k+1≤(List.length c:Int)),slice_one h0 hk,editFits (by rw[List.length_singleton];omega)]at hx
  right
  refine⟨s,f,c,i,k+1,g,q,l++[((1,i,[List.getD c k.toNat 0]):Edit)], ?_, ?_, ?_,fun R=>hx R⟩
  ·simp only[pre_sn2,andd,dec_iff]
   rw[List.length_append,List.length_singleton]
   exact⟨by omega,h2,by omega⟩
  ·simp only[mu_sn2];omega
  ·simp only[res_sn2,hd]
 ·left
  intro R
  refine(hx R).trans ?_
  rw[decide_eq_false hk]
  have e:l++addE i (List.drop k.toNat c) 1=l:=by
   rw[List.drop_eq_nil_of_le (by omega)]
   exact List.append_nil l
  simp only[res_sn2,e];rfl
def g_sn2:St→Cont→Option Fin:=gP sh_sn2 (fun v=>match v with | ((s,f,c,i,k,()),(g,q,l,()))=>pre_sn2 s f c i k g q l) (fun v K=>match v with | ((s,f,c,i,k,()),(g,q,l,()))=>res_sn2 s f c i k g q l K)
def L_sn2:LpL:=(11,g_sn2)::L_sn3
theorem l_sn2 {L:LpL} (n:Nat) (h1:L.drop n=L_sn3) (h2:idsFree (L.take n) (loopOf Tryz.f54 2)=true):LoopsTo g_sn2 (cb_sn) (loopOf Tryz.f54 2) 11 L :=
 with_drop h1 h2 (gP_ok (fun v=>match v with | ((s,f,c,i,k,()),(g,q,l,()))=>mu_sn2 s f c i k g q l) fun v K hI=>by
  obtain⟨⟨s,f,c,i,k,⟨⟩⟩,⟨g,q,l,⟨⟩⟩⟩:=v
  exact(r_sn2 s f c i k g q l K hI).imp id fun⟨s',f',c',i',k',g',q',l',h⟩=>⟨((s',f',c',i',k',()),(g',q',l',())),h⟩)
theorem x_spec_l8Next_1 (g:Gram) (s c:Str) (f i k:Int) (q:Edit) (l:List Edit) (R:St→Option Fin) (K:Cont):evC (cb_sn.withLoops (look L_sn2)) (loopOf Tryz.f54 1) ⟨[(1,vS s),(2,vI f),(3, pA),(6, pB),(8,vS c),(9,vI i),(10, oC),(11,vI k)],[(500000,some (boxD 25 TG g)),(500001,some (boxD 35 TE q)),(500002,some (.lis 35 TE l))]⟩ (onward (headAt (cb_sn.withLoops (look L_sn2)) 7) R K)=(
branch (decide (k<(c.length:Int))) (
 need (inr k (W64 (k+1)) c.length) <|
 need (fits (l.length+[(3,i,List.take ((W64 (k+1)).toNat-k.toNat) (List.drop k.toNat c))].length) Tryz.t35.bytes) <| R (.mk [(1,vS s),(2,vI f),(3,pA),(6,pB),(8,vS c),(9,vI i),(10,oC),(11,vI (W64 (k+1)))] [(500000,some (boxD 25 TG g)),(500001,some (boxD 35 TE q)),(500002,(.some (.lis 35 ty35 (l.append [(3,i,List.take ((W64 (k+1)).toNat-k.toNat) (List.drop k.toNat c))]))))])) ( K (.exit 2) (.mk [(1,vS s),(2,vI f),(3,pA),(6,pB),(8,vS c),(9,vI i),(10,oC)] [(500000,some (boxD 25 TG g)),(500001,some (boxD 35 TE q)),(500002,some (.lis 35 TE l))]))):=by kernel_rfl
def cx0_sn1:Cx:=(cb_sn).withLoops (look L_sn2)
def sh_sn1:Sh:=([(1, .d .str),(2, .d TI64),(3, .ptr 500000 0),(6, .ptr 500001 0),(8, .d .str),(9, .d TI64),(10, .own 500002),(11, .d TI64)],[(500000, .box 25 TG),(500001, .box 35 TE),(500002, .lis 35 TE)])
abbrev st_sn1 (s:Str) (f:Int) (c:Str) (i k:Int) (g:Gram) (q:Edit) (l:List (Edit)):St:=⟨[(1,vS s),(2,vI f),(3, .d (.one (.ptr 500000 0))),(6, .d (.one (.ptr 500001 0))),(8,vS c),(9,vI i),(10, .d (.one (.own 500002))),(11,vI k)],[(500000,some (boxD 25 TG g)),(500001,some (boxD 35 TE q)),(500002,some (.lis 35 TE l))]⟩
def pre_sn1 (_s:Str) (_f:Int) (c:Str) (_i k:Int) (_g:Gram) (_q:Edit) (l:List (Edit)):Bool:=decide (0≤k)&&(decide (List.length c≤10)&&decide ((List.length l:Int)+List.length c-k≤1000))
def res_sn1 (s:Str) (f:Int) (c:Str) (i k:Int) (g:Gram) (q:Edit) (l:List (Edit)) (K:Cont):Option Fin:=K (.exit 2) ⟨[(1,vS s),(2,vI f),(3, pA),(6, pB),(8,vS c),(9,vI i),(10, oC)],[(500000,some (boxD 25 TG g)),(500001,some (boxD 35 TE q)),(500002,some (.lis 35 TE (l++addE i (List.drop k.toNat c) 3)))]⟩
def mu_sn1 (_s:Str) (_f:Int) (c:Str) (_i k:Int) (_g:Gram) (_q:Edit) (_l:List (Edit)):Nat:=List.length c-k.toNat
theorem r_sn1 (s:Str) (f:Int) (c:Str) (i k:Int) (g:Gram) (q:Edit) (l:List (Edit)) (K:Cont) (hI:pre_sn1 s f c i k g q l=true):(∀R:St→Option Fin,evC cx0_sn1 (loopOf Tryz.f54 1) (st_sn1 s f c i k g q l) (onward (headAt cx0_sn1 7) R K)=res_sn1 s f c i k g q l K) ∨
  (∃(s':Str) (f':Int) (c':Str) (i' k':Int) (g':Gram) (q':Edit) (l':List (Edit)),pre_sn1 s' f' c' i' k' g' q' l'=true∧mu_sn1 s' f' c' i' k' g' q' l'<mu_sn1 s f c i k g q l∧res_sn1 s' f' c' i' k' g' q' l' K=res_sn1 s f c i k g q l K∧∀R:St→Option Fin,evC cx0_sn1 (loopOf Tryz.f54 1) (st_sn1 s f c i k g q l) (onward (headAt cx0_sn1 7) R K)=R (st_sn1 s' f' c' i' k' g' q' l')):=by
 have hx:=fun R=>x_spec_l8Next_1 g s c f i k q l R K
 simp only[pre_sn1,andd,dec_iff]at hI
 obtain⟨h0,h2,h3⟩:=hI
 by_cases hk:k<(List.length c:Int)
 ·have w:W64 (k+1)=k+1:=wrap_small (by omega) (by omega)
  have hd:l++addE i (List.drop k.toNat c) 3=(l++[((3,i,[List.getD c k.toNat 0]):Edit)])++addE i (List.drop (k+1).toNat c) 3:=by
   rw[dropC_at h0 hk,List.append_assoc];rfl
  rw[decide_eq_true hk,w,inr_iff.2 (by omega:0≤k∧k≤k+1∧k+1≤(List.length c:Int)),slice_one h0 hk,editFits (by rw[List.length_singleton];omega)]at hx
  right
  refine⟨s,f,c,i,k+1,g,q,l++[((3,i,[List.getD c k.toNat 0]):Edit)], ?_, ?_, ?_,fun R=>hx R⟩
  ·simp only[pre_sn1,andd,dec_iff]
   rw[List.length_append,List.length_singleton]
   exact⟨by omega,h2,by omega⟩
  ·simp only[mu_sn1];omega
  ·simp only[res_sn1,hd]
 ·left
  intro R
  refine(hx R).trans ?_
  rw[decide_eq_false hk]
  have e:l++addE i (List.drop k.toNat c) 3=l:=by
   rw[List.drop_eq_nil_of_le (by omega)]
   exact List.append_nil l
  simp only[res_sn1,e];rfl
def g_sn1:St→Cont→Option Fin:=gP sh_sn1 (fun v=>match v with | ((s,f,c,i,k,()),(g,q,l,()))=>pre_sn1 s f c i k g q l) (fun v K=>match v with | ((s,f,c,i,k,()),(g,q,l,()))=>res_sn1 s f c i k g q l K)
def L_sn1:LpL:=(7,g_sn1)::L_sn2
theorem l_sn1 {L:LpL} (n:Nat) (h1:L.drop n=L_sn2) (h2:idsFree (L.take n) (loopOf Tryz.f54 1)=true):LoopsTo g_sn1 (cb_sn) (loopOf Tryz.f54 1) 7 L :=
 with_drop h1 h2 (gP_ok (fun v=>match v with | ((s,f,c,i,k,()),(g,q,l,()))=>mu_sn1 s f c i k g q l) fun v K hI=>by
  obtain⟨⟨s,f,c,i,k,⟨⟩⟩,⟨g,q,l,⟨⟩⟩⟩:=v
  exact(r_sn1 s f c i k g q l K hI).imp id fun⟨s',f',c',i',k',g',q',l',h⟩=>⟨((s',f',c',i',k',()),(g',q',l',())),h⟩)
theorem editsE_eq {i:Int} {c:Str}:editsE i c=([((2,i,[]):Edit)]++addE i c 3)++addE i c 1:=by
 show((2,i,[]):Edit)::(addE i c 3++(addE i c 1++[]))=_
 rw[List.append_nil];rfl
theorem x_spec_l8Next (g:Gram) (s c:Str) (f i:Int) (q:Edit) (R:St→Option Fin) (K:Cont):evC (cb_sn.withLoops (look L_sn1)) (loopOf Tryz.f54 0) ⟨[(1,vS s),(2,vI f),(3, pA),(6, pB),(8,vS c),(9,vI i)],[(500000,some (boxD 25 TG g)),(500001,some (boxD 35 TE q))]⟩ (onward (headAt (cb_sn.withLoops (look L_sn1)) 3) R K)=(
branch (decide (i≤(s.length:Int))) (
 need (pre_sn1 s f c i 0 g q [((2,i,[]):Edit)]) <|
 need (pre_sn2 s f c i 0 g q ([((2,i,[]):Edit)]++addE i c 3)) <|
 need (pre_sn3 s f c i 0 g q (([((2,i,[]):Edit)]++addE i c 3)++addE i c 1)) <|
 branch ((fstE (okN (startC g) s f) (([((2,i,[]):Edit)]++addE i c 3)++addE i c 1)).isSome) (K .ret ⟨[(6, pA),(7,vB true)],[(500000,some (boxD 35 TE ((fstE (okN (startC g) s f) (([((2,i,[]):Edit)]++addE i c 3)++addE i c 1)).getD ed0)))]⟩) (R ⟨[(1,vS s),(2,vI f),(3, pA),(6, pB),(8,vS c),(9,vI (W64 (i+1)))],[(500000,some (boxD 25 TG g)),(500001,some (boxD 35 TE q))]⟩)) (K (.exit 0) ⟨[(6, pA)],[(500000,some (boxD 35 TE q))]⟩)):=by kernel_rfl
def cx0_sn0:Cx:=(cb_sn).withLoops (look L_sn1)
def sh_sn0:Sh:=([(1, .d .str),(2, .d TI64),(3, .ptr 500000 0),(6, .ptr 500001 0),(8, .d .str),(9, .d TI64)],[(500000, .box 25 TG),(500001, .box 35 TE)])
abbrev st_sn0 (s:Str) (f:Int) (c:Str) (i:Int) (g:Gram) (q:Edit):St:=⟨[(1,vS s),(2,vI f),(3, .d (.one (.ptr 500000 0))),(6, .d (.one (.ptr 500001 0))),(8,vS c),(9,vI i)],[(500000,some (boxD 25 TG g)),(500001,some (boxD 35 TE q))]⟩
def pre_sn0 (s:Str) (_f:Int) (c:Str) (i:Int) (g:Gram) (_q:Edit):Bool:=decide (0≤i)&&(decide (List.length s≤1000)&&(okG g&&decide (List.length c≤10)))
def res_sn0 (s:Str) (f:Int) (c:Str) (i:Int) (g:Gram) (q:Edit) (K:Cont):Option Fin:=branch ((nearN (okN (startC g) s f) c (List.length s+1-i.toNat) i).isSome) (K .ret ⟨[(6, pA),(7,vB true)],[(500000,some (boxD 35 TE ((nearN (okN (startC g) s f) c (List.length s+1-i.toNat) i).getD ed0)))]⟩) (K (.exit 0) ⟨[(6, pA)],[(500000,some (boxD 35 TE q))]⟩)
def mu_sn0 (s:Str) (_f:Int) (_c:Str) (i:Int) (_g:Gram) (_q:Edit):Nat:=List.length s+1-i.toNat
theorem r_sn0 (s:Str) (f:Int) (c:Str) (i:Int) (g:Gram) (q:Edit) (K:Cont) (hI:pre_sn0 s f c i g q=true):(∀R:St→Option Fin,evC cx0_sn0 (loopOf Tryz.f54 0) (st_sn0 s f c i g q) (onward (headAt cx0_sn0 3) R K)=res_sn0 s f c i g q K) ∨
  (∃(s':Str) (f':Int) (c':Str) (i':Int) (g':Gram) (q':Edit),pre_sn0 s' f' c' i' g' q'=true∧mu_sn0 s' f' c' i' g' q'<mu_sn0 s f c i g q∧res_sn0 s' f' c' i' g' q' K=res_sn0 s f c i g q K∧∀R:St→Option Fin,evC cx0_sn0 (loopOf Tryz.f54 0) (st_sn0 s f c i g q) (onward (headAt cx0_sn0 3) R K)=R (st_sn0 s' f' c' i' g' q')):=by
 have hx:=fun R=>x_spec_l8Next g s c f i q R K
 simp only[pre_sn0,andd,dec_iff]at hI
 obtain⟨h0,h1,h2,h3⟩:=hI
 by_cases hi:i≤(List.length s:Int)
 ·have w:W64 (i+1)=i+1:=wrap_small (by omega) (by omega)
  obtain⟨m,hm⟩:∃m,List.length s+1-i.toNat=m+1:=⟨List.length s-i.toNat,by omega⟩
  have hm2:List.length s+1-(i+1).toNat=m:=by omega
  have p1:pre_sn1 s f c i 0 g q [((2,i,[]):Edit)]=true:=by
   simp only[pre_sn1,andd,dec_iff]
   exact⟨Int.le_refl 0,h3,by rw[List.length_singleton];omega⟩
  have p2:pre_sn2 s f c i 0 g q ([((2,i,[]):Edit)]++addE i c 3)=true:=by
   simp only[pre_sn2,andd,dec_iff]
   exact⟨Int.le_refl 0,h3,by rw[List.length_append,List.length_singleton,addE_len];omega⟩
  have p3:pre_sn3 s f c i 0 g q (([((2,i,[]):Edit)]++addE i c 3)++addE i c 1)=true:=by
   simp only[pre_sn3,andd,dec_iff]
   exact⟨Int.le_refl 0,h2,by rw[← editsE_eq,editsE_len];omega⟩
  have hn:nearN (okN (startC g) s f) c (m+1) i=bif (fstE (okN (startC g) s f) (editsE i c)).isSome then fstE (okN (startC g) s f) (editsE i c)else nearN (okN (startC g) s f) c m (i+1):=rfl
  rw[decide_eq_true hi,p1,p2,p3,w,← editsE_eq]at hx
  cases hc:(fstE (okN (startC g) s f) (editsE i c)).isSome
  ·rw[hc]at hx hn
   right
   refine⟨s,f,c,i+1,g,q, ?_, ?_, ?_,fun R=>hx R⟩
   ·simp only[pre_sn0,andd,dec_iff]
    exact⟨by omega,h1,h2,h3⟩
   ·simp only[mu_sn0];omega
   ·simp only[res_sn0,hm,hm2,hn];rfl
  ·rw[hc]at hx hn
   left
   intro R
   refine(hx R).trans ?_
   simp only[res_sn0,hm,hn,cond_true,hc];rfl
 ·left
  intro R
  refine(hx R).trans ?_
  rw[decide_eq_false hi]
  have e:List.length s+1-i.toNat=0:=by omega
  simp only[res_sn0,e];rfl
def g_sn0:St→Cont→Option Fin:=gP sh_sn0 (fun v=>match v with | ((s,f,c,i,()),(g,q,()))=>pre_sn0 s f c i g q) (fun v K=>match v with | ((s,f,c,i,()),(g,q,()))=>res_sn0 s f c i g q K)
def L_sn0:LpL:=(3,g_sn0)::L_sn1
def cx_sn0:Cx:=(cb_sn).withLoops (look L_sn0)
theorem l_sn0 {L:LpL} (n:Nat) (h1:L.drop n=L_sn1) (h2:idsFree (L.take n) (loopOf Tryz.f54 0)=true):LoopsTo g_sn0 (cb_sn) (loopOf Tryz.f54 0) 3 L :=
 with_drop h1 h2 (gP_ok (fun v=>match v with | ((s,f,c,i,()),(g,q,()))=>mu_sn0 s f c i g q) fun v K hI=>by
  obtain⟨⟨s,f,c,i,⟨⟩⟩,⟨g,q,⟨⟩⟩⟩:=v
  exact(r_sn0 s f c i g q K hI).imp id fun⟨s',f',c',i',g',q',h⟩=>⟨((s',f',c',i',()),(g',q',())),h⟩)
theorem y_spec_l8Next (g:Gram) (s:Str) (f:Int):evFn cx_sn0 Tryz.f54 true [ofD TG g,ofD .str s,ofD TI64 f] []=(
need (okG g) <|
need (pre_sn0 s f (setS (bigIs false) (signsG g)) 0 g (0,0,([]:Str))) <|
branch ((nearN (okN (startC g) s f) (setS (bigIs false) (signsG g)) (List.length s+1-(0:Int).toNat) 0).isSome) ( some ((.tup [(.agg [(.r (.v (Value.int IntKind.i64 ((nearN (okN (startC g) s f) (setS (bigIs false) (signsG g)) (List.length s+1-(0:Int).toNat) 0).getD ed0).fst))),(.r (.v (Value.int IntKind.i64 ((nearN (okN (startC g) s f) (setS (bigIs false) (signsG g)) (List.length s+1-(0:Int).toNat) 0).getD ed0).snd.fst))),(.r (.v (Value.string (mk ((nearN (okN (startC g) s f) (setS (bigIs false) (signsG g)) (List.length s+1-(0:Int).toNat) 0).getD ed0).snd.snd))))]),(.one (.r (.v (Value.bool true))))]),[])) ( some ((.tup [(.agg [(.r (.v (Value.int IntKind.i64 0))),(.r (.v (Value.int IntKind.i64 0))),(.r (.v (Value.string (mk []))))]),(.one (.r (.v (Value.bool false))))]),[]))):=by kernel_rfl
def nextT (o:Option Edit):T := .tup [ofD TE (o.getD ed0),ofD .bool o.isSome]
theorem s_spec_l8Next (g:Gram) (_hg:Fit TG g) (s:Str) (_hs:Fit .str s) (f:Int) (_hf:Fit TI64 f) (hpre:(okG g&&decide (List.length s≤1000))=true):Sat Tryz.prog 54 [ofD TG g,ofD .str s,ofD TI64 f] [] (nextT (nearV (startC g) g s f)) [] :=
 fn_sound (cx:=cx_sn0) Tryz.func54 rfl ttOk Γ89ok mixed (fun c hc=>LoopsOk.all (l:=[(3,loopOf Tryz.f54 0),(7,loopOf Tryz.f54 1),(11,loopOf Tryz.f54 2),(15,loopOf Tryz.f54 3)]) (by cases hc;kernel_rfl) ⟨atLoop rfl (l_sn0 1 rfl (by kernel_rfl)),atLoop rfl (l_sn1 2 rfl (by kernel_rfl)),atLoop rfl (l_sn2 3 rfl (by kernel_rfl)),atLoop rfl (l_sn3 4 rfl (by kernel_rfl)),trivial⟩) (ro:=true) (by
  obtain⟨h1,h2⟩:=andd.1 hpre
  have h2:=dec_iff.1 h2
  have e:setS (bigIs false) (signsG g)=smallsG g:=smalls_eq h1
  have hp:pre_sn0 s f (smallsG g) 0 g ed0=true:=by
   simp only[pre_sn0,andd,dec_iff]
   have:=smalls_four (g:=g)
   exact⟨Int.le_refl 0,h2,h1,by omega⟩
  rw[y_spec_l8Next,h1,e,hp]
  show branch ((nearV (startC g) g s f).isSome) _ _=_
  cases hc:(nearV (startC g) g s f).isSome
  ·have hn:nearV (startC g) g s f=none:=nearN_none hc
   rw[hn];rfl
  ·unfold nextT
   rw[hc];rfl)
def c_spec_l8Next:Con:=conT [TG, .str,TI64] fun(g:Gram) (s:Str) (f:Int)=>(some (okG g&&decide (List.length s≤1000)),nextT (nearV (startC g) g s f))
theorem k_spec_l8Next:ConOk Tryz.prog 54 c_spec_l8Next:=conT_ok Tryz.call54 fun g hg s hs f hf hqq=>s_spec_l8Next g hg s hs f hf (pre_of hqq)
def Γ90:GL:=(54,c_spec_l8Next)::Γ89
theorem Γ90ok:GO Γ90 := .cons k_spec_l8Next Γ89ok
end
end Go.Proofs.YtmeiebnfmhddnaaGreatDoor.Ev
