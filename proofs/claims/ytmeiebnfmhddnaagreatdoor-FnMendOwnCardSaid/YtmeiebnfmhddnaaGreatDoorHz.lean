/-
  The first edit that brings a text nearer: of the reference.
-/
import Derived.Test.YtmeiebnfmhddnaaGreatDoorHu
namespace Go.Proofs.YtmeiebnfmhddnaaGreatDoor.Ev
open Go
open List (length length_append length_cons length_singleton length_replicate length_set length_take length_drop mem_cons_of_mem mem_cons_self getD replicate mem_append_left mem_append_right all_eq_true drop_eq_getElem_cons drop_eq_nil_of_le append_assoc mem_singleton getElem?_append_left getElem?_append_right getElem?_eq_none getElem?_take mem_append)
noncomputable section
def cb_sn:Cx:=cxOf Γ95 Tryz.f54.ntmps [(15,[1,2,3,6,8,9,10,13]),(11,[1,2,3,6,8,9,10,12]),(7,[1,2,3,6,8,9,10,11]),(3,[1,2,3,6,8,9])] [(0,[6]),(1,[1,2,3,6,8,9]),(6,[1,2,3,6,8,9]),(7,[1,2,3,6,8,9,10,13]),(4,[1,2,3,6,8,9,10]),(5,[1,2,3,6,8,9,10,12]),(2,[1,2,3,6,8,9,10]),(3,[1,2,3,6,8,9,10,11]),(1000000,[6,7])] [] []
abbrev st_sn3 (s:Str) (f:Int) (c:Str) (i k:Int) (g:Gram) (q:Edit) (l:List (Edit)):St:=⟨[(1,vS s),(2,vI f),(3, kp0),(6, kp1),(8,vS c),(9,vI i),(10, ko2),(13,vI k)],[(500000,some (boxD 25 TG g)),(500001,some (boxD 35 TE q)),(500002,some (.lis 35 TE l))]⟩
theorem x_spec_l8Next_3 (g:Gram) (s c:Str) (f i k:Int) (q:Edit) (l:List Edit) (R:St→Option Fin) (K:Cont):evC (cb_sn.withLoops (look [])) (loopOf Tryz.f54 3) (st_sn3 s f c i k g q l) (onward (headAt (cb_sn.withLoops (look [])) 15) R K)=(
branch (decide (k<(l.length:Int))) (
 need (inb k l.length) <|
 need (bif decide ((EdDo s (l.getD k.toNat ed0)).snd=true)then okG g&&decide ((length (EdDo s (l.getD k.toNat ed0)).fst)≤1000)else true) <|
 branch (bif (EdDo s (l.getD k.toNat ed0)).snd then decide (startC g (EdDo s (l.getD k.toNat ed0)).fst<f)else false) (
 need (inb k l.length) <| K (.ret) (.mk [(6,kp0),(7,vB true)] [(500000,(.some (.box 35 [(.r (.v (Value.int IntKind.i64 (l.getD k.toNat ed0).fst))),(.r (.v (Value.int IntKind.i64 (l.getD k.toNat ed0).snd.fst))),(.r (.v (Value.string (mk (l.getD k.toNat ed0).snd.snd))))])))])) ( R (st_sn3 s f c i (W64 (k+1)) g q l))) ( K (.exit 6) (.mk [(1,vS s),(2,vI f),(3,kp0),(6,kp1),(8,vS c),(9,vI i)] [(500000,some (boxD 25 TG g)),(500001,some (boxD 35 TE q))]))):=by kernel_rfl
def snR (g:Gram) (s c:Str) (f i:Int) (q:Edit) (K:Cont) (o:Option Edit):Option Fin:=branch o.isSome
 (K .ret ⟨[(6, kp0),(7,vB true)],[(500000,some (boxD 35 TE (o.getD ed0)))]⟩)
 (K (.exit 6) ⟨[(1,vS s),(2,vI f),(3, kp0),(6, kp1),(8,vS c),(9,vI i)],[(500000,some (boxD 25 TG g)),(500001,some (boxD 35 TE q))]⟩)
def cx0_sn3:Cx:=(cb_sn).withLoops (look [])
def sh_sn3:Sh:=([(1, .d .str),(2, .d TI64),(3, .ptr 500000 0),(6, .ptr 500001 0),(8, .d .str),(9, .d TI64),(10, .own 500002),(13, .d TI64)],[(500000, .box 25 TG),(500001, .box 35 TE),(500002, .lis 35 TE)])
def pre_sn3 (_s:Str) (_f:Int) (_c:Str) (_i k:Int) (g:Gram) (_q:Edit) (l:List (Edit)):Bool:=decide (0≤k)&&(okG g&&decide (length l≤1000))
def res_sn3 (s:Str) (f:Int) (c:Str) (i k:Int) (g:Gram) (q:Edit) (l:List (Edit)) (K:Cont):Option Fin:=snR g s c f i q K (fstE (okN (startC g) s f) (List.drop k.toNat l))
def mu_sn3 (_s:Str) (_f:Int) (_c:Str) (_i k:Int) (_g:Gram) (_q:Edit) (l:List (Edit)):Nat:=length l-k.toNat
theorem r_sn3 (s:Str) (f:Int) (c:Str) (i k:Int) (g:Gram) (q:Edit) (l:List (Edit)) (K:Cont) (hI:pre_sn3 s f c i k g q l=true):(∀R:St→Option Fin,evC cx0_sn3 (loopOf Tryz.f54 3) (st_sn3 s f c i k g q l) (onward (headAt cx0_sn3 15) R K)=res_sn3 s f c i k g q l K) ∨
  (∃(s':Str) (f':Int) (c':Str) (i' k':Int) (g':Gram) (q':Edit) (l':List (Edit)),pre_sn3 s' f' c' i' k' g' q' l'=true∧mu_sn3 s' f' c' i' k' g' q' l'<mu_sn3 s f c i k g q l∧res_sn3 s' f' c' i' k' g' q' l' K=res_sn3 s f c i k g q l K∧∀R:St→Option Fin,evC cx0_sn3 (loopOf Tryz.f54 3) (st_sn3 s f c i k g q l) (onward (headAt cx0_sn3 15) R K)=R (st_sn3 s' f' c' i' k' g' q' l')):=by
 have hx:=fun R=>x_spec_l8Next_3 g s c f i k q l R K;simp only[pre_sn3,andd,dec_iff]at hI;obtain⟨h0,h2,h3⟩:=hI
 by_cases hk:k<(length l:Int)
 ·have w:W64 (k+1)=k+1:=wrap_small (by omega) (by omega);have hd:=dropE_at h0 hk;have kk:(bif decide ((EdDo s (getD l k.toNat ed0)).2=true)then okG g&&decide ((length (EdDo s (getD l k.toNat ed0)).1)≤1000)else true)=true:=by
   cases hb:(EdDo s (getD l k.toNat ed0)).2
   ·rfl
   ·have:=(EdDo_short hb).2;exact andd.2 ⟨h2,zT (by omega)⟩
  rw[zT hk,inb_ok h0 hk,kk,w]at hx;change ∀R:St→Option Fin,_=branch (okN (startC g) s f (getD l k.toNat ed0)) _ _ at hx;have hf:fstE (okN (startC g) s f) (List.drop k.toNat l)=bif okN (startC g) s f (getD l k.toNat ed0)then some (getD l k.toNat ed0)else fstE (okN (startC g) s f) (List.drop (k+1).toNat l):=by rw[hd];rfl
  cases hc:okN (startC g) s f (getD l k.toNat ed0)
  ·rw[hc]at hx hf;right;refine⟨s,f,c,i,k+1,g,q,l, ?_, ?_, ?_,fun R=>hx R⟩
   ·simp only[pre_sn3,andd,dec_iff];exact⟨by omega,h2,h3⟩
   ·simp only[mu_sn3];omega
   ·simp only[res_sn3,hf];rfl
  ·rw[hc]at hx hf;left;intro R;refine(hx R).trans ?_;simp only[res_sn3,hf];rfl
 ·left;intro R;refine(hx R).trans ?_;rw[zF hk];have e:List.drop k.toNat l=[]:=drop_eq_nil_of_le (by omega);simp only[res_sn3,e];rfl
def g_sn3:St→Cont→Option Fin:=gP sh_sn3 (fun v=>match v with | ((s,f,c,i,k,()),(g,q,l,()))=>pre_sn3 s f c i k g q l) (fun v K=>match v with | ((s,f,c,i,k,()),(g,q,l,()))=>res_sn3 s f c i k g q l K)
def L_sn3:LpL:=(15,g_sn3)::[]
theorem l_sn3 {L:LpL} (n:Nat) (h1:L.drop n=[]) (h2:idsFree (L.take n) (loopOf Tryz.f54 3)=true):LoopsTo g_sn3 (cb_sn) (loopOf Tryz.f54 3) 15 L :=
 with_drop h1 h2 (gP_ok (fun v=>match v with | ((s,f,c,i,k,()),(g,q,l,()))=>mu_sn3 s f c i k g q l) fun v K hI=>by
  obtain⟨⟨s,f,c,i,k,⟨⟩⟩,⟨g,q,l,⟨⟩⟩⟩:=v;exact(r_sn3 s f c i k g q l K hI).imp id fun⟨s',f',c',i',k',g',q',l',h⟩=>⟨((s',f',c',i',k',()),(g',q',l',())),h⟩)
abbrev st_sn2 (s:Str) (f:Int) (c:Str) (i k:Int) (g:Gram) (q:Edit) (l:List (Edit)):St:=⟨[(1,vS s),(2,vI f),(3, kp0),(6, kp1),(8,vS c),(9,vI i),(10, ko2),(12,vI k)],[(500000,some (boxD 25 TG g)),(500001,some (boxD 35 TE q)),(500002,some (.lis 35 TE l))]⟩
theorem x_spec_l8Next_2 (g:Gram) (s c:Str) (f i k:Int) (q:Edit) (l:List Edit) (R:St→Option Fin) (K:Cont):evC (cb_sn.withLoops (look L_sn3)) (loopOf Tryz.f54 2) (st_sn2 s f c i k g q l) (onward (headAt (cb_sn.withLoops (look L_sn3)) 11) R K)=(
branch (decide (k<(c.length:Int))) (
 need (inr k (W64 (k+1)) c.length) <|
 need (fits (l.length+[(1,i,List.take ((W64 (k+1)).toNat-k.toNat) (List.drop k.toNat c))].length) Tryz.t35.bytes) <| R (st_sn2 s f c i (W64 (k+1)) g q (l.append [(1,i,List.take ((W64 (k+1)).toNat-k.toNat) (List.drop k.toNat c))]))) ( K (.exit 4) (.mk [(1,vS s),(2,vI f),(3,kp0),(6,kp1),(8,vS c),(9,vI i),(10,ko2)] [(500000,some (boxD 25 TG g)),(500001,some (boxD 35 TE q)),(500002,some (.lis 35 TE l))]))):=by kernel_rfl
def cx0_sn2:Cx:=(cb_sn).withLoops (look L_sn3)
def sh_sn2:Sh:=([(1, .d .str),(2, .d TI64),(3, .ptr 500000 0),(6, .ptr 500001 0),(8, .d .str),(9, .d TI64),(10, .own 500002),(12, .d TI64)],[(500000, .box 25 TG),(500001, .box 35 TE),(500002, .lis 35 TE)])
def pre_sn2 (_s:Str) (_f:Int) (c:Str) (_i k:Int) (_g:Gram) (_q:Edit) (l:List (Edit)):Bool:=decide (0≤k)&&(decide (length c≤10)&&decide ((length l:Int)+length c-k≤1000))
def res_sn2 (s:Str) (f:Int) (c:Str) (i k:Int) (g:Gram) (q:Edit) (l:List (Edit)) (K:Cont):Option Fin:=K (.exit 4) ⟨[(1,vS s),(2,vI f),(3, kp0),(6, kp1),(8,vS c),(9,vI i),(10, ko2)],[(500000,some (boxD 25 TG g)),(500001,some (boxD 35 TE q)),(500002,some (.lis 35 TE (l++addE i (List.drop k.toNat c) 1)))]⟩
def mu_sn2 (_s:Str) (_f:Int) (c:Str) (_i k:Int) (_g:Gram) (_q:Edit) (_l:List (Edit)):Nat:=length c-k.toNat
theorem r_sn2 (s:Str) (f:Int) (c:Str) (i k:Int) (g:Gram) (q:Edit) (l:List (Edit)) (K:Cont) (hI:pre_sn2 s f c i k g q l=true):(∀R:St→Option Fin,evC cx0_sn2 (loopOf Tryz.f54 2) (st_sn2 s f c i k g q l) (onward (headAt cx0_sn2 11) R K)=res_sn2 s f c i k g q l K) ∨
  (∃(s':Str) (f':Int) (c':Str) (i' k':Int) (g':Gram) (q':Edit) (l':List (Edit)),pre_sn2 s' f' c' i' k' g' q' l'=true∧mu_sn2 s' f' c' i' k' g' q' l'<mu_sn2 s f c i k g q l∧res_sn2 s' f' c' i' k' g' q' l' K=res_sn2 s f c i k g q l K∧∀R:St→Option Fin,evC cx0_sn2 (loopOf Tryz.f54 2) (st_sn2 s f c i k g q l) (onward (headAt cx0_sn2 11) R K)=R (st_sn2 s' f' c' i' k' g' q' l')):=by
 have hx:=fun R=>x_spec_l8Next_2 g s c f i k q l R K;simp only[pre_sn2,andd,dec_iff]at hI;obtain⟨h0,h2,h3⟩:=hI
 by_cases hk:k<(length c:Int)
 ·have w:W64 (k+1)=k+1:=wrap_small (by omega) (by omega);have hd:l++addE i (List.drop k.toNat c) 1=(l++[((1,i,[getD c k.toNat 0]):Edit)])++addE i (List.drop (k+1).toNat c) 1:=by
   rw[dropC_at h0 hk,append_assoc];rfl
  rw[zT hk,w,inr_iff.2 (by omega:0≤k∧k≤k+1∧k+1≤(length c:Int)),slice_one h0 hk,editFits (by rw[length_singleton];omega)]at hx;right;refine⟨s,f,c,i,k+1,g,q,l++[((1,i,[getD c k.toNat 0]):Edit)], ?_, ?_, ?_,fun R=>hx R⟩
  ·simp only[pre_sn2,andd,dec_iff];rw[length_append,length_singleton];exact⟨by omega,h2,by omega⟩
  ·simp only[mu_sn2];omega
  ·simp only[res_sn2,hd]
 ·left;intro R;refine(hx R).trans ?_;rw[zF hk];have e:l++addE i (List.drop k.toNat c) 1=l:=by
   rw[drop_eq_nil_of_le (by omega)];exact List.append_nil l
  simp only[res_sn2,e];rfl
def g_sn2:St→Cont→Option Fin:=gP sh_sn2 (fun v=>match v with | ((s,f,c,i,k,()),(g,q,l,()))=>pre_sn2 s f c i k g q l) (fun v K=>match v with | ((s,f,c,i,k,()),(g,q,l,()))=>res_sn2 s f c i k g q l K)
def L_sn2:LpL:=(11,g_sn2)::L_sn3
theorem l_sn2 {L:LpL} (n:Nat) (h1:L.drop n=L_sn3) (h2:idsFree (L.take n) (loopOf Tryz.f54 2)=true):LoopsTo g_sn2 (cb_sn) (loopOf Tryz.f54 2) 11 L :=
 with_drop h1 h2 (gP_ok (fun v=>match v with | ((s,f,c,i,k,()),(g,q,l,()))=>mu_sn2 s f c i k g q l) fun v K hI=>by
  obtain⟨⟨s,f,c,i,k,⟨⟩⟩,⟨g,q,l,⟨⟩⟩⟩:=v;exact(r_sn2 s f c i k g q l K hI).imp id fun⟨s',f',c',i',k',g',q',l',h⟩=>⟨((s',f',c',i',k',()),(g',q',l',())),h⟩)
abbrev st_sn1 (s:Str) (f:Int) (c:Str) (i k:Int) (g:Gram) (q:Edit) (l:List (Edit)):St:=⟨[(1,vS s),(2,vI f),(3, kp0),(6, kp1),(8,vS c),(9,vI i),(10, ko2),(11,vI k)],[(500000,some (boxD 25 TG g)),(500001,some (boxD 35 TE q)),(500002,some (.lis 35 TE l))]⟩
theorem x_spec_l8Next_1 (g:Gram) (s c:Str) (f i k:Int) (q:Edit) (l:List Edit) (R:St→Option Fin) (K:Cont):evC (cb_sn.withLoops (look L_sn2)) (loopOf Tryz.f54 1) (st_sn1 s f c i k g q l) (onward (headAt (cb_sn.withLoops (look L_sn2)) 7) R K)=(
branch (decide (k<(c.length:Int))) (
 need (inr k (W64 (k+1)) c.length) <|
 need (fits (l.length+[(3,i,List.take ((W64 (k+1)).toNat-k.toNat) (List.drop k.toNat c))].length) Tryz.t35.bytes) <| R (st_sn1 s f c i (W64 (k+1)) g q (l.append [(3,i,List.take ((W64 (k+1)).toNat-k.toNat) (List.drop k.toNat c))]))) ( K (.exit 2) (.mk [(1,vS s),(2,vI f),(3,kp0),(6,kp1),(8,vS c),(9,vI i),(10,ko2)] [(500000,some (boxD 25 TG g)),(500001,some (boxD 35 TE q)),(500002,some (.lis 35 TE l))]))):=by kernel_rfl
def cx0_sn1:Cx:=(cb_sn).withLoops (look L_sn2)
def sh_sn1:Sh:=([(1, .d .str),(2, .d TI64),(3, .ptr 500000 0),(6, .ptr 500001 0),(8, .d .str),(9, .d TI64),(10, .own 500002),(11, .d TI64)],[(500000, .box 25 TG),(500001, .box 35 TE),(500002, .lis 35 TE)])
def pre_sn1 (_s:Str) (_f:Int) (c:Str) (_i k:Int) (_g:Gram) (_q:Edit) (l:List (Edit)):Bool:=decide (0≤k)&&(decide (length c≤10)&&decide ((length l:Int)+length c-k≤1000))
def res_sn1 (s:Str) (f:Int) (c:Str) (i k:Int) (g:Gram) (q:Edit) (l:List (Edit)) (K:Cont):Option Fin:=K (.exit 2) ⟨[(1,vS s),(2,vI f),(3, kp0),(6, kp1),(8,vS c),(9,vI i),(10, ko2)],[(500000,some (boxD 25 TG g)),(500001,some (boxD 35 TE q)),(500002,some (.lis 35 TE (l++addE i (List.drop k.toNat c) 3)))]⟩
def mu_sn1 (_s:Str) (_f:Int) (c:Str) (_i k:Int) (_g:Gram) (_q:Edit) (_l:List (Edit)):Nat:=length c-k.toNat
theorem r_sn1 (s:Str) (f:Int) (c:Str) (i k:Int) (g:Gram) (q:Edit) (l:List (Edit)) (K:Cont) (hI:pre_sn1 s f c i k g q l=true):(∀R:St→Option Fin,evC cx0_sn1 (loopOf Tryz.f54 1) (st_sn1 s f c i k g q l) (onward (headAt cx0_sn1 7) R K)=res_sn1 s f c i k g q l K) ∨
  (∃(s':Str) (f':Int) (c':Str) (i' k':Int) (g':Gram) (q':Edit) (l':List (Edit)),pre_sn1 s' f' c' i' k' g' q' l'=true∧mu_sn1 s' f' c' i' k' g' q' l'<mu_sn1 s f c i k g q l∧res_sn1 s' f' c' i' k' g' q' l' K=res_sn1 s f c i k g q l K∧∀R:St→Option Fin,evC cx0_sn1 (loopOf Tryz.f54 1) (st_sn1 s f c i k g q l) (onward (headAt cx0_sn1 7) R K)=R (st_sn1 s' f' c' i' k' g' q' l')):=by
 have hx:=fun R=>x_spec_l8Next_1 g s c f i k q l R K;simp only[pre_sn1,andd,dec_iff]at hI;obtain⟨h0,h2,h3⟩:=hI
 by_cases hk:k<(length c:Int)
 ·have w:W64 (k+1)=k+1:=wrap_small (by omega) (by omega);have hd:l++addE i (List.drop k.toNat c) 3=(l++[((3,i,[getD c k.toNat 0]):Edit)])++addE i (List.drop (k+1).toNat c) 3:=by
   rw[dropC_at h0 hk,append_assoc];rfl
  rw[zT hk,w,inr_iff.2 (by omega:0≤k∧k≤k+1∧k+1≤(length c:Int)),slice_one h0 hk,editFits (by rw[length_singleton];omega)]at hx;right;refine⟨s,f,c,i,k+1,g,q,l++[((3,i,[getD c k.toNat 0]):Edit)], ?_, ?_, ?_,fun R=>hx R⟩
  ·simp only[pre_sn1,andd,dec_iff];rw[length_append,length_singleton];exact⟨by omega,h2,by omega⟩
  ·simp only[mu_sn1];omega
  ·simp only[res_sn1,hd]
 ·left;intro R;refine(hx R).trans ?_;rw[zF hk];have e:l++addE i (List.drop k.toNat c) 3=l:=by
   rw[drop_eq_nil_of_le (by omega)];exact List.append_nil l
  simp only[res_sn1,e];rfl
def g_sn1:St→Cont→Option Fin:=gP sh_sn1 (fun v=>match v with | ((s,f,c,i,k,()),(g,q,l,()))=>pre_sn1 s f c i k g q l) (fun v K=>match v with | ((s,f,c,i,k,()),(g,q,l,()))=>res_sn1 s f c i k g q l K)
def L_sn1:LpL:=(7,g_sn1)::L_sn2
theorem l_sn1 {L:LpL} (n:Nat) (h1:L.drop n=L_sn2) (h2:idsFree (L.take n) (loopOf Tryz.f54 1)=true):LoopsTo g_sn1 (cb_sn) (loopOf Tryz.f54 1) 7 L :=
 with_drop h1 h2 (gP_ok (fun v=>match v with | ((s,f,c,i,k,()),(g,q,l,()))=>mu_sn1 s f c i k g q l) fun v K hI=>by
  obtain⟨⟨s,f,c,i,k,⟨⟩⟩,⟨g,q,l,⟨⟩⟩⟩:=v;exact(r_sn1 s f c i k g q l K hI).imp id fun⟨s',f',c',i',k',g',q',l',h⟩=>⟨((s',f',c',i',k',()),(g',q',l',())),h⟩)
theorem editsE_eq {i:Int} {c:Str}:editsE i c=([((2,i,[]):Edit)]++addE i c 3)++addE i c 1:=by
 show((2,i,[]):Edit)::(addE i c 3++(addE i c 1++[]))=_;rw[List.append_nil];rfl
abbrev st_sn0 (s:Str) (f:Int) (c:Str) (i:Int) (g:Gram) (q:Edit):St:=⟨[(1,vS s),(2,vI f),(3, kp0),(6, kp1),(8,vS c),(9,vI i)],[(500000,some (boxD 25 TG g)),(500001,some (boxD 35 TE q))]⟩
theorem x_spec_l8Next (g:Gram) (s c:Str) (f i:Int) (q:Edit) (R:St→Option Fin) (K:Cont):evC (cb_sn.withLoops (look L_sn1)) (loopOf Tryz.f54 0) (st_sn0 s f c i g q) (onward (headAt (cb_sn.withLoops (look L_sn1)) 3) R K)=(
branch (decide (i≤(s.length:Int))) (
 need (pre_sn1 s f c i 0 g q [((2,i,[]):Edit)]) <|
 need (pre_sn2 s f c i 0 g q ([((2,i,[]):Edit)]++addE i c 3)) <|
 need (pre_sn3 s f c i 0 g q (([((2,i,[]):Edit)]++addE i c 3)++addE i c 1)) <|
 branch ((fstE (okN (startC g) s f) (([((2,i,[]):Edit)]++addE i c 3)++addE i c 1)).isSome) (K .ret ⟨[(6, kp0),(7,vB true)],[(500000,some (boxD 35 TE ((fstE (okN (startC g) s f) (([((2,i,[]):Edit)]++addE i c 3)++addE i c 1)).getD ed0)))]⟩) (R (st_sn0 s f c (W64 (i+1)) g q))) (K (.exit 0) ⟨[(6, kp0)],[(500000,some (boxD 35 TE q))]⟩)):=by kernel_rfl
def cx0_sn0:Cx:=(cb_sn).withLoops (look L_sn1)
def sh_sn0:Sh:=([(1, .d .str),(2, .d TI64),(3, .ptr 500000 0),(6, .ptr 500001 0),(8, .d .str),(9, .d TI64)],[(500000, .box 25 TG),(500001, .box 35 TE)])
def pre_sn0 (s:Str) (_f:Int) (c:Str) (i:Int) (g:Gram) (_q:Edit):Bool:=decide (0≤i)&&(decide (length s≤1000)&&(okG g&&decide (length c≤10)))
def res_sn0 (s:Str) (f:Int) (c:Str) (i:Int) (g:Gram) (q:Edit) (K:Cont):Option Fin:=branch ((nearN (okN (startC g) s f) c (length s+1-i.toNat) i).isSome) (K .ret ⟨[(6, kp0),(7,vB true)],[(500000,some (boxD 35 TE ((nearN (okN (startC g) s f) c (length s+1-i.toNat) i).getD ed0)))]⟩) (K (.exit 0) ⟨[(6, kp0)],[(500000,some (boxD 35 TE q))]⟩)
def mu_sn0 (s:Str) (_f:Int) (_c:Str) (i:Int) (_g:Gram) (_q:Edit):Nat:=length s+1-i.toNat
theorem r_sn0 (s:Str) (f:Int) (c:Str) (i:Int) (g:Gram) (q:Edit) (K:Cont) (hI:pre_sn0 s f c i g q=true):(∀R:St→Option Fin,evC cx0_sn0 (loopOf Tryz.f54 0) (st_sn0 s f c i g q) (onward (headAt cx0_sn0 3) R K)=res_sn0 s f c i g q K) ∨
  (∃(s':Str) (f':Int) (c':Str) (i':Int) (g':Gram) (q':Edit),pre_sn0 s' f' c' i' g' q'=true∧mu_sn0 s' f' c' i' g' q'<mu_sn0 s f c i g q∧res_sn0 s' f' c' i' g' q' K=res_sn0 s f c i g q K∧∀R:St→Option Fin,evC cx0_sn0 (loopOf Tryz.f54 0) (st_sn0 s f c i g q) (onward (headAt cx0_sn0 3) R K)=R (st_sn0 s' f' c' i' g' q')):=by
 have hx:=fun R=>x_spec_l8Next g s c f i q R K;simp only[pre_sn0,andd,dec_iff]at hI;obtain⟨h0,h1,h2,h3⟩:=hI
 by_cases hi:i≤(length s:Int)
 ·have w:W64 (i+1)=i+1:=wrap_small (by omega) (by omega);obtain⟨m,hm⟩:∃m,length s+1-i.toNat=m+1:=⟨length s-i.toNat,by omega⟩;have hm2:length s+1-(i+1).toNat=m:=by omega
  have p1:pre_sn1 s f c i 0 g q [((2,i,[]):Edit)]=true:=by
   simp only[pre_sn1,andd,dec_iff];exact⟨Int.le_refl 0,h3,by rw[length_singleton];omega⟩
  have p2:pre_sn2 s f c i 0 g q ([((2,i,[]):Edit)]++addE i c 3)=true:=by
   simp only[pre_sn2,andd,dec_iff];exact⟨Int.le_refl 0,h3,by rw[length_append,length_singleton,addE_len];omega⟩
  have p3:pre_sn3 s f c i 0 g q (([((2,i,[]):Edit)]++addE i c 3)++addE i c 1)=true:=by
   simp only[pre_sn3,andd,dec_iff];exact⟨Int.le_refl 0,h2,by rw[← editsE_eq,editsE_len];omega⟩
  have hn:nearN (okN (startC g) s f) c (m+1) i=bif (fstE (okN (startC g) s f) (editsE i c)).isSome then fstE (okN (startC g) s f) (editsE i c)else nearN (okN (startC g) s f) c m (i+1):=rfl;rw[zT hi,p1,p2,p3,w,← editsE_eq]at hx
  cases hc:(fstE (okN (startC g) s f) (editsE i c)).isSome
  ·rw[hc]at hx hn;right;refine⟨s,f,c,i+1,g,q, ?_, ?_, ?_,fun R=>hx R⟩
   ·simp only[pre_sn0,andd,dec_iff];exact⟨by omega,h1,h2,h3⟩
   ·simp only[mu_sn0];omega
   ·simp only[res_sn0,hm,hm2,hn];rfl
  ·rw[hc]at hx hn;left;intro R;refine(hx R).trans ?_;simp only[res_sn0,hm,hn,cond_true,hc];rfl
 ·left;intro R;refine(hx R).trans ?_;rw[zF hi];have e:length s+1-i.toNat=0:=by omega
  simp only[res_sn0,e];rfl
def g_sn0:St→Cont→Option Fin:=gP sh_sn0 (fun v=>match v with | ((s,f,c,i,()),(g,q,()))=>pre_sn0 s f c i g q) (fun v K=>match v with | ((s,f,c,i,()),(g,q,()))=>res_sn0 s f c i g q K)
def L_sn0:LpL:=(3,g_sn0)::L_sn1
def cx_sn0:Cx:=(cb_sn).withLoops (look L_sn0)
theorem l_sn0 {L:LpL} (n:Nat) (h1:L.drop n=L_sn1) (h2:idsFree (L.take n) (loopOf Tryz.f54 0)=true):LoopsTo g_sn0 (cb_sn) (loopOf Tryz.f54 0) 3 L :=
 with_drop h1 h2 (gP_ok (fun v=>match v with | ((s,f,c,i,()),(g,q,()))=>mu_sn0 s f c i g q) fun v K hI=>by
  obtain⟨⟨s,f,c,i,⟨⟩⟩,⟨g,q,⟨⟩⟩⟩:=v;exact(r_sn0 s f c i g q K hI).imp id fun⟨s',f',c',i',g',q',h⟩=>⟨((s',f',c',i',()),(g',q',())),h⟩)
theorem y_spec_l8Next (g:Gram) (s:Str) (f:Int):evFn cx_sn0 Tryz.f54 true [ofD TG g,ofD .str s,ofD TI64 f] []=(
need (okG g) <|
need (pre_sn0 s f (setS (bigIs false) (signsG g)) 0 g (0,0,([]:Str))) <|
branch ((nearN (okN (startC g) s f) (setS (bigIs false) (signsG g)) (length s+1-(0:Int).toNat) 0).isSome) ( some ((.tup [(.agg [(.r (.v (Value.int IntKind.i64 ((nearN (okN (startC g) s f) (setS (bigIs false) (signsG g)) (length s+1-(0:Int).toNat) 0).getD ed0).fst))),(.r (.v (Value.int IntKind.i64 ((nearN (okN (startC g) s f) (setS (bigIs false) (signsG g)) (length s+1-(0:Int).toNat) 0).getD ed0).snd.fst))),(.r (.v (Value.string (mk ((nearN (okN (startC g) s f) (setS (bigIs false) (signsG g)) (length s+1-(0:Int).toNat) 0).getD ed0).snd.snd))))]),(.one (.r (.v (Value.bool true))))]),[])) ( some ((.tup [(.agg [(.r (.v (Value.int IntKind.i64 0))),(.r (.v (Value.int IntKind.i64 0))),(.r (.v (Value.string (mk []))))]),(.one (.r (.v (Value.bool false))))]),[]))):=by kernel_rfl
def nextT (o:Option Edit):T := .tup [ofD TE (o.getD ed0),ofD .bool o.isSome]
theorem s_spec_l8Next (g:Gram) (_hg:Fit TG g) (s:Str) (_hs:Fit .str s) (f:Int) (_hf:Fit TI64 f) (hpre:(okG g&&decide (length s≤1000))=true):Sat Tryz.prog 54 [ofD TG g,ofD .str s,ofD TI64 f] [] (nextT (nearV (startC g) g s f)) [] :=
 fn_sound (cx:=cx_sn0) Tryz.func54 rfl ttOk Γ95ok mixed (fun c hc=>LoopsOk.all (l:=[(3,loopOf Tryz.f54 0),(7,loopOf Tryz.f54 1),(11,loopOf Tryz.f54 2),(15,loopOf Tryz.f54 3)]) (by cases hc;kernel_rfl) ⟨atLoop rfl (l_sn0 1 rfl (by kernel_rfl)),atLoop rfl (l_sn1 2 rfl (by kernel_rfl)),atLoop rfl (l_sn2 3 rfl (by kernel_rfl)),atLoop rfl (l_sn3 4 rfl (by kernel_rfl)),trivial⟩) (ro:=true) (by
  obtain⟨h1,h2⟩:=andd.1 hpre;have h2:=dec_iff.1 h2;have e:setS (bigIs false) (signsG g)=smallsG g:=smalls_eq h1;have hp:pre_sn0 s f (smallsG g) 0 g ed0=true:=by
   simp only[pre_sn0,andd,dec_iff];have:=smalls_four (g:=g);exact⟨Int.le_refl 0,h2,h1,by omega⟩
  rw[y_spec_l8Next,h1,e,hp];show branch ((nearV (startC g) g s f).isSome) _ _=_
  cases hc:(nearV (startC g) g s f).isSome
  ·have hn:nearV (startC g) g s f=none:=nearN_none hc;rw[hn];rfl
  ·unfold nextT;rw[hc];rfl)
def c_spec_l8Next:Con:=conT [TG, .str,TI64] fun(g:Gram) (s:Str) (f:Int)=>(some (okG g&&decide (length s≤1000)),nextT (nearV (startC g) g s f))
theorem k_spec_l8Next:ConOk Tryz.prog 54 c_spec_l8Next:=conT_ok Tryz.call54 fun g hg s hs f hf hqq=>s_spec_l8Next g hg s hs f hf (pre_of hqq)
def Γ96:GL:=(54,c_spec_l8Next)::Γ95
theorem Γ96ok:GO Γ96 := .cons k_spec_l8Next Γ95ok
def nextV (g:Gram) (s:Str):Option Edit:=bif decide (mendV g s≤0)then none else nearV (farV g) g s (mendV g s)
theorem y_impl_MendNext2 (g:Gram) (s:Str):evFn (cxOf Γ96 Tryz.f19.ntmps [] [] [] []) Tryz.f19 true [ofD TG g,ofD .str s] []=(
branch (decide (mendV g s≤0)) ( some ((.tup [(.agg [(.r (.v (Value.int IntKind.i64 0))),(.r (.v (Value.int IntKind.i64 0))),(.r (.v (Value.string (mk []))))]),(.one (.r (.v (Value.bool false))))]),[])) (
 need (okG g&&decide (s.length≤1000)) <| some ((.tup [(.agg [(.r (.v (Value.int IntKind.i64 ((nearV (farV g) g s (mendV g s)).getD ed0).fst))),(.r (.v (Value.int IntKind.i64 ((nearV (farV g) g s (mendV g s)).getD ed0).snd.fst))),(.r (.v (Value.string (mk ((nearV (farV g) g s (mendV g s)).getD ed0).snd.snd))))]),(.one (.r (.v (Value.bool (nearV (farV g) g s (mendV g s)).isSome))))]),[]))):=by kernel_rfl
theorem s_impl_MendNext (g:Gram) (_hg:Fit TG g) (s:Str) (_hs:Fit .str s):Sat Tryz.prog 19 [ofD TG g,ofD .str s] [] (nextT (nextV g s)) [] :=
 fn_sound (cx:=cxOf Γ96 Tryz.f19.ntmps [] [] [] []) Tryz.func19 rfl ttOk Γ96ok mixed (fun _ _=>LoopsOk.no fun _=>rfl) (ro:=true) (by
  rw[y_impl_MendNext2];unfold nextV
  cases hd:decide (mendV g s≤0)
  ·have hd:=of_decide_eq_false hd;rcases mend_cases (g:=g) (s:=s)with⟨h1,_⟩ | ⟨_,_,_,_,h5,h6,_⟩
   ·omega
   ·rw[h5,zT (by omega:length s≤1000)];rfl
  ·rfl)
noncomputable def c_impl_MendNext:Con:=conT [TG, .str] fun(g:Gram) (s:Str)=>(none,nextT (nextV g s))
theorem k_impl_MendNext:ConOk Tryz.prog 19 c_impl_MendNext:=conT_ok Tryz.call19 fun g hg s hs _=>s_impl_MendNext g hg s hs
noncomputable def Γ97:GL:=(19,c_impl_MendNext)::Γ96
theorem Γ97ok:GO Γ97 := .cons k_impl_MendNext Γ96ok
theorem near_same {g:Gram} {s:Str} {f:Int} (h:okG g=true) (hp:prodG g):nearV (farV g) g s f=nearV (startC g) g s f:=by
 have:okN (farV g) s f=okN (startC g) s f:=by
  funext e
  unfold okN
  cases hb:(EdDo s e).2
  ·rfl
  ·have:=(EdDo_short hb).2;rw[(far_both h (by omega:length (EdDo s e).1≤1000) hp).1]
 unfold nearV;rw[this]
theorem fstE_some {p:Edit→Bool}:∀ {l:List Edit} {e:Edit},fstE p l=some e→p e=true∧e∈l
 | [],e,h=>by cases h
 |a::l,e,h=>by
  have h:(bif p a then some a else fstE p l)=some e:=h
  cases hp:p a
  ·rw[hp]at h;obtain⟨h1,h2⟩:=fstE_some (l:=l) h;exact⟨h1,mem_cons_of_mem _ h2⟩
  ·rw[hp]at h
   cases h
   exact⟨hp,mem_cons_self⟩
theorem nearN_some {p:Edit→Bool} {c:Str}:∀ {n:Nat} {i:Int} {e:Edit},nearN p c n i=some e→p e=true
 |0,_,_,h=>by cases h
 |n+1,i,e,h=>by
  have h:(bif (fstE p (editsE i c)).isSome then fstE p (editsE i c)else nearN p c n (i+1))=some e:=h
  cases hc:(fstE p (editsE i c)).isSome
  ·rw[hc]at h;exact nearN_some h
  ·rw[hc]at h;exact (fstE_some h).1
theorem far_dec {g:Gram} {s:Str} {e:Edit} {f:Int} (h:okG g=true) (hs:length s≤1000) (hp:prodG g) (hf:f=farV g s) (ho:okN (farV g) s f e=true):(EdDo s e).2=true∧farV g (EdDo s e).1=f-1:=by
 unfold okN at ho
 cases hb:(EdDo s e).2
 ·rw[hb]at ho;cases ho
 ·rw[hb,cond_true]at ho;have ho:=of_decide_eq_true ho;have h1:=edit_one hb;have h2:=(EdDo_short hb).2;obtain⟨_,h3⟩:=far_step h hs (by omega:length (EdDo s e).1≤1000) hp h1.ed h1.de;exact⟨rfl,by omega⟩
abbrev TEL:Ty:=ty40
def cb_run:Cx:=cxOf Γ97 Tryz.f23.ntmps [(5,[1,2,7,8])] [(0,[1,8]),(1,[1,2,7,8]),(1000000,[4,5,6])] [] []
abbrev st_run (s:Str) (f:Int) (g:Gram) (l:List (Edit)):St:=⟨[(1,vS s),(2, kp0),(7,vI f),(8, ko1)],[(500000,some (boxD 25 TG g)),(500001,some (.lis 35 TE l))]⟩
theorem x_impl_MendRun (g:Gram) (s:Str) (f:Int) (l:List Edit) (R:St→Option Fin) (K:Cont):evC (cb_run.withLoops (look [])) (loopOf Tryz.f23 0) (st_run s f g l) (onward (headAt (cb_run.withLoops (look [])) 5) R K)=(
branch (decide (0<f)) (
 need (okG g&&decide (s.length≤1000)) <|
 branch (!(nearV (farV g) g s f).isSome) ( K (.ret) (.mk [(4,(.d (.one (.r (.v (Value.slice none 0 0)))))),(5,vS []),(6,vB false)] [])) (
 need (fits (l.length+[(nearV (farV g) g s f).getD ed0].length) Tryz.t35.bytes) <|
 need (okRd g.snd&&decide ((length (bif (nearV (farV g) g s f).isSome then(EdDo s ((nearV (farV g) g s f).getD ed0)).fst else []))≤1000)) <| R (st_run (bif (nearV (farV g) g s f).isSome then(EdDo s ((nearV (farV g) g s f).getD ed0)).fst else []) (dofV (bif (nearV (farV g) g s f).isSome then(EdDo s ((nearV (farV g) g s f).getD ed0)).fst else []) (distM (bif (nearV (farV g) g s f).isSome then(EdDo s ((nearV (farV g) g s f).getD ed0)).fst else []) g.snd) g.fst 0 (length (bif (nearV (farV g) g s f).isSome then(EdDo s ((nearV (farV g) g s f).getD ed0)).fst else []):Int)) g (l.append [(nearV (farV g) g s f).getD ed0])))) ( K (.exit 0) (.mk [(1,vS s),(8,ko0)] [(500000,some (.lis 35 TE l))]))):=by kernel_rfl
def prodB (g:Gram):Bool:=inS (growV g.2 true 0 []) (byteAt g.1 0)
theorem prodB_iff {g:Gram} (h:okG g=true):prodB g=true↔prodG g:=by
 obtain⟨c,e,_⟩:=bigS_one (okG_big h);unfold prodB prodG;rw[e];exact grow_prod (andd.1 (okLf_G h)).2
def runN (F:Str→Int) (g:Gram):Nat→Str→List Edit→List Edit×Str×Bool
 |0,s,l=>(l,s,true)
 |n+1,s,l=>bif (nearV F g s ((n:Int)+1)).isSome then runN F g n (EdDo s ((nearV F g s ((n:Int)+1)).getD ed0)).1 (l++[(nearV F g s ((n:Int)+1)).getD ed0])else([],[],false)
theorem getD_some {α:Type} {o:Option α} {d:α} (h:o.isSome=true):o=some (o.getD d):=by
 cases o with
 |none=>cases h
 |some x=>rfl
def cx0_run:Cx:=(cb_run).withLoops (look [])
def sh_run:Sh:=([(1, .d .str),(2, .ptr 500000 0),(7, .d TI64),(8, .own 500001)],[(500000, .box 25 TG),(500001, .lis 35 TE)])
def pre_run (s:Str) (f:Int) (g:Gram) (l:List (Edit)):Bool:=okG g&&(prodB g&&(decide (length s≤1000)&&(decide (0≤f)&&(decide (f=farV g s)&&decide ((length l:Int)+f≤1000)))))
def res_run (s:Str) (f:Int) (g:Gram) (l:List (Edit)) (K:Cont):Option Fin:=branch (runN (farV g) g f.toNat s l).2.2 (K (.exit 0) ⟨[(1,vS (runN (farV g) g f.toNat s l).2.1),(8, ko0)],[(500000,some (.lis 35 TE (runN (farV g) g f.toNat s l).1))]⟩) (K .ret ⟨[(4, .d (.one (.r (.v (.slice none 0 0))))),(5,vS []),(6,vB false)],[]⟩)
def mu_run (_s:Str) (f:Int) (_g:Gram) (_l:List (Edit)):Nat:=f.toNat
theorem r_run (s:Str) (f:Int) (g:Gram) (l:List (Edit)) (K:Cont) (hI:pre_run s f g l=true):(∀R:St→Option Fin,evC cx0_run (loopOf Tryz.f23 0) (st_run s f g l) (onward (headAt cx0_run 5) R K)=res_run s f g l K) ∨
  (∃(s':Str) (f':Int) (g':Gram) (l':List (Edit)),pre_run s' f' g' l'=true∧mu_run s' f' g' l'<mu_run s f g l∧res_run s' f' g' l' K=res_run s f g l K∧∀R:St→Option Fin,evC cx0_run (loopOf Tryz.f23 0) (st_run s f g l) (onward (headAt cx0_run 5) R K)=R (st_run s' f' g' l')):=by
 have hx:=fun R=>x_impl_MendRun g s f l R K;simp only[pre_run,andd,dec_iff]at hI;obtain⟨h0,h1,h2,h3,h4,h5⟩:=hI
 by_cases hf:0<f
 ·obtain ⟨n,hn⟩:∃n,f.toNat=n+1:=⟨f.toNat-1,by omega⟩;have hfn:(n:Int)+1=f:=by omega
  have hr:runN (farV g) g f.toNat s l=bif (nearV (farV g) g s f).isSome then runN (farV g) g n (EdDo s ((nearV (farV g) g s f).getD ed0)).1 (l++[(nearV (farV g) g s f).getD ed0])else([],[],false):=by
   rw[hn,← hfn];rfl
  rw[zT hf,h0,zT h2]at hx
  cases hc:(nearV (farV g) g s f).isSome
  ·rw[hc]at hx hr;left;intro R;refine(hx R).trans ?_;simp only[res_run,hr];rfl
  ·have hsome:okN (farV g) s f ((nearV (farV g) g s f).getD ed0)=true:=nearN_some (getD_some (d:=ed0) hc);obtain⟨d1,d2⟩:=far_dec h0 h2 ((prodB_iff h0).1 h1) h4 hsome;have d3:=(EdDo_short d1).2;have hn2:(f-1).toNat=n:=by omega
   rw[hc]at hx hr;change ∀R:St→Option Fin,_=branch true (need true (branch false _ (need (fits (l.length+[(nearV (farV g) g s f).getD ed0].length) _) (need (okRd g.2&&decide ((length (EdDo s ((nearV (farV g) g s f).getD ed0)).1)≤1000)) (R ⟨[(1,vS (EdDo s ((nearV (farV g) g s f).getD ed0)).1),(2, kp0),(7,vI (farV g (EdDo s ((nearV (farV g) g s f).getD ed0)).1)),(8, ko1)],[(500000,some (boxD 25 TG g)),(500001,some (.lis 35 TE (l++[(nearV (farV g) g s f).getD ed0])))]⟩))))) _ at hx;rw[editFits (by rw[length_singleton];omega),okRd_G h0,zT (by omega:length (EdDo s ((nearV (farV g) g s f).getD ed0)).1≤1000),d2]at hx;right;refine⟨(EdDo s ((nearV (farV g) g s f).getD ed0)).1,f-1,g,l++[(nearV (farV g) g s f).getD ed0], ?_, ?_, ?_,fun R=>hx R⟩
   ·simp only[pre_run,andd,dec_iff];rw[length_append,length_singleton];exact⟨h0,h1,by omega,by omega,d2.symm,by omega⟩
   ·simp only[mu_run];omega
   ·simp only[res_run,hn2,hr,cond_true]
 ·left;intro R;refine(hx R).trans ?_;rw[zF hf];have e:f.toNat=0:=by omega
  simp only[res_run,e];rfl
def g_run:St→Cont→Option Fin:=gP sh_run (fun v=>match v with | ((s,f,()),(g,l,()))=>pre_run s f g l) (fun v K=>match v with | ((s,f,()),(g,l,()))=>res_run s f g l K)
def L_run:LpL:=(5,g_run)::[]
def cx_run:Cx:=(cb_run).withLoops (look L_run)
theorem l_run {L:LpL} (n:Nat) (h1:L.drop n=[]) (h2:idsFree (L.take n) (loopOf Tryz.f23 0)=true):LoopsTo g_run (cb_run) (loopOf Tryz.f23 0) 5 L :=
 with_drop h1 h2 (gP_ok (fun v=>match v with | ((s,f,()),(g,l,()))=>mu_run s f g l) fun v K hI=>by
  obtain⟨⟨s,f,⟨⟩⟩,⟨g,l,⟨⟩⟩⟩:=v;exact(r_run s f g l K hI).imp id fun⟨s',f',g',l',h⟩=>⟨((s',f',()),(g',l',())),h⟩)
def runV (g:Gram) (s:Str):List Edit×Str×Bool:=bif (bif decide (mendV g s<0)then true else decide (12<mendV g s))then([],[],false)else runN (farV g) g (mendV g s).toNat s []
def sRunV (g:Gram) (s:Str):List Edit×Str×Bool:=bif (bif !canB g s then true else decide (12<startC g s))then([],[],false)else runN (startC g) g (startC g s).toNat s []
def runT (v:List Edit×Str×Bool):T := .tup [ofD TEL v.1,ofD .str v.2.1,ofD .bool v.2.2]
theorem runN_no {F:Str→Int} {g:Gram}:∀ {n:Nat} {s:Str} {l:List Edit},(runN F g n s l).2.2=false→runN F g n s l=([],[],false)
 |0,s,l,h=>by cases h
 |n+1,s,l,h=>by
  have e:runN F g (n+1) s l=bif (nearV F g s ((n:Int)+1)).isSome then runN F g n (EdDo s ((nearV F g s ((n:Int)+1)).getD ed0)).1 (l++[(nearV F g s ((n:Int)+1)).getD ed0])else([],[],false):=rfl;rw[e]at h ⊢
  cases hc:(nearV F g s ((n:Int)+1)).isSome
  ·rfl
  ·rw[hc]at h;exact runN_no h
theorem y_impl_MendRun2 (g:Gram) (s:Str):evFn cx_run Tryz.f23 true [ofD TG g,ofD .str s] []=(
branch (bif decide (mendV g s<0)then true else decide (12<mendV g s)) ( some ((.tup [(.one (.r (.li ty35 ([])))),(.one (.r (.v (Value.string (mk []))))),(.one (.r (.v (Value.bool false))))]),[])) (
 need (pre_run s (mendV g s) g []) <|
 branch ((runN (farV g) g (mendV g s).toNat s []).snd.snd) ( some ((.tup [(.one (.r (.li TE ((runN (farV g) g (mendV g s).toNat s []).fst)))),(.one (.r (.v (Value.string (mk (runN (farV g) g (mendV g s).toNat s []).snd.fst))))),(.one (.r (.v (Value.bool true))))]),[])) ( some ((.tup [(.one (.r (.li ty35 ([])))),(.one (.r (.v (Value.string (mk []))))),(.one (.r (.v (Value.bool false))))]),[])))):=by kernel_rfl
theorem s_impl_MendRun (g:Gram) (_hg:Fit TG g) (s:Str) (_hs:Fit .str s):Sat Tryz.prog 23 [ofD TG g,ofD .str s] [] (runT (runV g s)) [] :=
 fn_sound (cx:=cx_run) Tryz.func23 rfl ttOk Γ97ok mixed (fun c hc=>LoopsOk.all (l:=[(5,loopOf Tryz.f23 0)]) (by cases hc;kernel_rfl) ⟨atLoop rfl (l_run 1 rfl (by kernel_rfl)),trivial⟩) (ro:=true) (by
  rw[y_impl_MendRun2];unfold runV
  cases hc:(bif decide (mendV g s<0)then true else decide (12<mendV g s))
  ·rcases mend_cases (g:=g) (s:=s)with⟨h1,h2⟩ | ⟨h1,h2,h3,h4,h5,h6,h7⟩
   ·rw[h1]at hc;cases hc
   ·have hm:¬ 12<mendV g s:=by
     rw[zF (by omega:¬mendV g s<0),cond_false]at hc;exact of_decide_eq_false hc
    have hp:pre_run s (mendV g s) g []=true:=by
     simp only[pre_run,andd,dec_iff];exact⟨h5,(prodB_iff h5).2 h7,by omega,by omega,h2,by show((0:Nat):Int)+_≤_;omega⟩
    rw[hp];show branch (runN (farV g) g (mendV g s).toNat s []).2.2 _ _=_
    cases hr:(runN (farV g) g (mendV g s).toNat s []).2.2
    ·rw[runN_no hr];rfl
    ·unfold runT;rw[cond_false,hr];rfl
  ·rfl)
def c_impl_MendRun:Con:=conT [TG, .str] fun(g:Gram) (s:Str)=>(none,runT (runV g s))
theorem k_impl_MendRun:ConOk Tryz.prog 23 c_impl_MendRun:=conT_ok Tryz.call23 fun g hg s hs _=>s_impl_MendRun g hg s hs
def Γ98:GL:=(23,c_impl_MendRun)::Γ97
theorem Γ98ok:GO Γ98 := .cons k_impl_MendRun Γ97ok
def cb_srun:Cx:=cxOf Γ98 Tryz.f24.ntmps [(5,[1,2,7,8])] [(0,[1,7]),(1,[1,2,7,8]),(1000000,[4,5,6])] [] []
abbrev st_srun (s:Str) (f:Int) (g:Gram) (l:List (Edit)):St:=⟨[(1,vS s),(2, kp0),(7, ko1),(8,vI f)],[(500000,some (boxD 25 TG g)),(500001,some (.lis 35 TE l))]⟩
theorem x_spec_MendRun (g:Gram) (s:Str) (f:Int) (l:List Edit) (R:St→Option Fin) (K:Cont):evC (cb_srun.withLoops (look [])) (loopOf Tryz.f24 0) (st_srun s f g l) (onward (headAt (cb_srun.withLoops (look [])) 5) R K)=(
branch (decide (0<f)) (
 need (okG g&&decide (s.length≤1000)) <|
 branch (!(nearV (startC g) g s f).isSome) ( K (.ret) (.mk [(4,ko0),(5,vS []),(6,vB false)] [(500000,(.some (.lis 35 ty35 ([]))))])) (
 need (fits (l.length+[(nearV (startC g) g s f).getD ed0].length) Tryz.t35.bytes) <|
 need (longOk s&&editOk s ((nearV (startC g) g s f).getD ed0)) <| R (st_srun (doE s ((nearV (startC g) g s f).getD ed0)) (W64 (f-1)) g (l.append [(nearV (startC g) g s f).getD ed0])))) ( K (.exit 0) (.mk [(1,vS s),(7,ko0)] [(500000,some (.lis 35 TE l))]))):=by kernel_rfl
def cx0_srun:Cx:=(cb_srun).withLoops (look [])
def sh_srun:Sh:=([(1, .d .str),(2, .ptr 500000 0),(7, .own 500001),(8, .d TI64)],[(500000, .box 25 TG),(500001, .lis 35 TE)])
def pre_srun (s:Str) (f:Int) (g:Gram) (l:List (Edit)):Bool:=okG g&&(decide (length s≤1000)&&(decide (0≤f)&&decide ((length l:Int)+f≤1000)))
def res_srun (s:Str) (f:Int) (g:Gram) (l:List (Edit)) (K:Cont):Option Fin:=branch (runN (startC g) g f.toNat s l).2.2 (K (.exit 0) ⟨[(1,vS (runN (startC g) g f.toNat s l).2.1),(7, ko0)],[(500000,some (.lis 35 TE (runN (startC g) g f.toNat s l).1))]⟩) (K .ret ⟨[(4, ko0),(5,vS []),(6,vB false)],[(500000,some (.lis 35 TE []))]⟩)
def mu_srun (_s:Str) (f:Int) (_g:Gram) (_l:List (Edit)):Nat:=f.toNat
theorem r_srun (s:Str) (f:Int) (g:Gram) (l:List (Edit)) (K:Cont) (hI:pre_srun s f g l=true):(∀R:St→Option Fin,evC cx0_srun (loopOf Tryz.f24 0) (st_srun s f g l) (onward (headAt cx0_srun 5) R K)=res_srun s f g l K) ∨
  (∃(s':Str) (f':Int) (g':Gram) (l':List (Edit)),pre_srun s' f' g' l'=true∧mu_srun s' f' g' l'<mu_srun s f g l∧res_srun s' f' g' l' K=res_srun s f g l K∧∀R:St→Option Fin,evC cx0_srun (loopOf Tryz.f24 0) (st_srun s f g l) (onward (headAt cx0_srun 5) R K)=R (st_srun s' f' g' l')):=by
 have hx:=fun R=>x_spec_MendRun g s f l R K;simp only[pre_srun,andd,dec_iff]at hI;obtain⟨h0,h2,h3,h5⟩:=hI
 by_cases hf:0<f
 ·obtain ⟨n,hn⟩:∃n,f.toNat=n+1:=⟨f.toNat-1,by omega⟩;have hfn:(n:Int)+1=f:=by omega
  have hr:runN (startC g) g f.toNat s l=bif (nearV (startC g) g s f).isSome then runN (startC g) g n (EdDo s ((nearV (startC g) g s f).getD ed0)).1 (l++[(nearV (startC g) g s f).getD ed0])else([],[],false):=by
   rw[hn,← hfn];rfl
  rw[zT hf,h0,zT h2]at hx
  cases hc:(nearV (startC g) g s f).isSome
  ·rw[hc]at hx hr;left;intro R;refine(hx R).trans ?_;simp only[res_srun,hr];rfl
  ·have hsome:okN (startC g) s f ((nearV (startC g) g s f).getD ed0)=true:=nearN_some (getD_some (d:=ed0) hc);have d1:(EdDo s ((nearV (startC g) g s f).getD ed0)).2=true:=by
    unfold okN at hsome
    cases hb:(EdDo s ((nearV (startC g) g s f).getD ed0)).2
    ·rw[hb]at hsome;cases hsome
    ·rfl
   obtain⟨e1,e2,_,e4⟩:=EdDo_true d1;have d3:=(EdDo_short d1).2;have hn2:(f-1).toNat=n:=by omega
   have w:W64 (f-1)=f-1:=wrap_small (by omega) (by omega);rw[hc,editFits (by rw[length_singleton];omega),e1,e2,← e4,w]at hx;rw[hc]at hr;right;refine⟨(EdDo s ((nearV (startC g) g s f).getD ed0)).1,f-1,g,l++[(nearV (startC g) g s f).getD ed0], ?_, ?_, ?_,fun R=>hx R⟩
   ·simp only[pre_srun,andd,dec_iff];rw[length_append,length_singleton];exact⟨h0,by omega,by omega,by omega⟩
   ·simp only[mu_srun];omega
   ·simp only[res_srun,hn2,hr,cond_true]
 ·left;intro R;refine(hx R).trans ?_;rw[zF hf];have e:f.toNat=0:=by omega
  simp only[res_srun,e];rfl
def g_srun:St→Cont→Option Fin:=gP sh_srun (fun v=>match v with | ((s,f,()),(g,l,()))=>pre_srun s f g l) (fun v K=>match v with | ((s,f,()),(g,l,()))=>res_srun s f g l K)
def L_srun:LpL:=(5,g_srun)::[]
def cx_srun:Cx:=(cb_srun).withLoops (look L_srun)
theorem l_srun {L:LpL} (n:Nat) (h1:L.drop n=[]) (h2:idsFree (L.take n) (loopOf Tryz.f24 0)=true):LoopsTo g_srun (cb_srun) (loopOf Tryz.f24 0) 5 L :=
 with_drop h1 h2 (gP_ok (fun v=>match v with | ((s,f,()),(g,l,()))=>mu_srun s f g l) fun v K hI=>by
  obtain⟨⟨s,f,⟨⟩⟩,⟨g,l,⟨⟩⟩⟩:=v;exact(r_srun s f g l K hI).imp id fun⟨s',f',g',l',h⟩=>⟨((s',f',()),(g',l',())),h⟩)
theorem y_spec_MendRun (g:Gram) (s:Str):evFn cx_srun Tryz.f24 true [ofD TG g,ofD .str s] []=(
need (bif decide ((!canB g s)=false)then okG g&&decide (s.length≤1000)else true) <|
branch (bif !canB g s then true else decide (12<startC g s)) ( some ((.tup [(.one (.r (.li ty35 ([])))),(.one (.r (.v (Value.string (mk []))))),(.one (.r (.v (Value.bool false))))]),[])) (
 need (okG g&&decide (s.length≤1000)) <|
 need (pre_srun s (startC g s) g []) <|
 branch ((runN (startC g) g (startC g s).toNat s []).snd.snd) ( some ((.tup [(.one (.r (.li TE ((runN (startC g) g (startC g s).toNat s []).fst)))),(.one (.r (.v (Value.string (mk (runN (startC g) g (startC g s).toNat s []).snd.fst))))),(.one (.r (.v (Value.bool true))))]),[])) ( some ((.tup [(.one (.r (.li TE ([])))),(.one (.r (.v (Value.string (mk []))))),(.one (.r (.v (Value.bool false))))]),[])))):=by kernel_rfl
theorem s_spec_MendRun (g:Gram) (_hg:Fit TG g) (s:Str) (_hs:Fit .str s):Sat Tryz.prog 24 [ofD TG g,ofD .str s] [] (runT (sRunV g s)) [] :=
 fn_sound (cx:=cx_srun) Tryz.func24 rfl ttOk Γ98ok mixed (fun c hc=>LoopsOk.all (l:=[(5,loopOf Tryz.f24 0)]) (by cases hc;kernel_rfl) ⟨atLoop rfl (l_srun 1 rfl (by kernel_rfl)),trivial⟩) (ro:=true) (by
  rw[y_spec_MendRun];unfold sRunV
  cases hc:canB g s
  ·rfl
  ·obtain ⟨h1,h7⟩:=canB_iff.1 hc;obtain⟨h3,h4⟩:=both2_iff.1 h1;have hl:=(areSm_iff.1 h4).1;obtain⟨e1,e2,_⟩:=far_both h3 (by omega:length s≤1000) h7
   cases hd:decide (12<startC g s)
   ·have hd:=of_decide_eq_false hd;have hp:pre_srun s (startC g s) g []=true:=by
     simp only[pre_srun,andd,dec_iff];exact⟨h3,by omega,by omega,by show((0:Nat):Int)+_≤_;omega⟩
    rw[h3,zT (by omega:length s≤1000),hp];show branch (runN (startC g) g (startC g s).toNat s []).2.2 _ _=_
    cases hr:(runN (startC g) g (startC g s).toNat s []).2.2
    ·show _=some (runT (runN (startC g) g (startC g s).toNat s []),[]);rw[runN_no hr];rfl
    ·show _=some (runT (runN (startC g) g (startC g s).toNat s []),[]);unfold runT;rw[hr];rfl
   ·rw[h3,zT (by omega:length s≤1000)];rfl)
def c_spec_MendRun:Con:=conT [TG, .str] fun(g:Gram) (s:Str)=>(none,runT (sRunV g s))
theorem k_spec_MendRun:ConOk Tryz.prog 24 c_spec_MendRun:=conT_ok Tryz.call24 fun g hg s hs _=>s_spec_MendRun g hg s hs
def Γ99:GL:=(24,c_spec_MendRun)::Γ98
theorem Γ99ok:GO Γ99 := .cons k_spec_MendRun Γ98ok
theorem runN_same {g:Gram} (h:okG g=true) (hp:prodG g):∀ {n:Nat} {s:Str} {l:List Edit},runN (farV g) g n s l=runN (startC g) g n s l
 |0,_,_=>rfl
 |n+1,s,l=>by
  show(bif (nearV (farV g) g s ((n:Int)+1)).isSome then runN (farV g) g n (EdDo s ((nearV (farV g) g s ((n:Int)+1)).getD ed0)).1 (l++[(nearV (farV g) g s ((n:Int)+1)).getD ed0])else([],[],false))=bif (nearV (startC g) g s ((n:Int)+1)).isSome then runN (startC g) g n (EdDo s ((nearV (startC g) g s ((n:Int)+1)).getD ed0)).1 (l++[(nearV (startC g) g s ((n:Int)+1)).getD ed0])else([],[],false);rw[near_same h hp,runN_same h hp]
theorem run_same {g:Gram} {s:Str}:runV g s=sRunV g s:=by
 unfold runV sRunV;rcases mend_cases (g:=g) (s:=s)with⟨h1,h2⟩ | ⟨h1,h2,h3,h4,h5,h6,h7⟩
 ·rw[h1,h2];rfl
 ·have e:=(far_both h5 (by omega:length s≤1000) h7).1;rw[h1,h2,← e,zF (by omega:¬farV g s<0),runN_same h5 h7];rfl
theorem e_spec_DrawMendRun (l:List Int) (hl:Fit TB l):∃q:Gram×Str,evFn (cxOf Γ99 Tryz.f22.ntmps [] [] [] []) Tryz.f22 true [ofD TB l] []=some (.tup [ofD TG q.1,ofD .str q.2],[])∧(szG 20 q.1=true∧q.2.length≤100):=by
 obtain⟨r,h1,h2⟩:Ok (evFn (cxOf Γ99 Tryz.f22.ntmps [] [] [] []) Tryz.f22 true [ofD TB l] []) (fun r=>∃(v:Gram×Str),r=(.tup [ofD TG v.1,ofD .str v.2],[])∧(szG 20 v.1=true∧v.2.length≤100)):=by
  have y:evFn (cxOf Γ99 Tryz.f22.ntmps [] [] [] []) Tryz.f22 true [ofD TB l] []=some (.tup [ofD TG (F_spec_l4Draw l).1,ofD .str (F_spec_l4Draw l).2],[]):=by kernel_rfl
  rw[y];exact Ok.ret ⟨_,rfl,p_spec_l4Draw l hl⟩
 obtain⟨v,h2,h3⟩:=h2;exact⟨v,by rw[h1,h2],h3⟩
def F_spec_DrawMendRun (l:List Int):Gram×Str:=oneOf (fun q:Gram×Str=>evFn (cxOf Γ99 Tryz.f22.ntmps [] [] [] []) Tryz.f22 true [ofD TB l] []=some (.tup [ofD TG q.1,ofD .str q.2],[])∧(szG 20 q.1=true∧q.2.length≤100))
theorem s_spec_DrawMendRun (l:List Int) (hl:Fit TB l):Sat Tryz.prog 22 [ofD TB l] [] (.tup [ofD TG (F_spec_DrawMendRun l).1,ofD .str (F_spec_DrawMendRun l).2]) [] :=
 fn_sound (cx:=cxOf Γ99 Tryz.f22.ntmps [] [] [] []) Tryz.func22 rfl ttOk Γ99ok mixed (fun _ _=>LoopsOk.no fun _=>rfl) (ro:=true) (oneOf_spec (e_spec_DrawMendRun l hl)).1
def c_spec_DrawMendRun:Con:=conT [TB] fun(l:List Int)=>(none, .tup [ofD TG (F_spec_DrawMendRun l).1,ofD .str (F_spec_DrawMendRun l).2])
theorem k_spec_DrawMendRun:ConOk Tryz.prog 22 c_spec_DrawMendRun:=conT_ok Tryz.call22 fun l hl _=>s_spec_DrawMendRun l hl
def Γ100:GL:=(22,c_spec_DrawMendRun)::Γ99
theorem Γ100ok:GO Γ100 := .cons k_spec_DrawMendRun Γ99ok
theorem runV_zero {g:Gram} {s:Str} (h:mendV g s=0):runV g s=([],s,true):=by
 unfold runV;rw[h];rfl
theorem y_laws_FnMendOwn (l:List Int):evFn (cxOf Γ100 Tryz.f6.ntmps [] [] [] []) Tryz.f6 true [ofD TB l] []=(
branch (decide (1048576<(l.length:Int))) ( some ((vB true),[])) (
 branch (bif !decide ((runV (F_spec_DrawMendRun l).fst (F_spec_DrawMendRun l).snd).snd.snd=(sRunV (F_spec_DrawMendRun l).fst (F_spec_DrawMendRun l).snd).snd.snd)then true else !(both2 (F_spec_DrawMendRun l).fst (F_spec_DrawMendRun l).snd&&isD (F_spec_DrawMendRun l).fst (F_spec_DrawMendRun l).snd)) ( some ((vB (decide ((runV (F_spec_DrawMendRun l).fst (F_spec_DrawMendRun l).snd).snd.snd=(sRunV (F_spec_DrawMendRun l).fst (F_spec_DrawMendRun l).snd).snd.snd))),[])) ( some ((vB (bif bif bif (runV (F_spec_DrawMendRun l).fst (F_spec_DrawMendRun l).snd).snd.snd then decide (((runV (F_spec_DrawMendRun l).fst (F_spec_DrawMendRun l).snd).fst.length:Int)=0)else false then decide ((runV (F_spec_DrawMendRun l).fst (F_spec_DrawMendRun l).snd).snd.fst=(F_spec_DrawMendRun l).snd)else false then !(nextV (F_spec_DrawMendRun l).fst (F_spec_DrawMendRun l).snd).isSome else false)),[])))):=by kernel_rfl
theorem s_laws_FnMendOwn (l:List Int) (_hl:Fit TB l):Sat Tryz.prog 6 [ofD TB l] [] (.d (ofD .bool true)) [] :=
 fn_sound (cx:=cxOf Γ100 Tryz.f6.ntmps [] [] [] []) Tryz.func6 rfl ttOk Γ100ok mixed (fun _ _=>LoopsOk.no fun _=>rfl) (ro:=true) (by
  rw[y_laws_FnMendOwn]
  generalize F_spec_DrawMendRun l=v
  obtain⟨g,s⟩:=v;dsimp only;rw[← run_same]
  cases hd:(both2 g s&&isD g s)
  ·cases (runV g s).2.2<;>cases decide (1048576<(length l:Int))<;>rfl
  ·have hc:canB g s=true:=by
    cases hc:canB g s
    ·rw[mend_not hc]at hd;cases hd
    ·rfl
   have h0:mendV g s=0:=of_decide_eq_true ((mend_is hc).trans hd);have hn:nextV g s=none:=by
    unfold nextV;rw[h0];rfl
   rw[runV_zero h0,hn];show branch (decide (1048576<(length l:Int))) _ (some (vB (bif decide (s=s)then true else false),[]))=_;rw[zT (rfl:s=s)]
   cases decide (1048576<(length l:Int))<;>rfl)
end
end Go.Proofs.YtmeiebnfmhddnaaGreatDoor.Ev
