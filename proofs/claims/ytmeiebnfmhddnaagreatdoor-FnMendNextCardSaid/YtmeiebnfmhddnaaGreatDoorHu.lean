/-
  The first edit that brings a text nearer: of the program.
-/
import Derived.Test.YtmeiebnfmhddnaaGreatDoorHt
namespace Go.Proofs.YtmeiebnfmhddnaaGreatDoor.Ev
open Go
noncomputable section
def cb_nr:Cx:=cxOf Γ88 Tryz.f53.ntmps [(16,[1,2,3,6,9,23,24,54,55,56]),(10,[1,2,3,6,9,10,11,13,23,24,30,31,32,37,38]),(7,[1,2,3,6,9,10,11,23,24,30,31,32]),(3,[1,2,3,6,9,23,24])] [(0,[6]),(1,[1,2,3,6,9,23,24]),(6,[1,2,3,6,9,23,24]),(7,[1,2,3,6,9,23,24,54,55,56]),(2,[1,2,3,6,9,11,23,24]),(3,[1,2,3,6,9,10,11,23,24,30,31,32]),(4,[1,2,3,6,9,10,11,23,24,30,31,32]),(5,[1,2,3,6,9,10,11,13,23,24,30,31,32,37,38]),(1000000,[6,7,8])] [] []
theorem x_impl_nearer_3 (g:Gram) (s c:Str) (f n i m k:Int) (q:Edit) (l:List Edit) (R:St→Option Fin) (K:Cont):evC (cb_nr.withLoops (look [])) (loopOf Tryz.f53 3) ⟨[(1,vS s),(2,vI f),(3, pA),(6, pB),(9,vS c),(23,vI n),(24,vI i),(54, oC),(55,vI m),(56,vI k)],[(500000,some (boxD 25 TG g)),(500001,some (boxD 35 TE q)),(500002,some (.lis 35 TE l))]⟩ (onward (headAt (cb_nr.withLoops (look [])) 16) R K)=(
branch (decide (k<m)) (
 need (inb k l.length) <|
 need (bif decide ((EdDo s (l.getD k.toNat ed0)).snd=true)then okRd g.snd&&decide ((List.length (EdDo s (l.getD k.toNat ed0)).fst)≤1000)else true) <|
 branch (bif (EdDo s (l.getD k.toNat ed0)).snd then decide (dofV (EdDo s (l.getD k.toNat ed0)).fst (distM (EdDo s (l.getD k.toNat ed0)).fst g.snd) g.fst 0 (List.length (EdDo s (l.getD k.toNat ed0)).fst:Int)<f)else false) ( K (.ret) (.mk [(6,pA),(7,(vS (EdDo s (l.getD k.toNat ed0)).fst)),(8,vB true)] [(500000,(.some (.box 35 [(.r (.v (Value.int IntKind.i64 (l.getD k.toNat ed0).fst))),(.r (.v (Value.int IntKind.i64 (l.getD k.toNat ed0).snd.fst))),(.r (.v (Value.string (mk (l.getD k.toNat ed0).snd.snd))))])))])) ( R (.mk [(1,vS s),(2,vI f),(3,pA),(6,pB),(9,vS c),(23,vI n),(24,vI i),(54,oC),(55,vI m),(56,vI (W64 (k+1)))] [(500000,some (boxD 25 TG g)),(500001,some (boxD 35 TE q)),(500002,some (.lis 35 TE l))]))) ( K (.exit 6) (.mk [(1,vS s),(2,vI f),(3,pA),(6,pB),(9,vS c),(23,vI n),(24,vI i)] [(500000,some (boxD 25 TG g)),(500001,some (boxD 35 TE q))]))):=by kernel_rfl
def okN (F:Str→Int) (s:Str) (f:Int) (e:Edit):Bool:=bif (EdDo s e).2 then decide (F (EdDo s e).1<f)else false
def fstE (p:Edit→Bool):List Edit→Option Edit
 | []=>none
 |e::l=>bif p e then some e else fstE p l
theorem dropE_at {l:List Edit} {k:Int} (h0:0≤k) (h1:k<(List.length l:Int)):List.drop k.toNat l=List.getD l k.toNat ed0::List.drop (k+1).toNat l:=by
 have hn:k.toNat<List.length l:=by omega
 rw[List.drop_eq_getElem_cons hn,show (k+1).toNat=k.toNat+1 by omega,List.getD_eq_getElem?_getD,List.getElem?_eq_getElem hn];rfl
theorem EdDo_short {s:Str} {e:Edit} (h:(EdDo s e).2=true):longOk (EdDo s e).1=true∧List.length (EdDo s e).1≤20:=by
 obtain⟨_,_,h3,h4⟩:=EdDo_true h
 rw[h4]
 exact⟨h3,(longOk_iff.1 h3).2⟩
def nrR (g:Gram) (s c:Str) (f n i:Int) (q:Edit) (K:Cont) (o:Option Edit):Option Fin:=branch o.isSome
 (K .ret ⟨[(6, pA),(7,vS (EdDo s (o.getD ed0)).1),(8,vB true)],[(500000,some (boxD 35 TE (o.getD ed0)))]⟩)
 (K (.exit 6) ⟨[(1,vS s),(2,vI f),(3, pA),(6, pB),(9,vS c),(23,vI n),(24,vI i)],[(500000,some (boxD 25 TG g)),(500001,some (boxD 35 TE q))]⟩)
def cx0_nr3:Cx:=(cb_nr).withLoops (look [])
def sh_nr3:Sh:=([(1, .d .str),(2, .d TI64),(3, .ptr 500000 0),(6, .ptr 500001 0),(9, .d .str),(23, .d TI64),(24, .d TI64),(54, .own 500002),(55, .d TI64),(56, .d TI64)],[(500000, .box 25 TG),(500001, .box 35 TE),(500002, .lis 35 TE)])
abbrev st_nr3 (s:Str) (f:Int) (c:Str) (n i m k:Int) (g:Gram) (q:Edit) (l:List (Edit)):St:=⟨[(1,vS s),(2,vI f),(3, .d (.one (.ptr 500000 0))),(6, .d (.one (.ptr 500001 0))),(9,vS c),(23,vI n),(24,vI i),(54, .d (.one (.own 500002))),(55,vI m),(56,vI k)],[(500000,some (boxD 25 TG g)),(500001,some (boxD 35 TE q)),(500002,some (.lis 35 TE l))]⟩
def pre_nr3 (_s:Str) (_f:Int) (_c:Str) (_n _i m k:Int) (g:Gram) (_q:Edit) (l:List (Edit)):Bool:=decide (0≤k)&&(decide (m=(List.length l:Int))&&(okRd g.2&&decide (List.length l≤1000)))
def res_nr3 (s:Str) (f:Int) (c:Str) (n i _m k:Int) (g:Gram) (q:Edit) (l:List (Edit)) (K:Cont):Option Fin:=nrR g s c f n i q K (fstE (okN (farV g) s f) (List.drop k.toNat l))
def mu_nr3 (_s:Str) (_f:Int) (_c:Str) (_n _i _m k:Int) (_g:Gram) (_q:Edit) (l:List (Edit)):Nat:=List.length l-k.toNat
theorem r_nr3 (s:Str) (f:Int) (c:Str) (n i m k:Int) (g:Gram) (q:Edit) (l:List (Edit)) (K:Cont) (hI:pre_nr3 s f c n i m k g q l=true):(∀R:St→Option Fin,evC cx0_nr3 (loopOf Tryz.f53 3) (st_nr3 s f c n i m k g q l) (onward (headAt cx0_nr3 16) R K)=res_nr3 s f c n i m k g q l K) ∨
  (∃(s':Str) (f':Int) (c':Str) (n' i' m' k':Int) (g':Gram) (q':Edit) (l':List (Edit)),pre_nr3 s' f' c' n' i' m' k' g' q' l'=true∧mu_nr3 s' f' c' n' i' m' k' g' q' l'<mu_nr3 s f c n i m k g q l∧res_nr3 s' f' c' n' i' m' k' g' q' l' K=res_nr3 s f c n i m k g q l K∧∀R:St→Option Fin,evC cx0_nr3 (loopOf Tryz.f53 3) (st_nr3 s f c n i m k g q l) (onward (headAt cx0_nr3 16) R K)=R (st_nr3 s' f' c' n' i' m' k' g' q' l')):=by
 have hx:=fun R=>x_impl_nearer_3 g s c f n i m k q l R K
 simp only[pre_nr3,andd,dec_iff]at hI
 obtain⟨h0,rfl,h2,h3⟩:=hI
 by_cases hk:k<(List.length l:Int)
 ·have w:W64 (k+1)=k+1:=wrap_small (by omega) (by omega)
  have hd:=dropE_at h0 hk
  have kk:(bif decide ((EdDo s (List.getD l k.toNat ed0)).2=true)then okRd g.2&&decide ((List.length (EdDo s (List.getD l k.toNat ed0)).1)≤1000)else true)=true:=by
   cases hb:(EdDo s (List.getD l k.toNat ed0)).2
   ·rfl
   ·have:=(EdDo_short hb).2
    exact andd.2 ⟨h2,decide_eq_true (by omega)⟩
  rw[decide_eq_true hk,inb_ok h0 hk,kk,w]at hx
  change ∀R:St→Option Fin,_=branch (okN (farV g) s f (List.getD l k.toNat ed0)) _ _ at hx
  have hf:fstE (okN (farV g) s f) (List.drop k.toNat l)=bif okN (farV g) s f (List.getD l k.toNat ed0)then some (List.getD l k.toNat ed0)else fstE (okN (farV g) s f) (List.drop (k+1).toNat l):=by rw[hd];rfl
  cases hc:okN (farV g) s f (List.getD l k.toNat ed0)
  ·rw[hc]at hx hf
   right
   refine⟨s,f,c,n,i,(List.length l:Int),k+1,g,q,l, ?_, ?_, ?_,fun R=>hx R⟩
   ·simp only[pre_nr3,andd,dec_iff]
    exact⟨by omega,trivial,h2,h3⟩
   ·simp only[mu_nr3];omega
   ·simp only[res_nr3,hf];rfl
  ·rw[hc]at hx hf
   left
   intro R
   refine(hx R).trans ?_
   simp only[res_nr3,hf];rfl
 ·left
  intro R
  refine(hx R).trans ?_
  rw[decide_eq_false hk]
  have e:List.drop k.toNat l=[]:=List.drop_eq_nil_of_le (by omega)
  simp only[res_nr3,e];rfl
def g_nr3:St→Cont→Option Fin:=gP sh_nr3 (fun v=>match v with | ((s,f,c,n,i,m,k,()),(g,q,l,()))=>pre_nr3 s f c n i m k g q l) (fun v K=>match v with | ((s,f,c,n,i,m,k,()),(g,q,l,()))=>res_nr3 s f c n i m k g q l K)
def L_nr3:LpL:=(16,g_nr3)::[]
theorem l_nr3 {L:LpL} (n:Nat) (h1:L.drop n=[]) (h2:idsFree (L.take n) (loopOf Tryz.f53 3)=true):LoopsTo g_nr3 (cb_nr) (loopOf Tryz.f53 3) 16 L :=
 with_drop h1 h2 (gP_ok (fun v=>match v with | ((s,f,c,n,i,m,k,()),(g,q,l,()))=>mu_nr3 s f c n i m k g q l) fun v K hI=>by
  obtain⟨⟨s,f,c,n,i,m,k,⟨⟩⟩,⟨g,q,l,⟨⟩⟩⟩:=v
  exact(r_nr3 s f c n i m k g q l K hI).imp id fun⟨s',f',c',n',i',m',k',g',q',l',h⟩=>⟨((s',f',c',n',i',m',k',()),(g',q',l',())),h⟩)
theorem x_impl_nearer_2 (g:Gram) (s c:Str) (f a d n i x y m k:Int) (q:Edit) (l:List Edit) (z:List Int) (R:St→Option Fin) (K:Cont):evC (cb_nr.withLoops (look L_nr3)) (loopOf Tryz.f53 2) ⟨[(1,vS s),(2,vI f),(3, pA),(6, pB),(9,vS c),(10,vI a),(11, oC),(13,vI d),(23,vI n),(24,vI i),(30, oD),(31,vI x),(32,vI y),(37,vI m),(38,vI k)],[(500000,some (boxD 25 TG g)),(500001,some (boxD 35 TE q)),(500002,some (.lis 35 TE l)),(500003,some (.lis 3 TI64 z))]⟩ (onward (headAt (cb_nr.withLoops (look L_nr3)) 10) R K)=(
branch (decide (k<m)) (
 need (inr k (W64 (k+1)) c.length) <|
 need (fits (l.length+[(d,a,List.take ((W64 (k+1)).toNat-k.toNat) (List.drop k.toNat c))].length) Tryz.t35.bytes) <| R (.mk [(1,vS s),(2,vI f),(3,pA),(6,pB),(9,vS c),(10,vI a),(11,oC),(13,vI d),(23,vI n),(24,vI i),(30,oD),(31,vI x),(32,vI y),(37,vI m),(38,vI (W64 (k+1)))] [(500000,some (boxD 25 TG g)),(500001,some (boxD 35 TE q)),(500002,(.some (.lis 35 ty35 (l.append [(d,a,List.take ((W64 (k+1)).toNat-k.toNat) (List.drop k.toNat c))])))),(500003,some (.lis 3 TI64 z))])) ( K (.exit 4) (.mk [(1,vS s),(2,vI f),(3,pA),(6,pB),(9,vS c),(10,vI a),(11,oC),(23,vI n),(24,vI i),(30,oD),(31,vI x),(32,vI y)] [(500000,some (boxD 25 TG g)),(500001,some (boxD 35 TE q)),(500002,some (.lis 35 TE l)),(500003,some (.lis 3 TI64 z))]))):=by kernel_rfl
def addE (a:Int) (c:Str) (d:Int):List Edit:=List.map (fun x=>((d,a,[x]):Edit)) c
theorem editFits {n m:Nat} (h:n+m≤100000):fits (n+m) Tryz.t35.bytes=true:=fits_ok h (by decide)
theorem dropC_at {s:Str} {i:Int} (h0:0≤i) (h1:i<(s.length:Int)):s.drop i.toNat=s.getD i.toNat 0::s.drop (i+1).toNat:=by
 have hn:i.toNat<s.length:=by omega
 rw[List.drop_eq_getElem_cons hn,show (i+1).toNat=i.toNat+1 by omega,List.getD_eq_getElem?_getD,List.getElem?_eq_getElem hn];rfl
def cx0_nr2:Cx:=(cb_nr).withLoops (look L_nr3)
def sh_nr2:Sh:=([(1, .d .str),(2, .d TI64),(3, .ptr 500000 0),(6, .ptr 500001 0),(9, .d .str),(10, .d TI64),(11, .own 500002),(13, .d TI64),(23, .d TI64),(24, .d TI64),(30, .own 500003),(31, .d TI64),(32, .d TI64),(37, .d TI64),(38, .d TI64)],[(500000, .box 25 TG),(500001, .box 35 TE),(500002, .lis 35 TE),(500003, .lis 3 TI64)])
abbrev st_nr2 (s:Str) (f:Int) (c:Str) (a d n i x y m k:Int) (g:Gram) (q:Edit) (l:List (Edit)) (z:List (Int)):St:=⟨[(1,vS s),(2,vI f),(3, .d (.one (.ptr 500000 0))),(6, .d (.one (.ptr 500001 0))),(9,vS c),(10,vI a),(11, .d (.one (.own 500002))),(13,vI d),(23,vI n),(24,vI i),(30, .d (.one (.own 500003))),(31,vI x),(32,vI y),(37,vI m),(38,vI k)],[(500000,some (boxD 25 TG g)),(500001,some (boxD 35 TE q)),(500002,some (.lis 35 TE l)),(500003,some (.lis 3 TI64 z))]⟩
def pre_nr2 (_s:Str) (_f:Int) (c:Str) (_a _d _n _i _x _y m k:Int) (_g:Gram) (_q:Edit) (l:List (Edit)) (_z:List (Int)):Bool:=decide (0≤k)&&(decide (m=(List.length c:Int))&&(decide (List.length c≤10)&&decide ((List.length l:Int)+m-k≤1000)))
def res_nr2 (s:Str) (f:Int) (c:Str) (a d n i x y _m k:Int) (g:Gram) (q:Edit) (l:List (Edit)) (z:List (Int)) (K:Cont):Option Fin:=K (.exit 4) ⟨[(1,vS s),(2,vI f),(3, pA),(6, pB),(9,vS c),(10,vI a),(11, oC),(23,vI n),(24,vI i),(30, oD),(31,vI x),(32,vI y)],[(500000,some (boxD 25 TG g)),(500001,some (boxD 35 TE q)),(500002,some (.lis 35 TE (l++addE a (List.drop k.toNat c) d))),(500003,some (.lis 3 TI64 z))]⟩
def mu_nr2 (_s:Str) (_f:Int) (c:Str) (_a _d _n _i _x _y _m k:Int) (_g:Gram) (_q:Edit) (_l:List (Edit)) (_z:List (Int)):Nat:=List.length c-k.toNat
theorem r_nr2 (s:Str) (f:Int) (c:Str) (a d n i x y m k:Int) (g:Gram) (q:Edit) (l:List (Edit)) (z:List (Int)) (K:Cont) (hI:pre_nr2 s f c a d n i x y m k g q l z=true):(∀R:St→Option Fin,evC cx0_nr2 (loopOf Tryz.f53 2) (st_nr2 s f c a d n i x y m k g q l z) (onward (headAt cx0_nr2 10) R K)=res_nr2 s f c a d n i x y m k g q l z K) ∨
  (∃(s':Str) (f':Int) (c':Str) (a' d' n' i' x' y' m' k':Int) (g':Gram) (q':Edit) (l':List (Edit)) (z':List (Int)),pre_nr2 s' f' c' a' d' n' i' x' y' m' k' g' q' l' z'=true∧mu_nr2 s' f' c' a' d' n' i' x' y' m' k' g' q' l' z'<mu_nr2 s f c a d n i x y m k g q l z∧res_nr2 s' f' c' a' d' n' i' x' y' m' k' g' q' l' z' K=res_nr2 s f c a d n i x y m k g q l z K∧∀R:St→Option Fin,evC cx0_nr2 (loopOf Tryz.f53 2) (st_nr2 s f c a d n i x y m k g q l z) (onward (headAt cx0_nr2 10) R K)=R (st_nr2 s' f' c' a' d' n' i' x' y' m' k' g' q' l' z')):=by
 have hx:=fun R=>x_impl_nearer_2 g s c f a d n i x y m k q l z R K
 simp only[pre_nr2,andd,dec_iff]at hI
 obtain⟨h0,rfl,h2,h3⟩:=hI
 by_cases hk:k<(List.length c:Int)
 ·have w:W64 (k+1)=k+1:=wrap_small (by omega) (by omega)
  have hd:l++addE a (List.drop k.toNat c) d=(l++[(d,a,[List.getD c k.toNat 0])])++addE a (List.drop (k+1).toNat c) d:=by
   rw[dropC_at h0 hk,List.append_assoc];rfl
  rw[decide_eq_true hk,w,inr_iff.2 (by omega:0≤k∧k≤k+1∧k+1≤(List.length c:Int)),slice_one h0 hk,editFits (by rw[List.length_singleton];omega)]at hx
  right
  refine⟨s,f,c,a,d,n,i,x,y,(List.length c:Int),k+1,g,q,l++[(d,a,[List.getD c k.toNat 0])],z, ?_, ?_, ?_,fun R=>hx R⟩
  ·simp only[pre_nr2,andd,dec_iff]
   rw[List.length_append,List.length_singleton]
   exact⟨by omega,trivial,h2,by omega⟩
  ·simp only[mu_nr2];omega
  ·simp only[res_nr2,hd]
 ·left
  intro R
  refine(hx R).trans ?_
  rw[decide_eq_false hk]
  have e:l++addE a (List.drop k.toNat c) d=l:=by
   rw[List.drop_eq_nil_of_le (by omega)]
   exact List.append_nil l
  simp only[res_nr2,e];rfl
def g_nr2:St→Cont→Option Fin:=gP sh_nr2 (fun v=>match v with | ((s,f,c,a,d,n,i,x,y,m,k,()),(g,q,l,z,()))=>pre_nr2 s f c a d n i x y m k g q l z) (fun v K=>match v with | ((s,f,c,a,d,n,i,x,y,m,k,()),(g,q,l,z,()))=>res_nr2 s f c a d n i x y m k g q l z K)
def L_nr2:LpL:=(10,g_nr2)::L_nr3
theorem l_nr2 {L:LpL} (n:Nat) (h1:L.drop n=L_nr3) (h2:idsFree (L.take n) (loopOf Tryz.f53 2)=true):LoopsTo g_nr2 (cb_nr) (loopOf Tryz.f53 2) 10 L :=
 with_drop h1 h2 (gP_ok (fun v=>match v with | ((s,f,c,a,d,n,i,x,y,m,k,()),(g,q,l,z,()))=>mu_nr2 s f c a d n i x y m k g q l z) fun v K hI=>by
  obtain⟨⟨s,f,c,a,d,n,i,x,y,m,k,⟨⟩⟩,⟨g,q,l,z,⟨⟩⟩⟩:=v
  exact(r_nr2 s f c a d n i x y m k g q l z K hI).imp id fun⟨s',f',c',a',d',n',i',x',y',m',k',g',q',l',z',h⟩=>⟨((s',f',c',a',d',n',i',x',y',m',k',()),(g',q',l',z',())),h⟩)
theorem x_impl_nearer_1 (g:Gram) (s c:Str) (f a n i x y:Int) (q:Edit) (l:List Edit) (z:List Int) (R:St→Option Fin) (K:Cont):evC (cb_nr.withLoops (look L_nr2)) (loopOf Tryz.f53 1) ⟨[(1,vS s),(2,vI f),(3, pA),(6, pB),(9,vS c),(10,vI a),(11, oC),(23,vI n),(24,vI i),(30, oD),(31,vI x),(32,vI y)],[(500000,some (boxD 25 TG g)),(500001,some (boxD 35 TE q)),(500002,some (.lis 35 TE l)),(500003,some (.lis 3 TI64 z))]⟩ (onward (headAt (cb_nr.withLoops (look L_nr2)) 7) R K)=(
branch (decide (y<x)) (
 need (inb y z.length) <|
 need (pre_nr2 s f c a (z.getD y.toNat 0) n i x y ((c.length:Int)) 0 g q l z) <| R (.mk [(1,vS s),(2,vI f),(3,pA),(6,pB),(9,vS c),(10,vI a),(11,oC),(23,vI n),(24,vI i),(30,oD),(31,vI x),(32,vI (W64 (y+1)))] [(500000,some (boxD 25 TG g)),(500001,some (boxD 35 TE q)),(500002,(.some (.lis 35 TE (l.append (addE a c (z.getD y.toNat 0)))))),(500003,some (.lis 3 TI64 z))])) ( K (.exit 2) (.mk [(1,vS s),(2,vI f),(3,pA),(6,pB),(9,vS c),(11,oC),(23,vI n),(24,vI i)] [(500000,some (boxD 25 TG g)),(500001,some (boxD 35 TE q)),(500002,some (.lis 35 TE l))]))):=by kernel_rfl
def kindsE (a:Int) (c:Str) (z:List Int):List Edit:=List.flatMap (addE a c) z
theorem dropI_at {l:List Int} {i:Int} (h0:0≤i) (h1:i<(l.length:Int)):l.drop i.toNat=l.getD i.toNat 0::l.drop (i+1).toNat:=by
 have hn:i.toNat<l.length:=by omega
 rw[List.drop_eq_getElem_cons hn,show (i+1).toNat=i.toNat+1 by omega,List.getD_eq_getElem?_getD,List.getElem?_eq_getElem hn];rfl
theorem addE_len {a d:Int} {c:Str}:(addE a c d).length=c.length:=List.length_map ..
def cx0_nr1:Cx:=(cb_nr).withLoops (look L_nr2)
def sh_nr1:Sh:=([(1, .d .str),(2, .d TI64),(3, .ptr 500000 0),(6, .ptr 500001 0),(9, .d .str),(10, .d TI64),(11, .own 500002),(23, .d TI64),(24, .d TI64),(30, .own 500003),(31, .d TI64),(32, .d TI64)],[(500000, .box 25 TG),(500001, .box 35 TE),(500002, .lis 35 TE),(500003, .lis 3 TI64)])
abbrev st_nr1 (s:Str) (f:Int) (c:Str) (a n i x y:Int) (g:Gram) (q:Edit) (l:List (Edit)) (z:List (Int)):St:=⟨[(1,vS s),(2,vI f),(3, .d (.one (.ptr 500000 0))),(6, .d (.one (.ptr 500001 0))),(9,vS c),(10,vI a),(11, .d (.one (.own 500002))),(23,vI n),(24,vI i),(30, .d (.one (.own 500003))),(31,vI x),(32,vI y)],[(500000,some (boxD 25 TG g)),(500001,some (boxD 35 TE q)),(500002,some (.lis 35 TE l)),(500003,some (.lis 3 TI64 z))]⟩
def pre_nr1 (_s:Str) (_f:Int) (c:Str) (_a _n _i x y:Int) (_g:Gram) (_q:Edit) (l:List (Edit)) (z:List (Int)):Bool:=decide (0≤y)&&(decide (x=(List.length z:Int))&&(decide (List.length z≤2)&&(decide (List.length c≤10)&&decide ((List.length l:Int)+10*(x-y)≤1000))))
def res_nr1 (s:Str) (f:Int) (c:Str) (a n i _x y:Int) (g:Gram) (q:Edit) (l:List (Edit)) (z:List (Int)) (K:Cont):Option Fin:=K (.exit 2) ⟨[(1,vS s),(2,vI f),(3, pA),(6, pB),(9,vS c),(11, oC),(23,vI n),(24,vI i)],[(500000,some (boxD 25 TG g)),(500001,some (boxD 35 TE q)),(500002,some (.lis 35 TE (l++kindsE a c (List.drop y.toNat z))))]⟩
def mu_nr1 (_s:Str) (_f:Int) (_c:Str) (_a _n _i _x y:Int) (_g:Gram) (_q:Edit) (_l:List (Edit)) (z:List (Int)):Nat:=List.length z-y.toNat
theorem r_nr1 (s:Str) (f:Int) (c:Str) (a n i x y:Int) (g:Gram) (q:Edit) (l:List (Edit)) (z:List (Int)) (K:Cont) (hI:pre_nr1 s f c a n i x y g q l z=true):(∀R:St→Option Fin,evC cx0_nr1 (loopOf Tryz.f53 1) (st_nr1 s f c a n i x y g q l z) (onward (headAt cx0_nr1 7) R K)=res_nr1 s f c a n i x y g q l z K) ∨
  (∃(s':Str) (f':Int) (c':Str) (a' n' i' x' y':Int) (g':Gram) (q':Edit) (l':List (Edit)) (z':List (Int)),pre_nr1 s' f' c' a' n' i' x' y' g' q' l' z'=true∧mu_nr1 s' f' c' a' n' i' x' y' g' q' l' z'<mu_nr1 s f c a n i x y g q l z∧res_nr1 s' f' c' a' n' i' x' y' g' q' l' z' K=res_nr1 s f c a n i x y g q l z K∧∀R:St→Option Fin,evC cx0_nr1 (loopOf Tryz.f53 1) (st_nr1 s f c a n i x y g q l z) (onward (headAt cx0_nr1 7) R K)=R (st_nr1 s' f' c' a' n' i' x' y' g' q' l' z')):=by
 have hx:=fun R=>x_impl_nearer_1 g s c f a n i x y q l z R K
 simp only[pre_nr1,andd,dec_iff]at hI
 obtain⟨h0,rfl,h1,h2,h3⟩:=hI
 by_cases hk:y<(List.length z:Int)
 ·have w:W64 (y+1)=y+1:=wrap_small (by omega) (by omega)
  have hd:l++kindsE a c (List.drop y.toNat z)=(l++addE a c (List.getD z y.toNat 0))++kindsE a c (List.drop (y+1).toNat z):=by
   rw[dropI_at h0 hk,List.append_assoc];rfl
  have hp:pre_nr2 s f c a (List.getD z y.toNat 0) n i (List.length z:Int) y (List.length c:Int) 0 g q l z=true:=by
   simp only[pre_nr2,andd,dec_iff]
   exact⟨Int.le_refl 0,trivial,h2,by omega⟩
  rw[decide_eq_true hk,inb_ok h0 hk,hp,w]at hx
  right
  refine⟨s,f,c,a,n,i,(List.length z:Int),y+1,g,q,l++addE a c (List.getD z y.toNat 0),z, ?_, ?_, ?_,fun R=>hx R⟩
  ·simp only[pre_nr1,andd,dec_iff]
   rw[List.length_append,addE_len]
   exact⟨by omega,trivial,h1,h2,by omega⟩
  ·simp only[mu_nr1];omega
  ·simp only[res_nr1,hd]
 ·left
  intro R
  refine(hx R).trans ?_
  rw[decide_eq_false hk]
  have e:l++kindsE a c (List.drop y.toNat z)=l:=by
   rw[List.drop_eq_nil_of_le (by omega)]
   exact List.append_nil l
  simp only[res_nr1,e];rfl
def g_nr1:St→Cont→Option Fin:=gP sh_nr1 (fun v=>match v with | ((s,f,c,a,n,i,x,y,()),(g,q,l,z,()))=>pre_nr1 s f c a n i x y g q l z) (fun v K=>match v with | ((s,f,c,a,n,i,x,y,()),(g,q,l,z,()))=>res_nr1 s f c a n i x y g q l z K)
def L_nr1:LpL:=(7,g_nr1)::L_nr2
theorem l_nr1 {L:LpL} (n:Nat) (h1:L.drop n=L_nr2) (h2:idsFree (L.take n) (loopOf Tryz.f53 1)=true):LoopsTo g_nr1 (cb_nr) (loopOf Tryz.f53 1) 7 L :=
 with_drop h1 h2 (gP_ok (fun v=>match v with | ((s,f,c,a,n,i,x,y,()),(g,q,l,z,()))=>mu_nr1 s f c a n i x y g q l z) fun v K hI=>by
  obtain⟨⟨s,f,c,a,n,i,x,y,⟨⟩⟩,⟨g,q,l,z,⟨⟩⟩⟩:=v
  exact(r_nr1 s f c a n i x y g q l z K hI).imp id fun⟨s',f',c',a',n',i',x',y',g',q',l',z',h⟩=>⟨((s',f',c',a',n',i',x',y',()),(g',q',l',z',())),h⟩)
def editsE (i:Int) (c:Str):List Edit:=((2,i,[]):Edit)::kindsE i c [3,1]
theorem x_impl_nearer (g:Gram) (s c:Str) (f n i:Int) (q:Edit) (R:St→Option Fin) (K:Cont):evC (cb_nr.withLoops (look L_nr1)) (loopOf Tryz.f53 0) ⟨[(1,vS s),(2,vI f),(3, pA),(6, pB),(9,vS c),(23,vI n),(24,vI i)],[(500000,some (boxD 25 TG g)),(500001,some (boxD 35 TE q))]⟩ (onward (headAt (cb_nr.withLoops (look L_nr1)) 3) R K)=(
branch (decide (i<n)) (
 need (pre_nr1 s f c i n i 2 0 g q [(2,i,([]:Str))] [3,1]) <|
 need (pre_nr3 s f c n i (List.length (editsE i c):Int) 0 g q (editsE i c)) <|
 branch ((fstE (okN (farV g) s f) (editsE i c)).isSome) (K .ret ⟨[(6, pA),(7,vS (EdDo s ((fstE (okN (farV g) s f) (editsE i c)).getD ed0)).1),(8,vB true)],[(500000,some (boxD 35 TE ((fstE (okN (farV g) s f) (editsE i c)).getD ed0)))]⟩) (R ⟨[(1,vS s),(2,vI f),(3, pA),(6, pB),(9,vS c),(23,vI n),(24,vI (W64 (i+1)))],[(500000,some (boxD 25 TG g)),(500001,some (boxD 35 TE q))]⟩)) (K (.exit 0) ⟨[(6, pA)],[(500000,some (boxD 35 TE q))]⟩)):=by kernel_rfl
def nearN (p:Edit→Bool) (c:Str):Nat→Int→Option Edit
 |0,_=>none
 |m+1,i=>bif (fstE p (editsE i c)).isSome then fstE p (editsE i c)else nearN p c m (i+1)
theorem editsE_len {i:Int} {c:Str}:(editsE i c).length=1+2*c.length:=by
 show((2,i,[])::(addE i c 3++(addE i c 1++[]))).length=_
 rw[List.length_cons,List.length_append,List.length_append,addE_len,addE_len,List.length_nil];omega
def cx0_nr0:Cx:=(cb_nr).withLoops (look L_nr1)
def sh_nr0:Sh:=([(1, .d .str),(2, .d TI64),(3, .ptr 500000 0),(6, .ptr 500001 0),(9, .d .str),(23, .d TI64),(24, .d TI64)],[(500000, .box 25 TG),(500001, .box 35 TE)])
abbrev st_nr0 (s:Str) (f:Int) (c:Str) (n i:Int) (g:Gram) (q:Edit):St:=⟨[(1,vS s),(2,vI f),(3, .d (.one (.ptr 500000 0))),(6, .d (.one (.ptr 500001 0))),(9,vS c),(23,vI n),(24,vI i)],[(500000,some (boxD 25 TG g)),(500001,some (boxD 35 TE q))]⟩
def pre_nr0 (_s:Str) (_f:Int) (c:Str) (n i:Int) (g:Gram) (_q:Edit):Bool:=decide (0≤i)&&(decide (n≤1001)&&(okRd g.2&&decide (List.length c≤10)))
def res_nr0 (s:Str) (f:Int) (c:Str) (n i:Int) (g:Gram) (q:Edit) (K:Cont):Option Fin:=branch ((nearN (okN (farV g) s f) c (n-i).toNat i).isSome) (K .ret ⟨[(6, pA),(7,vS (EdDo s ((nearN (okN (farV g) s f) c (n-i).toNat i).getD ed0)).1),(8,vB true)],[(500000,some (boxD 35 TE ((nearN (okN (farV g) s f) c (n-i).toNat i).getD ed0)))]⟩) (K (.exit 0) ⟨[(6, pA)],[(500000,some (boxD 35 TE q))]⟩)
def mu_nr0 (_s:Str) (_f:Int) (_c:Str) (n i:Int) (_g:Gram) (_q:Edit):Nat:=(n-i).toNat
theorem r_nr0 (s:Str) (f:Int) (c:Str) (n i:Int) (g:Gram) (q:Edit) (K:Cont) (hI:pre_nr0 s f c n i g q=true):(∀R:St→Option Fin,evC cx0_nr0 (loopOf Tryz.f53 0) (st_nr0 s f c n i g q) (onward (headAt cx0_nr0 3) R K)=res_nr0 s f c n i g q K) ∨
  (∃(s':Str) (f':Int) (c':Str) (n' i':Int) (g':Gram) (q':Edit),pre_nr0 s' f' c' n' i' g' q'=true∧mu_nr0 s' f' c' n' i' g' q'<mu_nr0 s f c n i g q∧res_nr0 s' f' c' n' i' g' q' K=res_nr0 s f c n i g q K∧∀R:St→Option Fin,evC cx0_nr0 (loopOf Tryz.f53 0) (st_nr0 s f c n i g q) (onward (headAt cx0_nr0 3) R K)=R (st_nr0 s' f' c' n' i' g' q')):=by
 have hx:=fun R=>x_impl_nearer g s c f n i q R K
 simp only[pre_nr0,andd,dec_iff]at hI
 obtain⟨h0,h1,h2,h3⟩:=hI
 by_cases hi:i<n
 ·have w:W64 (i+1)=i+1:=wrap_small (by omega) (by omega)
  obtain⟨m,hm⟩:∃m,(n-i).toNat=m+1:=⟨(n-i).toNat-1,by omega⟩
  have hm2:(n-(i+1)).toNat=m:=by omega
  have hp:pre_nr1 s f c i n i 2 0 g q [(2,i,([]:Str))] [3,1]=true:=by
   simp only[pre_nr1,andd,dec_iff]
   exact⟨Int.le_refl 0,rfl,by decide,h3,by rw[List.length_singleton];omega⟩
  have hq:pre_nr3 s f c n i (List.length (editsE i c):Int) 0 g q (editsE i c)=true:=by
   simp only[pre_nr3,andd,dec_iff]
   exact⟨Int.le_refl 0,trivial,h2,by rw[editsE_len];omega⟩
  have hn:nearN (okN (farV g) s f) c (m+1) i=bif (fstE (okN (farV g) s f) (editsE i c)).isSome then fstE (okN (farV g) s f) (editsE i c)else nearN (okN (farV g) s f) c m (i+1):=rfl
  rw[decide_eq_true hi,hp,hq,w]at hx
  cases hc:(fstE (okN (farV g) s f) (editsE i c)).isSome
  ·rw[hc]at hx hn
   right
   refine⟨s,f,c,n,i+1,g,q, ?_, ?_, ?_,fun R=>hx R⟩
   ·simp only[pre_nr0,andd,dec_iff]
    exact⟨by omega,h1,h2,h3⟩
   ·simp only[mu_nr0];omega
   ·simp only[res_nr0,hm,hm2,hn];rfl
  ·rw[hc]at hx hn
   left
   intro R
   refine(hx R).trans ?_
   simp only[res_nr0,hm,hn,cond_true,hc];rfl
 ·left
  intro R
  refine(hx R).trans ?_
  rw[decide_eq_false hi]
  have e:(n-i).toNat=0:=by omega
  simp only[res_nr0,e];rfl
def g_nr0:St→Cont→Option Fin:=gP sh_nr0 (fun v=>match v with | ((s,f,c,n,i,()),(g,q,()))=>pre_nr0 s f c n i g q) (fun v K=>match v with | ((s,f,c,n,i,()),(g,q,()))=>res_nr0 s f c n i g q K)
def L_nr0:LpL:=(3,g_nr0)::L_nr1
def cx_nr0:Cx:=(cb_nr).withLoops (look L_nr0)
theorem l_nr0 {L:LpL} (n:Nat) (h1:L.drop n=L_nr1) (h2:idsFree (L.take n) (loopOf Tryz.f53 0)=true):LoopsTo g_nr0 (cb_nr) (loopOf Tryz.f53 0) 3 L :=
 with_drop h1 h2 (gP_ok (fun v=>match v with | ((s,f,c,n,i,()),(g,q,()))=>mu_nr0 s f c n i g q) fun v K hI=>by
  obtain⟨⟨s,f,c,n,i,⟨⟩⟩,⟨g,q,⟨⟩⟩⟩:=v
  exact(r_nr0 s f c n i g q K hI).imp id fun⟨s',f',c',n',i',g',q',h⟩=>⟨((s',f',c',n',i',()),(g',q',())),h⟩)
theorem y_impl_nearer (g:Gram) (s:Str) (f:Int):evFn cx_nr0 Tryz.f53 true [ofD TG g,ofD .str s,ofD TI64 f] []=(
need (pre_nr0 s f (bif okG g then smallsG g else []) (W64 ((s.length:Int)+1)) 0 g (0,0,([]:Str))) <|
branch ((nearN (okN (farV g) s f) (bif okG g then smallsG g else []) (W64 ((s.length:Int)+1)-0).toNat 0).isSome) ( some ((.tup [(.agg [(.r (.v (Value.int IntKind.i64 ((nearN (okN (farV g) s f) (bif okG g then smallsG g else []) (W64 ((s.length:Int)+1)-0).toNat 0).getD ed0).fst))),(.r (.v (Value.int IntKind.i64 ((nearN (okN (farV g) s f) (bif okG g then smallsG g else []) (W64 ((s.length:Int)+1)-0).toNat 0).getD ed0).snd.fst))),(.r (.v (Value.string (mk ((nearN (okN (farV g) s f) (bif okG g then smallsG g else []) (W64 ((s.length:Int)+1)-0).toNat 0).getD ed0).snd.snd))))]),(.one (.r (.v (Value.string (mk (EdDo s ((nearN (okN (farV g) s f) (bif okG g then smallsG g else []) (W64 ((s.length:Int)+1)-0).toNat 0).getD ed0)).fst))))),(.one (.r (.v (Value.bool true))))]),[])) ( some ((.tup [(.agg [(.r (.v (Value.int IntKind.i64 0))),(.r (.v (Value.int IntKind.i64 0))),(.r (.v (Value.string (mk []))))]),(.one (.r (.v (Value.string (mk []))))),(.one (.r (.v (Value.bool false))))]),[]))):=by kernel_rfl
def nearV (F:Str→Int) (g:Gram) (s:Str) (f:Int):Option Edit:=nearN (okN F s f) (smallsG g) (List.length s+1) 0
def nearT (s:Str) (o:Option Edit):T := .tup [ofD TE (o.getD ed0),ofD .str (bif o.isSome then(EdDo s (o.getD ed0)).1 else []),ofD .bool o.isSome]
theorem nearN_none {p:Edit→Bool} {c:Str}:∀ {m:Nat} {i:Int},(nearN p c m i).isSome=false→nearN p c m i=none
 |_,_,h=>Option.isSome_eq_false_iff.1 h |> Option.isNone_iff_eq_none.1
theorem s_impl_nearer (g:Gram) (_hg:Fit TG g) (s:Str) (_hs:Fit .str s) (f:Int) (_hf:Fit TI64 f) (hpre:(okG g&&decide (List.length s≤1000))=true):Sat Tryz.prog 53 [ofD TG g,ofD .str s,ofD TI64 f] [] (nearT s (nearV (farV g) g s f)) [] :=
 fn_sound (cx:=cx_nr0) Tryz.func53 rfl ttOk Γ88ok mixed (fun c hc=>LoopsOk.all (l:=[(3,loopOf Tryz.f53 0),(7,loopOf Tryz.f53 1),(10,loopOf Tryz.f53 2),(16,loopOf Tryz.f53 3)]) (by cases hc;kernel_rfl) ⟨atLoop rfl (l_nr0 1 rfl (by kernel_rfl)),atLoop rfl (l_nr1 2 rfl (by kernel_rfl)),atLoop rfl (l_nr2 3 rfl (by kernel_rfl)),atLoop rfl (l_nr3 4 rfl (by kernel_rfl)),trivial⟩) (ro:=true) (by
  obtain⟨h1,h2⟩:=andd.1 hpre
  have h2:=dec_iff.1 h2
  have w:W64 ((List.length s:Int)+1)=(List.length s:Int)+1:=wrap_small (by omega) (by omega)
  have e:((List.length s:Int)+1-0).toNat=List.length s+1:=by omega
  have hp:pre_nr0 s f (smallsG g) ((List.length s:Int)+1) 0 g ed0=true:=by
   simp only[pre_nr0,andd,dec_iff]
   have:=smalls_four (g:=g)
   exact⟨Int.le_refl 0,by omega,okRd_G h1,by omega⟩
  rw[y_impl_nearer,h1,cond_true,w,hp,e]
  show branch ((nearV (farV g) g s f).isSome) _ _=_
  cases hc:(nearV (farV g) g s f).isSome
  ·have hn:nearV (farV g) g s f=none:=nearN_none hc
   rw[hn];rfl
  ·unfold nearT
   rw[hc];rfl)
def c_impl_nearer:Con:=conT [TG, .str,TI64] fun(g:Gram) (s:Str) (f:Int)=>(some (okG g&&decide (List.length s≤1000)),nearT s (nearV (farV g) g s f))
theorem k_impl_nearer:ConOk Tryz.prog 53 c_impl_nearer:=conT_ok Tryz.call53 fun g hg s hs f hf hqq=>s_impl_nearer g hg s hs f hf (pre_of hqq)
def Γ89:GL:=(53,c_impl_nearer)::Γ88
theorem Γ89ok:GO Γ89 := .cons k_impl_nearer Γ88ok
end
end Go.Proofs.YtmeiebnfmhddnaaGreatDoor.Ev
