/-
  The first edit that brings a text nearer: of the program.
-/
import Derived.Test.YtmeiebnfmhddnaaGreatDoorHra
namespace Go.Proofs.YtmeiebnfmhddnaaGreatDoor.Ev
open Go
open List (length length_append length_cons length_singleton length_replicate length_set length_take length_drop mem_cons_of_mem mem_cons_self getD replicate mem_append_left mem_append_right all_eq_true drop_eq_getElem_cons drop_eq_nil_of_le append_assoc mem_singleton getElem?_append_left getElem?_append_right getElem?_eq_none getElem?_take mem_append)
noncomputable section
def cb_nr:Cx:=cxOf Γ95 Tryz.f53.ntmps [(16,[1,2,3,6,9,23,24,54,55,56]),(10,[1,2,3,6,9,10,11,13,23,24,30,31,32,37,38]),(7,[1,2,3,6,9,10,11,23,24,30,31,32]),(3,[1,2,3,6,9,23,24])] [(0,[6]),(1,[1,2,3,6,9,23,24]),(6,[1,2,3,6,9,23,24]),(7,[1,2,3,6,9,23,24,54,55,56]),(2,[1,2,3,6,9,11,23,24]),(3,[1,2,3,6,9,10,11,23,24,30,31,32]),(4,[1,2,3,6,9,10,11,23,24,30,31,32]),(5,[1,2,3,6,9,10,11,13,23,24,30,31,32,37,38]),(1000000,[6,7,8])] [] []
abbrev st_nr3 (s:Str) (f:Int) (c:Str) (n i m k:Int) (g:Gram) (q:Edit) (l:List (Edit)):St:=⟨[(1,vS s),(2,vI f),(3, kp0),(6, kp1),(9,vS c),(23,vI n),(24,vI i),(54, ko2),(55,vI m),(56,vI k)],[(500000,some (boxD 25 TG g)),(500001,some (boxD 35 TE q)),(500002,some (.lis 35 TE l))]⟩
theorem x_impl_nearer_3 (g:Gram) (s c:Str) (f n i m k:Int) (q:Edit) (l:List Edit) (R:St→Option Fin) (K:Cont):evC (cb_nr.withLoops (look [])) (loopOf Tryz.f53 3) (st_nr3 s f c n i m k g q l) (onward (headAt (cb_nr.withLoops (look [])) 16) R K)=(
branch (decide (k<m)) (
 need (inb k l.length) <|
 need (bif decide ((EdDo s (l.getD k.toNat ed0)).snd=true)then okRd g.snd&&decide ((length (EdDo s (l.getD k.toNat ed0)).fst)≤1000)else true) <|
 branch (bif (EdDo s (l.getD k.toNat ed0)).snd then decide (dofV (EdDo s (l.getD k.toNat ed0)).fst (distM (EdDo s (l.getD k.toNat ed0)).fst g.snd) g.fst 0 (length (EdDo s (l.getD k.toNat ed0)).fst:Int)<f)else false) ( K (.ret) (.mk [(6,kp0),(7,(vS (EdDo s (l.getD k.toNat ed0)).fst)),(8,vB true)] [(500000,(.some (.box 35 [(.r (.v (Value.int IntKind.i64 (l.getD k.toNat ed0).fst))),(.r (.v (Value.int IntKind.i64 (l.getD k.toNat ed0).snd.fst))),(.r (.v (Value.string (mk (l.getD k.toNat ed0).snd.snd))))])))])) ( R (st_nr3 s f c n i m (W64 (k+1)) g q l))) ( K (.exit 6) (.mk [(1,vS s),(2,vI f),(3,kp0),(6,kp1),(9,vS c),(23,vI n),(24,vI i)] [(500000,some (boxD 25 TG g)),(500001,some (boxD 35 TE q))]))):=by kernel_rfl
def okN (F:Str→Int) (s:Str) (f:Int) (e:Edit):Bool:=bif (EdDo s e).2 then decide (F (EdDo s e).1<f)else false
def fstE (p:Edit→Bool):List Edit→Option Edit
 | []=>none
 |e::l=>bif p e then some e else fstE p l
theorem dropE_at {l:List Edit} {k:Int} (h0:0≤k) (h1:k<(length l:Int)):List.drop k.toNat l=getD l k.toNat ed0::List.drop (k+1).toNat l:=by
 have hn:k.toNat<length l:=by omega
 rw[drop_eq_getElem_cons hn,show (k+1).toNat=k.toNat+1 by omega,zG,zE hn];rfl
def nrR (g:Gram) (s c:Str) (f n i:Int) (q:Edit) (K:Cont) (o:Option Edit):Option Fin:=branch o.isSome
 (K .ret ⟨[(6, kp0),(7,vS (EdDo s (o.getD ed0)).1),(8,vB true)],[(500000,some (boxD 35 TE (o.getD ed0)))]⟩)
 (K (.exit 6) ⟨[(1,vS s),(2,vI f),(3, kp0),(6, kp1),(9,vS c),(23,vI n),(24,vI i)],[(500000,some (boxD 25 TG g)),(500001,some (boxD 35 TE q))]⟩)
def cx0_nr3:Cx:=(cb_nr).withLoops (look [])
def sh_nr3:Sh:=([(1, .d .str),(2, .d TI64),(3, .ptr 500000 0),(6, .ptr 500001 0),(9, .d .str),(23, .d TI64),(24, .d TI64),(54, .own 500002),(55, .d TI64),(56, .d TI64)],[(500000, .box 25 TG),(500001, .box 35 TE),(500002, .lis 35 TE)])
def pre_nr3 (_s:Str) (_f:Int) (_c:Str) (_n _i m k:Int) (g:Gram) (_q:Edit) (l:List (Edit)):Bool:=decide (0≤k)&&(decide (m=(length l:Int))&&(okRd g.2&&decide (length l≤1000)))
def res_nr3 (s:Str) (f:Int) (c:Str) (n i _m k:Int) (g:Gram) (q:Edit) (l:List (Edit)) (K:Cont):Option Fin:=nrR g s c f n i q K (fstE (okN (farV g) s f) (List.drop k.toNat l))
def mu_nr3 (_s:Str) (_f:Int) (_c:Str) (_n _i _m k:Int) (_g:Gram) (_q:Edit) (l:List (Edit)):Nat:=length l-k.toNat
theorem r_nr3 (s:Str) (f:Int) (c:Str) (n i m k:Int) (g:Gram) (q:Edit) (l:List (Edit)) (K:Cont) (hI:pre_nr3 s f c n i m k g q l=true):(∀R:St→Option Fin,evC cx0_nr3 (loopOf Tryz.f53 3) (st_nr3 s f c n i m k g q l) (onward (headAt cx0_nr3 16) R K)=res_nr3 s f c n i m k g q l K) ∨
  (∃(s':Str) (f':Int) (c':Str) (n' i' m' k':Int) (g':Gram) (q':Edit) (l':List (Edit)),pre_nr3 s' f' c' n' i' m' k' g' q' l'=true∧mu_nr3 s' f' c' n' i' m' k' g' q' l'<mu_nr3 s f c n i m k g q l∧res_nr3 s' f' c' n' i' m' k' g' q' l' K=res_nr3 s f c n i m k g q l K∧∀R:St→Option Fin,evC cx0_nr3 (loopOf Tryz.f53 3) (st_nr3 s f c n i m k g q l) (onward (headAt cx0_nr3 16) R K)=R (st_nr3 s' f' c' n' i' m' k' g' q' l')):=by
 have hx:=fun R=>x_impl_nearer_3 g s c f n i m k q l R K;simp only[pre_nr3,andd,dec_iff]at hI;obtain⟨h0,rfl,h2,h3⟩:=hI
 by_cases hk:k<(length l:Int)
 ·have w:W64 (k+1)=k+1:=wrap_small (by omega) (by omega);have hd:=dropE_at h0 hk;have kk:(bif decide ((EdDo s (getD l k.toNat ed0)).2=true)then okRd g.2&&decide ((length (EdDo s (getD l k.toNat ed0)).1)≤1000)else true)=true:=by
   cases hb:(EdDo s (getD l k.toNat ed0)).2
   ·rfl
   ·have:=(EdDo_short hb).2;exact andd.2 ⟨h2,zT (by omega)⟩
  rw[zT hk,inb_ok h0 hk,kk,w]at hx;change ∀R:St→Option Fin,_=branch (okN (farV g) s f (getD l k.toNat ed0)) _ _ at hx;have hf:fstE (okN (farV g) s f) (List.drop k.toNat l)=bif okN (farV g) s f (getD l k.toNat ed0)then some (getD l k.toNat ed0)else fstE (okN (farV g) s f) (List.drop (k+1).toNat l):=by rw[hd];rfl
  cases hc:okN (farV g) s f (getD l k.toNat ed0)
  ·rw[hc]at hx hf;right;refine⟨s,f,c,n,i,(length l:Int),k+1,g,q,l, ?_, ?_, ?_,fun R=>hx R⟩
   ·simp only[pre_nr3,andd,dec_iff];exact⟨by omega,trivial,h2,h3⟩
   ·simp only[mu_nr3];omega
   ·simp only[res_nr3,hf];rfl
  ·rw[hc]at hx hf;left;intro R;refine(hx R).trans ?_;simp only[res_nr3,hf];rfl
 ·left;intro R;refine(hx R).trans ?_;rw[zF hk];have e:List.drop k.toNat l=[]:=drop_eq_nil_of_le (by omega);simp only[res_nr3,e];rfl
def g_nr3:St→Cont→Option Fin:=gP sh_nr3 (fun v=>match v with | ((s,f,c,n,i,m,k,()),(g,q,l,()))=>pre_nr3 s f c n i m k g q l) (fun v K=>match v with | ((s,f,c,n,i,m,k,()),(g,q,l,()))=>res_nr3 s f c n i m k g q l K)
def L_nr3:LpL:=(16,g_nr3)::[]
theorem l_nr3 {L:LpL} (n:Nat) (h1:L.drop n=[]) (h2:idsFree (L.take n) (loopOf Tryz.f53 3)=true):LoopsTo g_nr3 (cb_nr) (loopOf Tryz.f53 3) 16 L :=
 with_drop h1 h2 (gP_ok (fun v=>match v with | ((s,f,c,n,i,m,k,()),(g,q,l,()))=>mu_nr3 s f c n i m k g q l) fun v K hI=>by
  obtain⟨⟨s,f,c,n,i,m,k,⟨⟩⟩,⟨g,q,l,⟨⟩⟩⟩:=v;exact(r_nr3 s f c n i m k g q l K hI).imp id fun⟨s',f',c',n',i',m',k',g',q',l',h⟩=>⟨((s',f',c',n',i',m',k',()),(g',q',l',())),h⟩)
abbrev st_nr2 (s:Str) (f:Int) (c:Str) (a d n i x y m k:Int) (g:Gram) (q:Edit) (l:List (Edit)) (z:List (Int)):St:=⟨[(1,vS s),(2,vI f),(3, kp0),(6, kp1),(9,vS c),(10,vI a),(11, ko2),(13,vI d),(23,vI n),(24,vI i),(30, ko3),(31,vI x),(32,vI y),(37,vI m),(38,vI k)],[(500000,some (boxD 25 TG g)),(500001,some (boxD 35 TE q)),(500002,some (.lis 35 TE l)),(500003,some (.lis 3 TI64 z))]⟩
theorem x_impl_nearer_2 (g:Gram) (s c:Str) (f a d n i x y m k:Int) (q:Edit) (l:List Edit) (z:List Int) (R:St→Option Fin) (K:Cont):evC (cb_nr.withLoops (look L_nr3)) (loopOf Tryz.f53 2) (st_nr2 s f c a d n i x y m k g q l z) (onward (headAt (cb_nr.withLoops (look L_nr3)) 10) R K)=(
branch (decide (k<m)) (
 need (inr k (W64 (k+1)) c.length) <|
 need (fits (l.length+[(d,a,List.take ((W64 (k+1)).toNat-k.toNat) (List.drop k.toNat c))].length) Tryz.t35.bytes) <| R (st_nr2 s f c a d n i x y m (W64 (k+1)) g q (l.append [(d,a,List.take ((W64 (k+1)).toNat-k.toNat) (List.drop k.toNat c))]) z)) ( K (.exit 4) (.mk [(1,vS s),(2,vI f),(3,kp0),(6,kp1),(9,vS c),(10,vI a),(11,ko2),(23,vI n),(24,vI i),(30,ko3),(31,vI x),(32,vI y)] [(500000,some (boxD 25 TG g)),(500001,some (boxD 35 TE q)),(500002,some (.lis 35 TE l)),(500003,some (.lis 3 TI64 z))]))):=by kernel_rfl
def addE (a:Int) (c:Str) (d:Int):List Edit:=List.map (fun x=>((d,a,[x]):Edit)) c
theorem editFits {n m:Nat} (h:n+m≤100000):fits (n+m) Tryz.t35.bytes=true:=fits_ok h (by decide)
theorem dropC_at {s:Str} {i:Int} (h0:0≤i) (h1:i<(s.length:Int)):s.drop i.toNat=s.getD i.toNat 0::s.drop (i+1).toNat:=by
 have hn:i.toNat<s.length:=by omega
 rw[drop_eq_getElem_cons hn,show (i+1).toNat=i.toNat+1 by omega,zG,zE hn];rfl
def cx0_nr2:Cx:=(cb_nr).withLoops (look L_nr3)
def sh_nr2:Sh:=([(1, .d .str),(2, .d TI64),(3, .ptr 500000 0),(6, .ptr 500001 0),(9, .d .str),(10, .d TI64),(11, .own 500002),(13, .d TI64),(23, .d TI64),(24, .d TI64),(30, .own 500003),(31, .d TI64),(32, .d TI64),(37, .d TI64),(38, .d TI64)],[(500000, .box 25 TG),(500001, .box 35 TE),(500002, .lis 35 TE),(500003, .lis 3 TI64)])
def pre_nr2 (_s:Str) (_f:Int) (c:Str) (_a _d _n _i _x _y m k:Int) (_g:Gram) (_q:Edit) (l:List (Edit)) (_z:List (Int)):Bool:=decide (0≤k)&&(decide (m=(length c:Int))&&(decide (length c≤10)&&decide ((length l:Int)+m-k≤1000)))
def res_nr2 (s:Str) (f:Int) (c:Str) (a d n i x y _m k:Int) (g:Gram) (q:Edit) (l:List (Edit)) (z:List (Int)) (K:Cont):Option Fin:=K (.exit 4) ⟨[(1,vS s),(2,vI f),(3, kp0),(6, kp1),(9,vS c),(10,vI a),(11, ko2),(23,vI n),(24,vI i),(30, ko3),(31,vI x),(32,vI y)],[(500000,some (boxD 25 TG g)),(500001,some (boxD 35 TE q)),(500002,some (.lis 35 TE (l++addE a (List.drop k.toNat c) d))),(500003,some (.lis 3 TI64 z))]⟩
def mu_nr2 (_s:Str) (_f:Int) (c:Str) (_a _d _n _i _x _y _m k:Int) (_g:Gram) (_q:Edit) (_l:List (Edit)) (_z:List (Int)):Nat:=length c-k.toNat
theorem r_nr2 (s:Str) (f:Int) (c:Str) (a d n i x y m k:Int) (g:Gram) (q:Edit) (l:List (Edit)) (z:List (Int)) (K:Cont) (hI:pre_nr2 s f c a d n i x y m k g q l z=true):(∀R:St→Option Fin,evC cx0_nr2 (loopOf Tryz.f53 2) (st_nr2 s f c a d n i x y m k g q l z) (onward (headAt cx0_nr2 10) R K)=res_nr2 s f c a d n i x y m k g q l z K) ∨
  (∃(s':Str) (f':Int) (c':Str) (a' d' n' i' x' y' m' k':Int) (g':Gram) (q':Edit) (l':List (Edit)) (z':List (Int)),pre_nr2 s' f' c' a' d' n' i' x' y' m' k' g' q' l' z'=true∧mu_nr2 s' f' c' a' d' n' i' x' y' m' k' g' q' l' z'<mu_nr2 s f c a d n i x y m k g q l z∧res_nr2 s' f' c' a' d' n' i' x' y' m' k' g' q' l' z' K=res_nr2 s f c a d n i x y m k g q l z K∧∀R:St→Option Fin,evC cx0_nr2 (loopOf Tryz.f53 2) (st_nr2 s f c a d n i x y m k g q l z) (onward (headAt cx0_nr2 10) R K)=R (st_nr2 s' f' c' a' d' n' i' x' y' m' k' g' q' l' z')):=by
 have hx:=fun R=>x_impl_nearer_2 g s c f a d n i x y m k q l z R K;simp only[pre_nr2,andd,dec_iff]at hI;obtain⟨h0,rfl,h2,h3⟩:=hI
 by_cases hk:k<(length c:Int)
 ·have w:W64 (k+1)=k+1:=wrap_small (by omega) (by omega);have hd:l++addE a (List.drop k.toNat c) d=(l++[(d,a,[getD c k.toNat 0])])++addE a (List.drop (k+1).toNat c) d:=by
   rw[dropC_at h0 hk,append_assoc];rfl
  rw[zT hk,w,inr_iff.2 (by omega:0≤k∧k≤k+1∧k+1≤(length c:Int)),slice_one h0 hk,editFits (by rw[length_singleton];omega)]at hx;right;refine⟨s,f,c,a,d,n,i,x,y,(length c:Int),k+1,g,q,l++[(d,a,[getD c k.toNat 0])],z, ?_, ?_, ?_,fun R=>hx R⟩
  ·simp only[pre_nr2,andd,dec_iff];rw[length_append,length_singleton];exact⟨by omega,trivial,h2,by omega⟩
  ·simp only[mu_nr2];omega
  ·simp only[res_nr2,hd]
 ·left;intro R;refine(hx R).trans ?_;rw[zF hk];have e:l++addE a (List.drop k.toNat c) d=l:=by
   rw[drop_eq_nil_of_le (by omega)];exact List.append_nil l
  simp only[res_nr2,e];rfl
def g_nr2:St→Cont→Option Fin:=gP sh_nr2 (fun v=>match v with | ((s,f,c,a,d,n,i,x,y,m,k,()),(g,q,l,z,()))=>pre_nr2 s f c a d n i x y m k g q l z) (fun v K=>match v with | ((s,f,c,a,d,n,i,x,y,m,k,()),(g,q,l,z,()))=>res_nr2 s f c a d n i x y m k g q l z K)
def L_nr2:LpL:=(10,g_nr2)::L_nr3
theorem l_nr2 {L:LpL} (n:Nat) (h1:L.drop n=L_nr3) (h2:idsFree (L.take n) (loopOf Tryz.f53 2)=true):LoopsTo g_nr2 (cb_nr) (loopOf Tryz.f53 2) 10 L :=
 with_drop h1 h2 (gP_ok (fun v=>match v with | ((s,f,c,a,d,n,i,x,y,m,k,()),(g,q,l,z,()))=>mu_nr2 s f c a d n i x y m k g q l z) fun v K hI=>by
  obtain⟨⟨s,f,c,a,d,n,i,x,y,m,k,⟨⟩⟩,⟨g,q,l,z,⟨⟩⟩⟩:=v;exact(r_nr2 s f c a d n i x y m k g q l z K hI).imp id fun⟨s',f',c',a',d',n',i',x',y',m',k',g',q',l',z',h⟩=>⟨((s',f',c',a',d',n',i',x',y',m',k',()),(g',q',l',z',())),h⟩)
abbrev st_nr1 (s:Str) (f:Int) (c:Str) (a n i x y:Int) (g:Gram) (q:Edit) (l:List (Edit)) (z:List (Int)):St:=⟨[(1,vS s),(2,vI f),(3, kp0),(6, kp1),(9,vS c),(10,vI a),(11, ko2),(23,vI n),(24,vI i),(30, ko3),(31,vI x),(32,vI y)],[(500000,some (boxD 25 TG g)),(500001,some (boxD 35 TE q)),(500002,some (.lis 35 TE l)),(500003,some (.lis 3 TI64 z))]⟩
theorem x_impl_nearer_1 (g:Gram) (s c:Str) (f a n i x y:Int) (q:Edit) (l:List Edit) (z:List Int) (R:St→Option Fin) (K:Cont):evC (cb_nr.withLoops (look L_nr2)) (loopOf Tryz.f53 1) (st_nr1 s f c a n i x y g q l z) (onward (headAt (cb_nr.withLoops (look L_nr2)) 7) R K)=(
branch (decide (y<x)) (
 need (inb y z.length) <|
 need (pre_nr2 s f c a (z.getD y.toNat 0) n i x y ((c.length:Int)) 0 g q l z) <| R (st_nr1 s f c a n i x (W64 (y+1)) g q (l.append (addE a c (z.getD y.toNat 0))) z)) ( K (.exit 2) (.mk [(1,vS s),(2,vI f),(3,kp0),(6,kp1),(9,vS c),(11,ko2),(23,vI n),(24,vI i)] [(500000,some (boxD 25 TG g)),(500001,some (boxD 35 TE q)),(500002,some (.lis 35 TE l))]))):=by kernel_rfl
def kindsE (a:Int) (c:Str) (z:List Int):List Edit:=List.flatMap (addE a c) z
theorem dropI_at {l:List Int} {i:Int} (h0:0≤i) (h1:i<(l.length:Int)):l.drop i.toNat=l.getD i.toNat 0::l.drop (i+1).toNat:=by
 have hn:i.toNat<l.length:=by omega
 rw[drop_eq_getElem_cons hn,show (i+1).toNat=i.toNat+1 by omega,zG,zE hn];rfl
theorem addE_len {a d:Int} {c:Str}:(addE a c d).length=c.length:=List.length_map ..
def cx0_nr1:Cx:=(cb_nr).withLoops (look L_nr2)
def sh_nr1:Sh:=([(1, .d .str),(2, .d TI64),(3, .ptr 500000 0),(6, .ptr 500001 0),(9, .d .str),(10, .d TI64),(11, .own 500002),(23, .d TI64),(24, .d TI64),(30, .own 500003),(31, .d TI64),(32, .d TI64)],[(500000, .box 25 TG),(500001, .box 35 TE),(500002, .lis 35 TE),(500003, .lis 3 TI64)])
def pre_nr1 (_s:Str) (_f:Int) (c:Str) (_a _n _i x y:Int) (_g:Gram) (_q:Edit) (l:List (Edit)) (z:List (Int)):Bool:=decide (0≤y)&&(decide (x=(length z:Int))&&(decide (length z≤2)&&(decide (length c≤10)&&decide ((length l:Int)+10*(x-y)≤1000))))
def res_nr1 (s:Str) (f:Int) (c:Str) (a n i _x y:Int) (g:Gram) (q:Edit) (l:List (Edit)) (z:List (Int)) (K:Cont):Option Fin:=K (.exit 2) ⟨[(1,vS s),(2,vI f),(3, kp0),(6, kp1),(9,vS c),(11, ko2),(23,vI n),(24,vI i)],[(500000,some (boxD 25 TG g)),(500001,some (boxD 35 TE q)),(500002,some (.lis 35 TE (l++kindsE a c (List.drop y.toNat z))))]⟩
def mu_nr1 (_s:Str) (_f:Int) (_c:Str) (_a _n _i _x y:Int) (_g:Gram) (_q:Edit) (_l:List (Edit)) (z:List (Int)):Nat:=length z-y.toNat
theorem r_nr1 (s:Str) (f:Int) (c:Str) (a n i x y:Int) (g:Gram) (q:Edit) (l:List (Edit)) (z:List (Int)) (K:Cont) (hI:pre_nr1 s f c a n i x y g q l z=true):(∀R:St→Option Fin,evC cx0_nr1 (loopOf Tryz.f53 1) (st_nr1 s f c a n i x y g q l z) (onward (headAt cx0_nr1 7) R K)=res_nr1 s f c a n i x y g q l z K) ∨
  (∃(s':Str) (f':Int) (c':Str) (a' n' i' x' y':Int) (g':Gram) (q':Edit) (l':List (Edit)) (z':List (Int)),pre_nr1 s' f' c' a' n' i' x' y' g' q' l' z'=true∧mu_nr1 s' f' c' a' n' i' x' y' g' q' l' z'<mu_nr1 s f c a n i x y g q l z∧res_nr1 s' f' c' a' n' i' x' y' g' q' l' z' K=res_nr1 s f c a n i x y g q l z K∧∀R:St→Option Fin,evC cx0_nr1 (loopOf Tryz.f53 1) (st_nr1 s f c a n i x y g q l z) (onward (headAt cx0_nr1 7) R K)=R (st_nr1 s' f' c' a' n' i' x' y' g' q' l' z')):=by
 have hx:=fun R=>x_impl_nearer_1 g s c f a n i x y q l z R K;simp only[pre_nr1,andd,dec_iff]at hI;obtain⟨h0,rfl,h1,h2,h3⟩:=hI
 by_cases hk:y<(length z:Int)
 ·have w:W64 (y+1)=y+1:=wrap_small (by omega) (by omega);have hd:l++kindsE a c (List.drop y.toNat z)=(l++addE a c (getD z y.toNat 0))++kindsE a c (List.drop (y+1).toNat z):=by
   rw[dropI_at h0 hk,append_assoc];rfl
  have hp:pre_nr2 s f c a (getD z y.toNat 0) n i (length z:Int) y (length c:Int) 0 g q l z=true:=by
   simp only[pre_nr2,andd,dec_iff];exact⟨Int.le_refl 0,trivial,h2,by omega⟩
  rw[zT hk,inb_ok h0 hk,hp,w]at hx;right;refine⟨s,f,c,a,n,i,(length z:Int),y+1,g,q,l++addE a c (getD z y.toNat 0),z, ?_, ?_, ?_,fun R=>hx R⟩
  ·simp only[pre_nr1,andd,dec_iff];rw[length_append,addE_len];exact⟨by omega,trivial,h1,h2,by omega⟩
  ·simp only[mu_nr1];omega
  ·simp only[res_nr1,hd]
 ·left;intro R;refine(hx R).trans ?_;rw[zF hk];have e:l++kindsE a c (List.drop y.toNat z)=l:=by
   rw[drop_eq_nil_of_le (by omega)];exact List.append_nil l
  simp only[res_nr1,e];rfl
def g_nr1:St→Cont→Option Fin:=gP sh_nr1 (fun v=>match v with | ((s,f,c,a,n,i,x,y,()),(g,q,l,z,()))=>pre_nr1 s f c a n i x y g q l z) (fun v K=>match v with | ((s,f,c,a,n,i,x,y,()),(g,q,l,z,()))=>res_nr1 s f c a n i x y g q l z K)
def L_nr1:LpL:=(7,g_nr1)::L_nr2
theorem l_nr1 {L:LpL} (n:Nat) (h1:L.drop n=L_nr2) (h2:idsFree (L.take n) (loopOf Tryz.f53 1)=true):LoopsTo g_nr1 (cb_nr) (loopOf Tryz.f53 1) 7 L :=
 with_drop h1 h2 (gP_ok (fun v=>match v with | ((s,f,c,a,n,i,x,y,()),(g,q,l,z,()))=>mu_nr1 s f c a n i x y g q l z) fun v K hI=>by
  obtain⟨⟨s,f,c,a,n,i,x,y,⟨⟩⟩,⟨g,q,l,z,⟨⟩⟩⟩:=v;exact(r_nr1 s f c a n i x y g q l z K hI).imp id fun⟨s',f',c',a',n',i',x',y',g',q',l',z',h⟩=>⟨((s',f',c',a',n',i',x',y',()),(g',q',l',z',())),h⟩)
def editsE (i:Int) (c:Str):List Edit:=((2,i,[]):Edit)::kindsE i c [3,1]
abbrev st_nr0 (s:Str) (f:Int) (c:Str) (n i:Int) (g:Gram) (q:Edit):St:=⟨[(1,vS s),(2,vI f),(3, kp0),(6, kp1),(9,vS c),(23,vI n),(24,vI i)],[(500000,some (boxD 25 TG g)),(500001,some (boxD 35 TE q))]⟩
theorem x_impl_nearer (g:Gram) (s c:Str) (f n i:Int) (q:Edit) (R:St→Option Fin) (K:Cont):evC (cb_nr.withLoops (look L_nr1)) (loopOf Tryz.f53 0) (st_nr0 s f c n i g q) (onward (headAt (cb_nr.withLoops (look L_nr1)) 3) R K)=(
branch (decide (i<n)) (
 need (pre_nr1 s f c i n i 2 0 g q [(2,i,([]:Str))] [3,1]) <|
 need (pre_nr3 s f c n i (length (editsE i c):Int) 0 g q (editsE i c)) <|
 branch ((fstE (okN (farV g) s f) (editsE i c)).isSome) (K .ret ⟨[(6, kp0),(7,vS (EdDo s ((fstE (okN (farV g) s f) (editsE i c)).getD ed0)).1),(8,vB true)],[(500000,some (boxD 35 TE ((fstE (okN (farV g) s f) (editsE i c)).getD ed0)))]⟩) (R (st_nr0 s f c n (W64 (i+1)) g q))) (K (.exit 0) ⟨[(6, kp0)],[(500000,some (boxD 35 TE q))]⟩)):=by kernel_rfl
def nearN (p:Edit→Bool) (c:Str):Nat→Int→Option Edit
 |0,_=>none
 |m+1,i=>bif (fstE p (editsE i c)).isSome then fstE p (editsE i c)else nearN p c m (i+1)
theorem editsE_len {i:Int} {c:Str}:(editsE i c).length=1+2*c.length:=by
 show((2,i,[])::(addE i c 3++(addE i c 1++[]))).length=_;rw[length_cons,length_append,length_append,addE_len,addE_len,List.length_nil];omega
def cx0_nr0:Cx:=(cb_nr).withLoops (look L_nr1)
def sh_nr0:Sh:=([(1, .d .str),(2, .d TI64),(3, .ptr 500000 0),(6, .ptr 500001 0),(9, .d .str),(23, .d TI64),(24, .d TI64)],[(500000, .box 25 TG),(500001, .box 35 TE)])
def pre_nr0 (_s:Str) (_f:Int) (c:Str) (n i:Int) (g:Gram) (_q:Edit):Bool:=decide (0≤i)&&(decide (n≤1001)&&(okRd g.2&&decide (length c≤10)))
def res_nr0 (s:Str) (f:Int) (c:Str) (n i:Int) (g:Gram) (q:Edit) (K:Cont):Option Fin:=branch ((nearN (okN (farV g) s f) c (n-i).toNat i).isSome) (K .ret ⟨[(6, kp0),(7,vS (EdDo s ((nearN (okN (farV g) s f) c (n-i).toNat i).getD ed0)).1),(8,vB true)],[(500000,some (boxD 35 TE ((nearN (okN (farV g) s f) c (n-i).toNat i).getD ed0)))]⟩) (K (.exit 0) ⟨[(6, kp0)],[(500000,some (boxD 35 TE q))]⟩)
def mu_nr0 (_s:Str) (_f:Int) (_c:Str) (n i:Int) (_g:Gram) (_q:Edit):Nat:=(n-i).toNat
theorem r_nr0 (s:Str) (f:Int) (c:Str) (n i:Int) (g:Gram) (q:Edit) (K:Cont) (hI:pre_nr0 s f c n i g q=true):(∀R:St→Option Fin,evC cx0_nr0 (loopOf Tryz.f53 0) (st_nr0 s f c n i g q) (onward (headAt cx0_nr0 3) R K)=res_nr0 s f c n i g q K) ∨
  (∃(s':Str) (f':Int) (c':Str) (n' i':Int) (g':Gram) (q':Edit),pre_nr0 s' f' c' n' i' g' q'=true∧mu_nr0 s' f' c' n' i' g' q'<mu_nr0 s f c n i g q∧res_nr0 s' f' c' n' i' g' q' K=res_nr0 s f c n i g q K∧∀R:St→Option Fin,evC cx0_nr0 (loopOf Tryz.f53 0) (st_nr0 s f c n i g q) (onward (headAt cx0_nr0 3) R K)=R (st_nr0 s' f' c' n' i' g' q')):=by
 have hx:=fun R=>x_impl_nearer g s c f n i q R K;simp only[pre_nr0,andd,dec_iff]at hI;obtain⟨h0,h1,h2,h3⟩:=hI
 by_cases hi:i<n
 ·have w:W64 (i+1)=i+1:=wrap_small (by omega) (by omega);obtain⟨m,hm⟩:∃m,(n-i).toNat=m+1:=⟨(n-i).toNat-1,by omega⟩;have hm2:(n-(i+1)).toNat=m:=by omega
  have hp:pre_nr1 s f c i n i 2 0 g q [(2,i,([]:Str))] [3,1]=true:=by
   simp only[pre_nr1,andd,dec_iff];exact⟨Int.le_refl 0,rfl,by decide,h3,by rw[length_singleton];omega⟩
  have hq:pre_nr3 s f c n i (length (editsE i c):Int) 0 g q (editsE i c)=true:=by
   simp only[pre_nr3,andd,dec_iff];exact⟨Int.le_refl 0,trivial,h2,by rw[editsE_len];omega⟩
  have hn:nearN (okN (farV g) s f) c (m+1) i=bif (fstE (okN (farV g) s f) (editsE i c)).isSome then fstE (okN (farV g) s f) (editsE i c)else nearN (okN (farV g) s f) c m (i+1):=rfl;rw[zT hi,hp,hq,w]at hx
  cases hc:(fstE (okN (farV g) s f) (editsE i c)).isSome
  ·rw[hc]at hx hn;right;refine⟨s,f,c,n,i+1,g,q, ?_, ?_, ?_,fun R=>hx R⟩
   ·simp only[pre_nr0,andd,dec_iff];exact⟨by omega,h1,h2,h3⟩
   ·simp only[mu_nr0];omega
   ·simp only[res_nr0,hm,hm2,hn];rfl
  ·rw[hc]at hx hn;left;intro R;refine(hx R).trans ?_;simp only[res_nr0,hm,hn,cond_true,hc];rfl
 ·left;intro R;refine(hx R).trans ?_;rw[zF hi];have e:(n-i).toNat=0:=by omega
  simp only[res_nr0,e];rfl
def g_nr0:St→Cont→Option Fin:=gP sh_nr0 (fun v=>match v with | ((s,f,c,n,i,()),(g,q,()))=>pre_nr0 s f c n i g q) (fun v K=>match v with | ((s,f,c,n,i,()),(g,q,()))=>res_nr0 s f c n i g q K)
def L_nr0:LpL:=(3,g_nr0)::L_nr1
def cx_nr0:Cx:=(cb_nr).withLoops (look L_nr0)
theorem l_nr0 {L:LpL} (n:Nat) (h1:L.drop n=L_nr1) (h2:idsFree (L.take n) (loopOf Tryz.f53 0)=true):LoopsTo g_nr0 (cb_nr) (loopOf Tryz.f53 0) 3 L :=
 with_drop h1 h2 (gP_ok (fun v=>match v with | ((s,f,c,n,i,()),(g,q,()))=>mu_nr0 s f c n i g q) fun v K hI=>by
  obtain⟨⟨s,f,c,n,i,⟨⟩⟩,⟨g,q,⟨⟩⟩⟩:=v;exact(r_nr0 s f c n i g q K hI).imp id fun⟨s',f',c',n',i',g',q',h⟩=>⟨((s',f',c',n',i',()),(g',q',())),h⟩)
theorem y_impl_nearer (g:Gram) (s:Str) (f:Int):evFn cx_nr0 Tryz.f53 true [ofD TG g,ofD .str s,ofD TI64 f] []=(
need (pre_nr0 s f (bif okG g then smallsG g else []) (W64 ((s.length:Int)+1)) 0 g (0,0,([]:Str))) <|
branch ((nearN (okN (farV g) s f) (bif okG g then smallsG g else []) (W64 ((s.length:Int)+1)-0).toNat 0).isSome) ( some ((.tup [(.agg [(.r (.v (Value.int IntKind.i64 ((nearN (okN (farV g) s f) (bif okG g then smallsG g else []) (W64 ((s.length:Int)+1)-0).toNat 0).getD ed0).fst))),(.r (.v (Value.int IntKind.i64 ((nearN (okN (farV g) s f) (bif okG g then smallsG g else []) (W64 ((s.length:Int)+1)-0).toNat 0).getD ed0).snd.fst))),(.r (.v (Value.string (mk ((nearN (okN (farV g) s f) (bif okG g then smallsG g else []) (W64 ((s.length:Int)+1)-0).toNat 0).getD ed0).snd.snd))))]),(.one (.r (.v (Value.string (mk (EdDo s ((nearN (okN (farV g) s f) (bif okG g then smallsG g else []) (W64 ((s.length:Int)+1)-0).toNat 0).getD ed0)).fst))))),(.one (.r (.v (Value.bool true))))]),[])) ( some ((.tup [(.agg [(.r (.v (Value.int IntKind.i64 0))),(.r (.v (Value.int IntKind.i64 0))),(.r (.v (Value.string (mk []))))]),(.one (.r (.v (Value.string (mk []))))),(.one (.r (.v (Value.bool false))))]),[]))):=by kernel_rfl
def nearV (F:Str→Int) (g:Gram) (s:Str) (f:Int):Option Edit:=nearN (okN F s f) (smallsG g) (length s+1) 0
def nearT (s:Str) (o:Option Edit):T := .tup [ofD TE (o.getD ed0),ofD .str (bif o.isSome then(EdDo s (o.getD ed0)).1 else []),ofD .bool o.isSome]
theorem nearN_none {p:Edit→Bool} {c:Str}:∀ {m:Nat} {i:Int},(nearN p c m i).isSome=false→nearN p c m i=none
 |_,_,h=>Option.isSome_eq_false_iff.1 h |> Option.isNone_iff_eq_none.1
theorem s_impl_nearer (g:Gram) (_hg:Fit TG g) (s:Str) (_hs:Fit .str s) (f:Int) (_hf:Fit TI64 f) (hpre:(okG g&&decide (length s≤1000))=true):Sat Tryz.prog 53 [ofD TG g,ofD .str s,ofD TI64 f] [] (nearT s (nearV (farV g) g s f)) [] :=
 fn_sound (cx:=cx_nr0) Tryz.func53 rfl ttOk Γ95ok mixed (fun c hc=>LoopsOk.all (l:=[(3,loopOf Tryz.f53 0),(7,loopOf Tryz.f53 1),(10,loopOf Tryz.f53 2),(16,loopOf Tryz.f53 3)]) (by cases hc;kernel_rfl) ⟨atLoop rfl (l_nr0 1 rfl (by kernel_rfl)),atLoop rfl (l_nr1 2 rfl (by kernel_rfl)),atLoop rfl (l_nr2 3 rfl (by kernel_rfl)),atLoop rfl (l_nr3 4 rfl (by kernel_rfl)),trivial⟩) (ro:=true) (by
  obtain⟨h1,h2⟩:=andd.1 hpre;have h2:=dec_iff.1 h2;have w:W64 ((length s:Int)+1)=(length s:Int)+1:=wrap_small (by omega) (by omega);have e:((length s:Int)+1-0).toNat=length s+1:=by omega
  have hp:pre_nr0 s f (smallsG g) ((length s:Int)+1) 0 g ed0=true:=by
   simp only[pre_nr0,andd,dec_iff];have:=smalls_four (g:=g);exact⟨Int.le_refl 0,by omega,okRd_G h1,by omega⟩
  rw[y_impl_nearer,h1,cond_true,w,hp,e];show branch ((nearV (farV g) g s f).isSome) _ _=_
  cases hc:(nearV (farV g) g s f).isSome
  ·have hn:nearV (farV g) g s f=none:=nearN_none hc;rw[hn];rfl
  ·unfold nearT;rw[hc];rfl)
def c_impl_nearer:Con:=conT [TG, .str,TI64] fun(g:Gram) (s:Str) (f:Int)=>(some (okG g&&decide (length s≤1000)),nearT s (nearV (farV g) g s f))
theorem k_impl_nearer:ConOk Tryz.prog 53 c_impl_nearer:=conT_ok Tryz.call53 fun g hg s hs f hf hqq=>s_impl_nearer g hg s hs f hf (pre_of hqq)
def Γ96:GL:=(53,c_impl_nearer)::Γ95
theorem Γ96ok:GO Γ96 := .cons k_impl_nearer Γ95ok
def cb_sn:Cx:=cxOf Γ96 Tryz.f54.ntmps [(15,[1,2,3,6,8,9,10,13]),(11,[1,2,3,6,8,9,10,12]),(7,[1,2,3,6,8,9,10,11]),(3,[1,2,3,6,8,9])] [(0,[6]),(1,[1,2,3,6,8,9]),(6,[1,2,3,6,8,9]),(7,[1,2,3,6,8,9,10,13]),(4,[1,2,3,6,8,9,10]),(5,[1,2,3,6,8,9,10,12]),(2,[1,2,3,6,8,9,10]),(3,[1,2,3,6,8,9,10,11]),(1000000,[6,7])] [] []
abbrev st_sn3 (s:Str) (f:Int) (c:Str) (i k:Int) (g:Gram) (q:Edit) (l:List (Edit)):St:=⟨[(1,vS s),(2,vI f),(3, kp0),(6, kp1),(8,vS c),(9,vI i),(10, ko2),(13,vI k)],[(500000,some (boxD 25 TG g)),(500001,some (boxD 35 TE q)),(500002,some (.lis 35 TE l))]⟩
theorem x_spec_l8Next_3 (g:Gram) (s c:Str) (f i k:Int) (q:Edit) (l:List Edit) (R:St→Option Fin) (K:Cont):evC (cb_sn.withLoops (look [])) (loopOf Tryz.f54 3) (st_sn3 s f c i k g q l) (onward (headAt (cb_sn.withLoops (look [])) 15) R K)=(
branch (decide (k<(l.length:Int))) (
 need (inb k l.length) <|
 need (bif decide ((EdDo s (l.getD k.toNat ed0)).snd=true)then okG g&&decide ((length (EdDo s (l.getD k.toNat ed0)).fst)≤1000)else true) <|
 branch (bif (EdDo s (l.getD k.toNat ed0)).snd then decide (startC g (EdDo s (l.getD k.toNat ed0)).fst<f)else false) (
 need (inb k l.length) <| K (.ret) (.mk [(6,kp0),(7,vB true)] [(500000,(.some (.box 35 [(.r (.v (Value.int IntKind.i64 (l.getD k.toNat ed0).fst))),(.r (.v (Value.int IntKind.i64 (l.getD k.toNat ed0).snd.fst))),(.r (.v (Value.string (mk (l.getD k.toNat ed0).snd.snd))))])))])) ( R (st_sn3 s f c i (W64 (k+1)) g q l))) ( K (.exit 6) (.mk [(1,vS s),(2,vI f),(3,kp0),(6,kp1),(8,vS c),(9,vI i)] [(500000,some (boxD 25 TG g)),(500001,some (boxD 35 TE q))]))):=by kernel_rfl
def snR (g:Gram) (s c:Str) (f i:Int) (q:Edit) (K:Cont) (o:Option Edit):Option Fin:=branch o.isSome
 (K .ret ⟨[(6, kp0),(7,vB true)],[(500000,some (boxD 35 TE (o.getD ed0)))]⟩)
 (K (.exit 6) ⟨[(1,vS s),(2,vI f),(3, kp0),(6, kp1),(8,vS c),(9,vI i)],[(500000,some (boxD 25 TG g)),(500001,some (boxD 35 TE q))]⟩)
def cx0_sn3:Cx:=(cb_sn).withLoops (look [])
def sh_sn3:Sh:=([(1, .d .str),(2, .d TI64),(3, .ptr 500000 0),(6, .ptr 500001 0),(8, .d .str),(9, .d TI64),(10, .own 500002),(13, .d TI64)],[(500000, .box 25 TG),(500001, .box 35 TE),(500002, .lis 35 TE)])
def pre_sn3 (_s:Str) (_f:Int) (_c:Str) (_i k:Int) (g:Gram) (_q:Edit) (l:List (Edit)):Bool:=decide (0≤k)&&(okG g&&decide (length l≤1000))
def res_sn3 (s:Str) (f:Int) (c:Str) (i k:Int) (g:Gram) (q:Edit) (l:List (Edit)) (K:Cont):Option Fin:=snR g s c f i q K (fstE (okN (startC g) s f) (List.drop k.toNat l))
def mu_sn3 (_s:Str) (_f:Int) (_c:Str) (_i k:Int) (_g:Gram) (_q:Edit) (l:List (Edit)):Nat:=length l-k.toNat
theorem r_sn3 (s:Str) (f:Int) (c:Str) (i k:Int) (g:Gram) (q:Edit) (l:List (Edit)) (K:Cont) (hI:pre_sn3 s f c i k g q l=true):(∀R:St→Option Fin,evC cx0_sn3 (loopOf Tryz.f54 3) (st_sn3 s f c i k g q l) (onward (headAt cx0_sn3 15) R K)=res_sn3 s f c i k g q l K) ∨
  (∃(s':Str) (f':Int) (c':Str) (i' k':Int) (g':Gram) (q':Edit) (l':List (Edit)),pre_sn3 s' f' c' i' k' g' q' l'=true∧mu_sn3 s' f' c' i' k' g' q' l'<mu_sn3 s f c i k g q l∧res_sn3 s' f' c' i' k' g' q' l' K=res_sn3 s f c i k g q l K∧∀R:St→Option Fin,evC cx0_sn3 (loopOf Tryz.f54 3) (st_sn3 s f c i k g q l) (onward (headAt cx0_sn3 15) R K)=R (st_sn3 s' f' c' i' k' g' q' l')):=by
 have hx:=fun R=>x_spec_l8Next_3 g s c f i k q l R K;simp only[pre_sn3,andd,dec_iff]at hI;obtain⟨h0,h2,h3⟩:=hI
 by_cases hk:k<(length l:Int)
 ·have w:W64 (k+1)=k+1:=wrap_small (by omega) (by omega);have hd:=dropE_at h0 hk;have kk:(bif decide ((EdDo s (getD l k.toNat ed0)).2=true)then okG g&&decide ((length (EdDo s (getD l k.toNat ed0)).1)≤1000)else true)=true:=by
   cases hb:(EdDo s (getD l k.toNat ed0)).2
   ·rfl
   ·have:=(EdDo_short hb).2;exact andd.2 ⟨h2,zT (by omega)⟩
  rw[zT hk,inb_ok h0 hk,kk,w]at hx;change ∀R:St→Option Fin,_=branch (okN (startC g) s f (getD l k.toNat ed0)) _ _ at hx;have hf:fstE (okN (startC g) s f) (List.drop k.toNat l)=bif okN (startC g) s f (getD l k.toNat ed0)then some (getD l k.toNat ed0)else fstE (okN (startC g) s f) (List.drop (k+1).toNat l):=by rw[hd];rfl
  cases hc:okN (startC g) s f (getD l k.toNat ed0)
  ·rw[hc]at hx hf;right;refine⟨s,f,c,i,k+1,g,q,l, ?_, ?_, ?_,fun R=>hx R⟩
   ·simp only[pre_sn3,andd,dec_iff];exact⟨by omega,h2,h3⟩
   ·simp only[mu_sn3];omega
   ·simp only[res_sn3,hf];rfl
  ·rw[hc]at hx hf;left;intro R;refine(hx R).trans ?_;simp only[res_sn3,hf];rfl
 ·left;intro R;refine(hx R).trans ?_;rw[zF hk];have e:List.drop k.toNat l=[]:=drop_eq_nil_of_le (by omega);simp only[res_sn3,e];rfl
def g_sn3:St→Cont→Option Fin:=gP sh_sn3 (fun v=>match v with | ((s,f,c,i,k,()),(g,q,l,()))=>pre_sn3 s f c i k g q l) (fun v K=>match v with | ((s,f,c,i,k,()),(g,q,l,()))=>res_sn3 s f c i k g q l K)
def L_sn3:LpL:=(15,g_sn3)::[]
theorem l_sn3 {L:LpL} (n:Nat) (h1:L.drop n=[]) (h2:idsFree (L.take n) (loopOf Tryz.f54 3)=true):LoopsTo g_sn3 (cb_sn) (loopOf Tryz.f54 3) 15 L :=
 with_drop h1 h2 (gP_ok (fun v=>match v with | ((s,f,c,i,k,()),(g,q,l,()))=>mu_sn3 s f c i k g q l) fun v K hI=>by
  obtain⟨⟨s,f,c,i,k,⟨⟩⟩,⟨g,q,l,⟨⟩⟩⟩:=v;exact(r_sn3 s f c i k g q l K hI).imp id fun⟨s',f',c',i',k',g',q',l',h⟩=>⟨((s',f',c',i',k',()),(g',q',l',())),h⟩)
abbrev st_sn2 (s:Str) (f:Int) (c:Str) (i k:Int) (g:Gram) (q:Edit) (l:List (Edit)):St:=⟨[(1,vS s),(2,vI f),(3, kp0),(6, kp1),(8,vS c),(9,vI i),(10, ko2),(12,vI k)],[(500000,some (boxD 25 TG g)),(500001,some (boxD 35 TE q)),(500002,some (.lis 35 TE l))]⟩
theorem x_spec_l8Next_2 (g:Gram) (s c:Str) (f i k:Int) (q:Edit) (l:List Edit) (R:St→Option Fin) (K:Cont):evC (cb_sn.withLoops (look L_sn3)) (loopOf Tryz.f54 2) (st_sn2 s f c i k g q l) (onward (headAt (cb_sn.withLoops (look L_sn3)) 11) R K)=(
branch (decide (k<(c.length:Int))) (
 need (inr k (W64 (k+1)) c.length) <|
 need (fits (l.length+[(1,i,List.take ((W64 (k+1)).toNat-k.toNat) (List.drop k.toNat c))].length) Tryz.t35.bytes) <| R (st_sn2 s f c i (W64 (k+1)) g q (l.append [(1,i,List.take ((W64 (k+1)).toNat-k.toNat) (List.drop k.toNat c))]))) ( K (.exit 4) (.mk [(1,vS s),(2,vI f),(3,kp0),(6,kp1),(8,vS c),(9,vI i),(10,ko2)] [(500000,some (boxD 25 TG g)),(500001,some (boxD 35 TE q)),(500002,some (.lis 35 TE l))]))):=by kernel_rfl
def cx0_sn2:Cx:=(cb_sn).withLoops (look L_sn3)
def sh_sn2:Sh:=([(1, .d .str),(2, .d TI64),(3, .ptr 500000 0),(6, .ptr 500001 0),(8, .d .str),(9, .d TI64),(10, .own 500002),(12, .d TI64)],[(500000, .box 25 TG),(500001, .box 35 TE),(500002, .lis 35 TE)])
def pre_sn2 (_s:Str) (_f:Int) (c:Str) (_i k:Int) (_g:Gram) (_q:Edit) (l:List (Edit)):Bool:=decide (0≤k)&&(decide (length c≤10)&&decide ((length l:Int)+length c-k≤1000))
def res_sn2 (s:Str) (f:Int) (c:Str) (i k:Int) (g:Gram) (q:Edit) (l:List (Edit)) (K:Cont):Option Fin:=K (.exit 4) ⟨[(1,vS s),(2,vI f),(3, kp0),(6, kp1),(8,vS c),(9,vI i),(10, ko2)],[(500000,some (boxD 25 TG g)),(500001,some (boxD 35 TE q)),(500002,some (.lis 35 TE (l++addE i (List.drop k.toNat c) 1)))]⟩
def mu_sn2 (_s:Str) (_f:Int) (c:Str) (_i k:Int) (_g:Gram) (_q:Edit) (_l:List (Edit)):Nat:=length c-k.toNat
theorem r_sn2 (s:Str) (f:Int) (c:Str) (i k:Int) (g:Gram) (q:Edit) (l:List (Edit)) (K:Cont) (hI:pre_sn2 s f c i k g q l=true):(∀R:St→Option Fin,evC cx0_sn2 (loopOf Tryz.f54 2) (st_sn2 s f c i k g q l) (onward (headAt cx0_sn2 11) R K)=res_sn2 s f c i k g q l K) ∨
  (∃(s':Str) (f':Int) (c':Str) (i' k':Int) (g':Gram) (q':Edit) (l':List (Edit)),pre_sn2 s' f' c' i' k' g' q' l'=true∧mu_sn2 s' f' c' i' k' g' q' l'<mu_sn2 s f c i k g q l∧res_sn2 s' f' c' i' k' g' q' l' K=res_sn2 s f c i k g q l K∧∀R:St→Option Fin,evC cx0_sn2 (loopOf Tryz.f54 2) (st_sn2 s f c i k g q l) (onward (headAt cx0_sn2 11) R K)=R (st_sn2 s' f' c' i' k' g' q' l')):=by
 have hx:=fun R=>x_spec_l8Next_2 g s c f i k q l R K;simp only[pre_sn2,andd,dec_iff]at hI;obtain⟨h0,h2,h3⟩:=hI
 by_cases hk:k<(length c:Int)
 ·have w:W64 (k+1)=k+1:=wrap_small (by omega) (by omega);have hd:l++addE i (List.drop k.toNat c) 1=(l++[((1,i,[getD c k.toNat 0]):Edit)])++addE i (List.drop (k+1).toNat c) 1:=by
   rw[dropC_at h0 hk,append_assoc];rfl
  rw[zT hk,w,inr_iff.2 (by omega:0≤k∧k≤k+1∧k+1≤(length c:Int)),slice_one h0 hk,editFits (by rw[length_singleton];omega)]at hx;right;refine⟨s,f,c,i,k+1,g,q,l++[((1,i,[getD c k.toNat 0]):Edit)], ?_, ?_, ?_,fun R=>hx R⟩
  ·simp only[pre_sn2,andd,dec_iff];rw[length_append,length_singleton];exact⟨by omega,h2,by omega⟩
  ·simp only[mu_sn2];omega
  ·simp only[res_sn2,hd]
 ·left;intro R;refine(hx R).trans ?_;rw[zF hk];have e:l++addE i (List.drop k.toNat c) 1=l:=by
   rw[drop_eq_nil_of_le (by omega)];exact List.append_nil l
  simp only[res_sn2,e];rfl
def g_sn2:St→Cont→Option Fin:=gP sh_sn2 (fun v=>match v with | ((s,f,c,i,k,()),(g,q,l,()))=>pre_sn2 s f c i k g q l) (fun v K=>match v with | ((s,f,c,i,k,()),(g,q,l,()))=>res_sn2 s f c i k g q l K)
def L_sn2:LpL:=(11,g_sn2)::L_sn3
theorem l_sn2 {L:LpL} (n:Nat) (h1:L.drop n=L_sn3) (h2:idsFree (L.take n) (loopOf Tryz.f54 2)=true):LoopsTo g_sn2 (cb_sn) (loopOf Tryz.f54 2) 11 L :=
 with_drop h1 h2 (gP_ok (fun v=>match v with | ((s,f,c,i,k,()),(g,q,l,()))=>mu_sn2 s f c i k g q l) fun v K hI=>by
  obtain⟨⟨s,f,c,i,k,⟨⟩⟩,⟨g,q,l,⟨⟩⟩⟩:=v;exact(r_sn2 s f c i k g q l K hI).imp id fun⟨s',f',c',i',k',g',q',l',h⟩=>⟨((s',f',c',i',k',()),(g',q',l',())),h⟩)
abbrev st_sn1 (s:Str) (f:Int) (c:Str) (i k:Int) (g:Gram) (q:Edit) (l:List (Edit)):St:=⟨[(1,vS s),(2,vI f),(3, kp0),(6, kp1),(8,vS c),(9,vI i),(10, ko2),(11,vI k)],[(500000,some (boxD 25 TG g)),(500001,some (boxD 35 TE q)),(500002,some (.lis 35 TE l))]⟩
theorem x_spec_l8Next_1 (g:Gram) (s c:Str) (f i k:Int) (q:Edit) (l:List Edit) (R:St→Option Fin) (K:Cont):evC (cb_sn.withLoops (look L_sn2)) (loopOf Tryz.f54 1) (st_sn1 s f c i k g q l) (onward (headAt (cb_sn.withLoops (look L_sn2)) 7) R K)=(
branch (decide (k<(c.length:Int))) (
 need (inr k (W64 (k+1)) c.length) <|
 need (fits (l.length+[(3,i,List.take ((W64 (k+1)).toNat-k.toNat) (List.drop k.toNat c))].length) Tryz.t35.bytes) <| R (st_sn1 s f c i (W64 (k+1)) g q (l.append [(3,i,List.take ((W64 (k+1)).toNat-k.toNat) (List.drop k.toNat c))]))) ( K (.exit 2) (.mk [(1,vS s),(2,vI f),(3,kp0),(6,kp1),(8,vS c),(9,vI i),(10,ko2)] [(500000,some (boxD 25 TG g)),(500001,some (boxD 35 TE q)),(500002,some (.lis 35 TE l))]))):=by kernel_rfl
def cx0_sn1:Cx:=(cb_sn).withLoops (look L_sn2)
def sh_sn1:Sh:=([(1, .d .str),(2, .d TI64),(3, .ptr 500000 0),(6, .ptr 500001 0),(8, .d .str),(9, .d TI64),(10, .own 500002),(11, .d TI64)],[(500000, .box 25 TG),(500001, .box 35 TE),(500002, .lis 35 TE)])
def pre_sn1 (_s:Str) (_f:Int) (c:Str) (_i k:Int) (_g:Gram) (_q:Edit) (l:List (Edit)):Bool:=decide (0≤k)&&(decide (length c≤10)&&decide ((length l:Int)+length c-k≤1000))
def res_sn1 (s:Str) (f:Int) (c:Str) (i k:Int) (g:Gram) (q:Edit) (l:List (Edit)) (K:Cont):Option Fin:=K (.exit 2) ⟨[(1,vS s),(2,vI f),(3, kp0),(6, kp1),(8,vS c),(9,vI i),(10, ko2)],[(500000,some (boxD 25 TG g)),(500001,some (boxD 35 TE q)),(500002,some (.lis 35 TE (l++addE i (List.drop k.toNat c) 3)))]⟩
def mu_sn1 (_s:Str) (_f:Int) (c:Str) (_i k:Int) (_g:Gram) (_q:Edit) (_l:List (Edit)):Nat:=length c-k.toNat
theorem r_sn1 (s:Str) (f:Int) (c:Str) (i k:Int) (g:Gram) (q:Edit) (l:List (Edit)) (K:Cont) (hI:pre_sn1 s f c i k g q l=true):(∀R:St→Option Fin,evC cx0_sn1 (loopOf Tryz.f54 1) (st_sn1 s f c i k g q l) (onward (headAt cx0_sn1 7) R K)=res_sn1 s f c i k g q l K) ∨
  (∃(s':Str) (f':Int) (c':Str) (i' k':Int) (g':Gram) (q':Edit) (l':List (Edit)),pre_sn1 s' f' c' i' k' g' q' l'=true∧mu_sn1 s' f' c' i' k' g' q' l'<mu_sn1 s f c i k g q l∧res_sn1 s' f' c' i' k' g' q' l' K=res_sn1 s f c i k g q l K∧∀R:St→Option Fin,evC cx0_sn1 (loopOf Tryz.f54 1) (st_sn1 s f c i k g q l) (onward (headAt cx0_sn1 7) R K)=R (st_sn1 s' f' c' i' k' g' q' l')):=by
 have hx:=fun R=>x_spec_l8Next_1 g s c f i k q l R K;simp only[pre_sn1,andd,dec_iff]at hI;obtain⟨h0,h2,h3⟩:=hI
 by_cases hk:k<(length c:Int)
 ·have w:W64 (k+1)=k+1:=wrap_small (by omega) (by omega);have hd:l++addE i (List.drop k.toNat c) 3=(l++[((3,i,[getD c k.toNat 0]):Edit)])++addE i (List.drop (k+1).toNat c) 3:=by
   rw[dropC_at h0 hk,append_assoc];rfl
  rw[zT hk,w,inr_iff.2 (by omega:0≤k∧k≤k+1∧k+1≤(length c:Int)),slice_one h0 hk,editFits (by rw[length_singleton];omega)]at hx;right;refine⟨s,f,c,i,k+1,g,q,l++[((3,i,[getD c k.toNat 0]):Edit)], ?_, ?_, ?_,fun R=>hx R⟩
  ·simp only[pre_sn1,andd,dec_iff];rw[length_append,length_singleton];exact⟨by omega,h2,by omega⟩
  ·simp only[mu_sn1];omega
  ·simp only[res_sn1,hd]
 ·left;intro R;refine(hx R).trans ?_;rw[zF hk];have e:l++addE i (List.drop k.toNat c) 3=l:=by
   rw[drop_eq_nil_of_le (by omega)];exact List.append_nil l
  simp only[res_sn1,e];rfl
def g_sn1:St→Cont→Option Fin:=gP sh_sn1 (fun v=>match v with | ((s,f,c,i,k,()),(g,q,l,()))=>pre_sn1 s f c i k g q l) (fun v K=>match v with | ((s,f,c,i,k,()),(g,q,l,()))=>res_sn1 s f c i k g q l K)
def L_sn1:LpL:=(7,g_sn1)::L_sn2
theorem l_sn1 {L:LpL} (n:Nat) (h1:L.drop n=L_sn2) (h2:idsFree (L.take n) (loopOf Tryz.f54 1)=true):LoopsTo g_sn1 (cb_sn) (loopOf Tryz.f54 1) 7 L :=
 with_drop h1 h2 (gP_ok (fun v=>match v with | ((s,f,c,i,k,()),(g,q,l,()))=>mu_sn1 s f c i k g q l) fun v K hI=>by
  obtain⟨⟨s,f,c,i,k,⟨⟩⟩,⟨g,q,l,⟨⟩⟩⟩:=v;exact(r_sn1 s f c i k g q l K hI).imp id fun⟨s',f',c',i',k',g',q',l',h⟩=>⟨((s',f',c',i',k',()),(g',q',l',())),h⟩)
theorem editsE_eq {i:Int} {c:Str}:editsE i c=([((2,i,[]):Edit)]++addE i c 3)++addE i c 1:=by
 show((2,i,[]):Edit)::(addE i c 3++(addE i c 1++[]))=_;rw[List.append_nil];rfl
abbrev st_sn0 (s:Str) (f:Int) (c:Str) (i:Int) (g:Gram) (q:Edit):St:=⟨[(1,vS s),(2,vI f),(3, kp0),(6, kp1),(8,vS c),(9,vI i)],[(500000,some (boxD 25 TG g)),(500001,some (boxD 35 TE q))]⟩
theorem x_spec_l8Next (g:Gram) (s c:Str) (f i:Int) (q:Edit) (R:St→Option Fin) (K:Cont):evC (cb_sn.withLoops (look L_sn1)) (loopOf Tryz.f54 0) (st_sn0 s f c i g q) (onward (headAt (cb_sn.withLoops (look L_sn1)) 3) R K)=(
branch (decide (i≤(s.length:Int))) (
 need (pre_sn1 s f c i 0 g q [((2,i,[]):Edit)]) <|
 need (pre_sn2 s f c i 0 g q ([((2,i,[]):Edit)]++addE i c 3)) <|
 need (pre_sn3 s f c i 0 g q (([((2,i,[]):Edit)]++addE i c 3)++addE i c 1)) <|
 branch ((fstE (okN (startC g) s f) (([((2,i,[]):Edit)]++addE i c 3)++addE i c 1)).isSome) (K .ret ⟨[(6, kp0),(7,vB true)],[(500000,some (boxD 35 TE ((fstE (okN (startC g) s f) (([((2,i,[]):Edit)]++addE i c 3)++addE i c 1)).getD ed0)))]⟩) (R (st_sn0 s f c (W64 (i+1)) g q))) (K (.exit 0) ⟨[(6, kp0)],[(500000,some (boxD 35 TE q))]⟩)):=by kernel_rfl
def cx0_sn0:Cx:=(cb_sn).withLoops (look L_sn1)
def sh_sn0:Sh:=([(1, .d .str),(2, .d TI64),(3, .ptr 500000 0),(6, .ptr 500001 0),(8, .d .str),(9, .d TI64)],[(500000, .box 25 TG),(500001, .box 35 TE)])
def pre_sn0 (s:Str) (_f:Int) (c:Str) (i:Int) (g:Gram) (_q:Edit):Bool:=decide (0≤i)&&(decide (length s≤1000)&&(okG g&&decide (length c≤10)))
def res_sn0 (s:Str) (f:Int) (c:Str) (i:Int) (g:Gram) (q:Edit) (K:Cont):Option Fin:=branch ((nearN (okN (startC g) s f) c (length s+1-i.toNat) i).isSome) (K .ret ⟨[(6, kp0),(7,vB true)],[(500000,some (boxD 35 TE ((nearN (okN (startC g) s f) c (length s+1-i.toNat) i).getD ed0)))]⟩) (K (.exit 0) ⟨[(6, kp0)],[(500000,some (boxD 35 TE q))]⟩)
def mu_sn0 (s:Str) (_f:Int) (_c:Str) (i:Int) (_g:Gram) (_q:Edit):Nat:=length s+1-i.toNat
theorem r_sn0 (s:Str) (f:Int) (c:Str) (i:Int) (g:Gram) (q:Edit) (K:Cont) (hI:pre_sn0 s f c i g q=true):(∀R:St→Option Fin,evC cx0_sn0 (loopOf Tryz.f54 0) (st_sn0 s f c i g q) (onward (headAt cx0_sn0 3) R K)=res_sn0 s f c i g q K) ∨
  (∃(s':Str) (f':Int) (c':Str) (i':Int) (g':Gram) (q':Edit),pre_sn0 s' f' c' i' g' q'=true∧mu_sn0 s' f' c' i' g' q'<mu_sn0 s f c i g q∧res_sn0 s' f' c' i' g' q' K=res_sn0 s f c i g q K∧∀R:St→Option Fin,evC cx0_sn0 (loopOf Tryz.f54 0) (st_sn0 s f c i g q) (onward (headAt cx0_sn0 3) R K)=R (st_sn0 s' f' c' i' g' q')):=by
 have hx:=fun R=>x_spec_l8Next g s c f i q R K;simp only[pre_sn0,andd,dec_iff]at hI;obtain⟨h0,h1,h2,h3⟩:=hI
 by_cases hi:i≤(length s:Int)
 ·have w:W64 (i+1)=i+1:=wrap_small (by omega) (by omega);obtain⟨m,hm⟩:∃m,length s+1-i.toNat=m+1:=⟨length s-i.toNat,by omega⟩;have hm2:length s+1-(i+1).toNat=m:=by omega
  have p1:pre_sn1 s f c i 0 g q [((2,i,[]):Edit)]=true:=by
   simp only[pre_sn1,andd,dec_iff];exact⟨Int.le_refl 0,h3,by rw[length_singleton];omega⟩
  have p2:pre_sn2 s f c i 0 g q ([((2,i,[]):Edit)]++addE i c 3)=true:=by
   simp only[pre_sn2,andd,dec_iff];exact⟨Int.le_refl 0,h3,by rw[length_append,length_singleton,addE_len];omega⟩
  have p3:pre_sn3 s f c i 0 g q (([((2,i,[]):Edit)]++addE i c 3)++addE i c 1)=true:=by
   simp only[pre_sn3,andd,dec_iff];exact⟨Int.le_refl 0,h2,by rw[← editsE_eq,editsE_len];omega⟩
  have hn:nearN (okN (startC g) s f) c (m+1) i=bif (fstE (okN (startC g) s f) (editsE i c)).isSome then fstE (okN (startC g) s f) (editsE i c)else nearN (okN (startC g) s f) c m (i+1):=rfl;rw[zT hi,p1,p2,p3,w,← editsE_eq]at hx
  cases hc:(fstE (okN (startC g) s f) (editsE i c)).isSome
  ·rw[hc]at hx hn;right;refine⟨s,f,c,i+1,g,q, ?_, ?_, ?_,fun R=>hx R⟩
   ·simp only[pre_sn0,andd,dec_iff];exact⟨by omega,h1,h2,h3⟩
   ·simp only[mu_sn0];omega
   ·simp only[res_sn0,hm,hm2,hn];rfl
  ·rw[hc]at hx hn;left;intro R;refine(hx R).trans ?_;simp only[res_sn0,hm,hn,cond_true,hc];rfl
 ·left;intro R;refine(hx R).trans ?_;rw[zF hi];have e:length s+1-i.toNat=0:=by omega
  simp only[res_sn0,e];rfl
def g_sn0:St→Cont→Option Fin:=gP sh_sn0 (fun v=>match v with | ((s,f,c,i,()),(g,q,()))=>pre_sn0 s f c i g q) (fun v K=>match v with | ((s,f,c,i,()),(g,q,()))=>res_sn0 s f c i g q K)
def L_sn0:LpL:=(3,g_sn0)::L_sn1
def cx_sn0:Cx:=(cb_sn).withLoops (look L_sn0)
theorem l_sn0 {L:LpL} (n:Nat) (h1:L.drop n=L_sn1) (h2:idsFree (L.take n) (loopOf Tryz.f54 0)=true):LoopsTo g_sn0 (cb_sn) (loopOf Tryz.f54 0) 3 L :=
 with_drop h1 h2 (gP_ok (fun v=>match v with | ((s,f,c,i,()),(g,q,()))=>mu_sn0 s f c i g q) fun v K hI=>by
  obtain⟨⟨s,f,c,i,⟨⟩⟩,⟨g,q,⟨⟩⟩⟩:=v;exact(r_sn0 s f c i g q K hI).imp id fun⟨s',f',c',i',g',q',h⟩=>⟨((s',f',c',i',()),(g',q',())),h⟩)
theorem y_spec_l8Next (g:Gram) (s:Str) (f:Int):evFn cx_sn0 Tryz.f54 true [ofD TG g,ofD .str s,ofD TI64 f] []=(
need (okG g) <|
need (pre_sn0 s f (setS (bigIs false) (signsG g)) 0 g (0,0,([]:Str))) <|
branch ((nearN (okN (startC g) s f) (setS (bigIs false) (signsG g)) (length s+1-(0:Int).toNat) 0).isSome) ( some ((.tup [(.agg [(.r (.v (Value.int IntKind.i64 ((nearN (okN (startC g) s f) (setS (bigIs false) (signsG g)) (length s+1-(0:Int).toNat) 0).getD ed0).fst))),(.r (.v (Value.int IntKind.i64 ((nearN (okN (startC g) s f) (setS (bigIs false) (signsG g)) (length s+1-(0:Int).toNat) 0).getD ed0).snd.fst))),(.r (.v (Value.string (mk ((nearN (okN (startC g) s f) (setS (bigIs false) (signsG g)) (length s+1-(0:Int).toNat) 0).getD ed0).snd.snd))))]),(.one (.r (.v (Value.bool true))))]),[])) ( some ((.tup [(.agg [(.r (.v (Value.int IntKind.i64 0))),(.r (.v (Value.int IntKind.i64 0))),(.r (.v (Value.string (mk []))))]),(.one (.r (.v (Value.bool false))))]),[]))):=by kernel_rfl
def nextT (o:Option Edit):T := .tup [ofD TE (o.getD ed0),ofD .bool o.isSome]
theorem s_spec_l8Next (g:Gram) (_hg:Fit TG g) (s:Str) (_hs:Fit .str s) (f:Int) (_hf:Fit TI64 f) (hpre:(okG g&&decide (length s≤1000))=true):Sat Tryz.prog 54 [ofD TG g,ofD .str s,ofD TI64 f] [] (nextT (nearV (startC g) g s f)) [] :=
 fn_sound (cx:=cx_sn0) Tryz.func54 rfl ttOk Γ96ok mixed (fun c hc=>LoopsOk.all (l:=[(3,loopOf Tryz.f54 0),(7,loopOf Tryz.f54 1),(11,loopOf Tryz.f54 2),(15,loopOf Tryz.f54 3)]) (by cases hc;kernel_rfl) ⟨atLoop rfl (l_sn0 1 rfl (by kernel_rfl)),atLoop rfl (l_sn1 2 rfl (by kernel_rfl)),atLoop rfl (l_sn2 3 rfl (by kernel_rfl)),atLoop rfl (l_sn3 4 rfl (by kernel_rfl)),trivial⟩) (ro:=true) (by
  obtain⟨h1,h2⟩:=andd.1 hpre;have h2:=dec_iff.1 h2;have e:setS (bigIs false) (signsG g)=smallsG g:=smalls_eq h1;have hp:pre_sn0 s f (smallsG g) 0 g ed0=true:=by
   simp only[pre_sn0,andd,dec_iff];have:=smalls_four (g:=g);exact⟨Int.le_refl 0,h2,h1,by omega⟩
  rw[y_spec_l8Next,h1,e,hp];show branch ((nearV (startC g) g s f).isSome) _ _=_
  cases hc:(nearV (startC g) g s f).isSome
  ·have hn:nearV (startC g) g s f=none:=nearN_none hc;rw[hn];rfl
  ·unfold nextT;rw[hc];rfl)
def c_spec_l8Next:Con:=conT [TG, .str,TI64] fun(g:Gram) (s:Str) (f:Int)=>(some (okG g&&decide (length s≤1000)),nextT (nearV (startC g) g s f))
theorem k_spec_l8Next:ConOk Tryz.prog 54 c_spec_l8Next:=conT_ok Tryz.call54 fun g hg s hs f hf hqq=>s_spec_l8Next g hg s hs f hf (pre_of hqq)
def Γ97:GL:=(54,c_spec_l8Next)::Γ96
theorem Γ97ok:GO Γ97 := .cons k_spec_l8Next Γ96ok
theorem near_same {g:Gram} {s:Str} {f:Int} (h:okG g=true) (hp:prodG g):nearV (farV g) g s f=nearV (startC g) g s f:=by
 have:okN (farV g) s f=okN (startC g) s f:=by
  funext e
  unfold okN
  cases hb:(EdDo s e).2
  ·rfl
  ·have:=(EdDo_short hb).2;rw[(far_both h (by omega:length (EdDo s e).1≤1000) hp).1]
 unfold nearV;rw[this]
theorem fstE_some {p:Edit→Bool}:∀ {l:List Edit} {e:Edit},fstE p l=some e→p e=true∧e∈l
 | [],e,h=>by cases h
 |a::l,e,h=>by
  have h:(bif p a then some a else fstE p l)=some e:=h
  cases hp:p a
  ·rw[hp]at h;obtain⟨h1,h2⟩:=fstE_some (l:=l) h;exact⟨h1,mem_cons_of_mem _ h2⟩
  ·rw[hp]at h
   cases h
   exact⟨hp,mem_cons_self⟩
theorem fstE_mem {p:Edit→Bool}:∀ {l:List Edit} {e:Edit},e∈l→p e=true→(fstE p l).isSome=true
 |a::l,e,h,hp=>by
  show(bif p a then some a else fstE p l).isSome=true
  cases ha:p a
  ·rcases List.mem_cons.1 h with rfl | h
   ·rw[ha]at hp;cases hp
   ·exact fstE_mem h hp
  ·rfl
theorem nearN_some {p:Edit→Bool} {c:Str}:∀ {n:Nat} {i:Int} {e:Edit},nearN p c n i=some e→p e=true
 |0,_,_,h=>by cases h
 |n+1,i,e,h=>by
  have h:(bif (fstE p (editsE i c)).isSome then fstE p (editsE i c)else nearN p c n (i+1))=some e:=h
  cases hc:(fstE p (editsE i c)).isSome
  ·rw[hc]at h;exact nearN_some h
  ·rw[hc]at h;exact (fstE_some h).1
theorem nearN_mem {p:Edit→Bool} {c:Str} {e:Edit} (hp:p e=true):∀ {n:Nat} {i j:Int},i≤j→j<i+n→e∈editsE j c→(nearN p c n i).isSome=true
 |0,_,_,h1,h2,_=>by omega
 |n+1,i,j,h1,h2,he=>by
  show(bif (fstE p (editsE i c)).isSome then fstE p (editsE i c)else nearN p c n (i+1)).isSome=true
  cases hc:(fstE p (editsE i c)).isSome
  ·by_cases hij:i=j
   ·subst hij;rw[fstE_mem he hp]at hc;cases hc
   ·exact nearN_mem hp (n:=n) (i:=i+1) (by omega) (by omega) he
  ·exact hc
theorem far_dec {g:Gram} {s:Str} {e:Edit} {f:Int} (h:okG g=true) (hs:length s≤1000) (hp:prodG g) (hf:f=farV g s) (ho:okN (farV g) s f e=true):(EdDo s e).2=true∧farV g (EdDo s e).1=f-1:=by
 unfold okN at ho
 cases hb:(EdDo s e).2
 ·rw[hb]at ho;cases ho
 ·rw[hb,cond_true]at ho;have ho:=of_decide_eq_true ho;have h1:=edit_one hb;have h2:=(EdDo_short hb).2;obtain⟨_,h3⟩:=far_step h hs (by omega:length (EdDo s e).1≤1000) hp h1.ed h1.de;exact⟨rfl,by omega⟩
theorem word_signs {l:List Rule} {a w:Str} (h:WordG l a w):∀c∈w,small c=true∧∃r∈l,c∈r.2:=by
 refine h (fun _ w=>∀c∈w,small c=true∧∃r∈l,c∈r.2) fun r hr w hw => ?_;have key:∀ {q w:Str},(∀c∈q,c∈r.2)→spW (fun _ w=>∀c∈w,small c=true∧∃r∈l,c∈r.2) q w→∀c∈w,small c=true∧∃r∈l,c∈r.2:=by
  intro q
  induction q with
  |nil =>
   intro w _ h c hc;have h:w=[]:=h;rw[h]at hc;cases hc
  |cons d q ih =>
   rintro w hq ⟨u,v,rfl,h1,h2⟩ c hc;rcases mem_append.1 hc with hc | hc
   ·unfold wdP at h1
    split at h1
    ·rename_i hs;rw[h1,mem_singleton]at hc;subst hc;exact⟨hs,r,hr,hq c mem_cons_self⟩
    ·exact h1 c hc
   ·exact ih (fun c hc=>hq c (mem_cons_of_mem _ hc)) h2 c hc
 exact key (fun c hc=>hc) hw
theorem word_smalls {g:Gram} {a w:Str} (h:WordG g.2 a w) {c:UInt8} (hc:c∈w):small c=true∧c∈smallsG g:=by
 obtain⟨h1,r,hr,h2⟩:=word_signs h c hc;refine⟨h1,setS_mem.2 ⟨?_,h1⟩⟩;unfold signsG sgsOf;exact mem_append_right _ (List.mem_flatMap.2 ⟨r,hr,mem_append_right _ h2⟩)
theorem mem_addE {a d:Int} {c:Str} {x:UInt8} (h:x∈c):((d,a,[x]):Edit)∈addE a c d:=List.mem_map.2 ⟨x,h,rfl⟩
theorem in_edit {s x w c:Str} (h:OneIn w s x) (hc:∀y∈w,small y=true∧y∈c) (hs:longOk s=true) (hx:x.length≤20):∃i e,0≤i∧i≤(s.length:Int)∧e∈editsE i c∧EdDo s e=(x,true):=by
 have hsm:=(longOk_iff.1 hs).1
 cases h with
 | @out u v y =>
  have hlx:longOk (u++v)=true:=longOk_iff.2 ⟨fun z hz=>hsm z (by
   rcases mem_append.1 hz with hz | hz
   ·exact mem_append_left _ hz
   ·exact mem_append_right _ (mem_cons_of_mem _ hz)),hx⟩
  have hd:doE (u++y::v) (2,(u.length:Int),[])=u++v:=by
   show(u++y::v).take ((u.length:Int)).toNat++([]++(u++y::v).drop (((u.length:Int)).toNat+1))=u++v;rw[Int.toNat_natCast,List.take_left,List.nil_append,← List.drop_drop,List.drop_left];rfl
  have ho:editOk (u++y::v) (2,(u.length:Int),[])=true:=by
   show(decide (0≤(u.length:Int))&&(decide ((u.length:Int)<((u++y::v).length:Int))&&decide (([]:Str)=[])))=true;rw[andd,andd,dec_iff,dec_iff,dec_iff,length_append,length_cons];exact⟨by omega,by omega,rfl⟩
  refine⟨u.length,(2,(u.length:Int),[]),by omega,by rw[length_append];omega,mem_cons_self, ?_⟩;rw[EdDo_mk hs ho (by rw[hd];exact hlx),hd]
 | @turn u v y z hne hz =>
  obtain⟨z1,z2⟩:=hc z hz;have hlx:longOk (u++z::v)=true:=longOk_iff.2 ⟨fun q hq=>by
   rcases mem_append.1 hq with hq | hq
   ·exact hsm q (mem_append_left _ hq)
   ·rcases List.mem_cons.1 hq with rfl | hq
    ·exact z1
    ·exact hsm q (mem_append_right _ (mem_cons_of_mem _ hq)),hx⟩
  have hd:doE (u++y::v) (3,(u.length:Int),[z])=u++z::v:=by
   show(u++y::v).take ((u.length:Int)).toNat++([z]++(u++y::v).drop (((u.length:Int)).toNat+1))=u++z::v;rw[Int.toNat_natCast,List.take_left,← List.drop_drop,List.drop_left];rfl
  have ho:editOk (u++y::v) (3,(u.length:Int),[z])=true:=by
   show(decide (0≤(u.length:Int))&&(decide ((u.length:Int)<((u++y::v).length:Int))&&(small z && !decide (signAt (u++y::v) (u.length:Int)=[z]))))=true;have hsg:signAt (u++y::v) (u.length:Int)=[y]:=by unfold signAt;rw[Int.toNat_natCast,List.drop_left];rfl
   rw[hsg,z1,zF (fun e:[y]=[z]=>hne (List.cons.inj e).1),andd,andd,dec_iff,dec_iff,length_append,length_cons];exact⟨by omega,by omega,rfl⟩
  refine⟨u.length,(3,(u.length:Int),[z]),by omega,by rw[length_append];omega,mem_cons_of_mem _ (mem_append_left _ (mem_addE z2)), ?_⟩;rw[EdDo_mk hs ho (by rw[hd];exact hlx),hd]
 | @ins u v z hz =>
  obtain⟨z1,z2⟩:=hc z hz;have hlx:longOk (u++z::v)=true:=longOk_iff.2 ⟨fun q hq=>by
   rcases mem_append.1 hq with hq | hq
   ·exact hsm q (mem_append_left _ hq)
   ·rcases List.mem_cons.1 hq with rfl | hq
    ·exact z1
    ·exact hsm q (mem_append_right _ hq),hx⟩
  have hd:doE (u++v) (1,(u.length:Int),[z])=u++z::v:=by
   show(u++v).take ((u.length:Int)).toNat++([z]++(u++v).drop ((u.length:Int)).toNat)=u++z::v;rw[Int.toNat_natCast,List.take_left,List.drop_left];rfl
  have ho:editOk (u++v) (1,(u.length:Int),[z])=true:=by
   show(decide (0≤(u.length:Int))&&(decide ((u.length:Int)≤((u++v).length:Int))&&small z))=true;rw[z1,andd,andd,dec_iff,dec_iff,length_append];exact⟨by omega,by omega,rfl⟩
  refine⟨u.length,(1,(u.length:Int),[z]),by omega,by rw[length_append];omega,mem_cons_of_mem _ (mem_append_right _ (mem_append_left _ (mem_addE z2))), ?_⟩;rw[EdDo_mk hs ho (by rw[hd];exact hlx),hd]
theorem near_some {g:Gram} {s:Str} (h:okG g=true) (hp:prodG g) (hs:longOk s=true) (hl:length s<20) (h0:0<farV g s):(nearV (farV g) g s (farV g s)).isSome=true:=by
 obtain⟨_,_,_,⟨w,w1,m,m1,m2⟩,a5⟩:=far_both h (by omega:length s≤1000) hp;have hm:=a5 w m w1 m2;obtain⟨n,hn⟩:∃n,m=n+1:=⟨m-1,by omega⟩;obtain⟨x,x1,x2⟩:=m2.first hn;have hlx:x.length≤20:=by
  cases x1 with
  |out=>rw[length_append,length_cons]at hl;rw[length_append];omega
  |turn=>rw[length_append,length_cons]at hl;rw[length_append,length_cons];omega
  |ins=>rw[length_append]at hl;rw[length_append,length_cons];omega
 obtain⟨i,e,i0,i1,he,hd⟩:=in_edit x1 (fun y hy=>word_smalls w1 hy) hs hlx;have hx:=(far_both h (by omega:length x≤1000) hp).2.2.2.2 w n w1 x2;refine nearN_mem (e:=e) ?_ i0 (by omega) he;unfold okN;rw[hd,cond_true];exact zT (by show farV g x<_;omega)
abbrev TEL:Ty:=ty40
def cb_run:Cx:=cxOf Γ97 Tryz.f23.ntmps [(5,[1,2,7,8])] [(0,[1,8]),(1,[1,2,7,8]),(1000000,[4,5,6])] [] []
abbrev st_run (s:Str) (f:Int) (g:Gram) (l:List (Edit)):St:=⟨[(1,vS s),(2, kp0),(7,vI f),(8, ko1)],[(500000,some (boxD 25 TG g)),(500001,some (.lis 35 TE l))]⟩
theorem x_impl_MendRun (g:Gram) (s:Str) (f:Int) (l:List Edit) (R:St→Option Fin) (K:Cont):evC (cb_run.withLoops (look [])) (loopOf Tryz.f23 0) (st_run s f g l) (onward (headAt (cb_run.withLoops (look [])) 5) R K)=(
branch (decide (0<f)) (
 need (okG g&&decide (s.length≤1000)) <|
 branch (!(nearV (farV g) g s f).isSome) ( K (.ret) (.mk [(4,(.d (.one (.r (.v (Value.slice none 0 0)))))),(5,vS []),(6,vB false)] [])) (
 need (fits (l.length+[(nearV (farV g) g s f).getD ed0].length) Tryz.t35.bytes) <|
 need (okRd g.snd&&decide ((length (bif (nearV (farV g) g s f).isSome then(EdDo s ((nearV (farV g) g s f).getD ed0)).fst else []))≤1000)) <| R (st_run (bif (nearV (farV g) g s f).isSome then(EdDo s ((nearV (farV g) g s f).getD ed0)).fst else []) (dofV (bif (nearV (farV g) g s f).isSome then(EdDo s ((nearV (farV g) g s f).getD ed0)).fst else []) (distM (bif (nearV (farV g) g s f).isSome then(EdDo s ((nearV (farV g) g s f).getD ed0)).fst else []) g.snd) g.fst 0 (length (bif (nearV (farV g) g s f).isSome then(EdDo s ((nearV (farV g) g s f).getD ed0)).fst else []):Int)) g (l.append [(nearV (farV g) g s f).getD ed0])))) ( K (.exit 0) (.mk [(1,vS s),(8,ko0)] [(500000,some (.lis 35 TE l))]))):=by kernel_rfl
def prodB (g:Gram):Bool:=inS (growV g.2 true 0 []) (byteAt g.1 0)
theorem prodB_iff {g:Gram} (h:okG g=true):prodB g=true↔prodG g:=by
 obtain⟨c,e,_⟩:=bigS_one (okG_big h);unfold prodB prodG;rw[e];exact grow_prod (andd.1 (okLf_G h)).2
def runN (F:Str→Int) (g:Gram):Nat→Str→List Edit→List Edit×Str×Bool
 |0,s,l=>(l,s,true)
 |n+1,s,l=>bif (nearV F g s ((n:Int)+1)).isSome then runN F g n (EdDo s ((nearV F g s ((n:Int)+1)).getD ed0)).1 (l++[(nearV F g s ((n:Int)+1)).getD ed0])else([],[],false)
theorem getD_some {α:Type} {o:Option α} {d:α} (h:o.isSome=true):o=some (o.getD d):=by
 cases o with
 |none=>cases h
 |some x=>rfl
def cx0_run:Cx:=(cb_run).withLoops (look [])
def sh_run:Sh:=([(1, .d .str),(2, .ptr 500000 0),(7, .d TI64),(8, .own 500001)],[(500000, .box 25 TG),(500001, .lis 35 TE)])
def pre_run (s:Str) (f:Int) (g:Gram) (l:List (Edit)):Bool:=okG g&&(prodB g&&(decide (length s≤1000)&&(decide (0≤f)&&(decide (f=farV g s)&&decide ((length l:Int)+f≤1000)))))
def res_run (s:Str) (f:Int) (g:Gram) (l:List (Edit)) (K:Cont):Option Fin:=branch (runN (farV g) g f.toNat s l).2.2 (K (.exit 0) ⟨[(1,vS (runN (farV g) g f.toNat s l).2.1),(8, ko0)],[(500000,some (.lis 35 TE (runN (farV g) g f.toNat s l).1))]⟩) (K .ret ⟨[(4, .d (.one (.r (.v (.slice none 0 0))))),(5,vS []),(6,vB false)],[]⟩)
def mu_run (_s:Str) (f:Int) (_g:Gram) (_l:List (Edit)):Nat:=f.toNat
theorem r_run (s:Str) (f:Int) (g:Gram) (l:List (Edit)) (K:Cont) (hI:pre_run s f g l=true):(∀R:St→Option Fin,evC cx0_run (loopOf Tryz.f23 0) (st_run s f g l) (onward (headAt cx0_run 5) R K)=res_run s f g l K) ∨
  (∃(s':Str) (f':Int) (g':Gram) (l':List (Edit)),pre_run s' f' g' l'=true∧mu_run s' f' g' l'<mu_run s f g l∧res_run s' f' g' l' K=res_run s f g l K∧∀R:St→Option Fin,evC cx0_run (loopOf Tryz.f23 0) (st_run s f g l) (onward (headAt cx0_run 5) R K)=R (st_run s' f' g' l')):=by
 have hx:=fun R=>x_impl_MendRun g s f l R K;simp only[pre_run,andd,dec_iff]at hI;obtain⟨h0,h1,h2,h3,h4,h5⟩:=hI
 by_cases hf:0<f
 ·obtain ⟨n,hn⟩:∃n,f.toNat=n+1:=⟨f.toNat-1,by omega⟩;have hfn:(n:Int)+1=f:=by omega
  have hr:runN (farV g) g f.toNat s l=bif (nearV (farV g) g s f).isSome then runN (farV g) g n (EdDo s ((nearV (farV g) g s f).getD ed0)).1 (l++[(nearV (farV g) g s f).getD ed0])else([],[],false):=by
   rw[hn,← hfn];rfl
  rw[zT hf,h0,zT h2]at hx
  cases hc:(nearV (farV g) g s f).isSome
  ·rw[hc]at hx hr;left;intro R;refine(hx R).trans ?_;simp only[res_run,hr];rfl
  ·have hsome:okN (farV g) s f ((nearV (farV g) g s f).getD ed0)=true:=nearN_some (getD_some (d:=ed0) hc);obtain⟨d1,d2⟩:=far_dec h0 h2 ((prodB_iff h0).1 h1) h4 hsome;have d3:=(EdDo_short d1).2;have hn2:(f-1).toNat=n:=by omega
   rw[hc]at hx hr;change ∀R:St→Option Fin,_=branch true (need true (branch false _ (need (fits (l.length+[(nearV (farV g) g s f).getD ed0].length) _) (need (okRd g.2&&decide ((length (EdDo s ((nearV (farV g) g s f).getD ed0)).1)≤1000)) (R ⟨[(1,vS (EdDo s ((nearV (farV g) g s f).getD ed0)).1),(2, kp0),(7,vI (farV g (EdDo s ((nearV (farV g) g s f).getD ed0)).1)),(8, ko1)],[(500000,some (boxD 25 TG g)),(500001,some (.lis 35 TE (l++[(nearV (farV g) g s f).getD ed0])))]⟩))))) _ at hx;rw[editFits (by rw[length_singleton];omega),okRd_G h0,zT (by omega:length (EdDo s ((nearV (farV g) g s f).getD ed0)).1≤1000),d2]at hx;right;refine⟨(EdDo s ((nearV (farV g) g s f).getD ed0)).1,f-1,g,l++[(nearV (farV g) g s f).getD ed0], ?_, ?_, ?_,fun R=>hx R⟩
   ·simp only[pre_run,andd,dec_iff];rw[length_append,length_singleton];exact⟨h0,h1,by omega,by omega,d2.symm,by omega⟩
   ·simp only[mu_run];omega
   ·simp only[res_run,hn2,hr,cond_true]
 ·left;intro R;refine(hx R).trans ?_;rw[zF hf];have e:f.toNat=0:=by omega
  simp only[res_run,e];rfl
def g_run:St→Cont→Option Fin:=gP sh_run (fun v=>match v with | ((s,f,()),(g,l,()))=>pre_run s f g l) (fun v K=>match v with | ((s,f,()),(g,l,()))=>res_run s f g l K)
def L_run:LpL:=(5,g_run)::[]
def cx_run:Cx:=(cb_run).withLoops (look L_run)
theorem l_run {L:LpL} (n:Nat) (h1:L.drop n=[]) (h2:idsFree (L.take n) (loopOf Tryz.f23 0)=true):LoopsTo g_run (cb_run) (loopOf Tryz.f23 0) 5 L :=
 with_drop h1 h2 (gP_ok (fun v=>match v with | ((s,f,()),(g,l,()))=>mu_run s f g l) fun v K hI=>by
  obtain⟨⟨s,f,⟨⟩⟩,⟨g,l,⟨⟩⟩⟩:=v;exact(r_run s f g l K hI).imp id fun⟨s',f',g',l',h⟩=>⟨((s',f',()),(g',l',())),h⟩)
def runV (g:Gram) (s:Str):List Edit×Str×Bool:=bif (bif decide (mendV g s<0)then true else decide (12<mendV g s))then([],[],false)else runN (farV g) g (mendV g s).toNat s []
def sRunV (g:Gram) (s:Str):List Edit×Str×Bool:=bif (bif !canB g s then true else decide (12<startC g s))then([],[],false)else runN (startC g) g (startC g s).toNat s []
def runT (v:List Edit×Str×Bool):T := .tup [ofD TEL v.1,ofD .str v.2.1,ofD .bool v.2.2]
theorem runN_no {F:Str→Int} {g:Gram}:∀ {n:Nat} {s:Str} {l:List Edit},(runN F g n s l).2.2=false→runN F g n s l=([],[],false)
 |0,s,l,h=>by cases h
 |n+1,s,l,h=>by
  have e:runN F g (n+1) s l=bif (nearV F g s ((n:Int)+1)).isSome then runN F g n (EdDo s ((nearV F g s ((n:Int)+1)).getD ed0)).1 (l++[(nearV F g s ((n:Int)+1)).getD ed0])else([],[],false):=rfl;rw[e]at h ⊢
  cases hc:(nearV F g s ((n:Int)+1)).isSome
  ·rfl
  ·rw[hc]at h;exact runN_no h
theorem y_impl_MendRun2 (g:Gram) (s:Str):evFn cx_run Tryz.f23 true [ofD TG g,ofD .str s] []=(
branch (bif decide (mendV g s<0)then true else decide (12<mendV g s)) ( some ((.tup [(.one (.r (.li ty35 ([])))),(.one (.r (.v (Value.string (mk []))))),(.one (.r (.v (Value.bool false))))]),[])) (
 need (pre_run s (mendV g s) g []) <|
 branch ((runN (farV g) g (mendV g s).toNat s []).snd.snd) ( some ((.tup [(.one (.r (.li TE ((runN (farV g) g (mendV g s).toNat s []).fst)))),(.one (.r (.v (Value.string (mk (runN (farV g) g (mendV g s).toNat s []).snd.fst))))),(.one (.r (.v (Value.bool true))))]),[])) ( some ((.tup [(.one (.r (.li ty35 ([])))),(.one (.r (.v (Value.string (mk []))))),(.one (.r (.v (Value.bool false))))]),[])))):=by kernel_rfl
theorem s_impl_MendRun (g:Gram) (_hg:Fit TG g) (s:Str) (_hs:Fit .str s):Sat Tryz.prog 23 [ofD TG g,ofD .str s] [] (runT (runV g s)) [] :=
 fn_sound (cx:=cx_run) Tryz.func23 rfl ttOk Γ97ok mixed (fun c hc=>LoopsOk.all (l:=[(5,loopOf Tryz.f23 0)]) (by cases hc;kernel_rfl) ⟨atLoop rfl (l_run 1 rfl (by kernel_rfl)),trivial⟩) (ro:=true) (by
  rw[y_impl_MendRun2];unfold runV
  cases hc:(bif decide (mendV g s<0)then true else decide (12<mendV g s))
  ·rcases mend_cases (g:=g) (s:=s)with⟨h1,h2⟩ | ⟨h1,h2,h3,h4,h5,h6,h7⟩
   ·rw[h1]at hc;cases hc
   ·have hm:¬ 12<mendV g s:=by
     rw[zF (by omega:¬mendV g s<0),cond_false]at hc;exact of_decide_eq_false hc
    have hp:pre_run s (mendV g s) g []=true:=by
     simp only[pre_run,andd,dec_iff];exact⟨h5,(prodB_iff h5).2 h7,by omega,by omega,h2,by show((0:Nat):Int)+_≤_;omega⟩
    rw[hp];show branch (runN (farV g) g (mendV g s).toNat s []).2.2 _ _=_
    cases hr:(runN (farV g) g (mendV g s).toNat s []).2.2
    ·rw[runN_no hr];rfl
    ·unfold runT;rw[cond_false,hr];rfl
  ·rfl)
def c_impl_MendRun:Con:=conT [TG, .str] fun(g:Gram) (s:Str)=>(none,runT (runV g s))
theorem k_impl_MendRun:ConOk Tryz.prog 23 c_impl_MendRun:=conT_ok Tryz.call23 fun g hg s hs _=>s_impl_MendRun g hg s hs
def Γ98:GL:=(23,c_impl_MendRun)::Γ97
theorem Γ98ok:GO Γ98 := .cons k_impl_MendRun Γ97ok
def cb_srun:Cx:=cxOf Γ98 Tryz.f24.ntmps [(5,[1,2,7,8])] [(0,[1,7]),(1,[1,2,7,8]),(1000000,[4,5,6])] [] []
abbrev st_srun (s:Str) (f:Int) (g:Gram) (l:List (Edit)):St:=⟨[(1,vS s),(2, kp0),(7, ko1),(8,vI f)],[(500000,some (boxD 25 TG g)),(500001,some (.lis 35 TE l))]⟩
theorem x_spec_MendRun (g:Gram) (s:Str) (f:Int) (l:List Edit) (R:St→Option Fin) (K:Cont):evC (cb_srun.withLoops (look [])) (loopOf Tryz.f24 0) (st_srun s f g l) (onward (headAt (cb_srun.withLoops (look [])) 5) R K)=(
branch (decide (0<f)) (
 need (okG g&&decide (s.length≤1000)) <|
 branch (!(nearV (startC g) g s f).isSome) ( K (.ret) (.mk [(4,ko0),(5,vS []),(6,vB false)] [(500000,(.some (.lis 35 ty35 ([]))))])) (
 need (fits (l.length+[(nearV (startC g) g s f).getD ed0].length) Tryz.t35.bytes) <|
 need (longOk s&&editOk s ((nearV (startC g) g s f).getD ed0)) <| R (st_srun (doE s ((nearV (startC g) g s f).getD ed0)) (W64 (f-1)) g (l.append [(nearV (startC g) g s f).getD ed0])))) ( K (.exit 0) (.mk [(1,vS s),(7,ko0)] [(500000,some (.lis 35 TE l))]))):=by kernel_rfl
def cx0_srun:Cx:=(cb_srun).withLoops (look [])
def sh_srun:Sh:=([(1, .d .str),(2, .ptr 500000 0),(7, .own 500001),(8, .d TI64)],[(500000, .box 25 TG),(500001, .lis 35 TE)])
def pre_srun (s:Str) (f:Int) (g:Gram) (l:List (Edit)):Bool:=okG g&&(decide (length s≤1000)&&(decide (0≤f)&&decide ((length l:Int)+f≤1000)))
def res_srun (s:Str) (f:Int) (g:Gram) (l:List (Edit)) (K:Cont):Option Fin:=branch (runN (startC g) g f.toNat s l).2.2 (K (.exit 0) ⟨[(1,vS (runN (startC g) g f.toNat s l).2.1),(7, ko0)],[(500000,some (.lis 35 TE (runN (startC g) g f.toNat s l).1))]⟩) (K .ret ⟨[(4, ko0),(5,vS []),(6,vB false)],[(500000,some (.lis 35 TE []))]⟩)
def mu_srun (_s:Str) (f:Int) (_g:Gram) (_l:List (Edit)):Nat:=f.toNat
theorem r_srun (s:Str) (f:Int) (g:Gram) (l:List (Edit)) (K:Cont) (hI:pre_srun s f g l=true):(∀R:St→Option Fin,evC cx0_srun (loopOf Tryz.f24 0) (st_srun s f g l) (onward (headAt cx0_srun 5) R K)=res_srun s f g l K) ∨
  (∃(s':Str) (f':Int) (g':Gram) (l':List (Edit)),pre_srun s' f' g' l'=true∧mu_srun s' f' g' l'<mu_srun s f g l∧res_srun s' f' g' l' K=res_srun s f g l K∧∀R:St→Option Fin,evC cx0_srun (loopOf Tryz.f24 0) (st_srun s f g l) (onward (headAt cx0_srun 5) R K)=R (st_srun s' f' g' l')):=by
 have hx:=fun R=>x_spec_MendRun g s f l R K;simp only[pre_srun,andd,dec_iff]at hI;obtain⟨h0,h2,h3,h5⟩:=hI
 by_cases hf:0<f
 ·obtain ⟨n,hn⟩:∃n,f.toNat=n+1:=⟨f.toNat-1,by omega⟩;have hfn:(n:Int)+1=f:=by omega
  have hr:runN (startC g) g f.toNat s l=bif (nearV (startC g) g s f).isSome then runN (startC g) g n (EdDo s ((nearV (startC g) g s f).getD ed0)).1 (l++[(nearV (startC g) g s f).getD ed0])else([],[],false):=by
   rw[hn,← hfn];rfl
  rw[zT hf,h0,zT h2]at hx
  cases hc:(nearV (startC g) g s f).isSome
  ·rw[hc]at hx hr;left;intro R;refine(hx R).trans ?_;simp only[res_srun,hr];rfl
  ·have hsome:okN (startC g) s f ((nearV (startC g) g s f).getD ed0)=true:=nearN_some (getD_some (d:=ed0) hc);have d1:(EdDo s ((nearV (startC g) g s f).getD ed0)).2=true:=by
    unfold okN at hsome
    cases hb:(EdDo s ((nearV (startC g) g s f).getD ed0)).2
    ·rw[hb]at hsome;cases hsome
    ·rfl
   obtain⟨e1,e2,_,e4⟩:=EdDo_true d1;have d3:=(EdDo_short d1).2;have hn2:(f-1).toNat=n:=by omega
   have w:W64 (f-1)=f-1:=wrap_small (by omega) (by omega);rw[hc,editFits (by rw[length_singleton];omega),e1,e2,← e4,w]at hx;rw[hc]at hr;right;refine⟨(EdDo s ((nearV (startC g) g s f).getD ed0)).1,f-1,g,l++[(nearV (startC g) g s f).getD ed0], ?_, ?_, ?_,fun R=>hx R⟩
   ·simp only[pre_srun,andd,dec_iff];rw[length_append,length_singleton];exact⟨h0,by omega,by omega,by omega⟩
   ·simp only[mu_srun];omega
   ·simp only[res_srun,hn2,hr,cond_true]
 ·left;intro R;refine(hx R).trans ?_;rw[zF hf];have e:f.toNat=0:=by omega
  simp only[res_srun,e];rfl
def g_srun:St→Cont→Option Fin:=gP sh_srun (fun v=>match v with | ((s,f,()),(g,l,()))=>pre_srun s f g l) (fun v K=>match v with | ((s,f,()),(g,l,()))=>res_srun s f g l K)
def L_srun:LpL:=(5,g_srun)::[]
def cx_srun:Cx:=(cb_srun).withLoops (look L_srun)
theorem l_srun {L:LpL} (n:Nat) (h1:L.drop n=[]) (h2:idsFree (L.take n) (loopOf Tryz.f24 0)=true):LoopsTo g_srun (cb_srun) (loopOf Tryz.f24 0) 5 L :=
 with_drop h1 h2 (gP_ok (fun v=>match v with | ((s,f,()),(g,l,()))=>mu_srun s f g l) fun v K hI=>by
  obtain⟨⟨s,f,⟨⟩⟩,⟨g,l,⟨⟩⟩⟩:=v;exact(r_srun s f g l K hI).imp id fun⟨s',f',g',l',h⟩=>⟨((s',f',()),(g',l',())),h⟩)
theorem y_spec_MendRun (g:Gram) (s:Str):evFn cx_srun Tryz.f24 true [ofD TG g,ofD .str s] []=(
need (bif decide ((!canB g s)=false)then okG g&&decide (s.length≤1000)else true) <|
branch (bif !canB g s then true else decide (12<startC g s)) ( some ((.tup [(.one (.r (.li ty35 ([])))),(.one (.r (.v (Value.string (mk []))))),(.one (.r (.v (Value.bool false))))]),[])) (
 need (okG g&&decide (s.length≤1000)) <|
 need (pre_srun s (startC g s) g []) <|
 branch ((runN (startC g) g (startC g s).toNat s []).snd.snd) ( some ((.tup [(.one (.r (.li TE ((runN (startC g) g (startC g s).toNat s []).fst)))),(.one (.r (.v (Value.string (mk (runN (startC g) g (startC g s).toNat s []).snd.fst))))),(.one (.r (.v (Value.bool true))))]),[])) ( some ((.tup [(.one (.r (.li TE ([])))),(.one (.r (.v (Value.string (mk []))))),(.one (.r (.v (Value.bool false))))]),[])))):=by kernel_rfl
theorem s_spec_MendRun (g:Gram) (_hg:Fit TG g) (s:Str) (_hs:Fit .str s):Sat Tryz.prog 24 [ofD TG g,ofD .str s] [] (runT (sRunV g s)) [] :=
 fn_sound (cx:=cx_srun) Tryz.func24 rfl ttOk Γ98ok mixed (fun c hc=>LoopsOk.all (l:=[(5,loopOf Tryz.f24 0)]) (by cases hc;kernel_rfl) ⟨atLoop rfl (l_srun 1 rfl (by kernel_rfl)),trivial⟩) (ro:=true) (by
  rw[y_spec_MendRun];unfold sRunV
  cases hc:canB g s
  ·rfl
  ·obtain ⟨h1,h7⟩:=canB_iff.1 hc;obtain⟨h3,h4⟩:=both2_iff.1 h1;have hl:=(areSm_iff.1 h4).1;obtain⟨e1,e2,_⟩:=far_both h3 (by omega:length s≤1000) h7
   cases hd:decide (12<startC g s)
   ·have hd:=of_decide_eq_false hd;have hp:pre_srun s (startC g s) g []=true:=by
     simp only[pre_srun,andd,dec_iff];exact⟨h3,by omega,by omega,by show((0:Nat):Int)+_≤_;omega⟩
    rw[h3,zT (by omega:length s≤1000),hp];show branch (runN (startC g) g (startC g s).toNat s []).2.2 _ _=_
    cases hr:(runN (startC g) g (startC g s).toNat s []).2.2
    ·show _=some (runT (runN (startC g) g (startC g s).toNat s []),[]);rw[runN_no hr];rfl
    ·show _=some (runT (runN (startC g) g (startC g s).toNat s []),[]);unfold runT;rw[hr];rfl
   ·rw[h3,zT (by omega:length s≤1000)];rfl)
def c_spec_MendRun:Con:=conT [TG, .str] fun(g:Gram) (s:Str)=>(none,runT (sRunV g s))
theorem k_spec_MendRun:ConOk Tryz.prog 24 c_spec_MendRun:=conT_ok Tryz.call24 fun g hg s hs _=>s_spec_MendRun g hg s hs
def Γ99:GL:=(24,c_spec_MendRun)::Γ98
theorem Γ99ok:GO Γ99 := .cons k_spec_MendRun Γ98ok
theorem runN_same {g:Gram} (h:okG g=true) (hp:prodG g):∀ {n:Nat} {s:Str} {l:List Edit},runN (farV g) g n s l=runN (startC g) g n s l
 |0,_,_=>rfl
 |n+1,s,l=>by
  show(bif (nearV (farV g) g s ((n:Int)+1)).isSome then runN (farV g) g n (EdDo s ((nearV (farV g) g s ((n:Int)+1)).getD ed0)).1 (l++[(nearV (farV g) g s ((n:Int)+1)).getD ed0])else([],[],false))=bif (nearV (startC g) g s ((n:Int)+1)).isSome then runN (startC g) g n (EdDo s ((nearV (startC g) g s ((n:Int)+1)).getD ed0)).1 (l++[(nearV (startC g) g s ((n:Int)+1)).getD ed0])else([],[],false);rw[near_same h hp,runN_same h hp]
theorem run_same {g:Gram} {s:Str}:runV g s=sRunV g s:=by
 unfold runV sRunV;rcases mend_cases (g:=g) (s:=s)with⟨h1,h2⟩ | ⟨h1,h2,h3,h4,h5,h6,h7⟩
 ·rw[h1,h2];rfl
 ·have e:=(far_both h5 (by omega:length s≤1000) h7).1;rw[h1,h2,← e,zF (by omega:¬farV g s<0),runN_same h5 h7];rfl
def plays:Str→List Edit→Str×Bool
 |t,[]=>(t,true)
 |t,e::l=>bif (EdDo t e).2 then plays (EdDo t e).1 l else([],false)
theorem run_facts {g:Gram} (h:okG g=true) (hp:prodG g):∀ {n:Nat} {s:Str} {l:List Edit},longOk s=true→farV g s=(n:Int)→length s+n≤20→∃l' x,runN (farV g) g n s l=(l++l',x,true)∧l'.length=n∧plays s l'=(x,true)∧farV g x=0∧longOk x=true∧∃k,k≤n∧Ed s x k
 |0,s,l,hs,hf,_=>⟨[],s,by rw[List.append_nil];rfl,rfl,rfl,hf,hs,0,Nat.le_refl 0,Ed.refl⟩
 |n+1,s,l,hs,hf,hl=>by
  have hf2:farV g s=(n:Int)+1:=by omega
  have hc:=near_some h hp hs (by omega) (by omega:0<farV g s);rw[hf2]at hc;have hsome:okN (farV g) s ((n:Int)+1) ((nearV (farV g) g s ((n:Int)+1)).getD ed0)=true:=nearN_some (getD_some (d:=ed0) hc);obtain⟨d1,d2⟩:=far_dec h (by omega:length s≤1000) hp hf2.symm hsome;have d3:=(EdDo_short d1).1;have d4:=edit_one d1;have d5:=d4.ed.len.1;have e:runN (farV g) g (n+1) s l=bif (nearV (farV g) g s ((n:Int)+1)).isSome then runN (farV g) g n (EdDo s ((nearV (farV g) g s ((n:Int)+1)).getD ed0)).1 (l++[(nearV (farV g) g s ((n:Int)+1)).getD ed0])else([],[],false):=rfl;rw[e,hc,cond_true]
  generalize (nearV (farV g) g s ((n:Int)+1)).getD ed0=q at *
  obtain⟨l',x,r1,r2,r3,r4,r5,k,r6,r7⟩:=run_facts h hp (n:=n) (s:=(EdDo s q).1) (l:=l++[q]) d3 (by omega) (by omega);obtain⟨k',k1,k2⟩:=r7.tri d4.ed;refine⟨q::l',x, ?_,by rw[length_cons,r2], ?_,r4,r5,k',by omega,k2⟩
  ·rw[r1,append_assoc];rfl
  ·show (bif (EdDo s q).2 then plays (EdDo s q).1 l' else([],false))=_;rw[d1,cond_true];exact r3
theorem e_spec_DrawMendRun (l:List Int) (hl:Fit TB l):∃q:Gram×Str,evFn (cxOf Γ99 Tryz.f22.ntmps [] [] [] []) Tryz.f22 true [ofD TB l] []=some (.tup [ofD TG q.1,ofD .str q.2],[])∧(szG 20 q.1=true∧q.2.length≤100):=by
 obtain⟨r,h1,h2⟩:Ok (evFn (cxOf Γ99 Tryz.f22.ntmps [] [] [] []) Tryz.f22 true [ofD TB l] []) (fun r=>∃(v:Gram×Str),r=(.tup [ofD TG v.1,ofD .str v.2],[])∧(szG 20 v.1=true∧v.2.length≤100)):=by
  have y:evFn (cxOf Γ99 Tryz.f22.ntmps [] [] [] []) Tryz.f22 true [ofD TB l] []=some (.tup [ofD TG (F_spec_l4Draw l).1,ofD .str (F_spec_l4Draw l).2],[]):=by kernel_rfl
  rw[y];exact Ok.ret ⟨_,rfl,p_spec_l4Draw l hl⟩
 obtain⟨v,h2,h3⟩:=h2;exact⟨v,by rw[h1,h2],h3⟩
def F_spec_DrawMendRun (l:List Int):Gram×Str:=oneOf (fun q:Gram×Str=>evFn (cxOf Γ99 Tryz.f22.ntmps [] [] [] []) Tryz.f22 true [ofD TB l] []=some (.tup [ofD TG q.1,ofD .str q.2],[])∧(szG 20 q.1=true∧q.2.length≤100))
theorem s_spec_DrawMendRun (l:List Int) (hl:Fit TB l):Sat Tryz.prog 22 [ofD TB l] [] (.tup [ofD TG (F_spec_DrawMendRun l).1,ofD .str (F_spec_DrawMendRun l).2]) [] :=
 fn_sound (cx:=cxOf Γ99 Tryz.f22.ntmps [] [] [] []) Tryz.func22 rfl ttOk Γ99ok mixed (fun _ _=>LoopsOk.no fun _=>rfl) (ro:=true) (oneOf_spec (e_spec_DrawMendRun l hl)).1
def c_spec_DrawMendRun:Con:=conT [TB] fun(l:List Int)=>(none, .tup [ofD TG (F_spec_DrawMendRun l).1,ofD .str (F_spec_DrawMendRun l).2])
theorem k_spec_DrawMendRun:ConOk Tryz.prog 22 c_spec_DrawMendRun:=conT_ok Tryz.call22 fun l hl _=>s_spec_DrawMendRun l hl
def Γ100:GL:=(22,c_spec_DrawMendRun)::Γ99
theorem Γ100ok:GO Γ100 := .cons k_spec_DrawMendRun Γ99ok
theorem runV_facts {g:Gram} {s:Str}:(runV g s=([],[],false)∧(mendV g s = -1∨12<mendV g s))∨∃l' x n,runV g s=(l',x,true)∧mendV g s=((n:Nat):Int)∧n≤12∧farV g s=mendV g s∧okG g=true∧prodG g∧both2 g s=true∧l'.length=n∧plays s l'=(x,true)∧farV g x=0∧longOk x=true∧∃k,k≤n∧Ed s x k:=by
 unfold runV;rcases mend_cases (g:=g) (s:=s)with⟨h1,h2⟩ | ⟨h1,h2,h3,h4,h5,h6,h7⟩
 ·rw[h1];exact .inl ⟨rfl, .inl rfl⟩
 ·by_cases hm:12<mendV g s
  ·rw[zF (by omega:¬mendV g s<0),zT hm];exact .inl ⟨rfl, .inr hm⟩
  ·rw[zF (by omega:¬mendV g s<0),zF hm];have hn:farV g s=(((mendV g s).toNat:Nat):Int):=by omega
   obtain⟨l',x,r1,r2,r3,r4,r5,r6⟩:=run_facts h5 h7 (n:=(mendV g s).toNat) (s:=s) (l:=[]) (both_long h4) hn (by omega);refine .inr ⟨l',x,(mendV g s).toNat, ?_,by omega,by omega,h2.symm,h5,h7,h4,r2,r3,r4,r5,r6⟩;show runN (farV g) g (mendV g s).toNat s []=_;rw[r1];rfl
def cb_esd:Cx:=cxOf Γ100 Tryz.f25.ntmps [(4,[0,18,19,20])] [(0,[0]),(1,[0,18,19,20]),(1000000,[4,5])] [] []
abbrev st_esd (s:Str) (l:List Edit) (n k:Int):St:=⟨[(0,vS s),(18, .d (ofD TEL l)),(19,vI n),(20,vI k)],[]⟩
theorem x_impl_EditsDo (s:Str) (l:List Edit) (n k:Int) (R:St→Option Fin) (K:Cont):evC (cb_esd.withLoops (look [])) (loopOf Tryz.f25 0) (st_esd s l n k) (onward (headAt (cb_esd.withLoops (look [])) 4) R K)=(
branch (decide (k<n)) (
 need (inb k l.length) <|
 branch (!(EdDo s (l.getD k.toNat ed0)).snd) ( K (.ret) (.mk [(4,vS []),(5,vB false)] [])) ( R (st_esd ((EdDo s (l.getD k.toNat ed0)).fst) l n (W64 (k+1))))) ( K (.exit 0) (.mk [(0,vS s)] []))):=by kernel_rfl
def cx0_esd:Cx:=(cb_esd).withLoops (look [])
def sh_esd:Sh:=([(0, .d .str),(18, .d TEL),(19, .d TI64),(20, .d TI64)],[])
def pre_esd (_s:Str) (l:List Edit) (n k:Int):Bool:=decide (0≤k)&&(decide (n=(length l:Int))&&decide (length l≤1000))
def res_esd (s:Str) (l:List Edit) (_n k:Int) (K:Cont):Option Fin:=branch (plays s (List.drop k.toNat l)).2 (K (.exit 0) ⟨[(0,vS (plays s (List.drop k.toNat l)).1)],[]⟩) (K .ret ⟨[(4,vS []),(5,vB false)],[]⟩)
def mu_esd (_s:Str) (l:List Edit) (_n k:Int):Nat:=length l-k.toNat
theorem r_esd (s:Str) (l:List Edit) (n k:Int) (K:Cont) (hI:pre_esd s l n k=true):(∀R:St→Option Fin,evC cx0_esd (loopOf Tryz.f25 0) (st_esd s l n k) (onward (headAt cx0_esd 4) R K)=res_esd s l n k K) ∨
  (∃(s':Str) (l':List Edit) (n' k':Int),pre_esd s' l' n' k'=true∧mu_esd s' l' n' k'<mu_esd s l n k∧res_esd s' l' n' k' K=res_esd s l n k K∧∀R:St→Option Fin,evC cx0_esd (loopOf Tryz.f25 0) (st_esd s l n k) (onward (headAt cx0_esd 4) R K)=R (st_esd s' l' n' k')):=by
 have hx:=fun R=>x_impl_EditsDo s l n k R K;simp only[pre_esd,andd,dec_iff]at hI;obtain⟨h0,rfl,h2⟩:=hI
 by_cases hk:k<(length l:Int)
 ·have w:W64 (k+1)=k+1:=wrap_small (by omega) (by omega);have hd:plays s (List.drop k.toNat l)=bif (EdDo s (getD l k.toNat ed0)).2 then plays (EdDo s (getD l k.toNat ed0)).1 (List.drop (k+1).toNat l)else([],false):=by rw[dropE_at h0 hk];rfl
  rw[zT hk,inb_ok h0 hk,w]at hx
  cases hc:(EdDo s (getD l k.toNat ed0)).2
  ·rw[hc]at hx hd;left;intro R;refine(hx R).trans ?_;simp only[res_esd,hd];rfl
  ·rw[hc]at hx hd;right;refine⟨(EdDo s (getD l k.toNat ed0)).1,l,(length l:Int),k+1, ?_, ?_, ?_,fun R=>hx R⟩
   ·simp only[pre_esd,andd,dec_iff];exact⟨by omega,trivial,h2⟩
   ·simp only[mu_esd];omega
   ·simp only[res_esd,hd,cond_true]
 ·left;intro R;refine(hx R).trans ?_;rw[zF hk];have e:List.drop k.toNat l=[]:=drop_eq_nil_of_le (by omega);simp only[res_esd,e];rfl
def g_esd:St→Cont→Option Fin:=gP sh_esd (fun v=>match v with | ((s,l,n,k,()),())=>pre_esd s l n k) (fun v K=>match v with | ((s,l,n,k,()),())=>res_esd s l n k K)
def L_esd:LpL:=(4,g_esd)::[]
def cx_esd:Cx:=(cb_esd).withLoops (look L_esd)
theorem l_esd {L:LpL} (n:Nat) (h1:L.drop n=[]) (h2:idsFree (L.take n) (loopOf Tryz.f25 0)=true):LoopsTo g_esd (cb_esd) (loopOf Tryz.f25 0) 4 L :=
 with_drop h1 h2 (gP_ok (fun v=>match v with | ((s,l,n,k,()),())=>mu_esd s l n k) fun v K hI=>by
  obtain⟨⟨s,l,n,k,⟨⟩⟩,⟨⟩⟩:=v;exact(r_esd s l n k K hI).imp id fun⟨s',l',n',k',h⟩=>⟨((s',l',n',k',()),()),h⟩)
theorem plays_no:∀ {l:List Edit} {s:Str},(plays s l).2=false→plays s l=([],false)
 | [],_,h=>by cases h
 |e::l,s,h=>by
  have h:(bif (EdDo s e).2 then plays (EdDo s e).1 l else([],false)).2=false:=h;show(bif (EdDo s e).2 then plays (EdDo s e).1 l else([],false))=([],false)
  cases hc:(EdDo s e).2
  ·rfl
  ·rw[hc]at h;exact plays_no h
def doesV (s:Str) (l:List Edit):Str×Bool:=bif (bif !areSm s 20 then true else decide (12<(length l:Int)))then([],false)else plays s l
theorem y_impl_EditsDo (s:Str) (l:List Edit):evFn cx_esd Tryz.f25 true [ofD .str s,ofD TEL l] []=(
branch (bif !areSm s 20 then true else decide (12<(l.length:Int))) ( some ((.tup [(.one (.r (.v (Value.string (mk []))))),(.one (.r (.v (Value.bool false))))]),[])) (
 need (pre_esd s l ((l.length:Int)) 0) <|
 branch ((plays s l).snd) ( some ((.tup [(.one (.r (.v (Value.string (mk (plays s l).fst))))),(.one (.r (.v (Value.bool true))))]),[])) ( some ((.tup [(.one (.r (.v (Value.string (mk []))))),(.one (.r (.v (Value.bool false))))]),[])))):=by kernel_rfl
theorem s_impl_EditsDo (s:Str) (_hs:Fit .str s) (l:List Edit) (hl:Fit TEL l):Sat Tryz.prog 25 [ofD .str s,ofD TEL l] [] (editR (doesV s l)) [] :=
 fn_sound (cx:=cx_esd) Tryz.func25 rfl ttOk Γ100ok mixed (fun c hc=>LoopsOk.all (l:=[(4,loopOf Tryz.f25 0)]) (by cases hc;kernel_rfl) ⟨atLoop rfl (l_esd 1 rfl (by kernel_rfl)),trivial⟩) (ro:=true) (by
  rw[y_impl_EditsDo];unfold doesV
  cases hc:(bif !areSm s 20 then true else decide (12<(length l:Int)))
  ·have hl:¬ 12<(length l:Int):=by
    cases ha:areSm s 20
    ·rw[ha]at hc;cases hc
    ·rw[ha]at hc;exact of_decide_eq_false hc
   have hp:pre_esd s l (length l:Int) 0=true:=by
    simp only[pre_esd,andd,dec_iff];exact⟨Int.le_refl 0,trivial,by omega⟩
   rw[hp];show branch (plays s l).2 _ _=some (editR (plays s l),[])
   cases hr:(plays s l).2
   ·rw[plays_no hr];rfl
   ·unfold editR;rw[hr];rfl
  ·rfl)
def c_impl_EditsDo:Con:=conT [.str,TEL] fun(s:Str) (l:List Edit)=>(none,editR (doesV s l))
theorem k_impl_EditsDo:ConOk Tryz.prog 25 c_impl_EditsDo:=conT_ok Tryz.call25 fun s hs l hl _=>s_impl_EditsDo s hs l hl
def Γ101:GL:=(25,c_impl_EditsDo)::Γ100
theorem Γ101ok:GO Γ101 := .cons k_impl_EditsDo Γ100ok
def cb_lmr:Cx:=(cxOf Γ101 Tryz.f7.ntmps [(12,[3,4,5,6,8,11,12])] [(0,[3,4,5,6,11]),(1,[3,4,5,6,8,11,12]),(1000000,[2])] [] [])
abbrev st_lmr (s:Str) (l:List Edit) (x:Str) (w:List Edit) (n i:Int) (g:Gram):St:=⟨[(3, kp0),(4,vS s),(5, .d (ofD TEL l)),(6,vS x),(8, .d (ofD TEL w)),(11,vI n),(12,vI i)],[(500000,some (boxD 25 TG g))]⟩
theorem x_laws_FnMendRun (g:Gram) (s x:Str) (l w:List Edit) (n i:Int) (R:St→Option Fin) (K:Cont):evC (cb_lmr.withLoops (look [])) (loopOf Tryz.f7 0) (st_lmr s l x w n i g) (onward (headAt (cb_lmr.withLoops (look [])) 12) R K)=(
branch (decide (i<(l.length:Int))) (
 need (inb i l.length) <|
 need (inb i w.length) <|
 branch (!(decide ((l.getD i.toNat ed0).fst=(w.getD i.toNat ed0).fst)&&(decide ((l.getD i.toNat ed0).snd.fst=(w.getD i.toNat ed0).snd.fst)&&(decide ((l.getD i.toNat ed0).snd.snd=(w.getD i.toNat ed0).snd.snd)&&true)))) ( K (.ret) (.mk [(2,vB false)] [])) ( R (st_lmr s l x w n (W64 (i+1)) g))) ( K (.exit 0) (.mk [(3,kp0),(4,vS s),(5,(.d (.one (.r (.li TE l))))),(6,vS x),(11,vI n)] [(500000,some (boxD 25 TG g))]))):=by kernel_rfl
def cx0_lmr:Cx:=(cb_lmr).withLoops (look [])
def sh_lmr:Sh:=([(3, .ptr 500000 0),(4, .d .str),(5, .d TEL),(6, .d .str),(8, .d TEL),(11, .d TI64),(12, .d TI64)],[(500000, .box 25 TG)])
def pre_lmr (_s:Str) (l:List Edit) (_x:Str) (w:List Edit) (_n i:Int) (_g:Gram):Bool:=decide (0≤i)&&(decide (l=w)&&decide (length l≤1000))
def res_lmr (s:Str) (l:List Edit) (x:Str) (_w:List Edit) (n _i:Int) (g:Gram) (K:Cont):Option Fin:=K (.exit 0) ⟨[(3, kp0),(4,vS s),(5, .d (ofD TEL l)),(6,vS x),(11,vI n)],[(500000,some (boxD 25 TG g))]⟩
def mu_lmr (_s:Str) (l:List Edit) (_x:Str) (_w:List Edit) (_n i:Int) (_g:Gram):Nat:=length l-i.toNat
theorem r_lmr (s:Str) (l:List Edit) (x:Str) (w:List Edit) (n i:Int) (g:Gram) (K:Cont) (hI:pre_lmr s l x w n i g=true):(∀R:St→Option Fin,evC cx0_lmr (loopOf Tryz.f7 0) (st_lmr s l x w n i g) (onward (headAt cx0_lmr 12) R K)=res_lmr s l x w n i g K) ∨
  (∃(s':Str) (l':List Edit) (x':Str) (w':List Edit) (n' i':Int) (g':Gram),pre_lmr s' l' x' w' n' i' g'=true∧mu_lmr s' l' x' w' n' i' g'<mu_lmr s l x w n i g∧res_lmr s' l' x' w' n' i' g' K=res_lmr s l x w n i g K∧∀R:St→Option Fin,evC cx0_lmr (loopOf Tryz.f7 0) (st_lmr s l x w n i g) (onward (headAt cx0_lmr 12) R K)=R (st_lmr s' l' x' w' n' i' g')):=by
 have hx:=fun R=>x_laws_FnMendRun g s x l w n i R K;simp only[pre_lmr,andd,dec_iff]at hI;obtain⟨h0,rfl,h2⟩:=hI
 by_cases hi:i<(length l:Int)
 ·have w:W64 (i+1)=i+1:=wrap_small (by omega) (by omega);have e1:=zT (rfl:(getD l i.toNat ed0).1=(getD l i.toNat ed0).1);have e2:=zT (rfl:(getD l i.toNat ed0).2.1=(getD l i.toNat ed0).2.1);have e3:=zT (rfl:(getD l i.toNat ed0).2.2=(getD l i.toNat ed0).2.2);rw[zT hi,inb_ok h0 hi,w,e1,e2,e3]at hx;right;refine⟨s,l,x,l,n,i+1,g, ?_, ?_,rfl,fun R=>hx R⟩
  ·simp only[pre_lmr,andd,dec_iff];exact⟨by omega,trivial,h2⟩
  ·simp only[mu_lmr];omega
 ·left;intro R;refine(hx R).trans ?_;rw[zF hi];rfl
def g_lmr:St→Cont→Option Fin:=gP sh_lmr (fun v=>match v with | ((s,l,x,w,n,i,()),(g,()))=>pre_lmr s l x w n i g) (fun v K=>match v with | ((s,l,x,w,n,i,()),(g,()))=>res_lmr s l x w n i g K)
def L_lmr:LpL:=(12,g_lmr)::[]
def cx_lmr:Cx:=(cb_lmr).withLoops (look L_lmr)
theorem l_lmr {L:LpL} (n:Nat) (h1:L.drop n=[]) (h2:idsFree (L.take n) (loopOf Tryz.f7 0)=true):LoopsTo g_lmr (cb_lmr) (loopOf Tryz.f7 0) 12 L :=
 with_drop h1 h2 (gP_ok (fun v=>match v with | ((s,l,x,w,n,i,()),(g,()))=>mu_lmr s l x w n i g) fun v K hI=>by
  obtain⟨⟨s,l,x,w,n,i,⟨⟩⟩,⟨g,⟨⟩⟩⟩:=v;exact(r_lmr s l x w n i g K hI).imp id fun⟨s',l',x',w',n',i',g',h⟩=>⟨((s',l',x',w',n',i',()),(g',())),h⟩)
theorem y_laws_FnMendRun (l:List Int):evFn cx_lmr Tryz.f7 true [ofD TB l] []=(
branch (decide (1048576<(l.length:Int))) ( some ((vB true),[])) (
 branch (bif bif bif !decide ((runV (F_spec_DrawMendRun l).fst (F_spec_DrawMendRun l).snd).snd.fst=(sRunV (F_spec_DrawMendRun l).fst (F_spec_DrawMendRun l).snd).snd.fst)then true else !decide ((runV (F_spec_DrawMendRun l).fst (F_spec_DrawMendRun l).snd).snd.snd=(sRunV (F_spec_DrawMendRun l).fst (F_spec_DrawMendRun l).snd).snd.snd)then true else !decide (((runV (F_spec_DrawMendRun l).fst (F_spec_DrawMendRun l).snd).fst.length:Int)=((sRunV (F_spec_DrawMendRun l).fst (F_spec_DrawMendRun l).snd).fst.length:Int))then true else !decide ((runV (F_spec_DrawMendRun l).fst (F_spec_DrawMendRun l).snd).snd.snd=bif decide (0≤mendV (F_spec_DrawMendRun l).fst (F_spec_DrawMendRun l).snd)then decide (mendV (F_spec_DrawMendRun l).fst (F_spec_DrawMendRun l).snd≤12)else false)) ( some ((vB false),[])) (
 branch (!(runV (F_spec_DrawMendRun l).fst (F_spec_DrawMendRun l).snd).snd.snd) ( some ((vB (bif decide (((runV (F_spec_DrawMendRun l).fst (F_spec_DrawMendRun l).snd).fst.length:Int)=0)then decide ((runV (F_spec_DrawMendRun l).fst (F_spec_DrawMendRun l).snd).snd.fst=[])else false)),[])) (
  need (pre_lmr (F_spec_DrawMendRun l).snd (runV (F_spec_DrawMendRun l).fst (F_spec_DrawMendRun l).snd).fst (runV (F_spec_DrawMendRun l).fst (F_spec_DrawMendRun l).snd).snd.fst (sRunV (F_spec_DrawMendRun l).fst (F_spec_DrawMendRun l).snd).fst (mendV (F_spec_DrawMendRun l).fst (F_spec_DrawMendRun l).snd) 0 (F_spec_DrawMendRun l).fst) <|
  need (bif decide ((bif bif (doesV (F_spec_DrawMendRun l).snd (runV (F_spec_DrawMendRun l).fst (F_spec_DrawMendRun l).snd).fst).snd then decide ((doesV (F_spec_DrawMendRun l).snd (runV (F_spec_DrawMendRun l).fst (F_spec_DrawMendRun l).snd).fst).fst=(runV (F_spec_DrawMendRun l).fst (F_spec_DrawMendRun l).snd).snd.fst)else false then decide (((runV (F_spec_DrawMendRun l).fst (F_spec_DrawMendRun l).snd).fst.length:Int)=mendV (F_spec_DrawMendRun l).fst (F_spec_DrawMendRun l).snd)else false)=true)then decide ((length (F_spec_DrawMendRun l).snd)≤1000)&&decide ((length (runV (F_spec_DrawMendRun l).fst (F_spec_DrawMendRun l).snd).snd.fst)≤1000)else true) <| some ((vB (bif bif bif bif (doesV (F_spec_DrawMendRun l).snd (runV (F_spec_DrawMendRun l).fst (F_spec_DrawMendRun l).snd).fst).snd then decide ((doesV (F_spec_DrawMendRun l).snd (runV (F_spec_DrawMendRun l).fst (F_spec_DrawMendRun l).snd).fst).fst=(runV (F_spec_DrawMendRun l).fst (F_spec_DrawMendRun l).snd).snd.fst)else false then decide (((runV (F_spec_DrawMendRun l).fst (F_spec_DrawMendRun l).snd).fst.length:Int)=mendV (F_spec_DrawMendRun l).fst (F_spec_DrawMendRun l).snd)else false then decide (edF (F_spec_DrawMendRun l).snd (runV (F_spec_DrawMendRun l).fst (F_spec_DrawMendRun l).snd).snd.fst=mendV (F_spec_DrawMendRun l).fst (F_spec_DrawMendRun l).snd)else false then bif decide (8<(length (runV (F_spec_DrawMendRun l).fst (F_spec_DrawMendRun l).snd).snd.fst:Int))then true else both2 (F_spec_DrawMendRun l).fst (runV (F_spec_DrawMendRun l).fst (F_spec_DrawMendRun l).snd).snd.fst&&isD (F_spec_DrawMendRun l).fst (runV (F_spec_DrawMendRun l).fst (F_spec_DrawMendRun l).snd).snd.fst else false)),[]))))):=by kernel_rfl
theorem s_laws_FnMendRun (l:List Int) (hl:Fit TB l):Sat Tryz.prog 7 [ofD TB l] [] (.d (ofD .bool true)) [] :=
 fn_sound (cx:=cx_lmr) Tryz.func7 rfl ttOk Γ101ok mixed (fun c hc=>LoopsOk.all (l:=[(12,loopOf Tryz.f7 0)]) (by cases hc;kernel_rfl) ⟨atLoop rfl (l_lmr 1 rfl (by kernel_rfl)),trivial⟩) (ro:=true) (by
  rw[y_laws_FnMendRun]
  generalize F_spec_DrawMendRun l=v
  obtain⟨g,s⟩:=v;dsimp only;rw[← run_same];rcases runV_facts (g:=g) (s:=s)with⟨h1,h2⟩ | ⟨l',x,n,h1,h2,h3,h4,h5,h6,h7,r2,r3,r4,r5,k,r6,r7⟩
  ·have hk:(bif decide (0≤mendV g s)then decide (mendV g s≤12)else false)=false:=by
    rcases h2 with h2 | h2
    ·rw[h2];rfl
    ·rw[zT (by omega:0≤mendV g s),zF (by omega:¬mendV g s≤12)];rfl
   rw[h1,hk]
   cases decide (1048576<(length l:Int))<;>rfl
  ·have hk:(bif decide (0≤mendV g s)then decide (mendV g s≤12)else false)=true:=by
    rw[zT (by omega:0≤mendV g s),zT (by omega:mendV g s≤12)];rfl
   have hs:=both_long h7;have hs2:=(longOk_iff.1 hs).2;have hx2:=(longOk_iff.1 r5).2;have hd:doesV s l'=(x,true):=by
    unfold doesV;rw[areSm_20,hs,zF (by omega:¬ 12<(length l':Int))];exact r3
   have hw:WordG g.2 g.1 x:=(far_zero h5 (by omega) h6).1 r4;have hE:edF s x=mendV g s:=by
    obtain⟨e0,e1,e2⟩:=edF_is (a:=s) (b:=x);have q1:=e2 k r7;have q2:=(far_both h5 (by omega:length s≤1000) h6).2.2.2.2 x _ hw e1;omega
   have hA:(bif decide (8<(length x:Int))then true else both2 g x&&isD g x)=true:=by
    by_cases hl:8<(length x:Int)
    ·rw[zT hl];rfl
    ·rw[zF hl,both2_mk h5 r5 (by omega),(isD_word h5).2 hw];rfl
   have hp:pre_lmr s l' x l' (mendV g s) 0 g=true:=by
    simp only[pre_lmr,andd,dec_iff];exact⟨Int.le_refl 0,trivial,by omega⟩
   rw[h1,hk];show branch (decide (1048576<(length l:Int))) _ (branch (bif bif bif !decide (x=x)then true else !decide (true=true)then true else !decide ((length l':Int)=(length l':Int))then true else !decide (true=true)) _ (branch (!true) _ (need (pre_lmr s l' x l' (mendV g s) 0 g) (need (bif decide ((bif bif (doesV s l').2 then decide ((doesV s l').1=x)else false then decide ((length l':Int)=mendV g s)else false)=true)then decide (length s≤1000)&&decide (length x≤1000)else true) (some (vB (bif bif bif bif (doesV s l').2 then decide ((doesV s l').1=x)else false then decide ((length l':Int)=mendV g s)else false then decide (edF s x=mendV g s)else false then bif decide (8<(length x:Int))then true else both2 g x&&isD g x else false),[]))))))=_;rw[hp,hA,hd,zT hE,zT (by omega:(length l':Int)=mendV g s),zT (rfl:(length l':Int)=(length l':Int)),zT (by omega:length s≤1000),zT (by omega:length x≤1000)];show branch (decide (1048576<(length l:Int))) _ (branch (bif bif bif !decide (x=x)then true else false then true else false then true else false) _ (need (bif decide ((bif decide (x=x)then true else false)=true)then true else true) (some (vB (bif bif bif decide (x=x)then true else false then true else false then true else false),[]))))=_;rw[zT (rfl:x=x)]
   cases decide (1048576<(length l:Int))<;>rfl)
end
end Go.Proofs.YtmeiebnfmhddnaaGreatDoor.Ev
