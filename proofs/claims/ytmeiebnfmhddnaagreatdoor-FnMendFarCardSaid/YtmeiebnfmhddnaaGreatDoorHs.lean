/-
  The least number of edits from a text to a text.
-/
import Derived.Test.YtmeiebnfmhddnaaGreatDoorHq
namespace Go.Proofs.YtmeiebnfmhddnaaGreatDoor.Ev
open Go
noncomputable def cb_ef:Cx:=cxOf Γ98 Tryz.f17.ntmps [(12,[0,1,5,7,8,24,25,32,33]),(8,[0,1,5,24,25]),(3,[0,1,5,14,15])] [(2,[1,5]),(3,[0,1,5,24,25]),(4,[0,1,8,24,25]),(5,[0,1,5,7,8,24,25,32,33]),(0,[0,1,5]),(1,[0,1,5,14,15]),(1000000,[4])] [] []
theorem x_impl_EditsFar_2 (a b:Str) (r x:List Int) (i n j m k:Int) (R:St→Option Fin) (K:Cont):evC (cb_ef.withLoops (look [])) (loopOf Tryz.f17 2) ⟨[(0,vS a),(1,vS b),(5, .d (.one (.own 500000))),(7,vI i),(8, .d (.one (.own 500001))),(24,vI n),(25,vI j),(32,vI m),(33,vI k)],[(500000,some (.lis 3 TI64 r)),(500001,some (.lis 3 TI64 x))]⟩ (onward (headAt (cb_ef.withLoops (look [])) 12) R K)=(
branch (decide (k<m)) (
 need (inb k r.length) <|
 need (inb i a.length) <|
 need (inb k b.length) <|
 branch (!decide (byteAt a i=byteAt b k)) (
 need (inb (W64 (k+1)) r.length) <|
 need (inb k x.length) <|
 need (fits (x.length+[if W64 (Int.add (x.getD k.toNat 0) 1)<if W64 (Int.add (r.getD (W64 (k+1)).toNat 0) 1)<W64 (Int.add (r.getD k.toNat 0) 1)then W64 (Int.add (r.getD (W64 (k+1)).toNat 0) 1)else W64 (Int.add (r.getD k.toNat 0) 1)then W64 (Int.add (x.getD k.toNat 0) 1)else if W64 (Int.add (r.getD (W64 (k+1)).toNat 0) 1)<W64 (Int.add (r.getD k.toNat 0) 1)then W64 (Int.add (r.getD (W64 (k+1)).toNat 0) 1)else W64 (Int.add (r.getD k.toNat 0) 1)].length) Tryz.t3.bytes) <| R (.mk [(0,(vS a)),(1,(vS b)),(5,(.d (.one (.own 500000)))),(7,(vI i)),(8,(.d (.one (.own 500001)))),(24,(vI n)),(25,(vI j)),(32,(vI m)),(33,(vI (W64 (k+1))))] [(500000,(.some (.lis 3 TI64 r))),(500001,(.some (.lis 3 ty3 (x.append [if W64 (Int.add (x.getD k.toNat 0) 1)<if W64 (Int.add (r.getD (W64 (k+1)).toNat 0) 1)<W64 (Int.add (r.getD k.toNat 0) 1)then W64 (Int.add (r.getD (W64 (k+1)).toNat 0) 1)else W64 (Int.add (r.getD k.toNat 0) 1)then W64 (Int.add (x.getD k.toNat 0) 1)else if W64 (Int.add (r.getD (W64 (k+1)).toNat 0) 1)<W64 (Int.add (r.getD k.toNat 0) 1)then W64 (Int.add (r.getD (W64 (k+1)).toNat 0) 1)else W64 (Int.add (r.getD k.toNat 0) 1)]))))])) (
 need (inb (W64 (k+1)) r.length) <|
 need (inb k x.length) <|
 need (fits (x.length+[if W64 (Int.add (x.getD k.toNat 0) 1)<if W64 (Int.add (r.getD (W64 (k+1)).toNat 0) 1)<r.getD k.toNat 0 then W64 (Int.add (r.getD (W64 (k+1)).toNat 0) 1)else r.getD k.toNat 0 then W64 (Int.add (x.getD k.toNat 0) 1)else if W64 (Int.add (r.getD (W64 (k+1)).toNat 0) 1)<r.getD k.toNat 0 then W64 (Int.add (r.getD (W64 (k+1)).toNat 0) 1)else r.getD k.toNat 0].length) Tryz.t3.bytes) <| R (.mk [(0,(vS a)),(1,(vS b)),(5,(.d (.one (.own 500000)))),(7,(vI i)),(8,(.d (.one (.own 500001)))),(24,(vI n)),(25,(vI j)),(32,(vI m)),(33,(vI (W64 (k+1))))] [(500000,(.some (.lis 3 TI64 r))),(500001,(.some (.lis 3 ty3 (x.append [if W64 (Int.add (x.getD k.toNat 0) 1)<if W64 (Int.add (r.getD (W64 (k+1)).toNat 0) 1)<r.getD k.toNat 0 then W64 (Int.add (r.getD (W64 (k+1)).toNat 0) 1)else r.getD k.toNat 0 then W64 (Int.add (x.getD k.toNat 0) 1)else if W64 (Int.add (r.getD (W64 (k+1)).toNat 0) 1)<r.getD k.toNat 0 then W64 (Int.add (r.getD (W64 (k+1)).toNat 0) 1)else r.getD k.toNat 0]))))]))) ( K (.exit 4) (.mk [(0,(vS a)),(1,(vS b)),(8,(.d (.one (.own 500000)))),(24,(vI n)),(25,(vI j))] [(500000,(.some (.lis 3 TI64 x)))]))):=by kernel_rfl
def minE (c:Bool) (d y z:Int):Int:=if z+1<(if y+1<(bif c then d+1 else d)then y+1 else(bif c then d+1 else d))then z+1 else(if y+1<(bif c then d+1 else d)then y+1 else(bif c then d+1 else d))
def bdR (i:Int) (r:List Int):Bool:=decide (∀k,k<r.length→0≤r.getD k 0∧r.getD k 0≤i+k)
theorem bdR_at {i:Int} {r:List Int} (h:bdR i r=true) {k:Nat} (hk:k<r.length):0≤r.getD k 0∧r.getD k 0≤i+k:=dec_iff.1 h k hk
theorem minE_le {c:Bool} {d y z:Int} (h0:0≤d) (h1:0≤y) (h2:0≤z):0≤minE c d y z∧minE c d y z≤z+1:=by
 unfold minE
 have:0≤(bif c then d+1 else d):=by cases c<;>simp<;>omega
 split
 ·omega
 ·split
  ·omega
  ·omega
theorem bdR_app {i:Int} {r:List Int} {v:Int} (h:bdR i r=true) (h0:0≤v) (h1:v≤i+r.length):bdR i (r++[v])=true:=by
 refine decide_eq_true fun k hk => ?_
 rw[List.length_append,List.length_singleton]at hk
 by_cases h2:k<r.length
 ·rw[List.getD_eq_getElem?_getD,List.getElem?_append_left h2,← List.getD_eq_getElem?_getD]
  exact bdR_at h h2
 ·obtain rfl:k=r.length:=by omega
  rw[List.getD_eq_getElem?_getD,List.getElem?_append_right (Nat.le_refl _),Nat.sub_self]
  exact⟨h0,h1⟩
def wayE (a b:Str) (i:Int) (r x:List Int) (k:Int):Int:=minE (!decide (byteAt a i=byteAt b k)) (r.getD k.toNat 0) (r.getD (k+1).toNat 0) (x.getD k.toNat 0)
def inE (a b:Str) (i:Int) (r:List Int):Nat→Int→List Int→List Int
 |0,_,x=>x
 |n+1,k,x=>inE a b i r n (k+1) (x++[wayE a b i r x k])
theorem intFits {n m:Nat} (h:n+m≤100000):fits (n+m) Tryz.t3.bytes=true:=fits_ok h (by decide)
noncomputable def cx0_ef2:Cx:=(cb_ef).withLoops (look [])
def sh_ef2:Sh:=([(0, .d .str),(1, .d .str),(5, .own 500000),(7, .d TI64),(8, .own 500001),(24, .d TI64),(25, .d TI64),(32, .d TI64),(33, .d TI64)],[(500000, .lis 3 TI64),(500001, .lis 3 TI64)])
abbrev st_ef2 (a b:Str) (i n j m k:Int) (r x:List (Int)):St:=⟨[(0, .d (ofD .str a)),(1, .d (ofD .str b)),(5, .d (.one (.own 500000))),(7, .d (ofD TI64 i)),(8, .d (.one (.own 500001))),(24, .d (ofD TI64 n)),(25, .d (ofD TI64 j)),(32, .d (ofD TI64 m)),(33, .d (ofD TI64 k))],[(500000,some (.lis 3 TI64 r)),(500001,some (.lis 3 TI64 x))]⟩
def pre_ef2 (a b:Str) (i _n _j m k:Int) (r x:List (Int)):Bool:=decide (0≤i)&&(decide (i<(List.length a:Int))&&(decide (0≤k)&&(decide (k≤m)&&(decide (m=(List.length b:Int))&&(decide (List.length a≤1000)&&(decide (List.length b≤1000)&&(decide (List.length r=List.length b+1)&&(decide ((List.length x:Int)=k+1)&&(bdR i r&&bdR (i+1) x)))))))))
noncomputable def res_ef2 (a b:Str) (i n j _m k:Int) (r x:List (Int)) (K:Cont):Option Fin:=K (.exit 4) ⟨[(0,vS a),(1,vS b),(8, .d (.one (.own 500000))),(24,vI n),(25,vI j)],[(500000,some (.lis 3 TI64 (inE a b i r (List.length b-k.toNat) k x)))]⟩
def mu_ef2 (_a b:Str) (_i _n _j _m k:Int) (_r _x:List (Int)):Nat:=List.length b-k.toNat
theorem r_ef2 (a b:Str) (i n j m k:Int) (r x:List (Int)) (K:Cont) (hI:pre_ef2 a b i n j m k r x=true):(∀R:St→Option Fin,evC cx0_ef2 (loopOf Tryz.f17 2) (st_ef2 a b i n j m k r x) (onward (headAt cx0_ef2 12) R K)=res_ef2 a b i n j m k r x K) ∨
  (∃(a' b':Str) (i' n' j' m' k':Int) (r' x':List (Int)),pre_ef2 a' b' i' n' j' m' k' r' x'=true∧mu_ef2 a' b' i' n' j' m' k' r' x'<mu_ef2 a b i n j m k r x∧res_ef2 a' b' i' n' j' m' k' r' x' K=res_ef2 a b i n j m k r x K∧∀R:St→Option Fin,evC cx0_ef2 (loopOf Tryz.f17 2) (st_ef2 a b i n j m k r x) (onward (headAt cx0_ef2 12) R K)=R (st_ef2 a' b' i' n' j' m' k' r' x')):=by
 have hx:=fun R=>x_impl_EditsFar_2 a b r x i n j m k R K
 simp only[pre_ef2,andd,dec_iff]at hI
 obtain⟨h0,h1,h2,h3,rfl,h5,h6,h7,h8,h9,h10⟩:=hI
 by_cases hk:k<(List.length b:Int)
 ·obtain ⟨q,hq⟩:∃q,List.length b-k.toNat=q+1:=⟨List.length b-k.toNat-1,by omega⟩
  have hq2:List.length b-(k+1).toNat=q:=by omega
  obtain⟨a1,a2⟩:=bdR_at h9 (k:=k.toNat) (by omega)
  obtain⟨b1,b2⟩:=bdR_at h9 (k:=(k+1).toNat) (by omega)
  obtain⟨c1,c2⟩:=bdR_at h10 (k:=k.toNat) (by omega)
  have w:W64 (k+1)=k+1:=wrap_small (by omega) (by omega)
  have w1:W64 (Int.add (x.getD k.toNat 0) 1)=x.getD k.toNat 0+1:=wrap_small (n:=x.getD k.toNat 0+1) (by omega) (by omega)
  have w2:W64 (Int.add (r.getD (k+1).toNat 0) 1)=r.getD (k+1).toNat 0+1:=wrap_small (n:=r.getD (k+1).toNat 0+1) (by omega) (by omega)
  have w3:W64 (Int.add (r.getD k.toNat 0) 1)=r.getD k.toNat 0+1:=wrap_small (n:=r.getD k.toNat 0+1) (by omega) (by omega)
  have hf:∀v:Int,fits (x.length+[v].length) Tryz.t3.bytes=true:=fun v=>intFits (by rw[List.length_singleton];omega)
  have hgo:∀R:St→Option Fin,evC (cb_ef.withLoops (look [])) (loopOf Tryz.f17 2) ⟨[(0,vS a),(1,vS b),(5, .d (.one (.own 500000))),(7,vI i),(8, .d (.one (.own 500001))),(24,vI n),(25,vI j),(32,vI (List.length b:Int)),(33,vI k)],[(500000,some (.lis 3 TI64 r)),(500001,some (.lis 3 TI64 x))]⟩ (onward (headAt (cb_ef.withLoops (look [])) 12) R K)=R ⟨[(0,vS a),(1,vS b),(5, .d (.one (.own 500000))),(7,vI i),(8, .d (.one (.own 500001))),(24,vI n),(25,vI j),(32,vI (List.length b:Int)),(33,vI (k+1))],[(500000,some (.lis 3 TI64 r)),(500001,some (.lis 3 TI64 (x++[wayE a b i r x k])))]⟩:=fun R=>by
   refine(hx R).trans ?_
   unfold wayE minE
   rw[decide_eq_true hk,inb_ok (by omega:0≤k) (by omega:k<(r.length:Int)),inb_ok h0 h1,inb_ok h2 hk,w,inb_ok (by omega:0≤k+1) (by omega:k+1<(r.length:Int)),inb_ok h2 (by omega:k<(x.length:Int)),w1,w2,w3,hf,hf]
   cases decide (byteAt a i=byteAt b k)<;>rfl
  have hway:=minE_le (c := !decide (byteAt a i=byteAt b k)) a1 b1 c1
  right
  refine⟨a,b,i,n,j,(List.length b:Int),k+1,r,x++[wayE a b i r x k], ?_, ?_, ?_,fun R=>hgo R⟩
  ·simp only[pre_ef2,andd,dec_iff]
   rw[List.length_append,List.length_singleton]
   refine⟨h0,h1,by omega,by omega,trivial,h5,h6,h7,by omega,h9,bdR_app h10 hway.1 ?_⟩
   exact Int.le_trans hway.2 (by omega)
  ·simp only[mu_ef2];omega
  ·simp only[res_ef2,hq,hq2];rfl
 ·left
  intro R
  refine(hx R).trans ?_
  rw[decide_eq_false hk]
  have e:List.length b-k.toNat=0:=by omega
  simp only[res_ef2,e];rfl
noncomputable def g_ef2:St→Cont→Option Fin:=gP sh_ef2 (fun v=>match v with | ((a,b,i,n,j,m,k,()),(r,x,()))=>pre_ef2 a b i n j m k r x) (fun v K=>match v with | ((a,b,i,n,j,m,k,()),(r,x,()))=>res_ef2 a b i n j m k r x K)
noncomputable def L_ef2:List (Nat×(St→Cont→Option Fin)):=(12,g_ef2)::[]
theorem l_ef2 {L:List (Nat×(St→Cont→Option Fin))} (n:Nat) (h1:L.drop n=[]) (h2:idsFree (L.take n) (loopOf Tryz.f17 2)=true):∀st K r,g_ef2 st K=some r→∃N,iter (evC ((cb_ef).withLoops (look L)) (loopOf Tryz.f17 2)) (headAt ((cb_ef).withLoops (look L)) 12) N st K=some r :=
 with_drop h1 h2 (gP_ok (fun v=>match v with | ((a,b,i,n,j,m,k,()),(r,x,()))=>mu_ef2 a b i n j m k r x) fun v K hI=>by
  obtain⟨⟨(a:Str),(b:Str),(i:Int),(n:Int),(j:Int),(m:Int),(k:Int),⟨⟩⟩,⟨(r:List (Int)),(x:List (Int)),⟨⟩⟩⟩:=v
  rcases r_ef2 a b i n j m k r x K hI with h1 | ⟨a',b',i',n',j',m',k',r',x',h1,h2,h3,h4⟩
  ·exact .inl h1
  ·exact .inr ⟨((a',b',i',n',j',m',k',()),(r',x',())),h1,h2,h3,h4⟩)
def outE (a b:Str):Nat→Int→List Int→List Int
 |0,_,r=>r
 |n+1,i,r=>outE a b n (i+1) (inE a b i r (List.length b) 0 [i+1])
theorem inE_ok {a b:Str} {i:Int} {r:List Int} (h0:0≤i) (h9:bdR i r=true):∀ {n:Nat} {k:Int} {x:List Int},0≤k→(List.length x:Int)=k+1→k+n+1≤(r.length:Int)→bdR (i+1) x=true→bdR (i+1) (inE a b i r n k x)=true∧(List.length (inE a b i r n k x):Int)=k+n+1
 |0,k,x,h2,h8,_,h=>⟨h,by show(List.length x:Int)=_;omega⟩
 |n+1,k,x,h2,h8,h7,h=>by
  obtain⟨a1,a2⟩:=bdR_at h9 (k:=k.toNat) (by omega)
  obtain⟨b1,b2⟩:=bdR_at h9 (k:=(k+1).toNat) (by omega)
  obtain⟨c1,c2⟩:=bdR_at h (k:=k.toNat) (by omega)
  have hway:=minE_le (c := !decide (byteAt a i=byteAt b k)) a1 b1 c1
  obtain⟨q1,q2⟩:=inE_ok h0 h9 (n:=n) (k:=k+1) (x:=x++[wayE a b i r x k]) (by omega) (by rw[List.length_append,List.length_singleton];omega) (by omega) (bdR_app h hway.1 (Int.le_trans hway.2 (by omega)))
  exact⟨q1,by show(List.length (inE a b i r n (k+1) _):Int)=_;omega⟩
theorem x_impl_EditsFar_1 (a b:Str) (r:List Int) (n i:Int) (R:St→Option Fin) (K:Cont):evC (cb_ef.withLoops (look L_ef2)) (loopOf Tryz.f17 1) ⟨[(0,vS a),(1,vS b),(5, .d (.one (.own 500000))),(24,vI n),(25,vI i)],[(500000,some (.lis 3 TI64 r))]⟩ (onward (headAt (cb_ef.withLoops (look L_ef2)) 8) R K)=(
branch (decide (i<n)) (
 need (pre_ef2 a b i n i ((b.length:Int)) 0 r [W64 (i+1)]) <| R (.mk [(0,(vS a)),(1,(vS b)),(5,(.d (.one (.own 500000)))),(24,(vI n)),(25,(vI (W64 (i+1))))] [(500000,(.some (.lis 3 TI64 (inE a b i r (List.length b-(0:Int).toNat) 0 [W64 (i+1)]))))])) ( K (.exit 2) (.mk [(1,(vS b)),(5,(.d (.one (.own 500000))))] [(500000,(.some (.lis 3 TI64 r)))]))):=by kernel_rfl
noncomputable def cx0_ef1:Cx:=(cb_ef).withLoops (look L_ef2)
def sh_ef1:Sh:=([(0, .d .str),(1, .d .str),(5, .own 500000),(24, .d TI64),(25, .d TI64)],[(500000, .lis 3 TI64)])
abbrev st_ef1 (a b:Str) (n i:Int) (r:List (Int)):St:=⟨[(0, .d (ofD .str a)),(1, .d (ofD .str b)),(5, .d (.one (.own 500000))),(24, .d (ofD TI64 n)),(25, .d (ofD TI64 i))],[(500000,some (.lis 3 TI64 r))]⟩
def pre_ef1 (a b:Str) (n i:Int) (r:List (Int)):Bool:=decide (0≤i)&&(decide (i≤n)&&(decide (n=(List.length a:Int))&&(decide (List.length a≤1000)&&(decide (List.length b≤1000)&&(decide (List.length r=List.length b+1)&&bdR i r)))))
noncomputable def res_ef1 (a b:Str) (_n i:Int) (r:List (Int)) (K:Cont):Option Fin:=K (.exit 2) ⟨[(1,vS b),(5, .d (.one (.own 500000)))],[(500000,some (.lis 3 TI64 (outE a b (List.length a-i.toNat) i r)))]⟩
def mu_ef1 (a _b:Str) (_n i:Int) (_r:List (Int)):Nat:=List.length a-i.toNat
theorem r_ef1 (a b:Str) (n i:Int) (r:List (Int)) (K:Cont) (hI:pre_ef1 a b n i r=true):(∀R:St→Option Fin,evC cx0_ef1 (loopOf Tryz.f17 1) (st_ef1 a b n i r) (onward (headAt cx0_ef1 8) R K)=res_ef1 a b n i r K) ∨
  (∃(a' b':Str) (n' i':Int) (r':List (Int)),pre_ef1 a' b' n' i' r'=true∧mu_ef1 a' b' n' i' r'<mu_ef1 a b n i r∧res_ef1 a' b' n' i' r' K=res_ef1 a b n i r K∧∀R:St→Option Fin,evC cx0_ef1 (loopOf Tryz.f17 1) (st_ef1 a b n i r) (onward (headAt cx0_ef1 8) R K)=R (st_ef1 a' b' n' i' r')):=by
 have hx:=fun R=>x_impl_EditsFar_1 a b r n i R K
 simp only[pre_ef1,andd,dec_iff]at hI
 obtain⟨h0,h1,rfl,h5,h6,h7,h9⟩:=hI
 by_cases hi:i<(List.length a:Int)
 ·obtain ⟨q,hq⟩:∃q,List.length a-i.toNat=q+1:=⟨List.length a-i.toNat-1,by omega⟩
  have hq2:List.length a-(i+1).toNat=q:=by omega
  have w:W64 (i+1)=i+1:=wrap_small (by omega) (by omega)
  have hb:bdR (i+1) [i+1]=true:=decide_eq_true fun k hk=>by
   have hk:k<1:=hk
   obtain rfl:k=0:=by omega
   exact⟨by show 0≤i+1;omega,by show i+1≤i+1+0;omega⟩
  have hp:pre_ef2 a b i (List.length a:Int) i (List.length b:Int) 0 r [i+1]=true:=by
   simp only[pre_ef2,andd,dec_iff]
   exact⟨h0,hi,Int.le_refl 0,by omega,trivial,h5,h6,h7,rfl,h9,hb⟩
  obtain⟨q1,q2⟩:=inE_ok (a:=a) (b:=b) h0 h9 (n:=List.length b) (k:=0) (x:=[i+1]) (Int.le_refl 0) rfl (by omega) hb
  rw[decide_eq_true hi,w,hp]at hx
  right
  refine⟨a,b,(List.length a:Int),i+1,inE a b i r (List.length b) 0 [i+1], ?_, ?_, ?_,fun R=>hx R⟩
  ·simp only[pre_ef1,andd,dec_iff]
   exact⟨by omega,by omega,trivial,h5,h6,by omega,q1⟩
  ·simp only[mu_ef1];omega
  ·simp only[res_ef1,hq,hq2];rfl
 ·left
  intro R
  refine(hx R).trans ?_
  rw[decide_eq_false hi]
  have e:List.length a-i.toNat=0:=by omega
  simp only[res_ef1,e];rfl
noncomputable def g_ef1:St→Cont→Option Fin:=gP sh_ef1 (fun v=>match v with | ((a,b,n,i,()),(r,()))=>pre_ef1 a b n i r) (fun v K=>match v with | ((a,b,n,i,()),(r,()))=>res_ef1 a b n i r K)
noncomputable def L_ef1:List (Nat×(St→Cont→Option Fin)):=(8,g_ef1)::L_ef2
theorem l_ef1 {L:List (Nat×(St→Cont→Option Fin))} (n:Nat) (h1:L.drop n=L_ef2) (h2:idsFree (L.take n) (loopOf Tryz.f17 1)=true):∀st K r,g_ef1 st K=some r→∃N,iter (evC ((cb_ef).withLoops (look L)) (loopOf Tryz.f17 1)) (headAt ((cb_ef).withLoops (look L)) 8) N st K=some r :=
 with_drop h1 h2 (gP_ok (fun v=>match v with | ((a,b,n,i,()),(r,()))=>mu_ef1 a b n i r) fun v K hI=>by
  obtain⟨⟨(a:Str),(b:Str),(n:Int),(i:Int),⟨⟩⟩,⟨(r:List (Int)),⟨⟩⟩⟩:=v
  rcases r_ef1 a b n i r K hI with h1 | ⟨a',b',n',i',r',h1,h2,h3,h4⟩
  ·exact .inl h1
  ·exact .inr ⟨((a',b',n',i',()),(r',())),h1,h2,h3,h4⟩)
def rangeI:Nat→Int→List Int→List Int
 |0,_,r=>r
 |m+1,k,r=>rangeI m (k+1) (r++[k])
theorem rangeI_at:∀ {m:Nat} {k:Int} {r:List Int},k=r.length→(∀q,q<r.length→r.getD q 0=q)→(rangeI m k r).length=r.length+m∧∀q,q<r.length+m→(rangeI m k r).getD q 0=q
 |0,_,_,_,h=>⟨rfl,h⟩
 |m+1,k,r,hk,h=>by
  have hl:(r++[k]).length=r.length+1:=by rw[List.length_append,List.length_singleton]
  obtain⟨h1,h2⟩:=rangeI_at (m:=m) (k:=k+1) (r:=r++[k]) (by rw[hl];omega) (fun q hq=>by
   rw[hl]at hq
   by_cases hq2:q<r.length
   ·rw[List.getD_eq_getElem?_getD,List.getElem?_append_left hq2,← List.getD_eq_getElem?_getD]
    exact h q hq2
   ·obtain rfl:q=r.length:=by omega
    rw[List.getD_eq_getElem?_getD,List.getElem?_append_right (Nat.le_refl _),Nat.sub_self]
    exact hk)
  rw[hl]at h1 h2
  exact⟨by show(rangeI m (k+1) (r++[k])).length=_;omega,fun q hq=>h2 q (by omega)⟩
theorem x_impl_EditsFar (a b:Str) (r:List Int) (n k:Int) (R:St→Option Fin) (K:Cont):evC (cb_ef.withLoops (look L_ef1)) (loopOf Tryz.f17 0) ⟨[(0,vS a),(1,vS b),(5, .d (.one (.own 500000))),(14,vI n),(15,vI k)],[(500000,some (.lis 3 TI64 r))]⟩ (onward (headAt (cb_ef.withLoops (look L_ef1)) 3) R K)=(
branch (decide (k<n)) (
 need (fits (r.length+[k].length) Tryz.t3.bytes) <| R (.mk [(0,(vS a)),(1,(vS b)),(5,(.d (.one (.own 500000)))),(14,(vI n)),(15,(vI (W64 (k+1))))] [(500000,(.some (.lis 3 ty3 (r.append [k]))))])) ( K (.exit 0) (.mk [(0,(vS a)),(1,(vS b)),(5,(.d (.one (.own 500000))))] [(500000,(.some (.lis 3 TI64 r)))]))):=by kernel_rfl
noncomputable def cx0_ef0:Cx:=(cb_ef).withLoops (look L_ef1)
def sh_ef0:Sh:=([(0, .d .str),(1, .d .str),(5, .own 500000),(14, .d TI64),(15, .d TI64)],[(500000, .lis 3 TI64)])
abbrev st_ef0 (a b:Str) (n k:Int) (r:List (Int)):St:=⟨[(0, .d (ofD .str a)),(1, .d (ofD .str b)),(5, .d (.one (.own 500000))),(14, .d (ofD TI64 n)),(15, .d (ofD TI64 k))],[(500000,some (.lis 3 TI64 r))]⟩
def pre_ef0 (_a _b:Str) (n k:Int) (r:List (Int)):Bool:=decide (0≤k)&&(decide (n≤1001)&&decide ((List.length r:Int)=k))
noncomputable def res_ef0 (a b:Str) (n k:Int) (r:List (Int)) (K:Cont):Option Fin:=K (.exit 0) ⟨[(0,vS a),(1,vS b),(5, .d (.one (.own 500000)))],[(500000,some (.lis 3 TI64 (rangeI (n-k).toNat k r)))]⟩
def mu_ef0 (_a _b:Str) (n k:Int) (_r:List (Int)):Nat:=(n-k).toNat
theorem r_ef0 (a b:Str) (n k:Int) (r:List (Int)) (K:Cont) (hI:pre_ef0 a b n k r=true):(∀R:St→Option Fin,evC cx0_ef0 (loopOf Tryz.f17 0) (st_ef0 a b n k r) (onward (headAt cx0_ef0 3) R K)=res_ef0 a b n k r K) ∨
  (∃(a' b':Str) (n' k':Int) (r':List (Int)),pre_ef0 a' b' n' k' r'=true∧mu_ef0 a' b' n' k' r'<mu_ef0 a b n k r∧res_ef0 a' b' n' k' r' K=res_ef0 a b n k r K∧∀R:St→Option Fin,evC cx0_ef0 (loopOf Tryz.f17 0) (st_ef0 a b n k r) (onward (headAt cx0_ef0 3) R K)=R (st_ef0 a' b' n' k' r')):=by
 have hx:=fun R=>x_impl_EditsFar a b r n k R K
 simp only[pre_ef0,andd,dec_iff]at hI
 obtain⟨h0,h1,h2⟩:=hI
 by_cases hk:k<n
 ·obtain ⟨q,hq⟩:∃q,(n-k).toNat=q+1:=⟨(n-k).toNat-1,by omega⟩
  have hq2:(n-(k+1)).toNat=q:=by omega
  have w:W64 (k+1)=k+1:=wrap_small (by omega) (by omega)
  rw[decide_eq_true hk,w,intFits (by rw[List.length_singleton];omega)]at hx
  right
  refine⟨a,b,n,k+1,r++[k], ?_, ?_, ?_,fun R=>hx R⟩
  ·simp only[pre_ef0,andd,dec_iff]
   rw[List.length_append,List.length_singleton]
   exact⟨by omega,h1,by omega⟩
  ·simp only[mu_ef0];omega
  ·simp only[res_ef0,hq,hq2];rfl
 ·left
  intro R
  refine(hx R).trans ?_
  rw[decide_eq_false hk]
  have e:(n-k).toNat=0:=by omega
  simp only[res_ef0,e];rfl
noncomputable def g_ef0:St→Cont→Option Fin:=gP sh_ef0 (fun v=>match v with | ((a,b,n,k,()),(r,()))=>pre_ef0 a b n k r) (fun v K=>match v with | ((a,b,n,k,()),(r,()))=>res_ef0 a b n k r K)
noncomputable def L_ef0:List (Nat×(St→Cont→Option Fin)):=(3,g_ef0)::L_ef1
noncomputable def cx_ef0:Cx:=(cb_ef).withLoops (look L_ef0)
theorem l_ef0 {L:List (Nat×(St→Cont→Option Fin))} (n:Nat) (h1:L.drop n=L_ef1) (h2:idsFree (L.take n) (loopOf Tryz.f17 0)=true):∀st K r,g_ef0 st K=some r→∃N,iter (evC ((cb_ef).withLoops (look L)) (loopOf Tryz.f17 0)) (headAt ((cb_ef).withLoops (look L)) 3) N st K=some r :=
 with_drop h1 h2 (gP_ok (fun v=>match v with | ((a,b,n,k,()),(r,()))=>mu_ef0 a b n k r) fun v K hI=>by
  obtain⟨⟨(a:Str),(b:Str),(n:Int),(k:Int),⟨⟩⟩,⟨(r:List (Int)),⟨⟩⟩⟩:=v
  rcases r_ef0 a b n k r K hI with h1 | ⟨a',b',n',k',r',h1,h2,h3,h4⟩
  ·exact .inl h1
  ·exact .inr ⟨((a',b',n',k',()),(r',())),h1,h2,h3,h4⟩)
def edF (a b:Str):Int:=(outE a b (List.length a) 0 (rangeI (List.length b+1) 0 [])).getD (List.length b) 0
theorem outE_len {a b:Str}:∀ {n:Nat} {i:Int} {r:List Int},0≤i→r.length=List.length b+1→bdR i r=true→(outE a b n i r).length=List.length b+1
 |0,_,_,_,h,_=>h
 |n+1,i,r,h0,h7,h9=>by
  have hb:bdR (i+1) [i+1]=true:=decide_eq_true fun k hk=>by
   have hk:k<1:=hk
   obtain rfl:k=0:=by omega
   exact⟨by show 0≤i+1;omega,by show i+1≤i+1+0;omega⟩
  obtain⟨q1,q2⟩:=inE_ok (a:=a) (b:=b) h0 h9 (n:=List.length b) (k:=0) (x:=[i+1]) (Int.le_refl 0) rfl (by omega) hb
  exact outE_len (n:=n) (by omega) (by omega) q1
theorem y_impl_EditsFar (a:Str) (b:Str):evFn cx_ef0 Tryz.f17 true [ofD .str a,ofD .str b] []=(
need (pre_ef0 a b (W64 ((b.length:Int)+1)) 0 []) <|
need (pre_ef1 a b ((a.length:Int)) 0 (rangeI (W64 ((b.length:Int)+1)-0).toNat 0 [])) <|
need (inb ((b.length:Int)) (outE a b (List.length a-(0:Int).toNat) 0 (rangeI (W64 ((b.length:Int)+1)-0).toNat 0 [])).length) <| some ((vI ((outE a b (List.length a-(0:Int).toNat) 0 (rangeI (W64 ((b.length:Int)+1)-0).toNat 0 [])).getD ((b.length:Int)).toNat 0)),[])):=by kernel_rfl
theorem s_impl_EditsFar (a:Str) (_ha:Fit .str a) (b:Str) (hb:Fit .str b) (hpre:(decide (List.length a≤1000)&&decide (List.length b≤1000))=true):Sat Tryz.prog 17 [ofD .str a,ofD .str b] [] (.d (ofD TI64 (edF a b))) [] :=
 fn_sound (cx:=cx_ef0) Tryz.func17 rfl ttOk Γ98ok mixed (fun c hc=>LoopsOk.all (l:=[(3,loopOf Tryz.f17 0),(8,loopOf Tryz.f17 1),(12,loopOf Tryz.f17 2)]) (by cases hc;kernel_rfl) ⟨atLoop rfl (l_ef0 1 rfl (by kernel_rfl)),atLoop rfl (l_ef1 2 rfl (by kernel_rfl)),atLoop rfl (l_ef2 3 rfl (by kernel_rfl)),trivial⟩) (ro:=true) (by
  rw[andd,dec_iff,dec_iff]at hpre
  obtain⟨h1,h2⟩:=hpre
  have w:W64 ((List.length b:Int)+1)=(List.length b:Int)+1:=wrap_small (by omega) (by omega)
  have e:((List.length b:Int)+1-0).toNat=List.length b+1:=by omega
  obtain⟨q1,q2⟩:=rangeI_at (m:=List.length b+1) (k:=0) (r:=[]) rfl (fun q hq=>absurd hq (Nat.not_lt_zero q))
  have q1:(rangeI (List.length b+1) 0 []).length=List.length b+1:=by rw[q1];exact Nat.zero_add _
  have hb:bdR 0 (rangeI (List.length b+1) 0 [])=true:=decide_eq_true fun k hk=>by
   rw[q2 k (by show k<0+_;omega)];omega
  have p0:pre_ef0 a b ((List.length b:Int)+1) 0 []=true:=by
   simp only[pre_ef0,andd,dec_iff]
   exact⟨Int.le_refl 0,by omega,rfl⟩
  have p1:pre_ef1 a b (List.length a:Int) 0 (rangeI (List.length b+1) 0 [])=true:=by
   simp only[pre_ef1,andd,dec_iff]
   exact⟨Int.le_refl 0,by omega,trivial,h1,h2,q1,hb⟩
  have hl:=outE_len (a:=a) (b:=b) (n:=List.length a-(0:Int).toNat) (Int.le_refl 0) q1 hb
  rw[y_impl_EditsFar,w,p0,e,p1,inb_ok (by omega:0≤(List.length b:Int)) (by omega:(List.length b:Int)<_)];rfl)
noncomputable def c_impl_EditsFar:Con:=conT [.str, .str] fun(a:Str) (b:Str)=>(some (decide (List.length a≤1000)&&decide (List.length b≤1000)), .d (ofD TI64 (edF a b)))
theorem k_impl_EditsFar:ConOk Tryz.prog 17 c_impl_EditsFar:=conT_ok Tryz.call17 fun a ha b hb hqq=>s_impl_EditsFar a ha b hb (pre_of hqq)
noncomputable def Γ99:List (Nat×Con):=(17,c_impl_EditsFar)::Γ98
theorem Γ99ok:EnvOk Tryz.prog (look Γ99) := .cons k_impl_EditsFar Γ98ok
def LevIs (u w:Str) (n:Int):Prop:=0≤n∧Ed u w n.toNat∧∀m,Ed u w m→n≤(m:Int)
theorem lev_ins {w:Str}:LevIs [] w w.length:=⟨by omega,by rw[Int.toNat_natCast];exact Ed.inss,fun m h=>by have:=h.len.1;rw[List.length_nil]at this;omega⟩
theorem lev_out {u:Str}:LevIs u [] u.length:=⟨by omega,by rw[Int.toNat_natCast];exact Ed.outs,fun m h=>by have:=h.len.2;rw[List.length_nil]at this;omega⟩
theorem Ed.last {u w:Str} {c d:UInt8} {m:Nat} (h:Ed (u++[c]) (w++[d]) m):(∃k,Ed u w k∧k+(if c=d then 0 else 1)≤m)∨(∃k,Ed u (w++[d]) k∧k+1≤m)∨(∃k,Ed (u++[c]) w k∧k+1≤m):=by
 obtain⟨u1,u2,n1,n2,e1,rfl,h1,h2⟩:=h.split rfl
 rcases List.eq_nil_or_concat u2 with rfl | ⟨v,e,he⟩
 ·have:=h2.len.1
  rw[List.length_singleton,List.length_nil]at this
  rw[List.append_nil]at e1
  exact .inr (.inr ⟨n1,by rw[e1];exact h1,by omega⟩)
 ·rw[List.concat_eq_append]at he
  subst he
  rw[← List.append_assoc]at e1
  obtain⟨rfl,e2⟩:=List.append_inj' e1 rfl
  cases e2
  have hc:=costN_le h2 rfl
  unfold costN at hc
  rw[if_neg (by simp)]at hc
  have ho:Ed (u1++v) w (n1+v.length):=by
   have:=h1.app (Ed.outs (u:=v))
   rw[List.append_nil]at this
   exact this
  by_cases hcd:c=d
  ·subst hcd
   rw[if_pos (List.mem_append_right _ (List.mem_singleton.2 rfl)),List.length_append,List.length_singleton]at hc
   exact .inl ⟨_,ho,by rw[if_pos rfl];omega⟩
  ·by_cases hd:d∈v
   ·rw[if_pos (List.mem_append_left _ hd),List.length_append,List.length_singleton]at hc
    have hv:=List.length_pos_of_mem hd
    have he:=costN_ed (u:=v) (c:=d)
    unfold costN at he
    rw[if_neg (List.length_pos_iff.1 hv),if_pos hd]at he
    exact .inr (.inl ⟨_,h1.app he,by omega⟩)
   ·rw[if_neg (fun hm=>by
     rcases List.mem_append.1 hm with hm | hm
     ·exact hd hm
     ·exact hcd (List.mem_singleton.1 hm).symm),List.length_append,List.length_singleton]at hc
    exact .inl ⟨_,ho,by rw[if_neg hcd];omega⟩
theorem lev_step {u w:Str} {c d:UInt8} {x y z:Int} (h1:LevIs u w x) (h2:LevIs u (w++[d]) y) (h3:LevIs (u++[c]) w z):LevIs (u++[c]) (w++[d]) (minE (!decide (c=d)) x y z):=by
 obtain⟨x0,x1,x2⟩:=h1
 obtain⟨y0,y1,y2⟩:=h2
 obtain⟨z0,z1,z2⟩:=h3
 have e1:Ed (u++[c]) (w++[d]) ((bif !decide (c=d)then x+1 else x):Int).toNat∧0≤((bif !decide (c=d)then x+1 else x):Int)∧(bif !decide (c=d)then x+1 else x)=x+(if c=d then 0 else 1):=by
  by_cases hcd:c=d
  ·subst hcd
   rw[decide_eq_true rfl,if_pos rfl]
   exact⟨x1.app (.keep .nil),x0,(Int.add_zero x).symm⟩
  ·rw[decide_eq_false hcd,if_neg hcd]
   refine⟨?_,by show 0≤x+1;omega,rfl⟩
   show Ed _ _ (x+1).toNat
   rw[show (x+1).toNat=x.toNat+1 by omega]
   exact x1.app (.turn hcd .nil)
 have e2:Ed (u++[c]) (w++[d]) (y+1).toNat:=by
  have:=y1.app (.out (c:=c) .nil)
  rw[List.append_nil]at this
  rw[show (y+1).toNat=y.toNat+(0+1)by omega]
  exact this
 have e3:Ed (u++[c]) (w++[d]) (z+1).toNat:=by
  have:=z1.app (.ins (c:=d) .nil)
  rw[List.append_nil]at this
  rw[show (z+1).toNat=z.toNat+(0+1)by omega]
  exact this
 obtain⟨e4,e5,e6⟩:=e1
 have hm:∀m,Ed (u++[c]) (w++[d]) m→(bif !decide (c=d)then x+1 else x)≤(m:Int)∨y+1≤m∨z+1≤m:=fun m h=>by
  rcases h.last with⟨k,k1,k2⟩ | ⟨k,k1,k2⟩ | ⟨k,k1,k2⟩
  ·have:=x2 k k1
   rw[e6]
   left
   by_cases hcd:c=d
   ·rw[if_pos hcd]at k2 ⊢;omega
   ·rw[if_neg hcd]at k2 ⊢;omega
  ·have:=y2 k k1;omega
  ·have:=z2 k k1;omega
 unfold minE
 generalize (bif !decide (c=d)then x+1 else x)=t at *
 by_cases g1:y+1<t
 ·rw[if_pos g1]
  by_cases g2:z+1<y+1
  ·rw[if_pos g2];exact ⟨by omega,e3,fun m h=>by have:=hm m h;omega⟩
  ·rw[if_neg g2];exact ⟨by omega,e2,fun m h=>by have:=hm m h;omega⟩
 ·rw[if_neg g1]
  by_cases g2:z+1<t
  ·rw[if_pos g2];exact ⟨by omega,e3,fun m h=>by have:=hm m h;omega⟩
  ·rw[if_neg g2];exact ⟨e5,e4,fun m h=>by have:=hm m h;omega⟩
def rowIs (a b:Str) (i:Nat) (r:List Int):Prop:=r.length=b.length+1∧∀k,k≤b.length→LevIs (a.take i) (b.take k) (r.getD k 0)
theorem byteAt_nat {s:Str} {i:Nat} (h:i<s.length):byteAt s (i:Int)=((s[i]).toNat:Int):=by
 unfold byteAt
 rw[Int.toNat_natCast,List.getD_eq_getElem?_getD,List.getElem?_eq_getElem h];rfl
theorem inE_is {a b:Str} {i:Nat} {r:List Int} (hi:i<a.length) (hr:rowIs a b i r):∀ {n k:Nat} {x:List Int},k+n=b.length→x.length=k+1→(∀q,q≤k→LevIs (a.take (i+1)) (b.take q) (x.getD q 0))→rowIs a b (i+1) (inE a b i r n k x)
 |0,k,x,e,hx,h=>⟨by rw[← e];exact hx,fun q hq=>h q (by omega)⟩
 |n+1,k,x,e,hx,h=>by
  have hk:k<b.length:=by omega
  have hs:LevIs (a.take (i+1)) (b.take (k+1)) (wayE a b i r x k):=by
   unfold wayE
   rw[byteAt_nat hi,byteAt_nat hk,Int.toNat_natCast,show ((k:Int)+1).toNat=k+1 by omega]
   have hd:decide (((a[i]).toNat:Int)=((b[k]).toNat:Int))=decide (a[i]=b[k]):=by
    by_cases he:a[i]=b[k]
    ·rw[he,decide_eq_true rfl,decide_eq_true rfl]
    ·rw[decide_eq_false he,decide_eq_false fun h=>he (UInt8.toNat_inj.1 (by omega))]
   rw[hd,List.take_succ_eq_append_getElem hi,List.take_succ_eq_append_getElem hk]
   refine lev_step (hr.2 k (by omega)) ?_ ?_
   ·rw[← List.take_succ_eq_append_getElem hk];exact hr.2 (k+1) (by omega)
   ·rw[← List.take_succ_eq_append_getElem hi];exact h k (Nat.le_refl k)
  refine inE_is hi hr (n:=n) (k:=k+1) (x:=x++[wayE a b i r x k]) (by omega) (by rw[List.length_append,List.length_singleton,hx]) fun q hq => ?_
  by_cases hq2:q≤k
  ·rw[List.getD_eq_getElem?_getD,List.getElem?_append_left (by omega),← List.getD_eq_getElem?_getD]
   exact h q hq2
  ·obtain rfl:q=k+1:=by omega
   rw[List.getD_eq_getElem?_getD,List.getElem?_append_right (by omega),hx,Nat.sub_self]
   exact hs
theorem outE_is {a b:Str}:∀ {n i:Nat} {r:List Int},i+n=a.length→rowIs a b i r→rowIs a b a.length (outE a b n i r)
 |0,i,r,e,h=>by rw[← e];exact h
 |n+1,i,r,e,h=>by
  have hi:i<a.length:=by omega
  refine outE_is (n:=n) (i:=i+1) (by omega) (inE_is hi h (n:=b.length) (k:=0) (by omega) rfl fun q hq => ?_)
  obtain rfl:q=0:=by omega
  have:=lev_out (u:=a.take (i+1))
  rw[List.length_take,Nat.min_eq_left (by omega)]at this
  exact this
theorem edF_is {a b:Str}:LevIs a b (edF a b):=by
 obtain⟨q1,q2⟩:=rangeI_at (m:=b.length+1) (k:=0) (r:=[]) rfl (fun q hq=>absurd hq (Nat.not_lt_zero q))
 have q1:(rangeI (b.length+1) 0 []).length=b.length+1:=by rw[q1];exact Nat.zero_add _
 have h:=outE_is (a:=a) (b:=b) (n:=a.length) (i:=0) (r:=rangeI (b.length+1) 0 []) (by omega) ⟨q1,fun k hk=>by
  rw[q2 k (by show k<0+_;omega)]
  have:=lev_ins (w:=b.take k)
  rw[List.length_take,Nat.min_eq_left hk]at this
  exact this⟩
 have:=h.2 b.length (Nat.le_refl _)
 rw[List.take_length,List.take_length]at this
 exact this
end Go.Proofs.YtmeiebnfmhddnaaGreatDoor.Ev
