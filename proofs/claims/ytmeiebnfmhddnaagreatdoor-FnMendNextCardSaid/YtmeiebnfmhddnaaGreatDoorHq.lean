/-
  Signs that come to words; whether a text can be mended.
-/
import Derived.Test.YtmeiebnfmhddnaaGreatDoorHo
namespace Go.Proofs.YtmeiebnfmhddnaaGreatDoor.Ev
open Go
noncomputable section
def cb_l2a:Cx:=cxOf Γ80 Tryz.f113.ntmps [(2,[0,1,2,7])] [(0,[]),(1,[0,1,2,7]),(1000000,[6])] [] []
theorem x_spec_l2All (s t:Str) (b:Bool) (i:Int) (R:St→Option Fin) (K:Cont):evC (cb_l2a.withLoops (look [])) (loopOf Tryz.f113 0) ⟨[(0,vS s),(1,vS t),(2,vB b),(7,vI i)],[]⟩ (onward (headAt (cb_l2a.withLoops (look [])) 2) R K)=(
branch (decide (i<(s.length:Int))) (
 need (inb i s.length) <|
 need (bif decide ((!inS t (byteAt s i))=true)&&decide (b=true)then inb i s.length else true) <|
 branch (bif !inS t (byteAt s i)then !bif b then smallI (byteAt s i)else false else false) ( K (.ret) (.mk [(6,vB false)] [])) ( R (.mk [(0,vS s),(1,vS t),(2,vB b),(7,vI (W64 (i+1)))] []))) ( K (.exit 0) (.mk [] []))):=by kernel_rfl
def okIn (t:Str) (b:Bool) (c:UInt8):Bool:=inS t (c.toNat:Int)||(b&&small c)
def allOf (t:Str) (b:Bool) (s:Str):Bool:=s.all (okIn t b)
theorem allOf_at {t s:Str} {b:Bool} {i:Int} (h0:0≤i) (h1:i<(s.length:Int)):allOf t b (s.drop i.toNat)=((inS t (byteAt s i)||(b&&smallI (byteAt s i)))&&allOf t b (s.drop (i+1).toNat)):=by
 have hn:i.toNat<s.length:=by omega
 have hb:byteAt s i=((s[i.toNat]).toNat:Int):=by
  unfold byteAt
  rw[List.getD_eq_getElem?_getD,List.getElem?_eq_getElem hn];rfl
 unfold allOf
 rw[List.drop_eq_getElem_cons hn,List.all_cons,show (i+1).toNat=i.toNat+1 by omega,hb,smallI_nat];rfl
def cx0_l2a:Cx:=(cb_l2a).withLoops (look [])
def sh_l2a:Sh:=([(0, .d .str),(1, .d .str),(2, .d .bool),(7, .d TI64)],[])
abbrev st_l2a (s t:Str) (b:Bool) (i:Int):St:=⟨[(0,vS s),(1,vS t),(2,vB b),(7,vI i)],[]⟩
def pre_l2a (s _t:Str) (_b:Bool) (i:Int):Bool:=decide (0≤i)&&Nat.ble s.length big
def res_l2a (s t:Str) (b:Bool) (i:Int) (K:Cont):Option Fin:=branch (allOf t b (s.drop i.toNat)) (K (.exit 0) ⟨[],[]⟩) (K .ret ⟨[(6,vB false)],[]⟩)
def mu_l2a (s _t:Str) (_b:Bool) (i:Int):Nat:=s.length-i.toNat
theorem r_l2a (s t:Str) (b:Bool) (i:Int) (K:Cont) (hI:pre_l2a s t b i=true):(∀R:St→Option Fin,evC cx0_l2a (loopOf Tryz.f113 0) (st_l2a s t b i) (onward (headAt cx0_l2a 2) R K)=res_l2a s t b i K) ∨
  (∃(s' t':Str) (b':Bool) (i':Int),pre_l2a s' t' b' i'=true∧mu_l2a s' t' b' i'<mu_l2a s t b i∧res_l2a s' t' b' i' K=res_l2a s t b i K∧∀R:St→Option Fin,evC cx0_l2a (loopOf Tryz.f113 0) (st_l2a s t b i) (onward (headAt cx0_l2a 2) R K)=R (st_l2a s' t' b' i')):=by
 have hx:=fun R=>x_spec_l2All s t b i R K
 simp only[pre_l2a,andd,dec_iff,ble_iff]at hI
 obtain⟨h0,h1⟩:=hI
 by_cases hi:i<(s.length:Int)
 ·have hg:=allOf_at (t:=t) (b:=b) h0 hi
  rw[decide_eq_true hi,inb_ok h0 hi,W1 h0 hi h1,Bool.cond_self]at hx
  have hh:(bif !inS t (byteAt s i)then !bif b then smallI (byteAt s i)else false else false) = !(inS t (byteAt s i)||(b&&smallI (byteAt s i))):=by
   cases inS t (byteAt s i)<;>cases b<;>cases smallI (byteAt s i)<;>rfl
  rw[hh]at hx
  cases hc:(inS t (byteAt s i)||(b&&smallI (byteAt s i)))
  ·left
   intro R
   rw[hc]at hg
   refine(hx R).trans ?_
   rw[hc]
   simp only[res_l2a,hg];rfl
  ·right
   rw[hc]at hg
   refine⟨s,t,b,i+1, ?_, ?_, ?_,fun R=>(hx R).trans ?_⟩
   ·exact andd.2 ⟨dec_iff.2 (by omega),ble_iff.2 h1⟩
   ·simp only[mu_l2a];omega
   ·simp only[res_l2a,hg];rfl
   ·rw[hc];rfl
 ·left
  intro R
  refine(hx R).trans ?_
  rw[decide_eq_false hi]
  simp only[res_l2a]
  rw[List.drop_eq_nil_of_le (by omega)];rfl
def g_l2a:St→Cont→Option Fin:=gP sh_l2a (fun v=>match v with | ((s,t,b,i,()),())=>pre_l2a s t b i) (fun v K=>match v with | ((s,t,b,i,()),())=>res_l2a s t b i K)
def L_l2a:LpL:=(2,g_l2a)::[]
def cx_l2a:Cx:=(cb_l2a).withLoops (look L_l2a)
theorem l_l2a {L:LpL} (n:Nat) (h1:L.drop n=[]) (h2:idsFree (L.take n) (loopOf Tryz.f113 0)=true):LoopsTo g_l2a (cb_l2a) (loopOf Tryz.f113 0) 2 L :=
 with_drop h1 h2 (gP_ok (fun v=>match v with | ((s,t,b,i,()),())=>mu_l2a s t b i) fun v K hI=>by
  obtain⟨⟨s,t,b,i,⟨⟩⟩,⟨⟩⟩:=v
  exact(r_l2a s t b i K hI).imp id fun⟨s',t',b',i',h⟩=>⟨((s',t',b',i',()),()),h⟩)
theorem y_spec_l2All (s:Str) (t:Str) (b:Bool):evFn cx_l2a Tryz.f113 true [ofD .str s,ofD .str t,ofD .bool b] []=(
need (pre_l2a s t b 0) <|
branch (allOf t b s) ( some ((vB true),[])) ( some ((vB false),[]))):=by kernel_rfl
theorem s_spec_l2All (s:Str) (hs:Fit .str s) (t:Str) (_ht:Fit .str t) (b:Bool) (_hb:Fit .bool b):Sat Tryz.prog 113 [ofD .str s,ofD .str t,ofD .bool b] [] (.d (ofD .bool (allOf t b s))) [] :=
 fn_sound (cx:=cx_l2a) Tryz.func113 rfl ttOk Γ80ok mixed (fun c hc=>LoopsOk.all (l:=[(2,loopOf Tryz.f113 0)]) (by cases hc;kernel_rfl) ⟨atLoop rfl (l_l2a 1 rfl (by kernel_rfl)),trivial⟩) (ro:=true) (by
  have h:pre_l2a s t b 0=true:=andd.2 ⟨rfl,ble_iff.2 hs⟩
  rw[y_spec_l2All,h]
  show branch (allOf t b s) _ _=_
  cases allOf t b s<;>rfl)
def c_spec_l2All:Con:=conT [.str, .str, .bool] fun(s:Str) (t:Str) (b:Bool)=>(none, .d (ofD .bool (allOf t b s)))
theorem k_spec_l2All:ConOk Tryz.prog 113 c_spec_l2All:=conT_ok Tryz.call113 fun s hs t ht b hb _=>s_spec_l2All s hs t ht b hb
def Γ81:GL:=(113,c_spec_l2All)::Γ80
theorem Γ81ok:GO Γ81 := .cons k_spec_l2All Γ80ok
def cb_l2g:Cx:=cxOf Γ81 Tryz.f98.ntmps [(3,[1,2,5,6])] [(0,[5]),(1,[1,2,5,6]),(1000000,[4])] [] []
theorem x_spec_l2Grow (g:Gram) (o:Str) (b:Bool) (i:Int) (R:St→Option Fin) (K:Cont):evC (cb_l2g.withLoops (look [])) (loopOf Tryz.f98 0) ⟨[(1,vB b),(2, pA),(5,vS o),(6,vI i)],[(500000,some (boxD 25 TG g))]⟩ (onward (headAt (cb_l2g.withLoops (look [])) 3) R K)=(
branch (decide (i<(List.length g.snd:Int))) (
 need (inb i (List.length g.snd)) <|
 need (inb 0 (List.length (List.getD g.snd i.toNat d0).fst)) <|
 branch (bif !inS o (byteAt (List.getD g.snd i.toNat d0).fst 0)then allOf o b (List.getD g.snd i.toNat d0).snd else false) (
 need (inb 0 (List.length (List.getD g.snd i.toNat d0).fst)) <|
 need (o.length.ble 1000000) <| R (.mk [(1,vB b),(2,pA),(5,(vS (addS (UInt8.ofNat (byteAt (List.getD g.snd i.toNat d0).fst 0).toNat) o))),(6,vI (W64 (Int.neg 1+1)))] [(500000,some (boxD 25 TG g))])) ( R (.mk [(1,vB b),(2,pA),(5,vS o),(6,vI (W64 (i+1)))] [(500000,some (boxD 25 TG g))]))) ( K (.exit 0) (.mk [(5,vS o)] []))):=by kernel_rfl
theorem cnt_lenB {α:Type} {f:α→Bool}:∀ {l:List α},cntB f l≤l.length
 | []=>Nat.le_refl _
 |a::l=>by
  have:=cnt_lenB (f:=f) (l:=l)
  unfold cntB
  rw[List.length_cons]
  cases f a
  ·rw[cond_false];omega
  ·rw[cond_true];omega
def newR (o:Str) (b:Bool) (r:Rule):Bool := !inS o (byteAt r.1 0)&&allOf o b r.2
def signR (r:Rule):UInt8:=UInt8.ofNat (byteAt r.1 0).toNat
def growN (l:List Rule) (b:Bool):Nat→Int→Str→Str
 |0,_,o=>o
 |n+1,i,o=>bif decide (i<(l.length:Int))then(bif newR o b (l.getD i.toNat d0)then growN l b n 0 (addS (signR (l.getD i.toNat d0)) o)else growN l b n (i+1) o)else o
def missL (l:List Rule) (o:Str):Nat:=cntB (fun r => !inS o (byteAt r.1 0)) l
def muG (l:List Rule) (i:Int) (o:Str):Nat:=missL l o*(l.length+1)+(l.length-i.toNat)
theorem inS_any {s:Str} {c:Int}:inS s c=true↔∃x∈s,(x.toNat:Int)=c:=by
 unfold inS
 rw[List.any_eq_true]
 constructor
 ·rintro ⟨x,hx,h⟩;exact ⟨x,hx,dec_iff.1 h⟩
 ·rintro ⟨x,hx,h⟩;exact ⟨x,hx,decide_eq_true h⟩
theorem signR_nat {r:Rule}:((signR r).toNat:Int)=byteAt r.1 0:=by
 have:signR r=r.1.getD 0 0:=by
  unfold signR byteAt
  show UInt8.ofNat (((r.1.getD 0 0).toNat:Int)).toNat=_
  rw[Int.toNat_natCast,UInt8.ofNat_toNat]
 rw[this];rfl
theorem miss_add {l:List Rule} {o:Str} {r:Rule} {b:Bool} (hr:r∈l) (h:newR o b r=true):missL l (addS (signR r) o)<missL l o:=by
 obtain⟨h1,_⟩:=andd.1 h
 refine cnt_lt (fun q _ hq => ?_) ⟨r,hr, ?_,h1⟩
 ·cases hc:inS o (byteAt q.1 0)
  ·rfl
  ·obtain ⟨x,hx,e⟩:=inS_any.1 hc
   rw[inS_any.2 ⟨x,addS_mem.2 (.inr hx),e⟩]at hq
   cases hq
 ·rw[inS_any.2 ⟨signR r,addS_mem.2 (.inl rfl),signR_nat⟩];rfl
theorem mu_add {l:List Rule} {o:Str} {b:Bool} {i:Int} (h0:0≤i) (h1:i<(l.length:Int)) (h:newR o b (l.getD i.toNat d0)=true):muG l 0 (addS (signR (l.getD i.toNat d0)) o)<muG l i o:=by
 have:=miss_add (getD_mem (d:=d0) (by omega:i.toNat<l.length)) h
 unfold muG
 have h2:(missL l (addS (signR (l.getD i.toNat d0)) o)+1)*(l.length+1)≤missL l o*(l.length+1):=Nat.mul_le_mul_right _ this
 rw[Nat.succ_mul]at h2
 have:(0:Int).toNat=0:=rfl
 omega
theorem mu_next {l:List Rule} {o:Str} {i:Int} (h0:0≤i) (h1:i<(l.length:Int)):muG l (i+1) o<muG l i o:=by
 unfold muG;omega
theorem grow_fuel {l:List Rule} {b:Bool}:∀ {n n':Nat} {i:Int} {o:Str},0≤i→muG l i o<n→muG l i o<n'→growN l b n i o=growN l b n' i o
 |0,_,_,_,_,h,_=>absurd h (Nat.not_lt_zero _)
 |_+1,0,_,_,_,_,h=>absurd h (Nat.not_lt_zero _)
 |n+1,n'+1,i,o,h0,h1,h2=>by
  unfold growN
  by_cases hi:i<(l.length:Int)
  ·rw[decide_eq_true hi,cond_true,cond_true]
   cases hc:newR o b (l.getD i.toNat d0)
   ·have:=mu_next (o:=o) h0 hi
    exact grow_fuel (by omega) (by omega) (by omega)
   ·have:=mu_add h0 hi hc
    exact grow_fuel (Int.le_refl 0) (by omega) (by omega)
  ·rw[decide_eq_false hi];rfl
def growV (l:List Rule) (b:Bool) (i:Int) (o:Str):Str:=growN l b (muG l i o+1) i o
theorem growV_at {l:List Rule} {b:Bool} {i:Int} {o:Str} (h0:0≤i):growV l b i o=bif decide (i<(l.length:Int))then(bif newR o b (l.getD i.toNat d0)then growV l b 0 (addS (signR (l.getD i.toNat d0)) o)else growV l b (i+1) o)else o:=by
 unfold growV
 conv=>lhs;unfold growN
 by_cases hi:i<(l.length:Int)
 ·rw[decide_eq_true hi,cond_true,cond_true]
  cases hc:newR o b (l.getD i.toNat d0)
  ·have:=mu_next (o:=o) h0 hi
   exact grow_fuel (by omega) (by omega) (by omega)
  ·have:=mu_add h0 hi hc
   exact grow_fuel (Int.le_refl 0) (by omega) (by omega)
 ·rw[decide_eq_false hi];rfl
def okLf (l:List Rule):Bool:=decide (List.length l≤1000)&&List.all l fun r=>bigS r.1
def cx0_l2g:Cx:=(cb_l2g).withLoops (look [])
def sh_l2g:Sh:=([(1, .d .bool),(2, .ptr 500000 0),(5, .d .str),(6, .d TI64)],[(500000, .box 25 TG)])
abbrev st_l2g (b:Bool) (o:Str) (i:Int) (g:Gram):St:=⟨[(1,vB b),(2, .d (.one (.ptr 500000 0))),(5,vS o),(6,vI i)],[(500000,some (boxD 25 TG g))]⟩
def pre_l2g (_b:Bool) (o:Str) (i:Int) (g:Gram):Bool:=decide (0≤i)&&(okLf g.2&&decide (missL g.2 o+List.length o≤1000))
def res_l2g (b:Bool) (o:Str) (i:Int) (g:Gram) (K:Cont):Option Fin:=K (.exit 0) ⟨[(5,vS (growV g.2 b i o))],[]⟩
def mu_l2g (_b:Bool) (o:Str) (i:Int) (g:Gram):Nat:=muG g.2 i o
theorem r_l2g (b:Bool) (o:Str) (i:Int) (g:Gram) (K:Cont) (hI:pre_l2g b o i g=true):(∀R:St→Option Fin,evC cx0_l2g (loopOf Tryz.f98 0) (st_l2g b o i g) (onward (headAt cx0_l2g 3) R K)=res_l2g b o i g K) ∨
  (∃(b':Bool) (o':Str) (i':Int) (g':Gram),pre_l2g b' o' i' g'=true∧mu_l2g b' o' i' g'<mu_l2g b o i g∧res_l2g b' o' i' g' K=res_l2g b o i g K∧∀R:St→Option Fin,evC cx0_l2g (loopOf Tryz.f98 0) (st_l2g b o i g) (onward (headAt cx0_l2g 3) R K)=R (st_l2g b' o' i' g')):=by
 have hx:=fun R=>x_spec_l2Grow g o b i R K
 simp only[pre_l2g,andd,dec_iff]at hI
 obtain⟨h0,h1,h2⟩:=hI
 obtain⟨l1,l2⟩:=andd.1 h1
 have l1:=dec_iff.1 l1
 have hg:=growV_at (l:=g.2) (b:=b) (o:=o) h0
 by_cases hi:i<(List.length g.2:Int)
 ·have w:W64 (i+1)=i+1:=wrap_small (by omega) (by omega)
  have w2:W64 (Int.neg 1+1)=0:=by decide
  have hmem:=getD_mem (d:=d0) (by omega:i.toNat<List.length g.2)
  have hl:inb 0 (List.length (List.getD g.2 i.toNat d0).1)=true:=by
   obtain⟨c,e,_⟩:=bigS_one (List.all_eq_true.1 l2 _ hmem)
   rw[e];rfl
  have hh:(bif !inS o (byteAt (List.getD g.2 i.toNat d0).1 0)then allOf o b (List.getD g.2 i.toNat d0).2 else false)=newR o b (List.getD g.2 i.toNat d0):=by
   unfold newR
   cases inS o (byteAt (List.getD g.2 i.toNat d0).1 0)<;>rfl
  rw[decide_eq_true hi,inb_ok h0 hi,hl,hh,ble_iff.2 (by omega:List.length o≤1000000),w,w2]at hx
  rw[decide_eq_true hi,cond_true]at hg
  right
  cases hc:newR o b (List.getD g.2 i.toNat d0)
  ·rw[hc]at hx hg
   refine⟨b,o,i+1,g, ?_, ?_, ?_,fun R=>hx R⟩
   ·simp only[pre_l2g,andd,dec_iff]
    exact⟨by omega,h1,h2⟩
   ·simp only[mu_l2g];exact mu_next h0 hi
   ·simp only[res_l2g,hg];rfl
  ·rw[hc]at hx hg
   refine⟨b,addS (signR (List.getD g.2 i.toNat d0)) o,0,g, ?_, ?_, ?_,fun R=>hx R⟩
   ·simp only[pre_l2g,andd,dec_iff]
    have:=miss_add hmem hc
    have:=addS_len (c:=signR (List.getD g.2 i.toNat d0)) (s:=o)
    exact⟨Int.le_refl 0,h1,by omega⟩
   ·simp only[mu_l2g];exact mu_add h0 hi hc
   ·simp only[res_l2g,hg];rfl
 ·left
  intro R
  refine(hx R).trans ?_
  rw[decide_eq_false hi]at hg ⊢
  simp only[res_l2g,hg];rfl
def g_l2g:St→Cont→Option Fin:=gP sh_l2g (fun v=>match v with | ((b,o,i,()),(g,()))=>pre_l2g b o i g) (fun v K=>match v with | ((b,o,i,()),(g,()))=>res_l2g b o i g K)
def L_l2g:LpL:=(3,g_l2g)::[]
def cx_l2g:Cx:=(cb_l2g).withLoops (look L_l2g)
theorem l_l2g {L:LpL} (n:Nat) (h1:L.drop n=[]) (h2:idsFree (L.take n) (loopOf Tryz.f98 0)=true):LoopsTo g_l2g (cb_l2g) (loopOf Tryz.f98 0) 3 L :=
 with_drop h1 h2 (gP_ok (fun v=>match v with | ((b,o,i,()),(g,()))=>mu_l2g b o i g) fun v K hI=>by
  obtain⟨⟨b,o,i,⟨⟩⟩,⟨g,⟨⟩⟩⟩:=v
  exact(r_l2g b o i g K hI).imp id fun⟨b',o',i',g',h⟩=>⟨((b',o',i',()),(g',())),h⟩)
theorem y_spec_l2Grow (g:Gram) (b:Bool):evFn cx_l2g Tryz.f98 true [ofD TG g,ofD .bool b] []=(
need (pre_l2g b ([]:Str) 0 g) <| some ((vS (growV g.snd b 0 ([]:Str))),[])):=by kernel_rfl
theorem s_spec_l2Grow (g:Gram) (_hg:Fit TG g) (b:Bool) (_hb:Fit .bool b) (hpre:(okLf g.2)=true):Sat Tryz.prog 98 [ofD TG g,ofD .bool b] [] (.d (ofD .str (growV g.2 b 0 []))) [] :=
 fn_sound (cx:=cx_l2g) Tryz.func98 rfl ttOk Γ81ok mixed (fun c hc=>LoopsOk.all (l:=[(3,loopOf Tryz.f98 0)]) (by cases hc;kernel_rfl) ⟨atLoop rfl (l_l2g 1 rfl (by kernel_rfl)),trivial⟩) (ro:=true) (by
  have hm:missL g.2 []≤List.length g.2:=cnt_lenB
  have hl:=dec_iff.1 (andd.1 hpre).1
  have h:pre_l2g b ([]:Str) 0 g=true:=by
   simp only[pre_l2g,andd,dec_iff]
   refine⟨Int.le_refl 0,hpre, ?_⟩
   show missL g.2 []+0≤1000
   omega
  rw[y_spec_l2Grow,h];rfl)
def c_spec_l2Grow:Con:=conT [TG, .bool] fun(g:Gram) (b:Bool)=>(some (okLf g.2), .d (ofD .str (growV g.2 b 0 [])))
theorem k_spec_l2Grow:ConOk Tryz.prog 98 c_spec_l2Grow:=conT_ok Tryz.call98 fun g hg b hb hqq=>s_spec_l2Grow g hg b hb (pre_of hqq)
def Γ82:GL:=(98,c_spec_l2Grow)::Γ81
theorem Γ82ok:GO Γ82 := .cons k_spec_l2Grow Γ81ok
theorem okLf_G {g:Gram} (h:okG g=true):okLf g.2=true:=by
 obtain⟨_,h2,h3⟩:=okG_iff h
 exact andd.2 ⟨decide_eq_true (by omega),List.all_eq_true.2 fun r hr=>(h3 r hr).1⟩
def canB (g:Gram) (s:Str):Bool:=bif both2 g s then inS (growV g.2 true 0 []) (byteAt g.1 0)else false
theorem y_spec_l8Can (g:Gram) (s:Str):evFn (cxOf Γ82 Tryz.f47.ntmps [] [] [] []) Tryz.f47 true [ofD TG g,ofD .str s] []=(
need (bif decide ((bif okG g then areSm s 8 else false)=true)then okLf g.snd else true) <|
need (bif decide ((bif okG g then areSm s 8 else false)=true)then inb 0 (List.length g.fst)else true) <| some ((vB (bif bif okG g then areSm s 8 else false then inS (growV g.snd true 0 []) (byteAt g.fst 0)else false)),[])):=by kernel_rfl
theorem s_spec_l8Can (g:Gram) (_hg:Fit TG g) (s:Str) (_hs:Fit .str s):Sat Tryz.prog 47 [ofD TG g,ofD .str s] [] (.d (ofD .bool (canB g s))) [] :=
 fn_sound (cx:=cxOf Γ82 Tryz.f47.ntmps [] [] [] []) Tryz.func47 rfl ttOk Γ82ok mixed (fun _ _=>LoopsOk.no fun _=>rfl) (ro:=true) (by
  rw[y_spec_l8Can]
  change need (bif decide (both2 g s=true)then okLf g.2 else true) (need (bif decide (both2 g s=true)then inb 0 (List.length g.1)else true) (some (vB (canB g s),[])))=_
  cases hb:both2 g s
  ·rfl
  ·obtain ⟨h1,_⟩:=both2_iff.1 hb
   obtain⟨c,e,_⟩:=bigS_one (okG_big h1)
   have hl:inb 0 (List.length g.1)=true:=by rw[e];rfl
   rw[okLf_G h1,hl];rfl)
def c_spec_l8Can:Con:=conT [TG, .str] fun(g:Gram) (s:Str)=>(none, .d (ofD .bool (canB g s)))
theorem k_spec_l8Can:ConOk Tryz.prog 47 c_spec_l8Can:=conT_ok Tryz.call47 fun g hg s hs _=>s_spec_l8Can g hg s hs
def Γ83:GL:=(47,c_spec_l8Can)::Γ82
theorem Γ83ok:GO Γ83 := .cons k_spec_l8Can Γ82ok
def sMendV (g:Gram) (s:Str):Int:=bif canB g s then startC g s else -1
theorem grow_inv {l:List Rule} {b:Bool} {J:Str→Prop} (hJ:∀o,∀r∈l,J o→newR o b r=true→J (addS (signR r) o)):∀ {n:Nat} {i:Int} {o:Str},0≤i→J o→J (growN l b n i o)
 |0,_,_,_,h=>h
 |n+1,i,o,h0,h=>by
  unfold growN
  by_cases hi:i<(l.length:Int)
  ·rw[decide_eq_true hi,cond_true]
   cases hc:newR o b (l.getD i.toNat d0)
   ·exact grow_inv hJ (by omega) h
   ·exact grow_inv hJ (Int.le_refl 0) (hJ o _ (getD_mem (by omega)) h hc)
  ·rw[decide_eq_false hi];exact h
theorem grow_end {l:List Rule} {b:Bool}:∀ {n:Nat} {i:Int} {o:Str},0≤i→muG l i o<n→(∀q:Nat,(q:Int)<i→q<l.length→newR o b (l.getD q d0)=false)→∀r∈l,newR (growN l b n i o) b r=false
 |0,_,_,_,h,_=>absurd h (Nat.not_lt_zero _)
 |n+1,i,o,h0,h,hq=>by
  unfold growN
  by_cases hi:i<(l.length:Int)
  ·rw[decide_eq_true hi,cond_true]
   cases hc:newR o b (l.getD i.toNat d0)
   ·have:=mu_next (o:=o) h0 hi
    refine grow_end (by omega) (by omega) fun q q1 q2 => ?_
    by_cases e:(q:Int)=i
    ·rw[show q=i.toNat by omega];exact hc
    ·exact hq q (by omega) q2
   ·have:=mu_add h0 hi hc
    exact grow_end (Int.le_refl 0) (by omega) fun q q1 _=>by omega
  ·rw[decide_eq_false hi,cond_false]
   intro r hr
   obtain⟨q,h1,rfl⟩:=List.getElem_of_mem hr
   have:=hq q (by omega) h1
   rw[getD_at h1]at this
   exact this
theorem all_words {l:List Rule} {o:Str} (ho:∀x∈o,∃w,WordG l [x] w):∀ {r:Str},allOf o true r=true→∃w,spW (WordG l) r w
 | [],_=>⟨[],rfl⟩
 |c::r,h=>by
  obtain⟨h1,h2⟩:=andd.1 (show (okIn o true c&&allOf o true r)=true from h)
  obtain⟨v,hv⟩:=all_words ho (r:=r) h2
  have hu:∃u,wdP (WordG l) [c] u:=by
   unfold wdP
   cases hs:smallS [c]
   ·have hs:small c=false:=hs
    unfold okIn at h1
    rw[hs,Bool.and_false,Bool.or_false]at h1
    obtain⟨w,hw⟩:=ho c (inS_mem.1 h1)
    exact⟨w,by rw[if_neg (by simp)];exact hw⟩
   ·exact ⟨[c],by rw[if_pos rfl]⟩
  obtain⟨u,hu⟩:=hu
  exact⟨u++v,u,v,rfl,hu,hv⟩
theorem wordsAll {o:Str}:∀ {r w:Str},spW (fun a _=>inS o (byteAt a 0)=true) r w→allOf o true r=true
 | [],_,_=>rfl
 |c::r,w,h=>by
  obtain⟨u,v,_,h1,h2⟩:=h
  refine andd.2 ⟨?_,wordsAll h2⟩
  unfold wdP at h1
  unfold okIn
  split at h1
  ·rename_i hs
   have hs:small c=true:=hs
   rw[hs];simp
  ·have h1:inS o (c.toNat:Int)=true:=h1
   rw[h1];rfl
theorem grow_prod {l:List Rule} (hl:List.all l (fun r=>bigS r.1)=true) {c:UInt8}:inS (growV l true 0 []) (c.toNat:Int)=true↔∃w,WordG l [c] w:=by
 constructor
 ·intro h
  refine grow_inv (l:=l) (b:=true) (J:=fun o=>∀x∈o,∃w,WordG l [x] w) (fun o r hr ho hn x hx => ?_) (Int.le_refl 0) (fun x hx=>by cases hx) c (inS_mem.1 h)
  rcases addS_mem.1 hx with rfl | hx
  ·obtain ⟨w,hw⟩:=all_words ho (andd.1 hn).2
   obtain⟨d,e,_⟩:=bigS_one (List.all_eq_true.1 hl r hr)
   have hs:[signR r]=r.1:=by
    have h1:=signR_nat (r:=r)
    rw[e]at h1
    have h1:((signR r).toNat:Int)=(d.toNat:Int):=h1
    rw[e,show signR r=d from UInt8.toNat_inj.1 (by omega)]
   rw[hs]
   exact⟨w,Word_closed r hr w hw⟩
  ·exact ho x hx
 ·rintro ⟨w,hw⟩
  have hend:=grow_end (l:=l) (b:=true) (n:=muG l 0 []+1) (i:=0) (o:=[]) (Int.le_refl 0) (Nat.lt_succ_self _) (fun q q1 _=>by omega)
  have:=hw (fun a _=>inS (growV l true 0 []) (byteAt a 0)=true) (fun r hr w h => ?_)
  ·exact this
  ·have h1:=hend r hr
   have h2:=wordsAll h
   unfold newR at h1
   change(!inS (growV l true 0 []) (byteAt r.1 0)&&allOf (growV l true 0 []) true r.2)=false at h1
   rw[h2,Bool.and_true]at h1
   show inS (growV l true 0 []) (byteAt r.1 0)=true
   cases hc:inS (growV l true 0 []) (byteAt r.1 0)
   ·rw[hc]at h1;cases h1
   ·rfl
theorem canB_iff {g:Gram} {s:Str}:canB g s=true↔both2 g s=true∧prodG g:=by
 unfold canB
 cases hb:both2 g s
 ·exact ⟨fun h=>(by cases h),fun h=>(by cases h.1)⟩
 ·rw[cond_true]
  obtain⟨h1,_⟩:=both2_iff.1 hb
  obtain⟨c,e,_⟩:=bigS_one (okG_big h1)
  have:=grow_prod (l:=g.2) (andd.1 (okLf_G h1)).2 (c:=c)
  rw[show byteAt g.1 0=(c.toNat:Int)by rw[e];rfl,this]
  unfold prodG
  rw[e]
  exact⟨fun h=>⟨rfl,h⟩,fun h=>h.2⟩
theorem mend_same {g:Gram} {s:Str}:mendV g s=sMendV g s:=by
 unfold mendV sMendV
 cases hb:both2 g s
 ·have:canB g s=false:=by
   unfold canB
   rw[hb];rfl
  rw[this];rfl
 ·obtain ⟨h1,h2⟩:=both2_iff.1 hb
  have hs:List.length s≤1000:=by
   have:=(areSm_iff.1 h2).1
   omega
  rw[cond_true]
  cases hc:canB g s
  ·have hn:∀n,¬DistG s g.2 g.1 0 (s.length:Int) n:=fun n hd=>by
    have:=canB_iff.2 ⟨hb,dist_prod hd⟩
    rw[hc]at this;cases this
   rw[far_none h1 hs hn];rfl
  ·obtain ⟨a1,a2,a3,_⟩:=far_both h1 hs (canB_iff.1 hc).2
   rw[decide_eq_false (by omega),cond_false,cond_true,a1]
end
end Go.Proofs.YtmeiebnfmhddnaaGreatDoor.Ev
