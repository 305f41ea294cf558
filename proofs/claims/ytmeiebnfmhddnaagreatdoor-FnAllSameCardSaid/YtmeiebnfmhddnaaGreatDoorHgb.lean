/-
  Words, of both sides.
-/
import Derived.Test.YtmeiebnfmhddnaaGreatDoorHb
namespace Go.Proofs.YtmeiebnfmhddnaaGreatDoor.Ev
open Go
open List (length length_append length_cons length_singleton length_replicate length_set length_take length_drop mem_cons_of_mem mem_cons_self getD replicate mem_append_left mem_append_right all_eq_true drop_eq_getElem_cons drop_eq_nil_of_le append_assoc mem_singleton getElem?_append_left getElem?_append_right getElem?_eq_none getElem?_take mem_append)
noncomputable section
def succS:Str→UInt8→Option UInt8
 | [],_=>none
 |y::l,x=>bif decide (y=x)then l.head? else succS l x
theorem succS_at {x:UInt8} {suf:Str}:∀ {pre:Str},x∉pre→succS (pre++x::suf) x=suf.head?
 | [],_=>by
  show(bif decide (x=x)then suf.head? else _)=_;rw[zT rfl];rfl
 |y::pre,h=>by
  show(bif decide (y=x)then _ else succS (pre++x::suf) x)=_;have hne:¬y=x:=fun e=>h (by rw[e];exact mem_cons_self);rw[zF hne,cond_false];exact succS_at fun e=>h (mem_cons_of_mem _ e)
def nextR (c:Str):Str→Str
 | []=>[c.headD 0]
 |x::r=>match succS c x with
  |some y=>y::r
  |none=>c.headD 0::nextR c r
def nextW (c t:Str):Str:=(nextR c t.reverse).reverse
theorem nextW_some {c w:Str} {x y:UInt8} (h:succS c x=some y):nextW c (w++[x])=w++[y]:=by
 unfold nextW;rw[List.reverse_append];show(nextR c (x::w.reverse)).reverse=_;unfold nextR;rw[h];show(y::w.reverse).reverse=_;rw[List.reverse_cons,List.reverse_reverse]
theorem nextW_none {c w:Str} {x:UInt8} (h:succS c x=none):nextW c (w++[x])=nextW c w++[c.headD 0]:=by
 unfold nextW;rw[List.reverse_append];show(nextR c (x::w.reverse)).reverse=_
 conv=>lhs;unfold nextR
 rw[h];show(c.headD 0::nextR c w.reverse).reverse=_;rw[List.reverse_cons]
def Run (c:Str):Str→List Str→Str→Prop
 |t,[],e=>t=e
 |t,u::l,e=>t=u∧Run c (nextW c u) l e
theorem run_app {c:Str}:∀ {l l':List Str} {t m e:Str},Run c t l m→Run c m l' e→Run c t (l++l') e
 | [],_,_,_,_,h,h'=>by
  have:_=_:=h;rw[this];exact h'
 |_::l,_,_,_,_,⟨h1,h2⟩,h'=>⟨h1,run_app (l:=l) h2 h'⟩
def levW (c:Str):Nat→List Str
 |0=>[[]]
 |n+1=>(levW c n).flatMap fun w=>c.map fun x=>w++[x]
def upTo (c:Str):Nat→List Str
 |0=>[[]]
 |n+1=>upTo c n++levW c (n+1)
theorem run_block {c u:Str} (hc:c.Nodup):∀ {suf pre:Str} {x:UInt8},pre++x::suf=c→Run c (u++[x]) ((x::suf).map fun x=>u++[x]) (nextW c u++[c.headD 0])
 | [],pre,x,h=>by
  have hx:x∉pre:=fun hm=>(List.nodup_append.1 (h ▸ hc)).2.2 x hm x mem_cons_self rfl;refine⟨rfl, ?_⟩;have:succS c x=none:=by rw[← h];exact succS_at hx
  show nextW c (u++[x])=_;exact nextW_none this
 |y::suf,pre,x,h=>by
  have hx:x∉pre:=fun hm=>(List.nodup_append.1 (h ▸ hc)).2.2 x hm x mem_cons_self rfl;refine⟨rfl, ?_⟩;have:succS c x=some y:=by rw[← h];exact succS_at hx
  rw[nextW_some this];exact run_block hc (pre:=pre++[x]) (by rw[← h];simp)
theorem run_lev {c:Str} (hc:c.Nodup) (h0:c≠[]):∀ {l:List Str} {t e:Str},Run c t l e→Run c (t++[c.headD 0]) (l.flatMap fun w=>c.map fun x=>w++[x]) (e++[c.headD 0])
 | [],t,e,h=>by
  have:t=e:=h;rw[this];rfl
 |u::l,t,e,⟨h1,h2⟩=>by
  rw[List.flatMap_cons,h1];refine run_app ?_ (run_lev hc h0 h2)
  cases hcc:c with
  |nil=>exact absurd hcc h0
  |cons x suf =>
   rw[← hcc];have:=run_block (u:=u) hc (suf:=suf) (pre:=[]) (x:=x) (by rw[hcc];rfl);rw[← hcc]at this;rw[show c.headD 0=x by rw[hcc];rfl]at this ⊢;exact this
theorem run_levW {c:Str} (hc:c.Nodup) (h0:c≠[]):∀ {n:Nat},Run c (replicate n (c.headD 0)) (levW c n) (replicate (n+1) (c.headD 0))
 |0=>⟨rfl,rfl⟩
 |n+1=>by
  have:=run_lev hc h0 (run_levW hc h0 (n:=n));rw[← List.replicate_succ',← List.replicate_succ']at this;exact this
theorem run_upTo {c:Str} (hc:c.Nodup) (h0:c≠[]):∀ {n:Nat},Run c [] (upTo c n) (replicate (n+1) (c.headD 0))
 |0=>run_levW hc h0 (n:=0)
 |n+1=>run_app (run_upTo hc h0 (n:=n)) (run_levW hc h0)
theorem levW_nil:∀ {n:Nat},levW [] (n+1)=[]
 |0=>rfl
 |n+1=>by
  unfold levW;rw[levW_nil];rfl
theorem upTo_nil:∀ {n:Nat},upTo [] n=[[]]
 |0=>rfl
 |n+1=>by
  unfold upTo;rw[upTo_nil,levW_nil];rfl
theorem mem_levW {c:Str}:∀ {n:Nat} {w:Str},w∈levW c n↔w.length=n∧∀x∈w,x∈c
 |0,w=>by
  unfold levW;rw[mem_singleton]
  constructor
  ·rintro rfl;exact ⟨rfl,fun x hx=>by cases hx⟩
  ·rintro ⟨h,_⟩;exact List.length_eq_zero_iff.1 h
 |n+1,w=>by
  unfold levW;rw[List.mem_flatMap]
  constructor
  ·rintro ⟨u,hu,h⟩;obtain⟨x,hx,rfl⟩:=List.mem_map.1 h;obtain⟨h1,h2⟩:=(mem_levW (w:=u)).1 hu;refine⟨by rw[length_append,h1];rfl,fun y hy => ?_⟩;rcases mem_append.1 hy with hy | hy
   ·exact h2 y hy
   ·rw[mem_singleton.1 hy];exact hx
  ·rintro ⟨h1,h2⟩;obtain⟨u,x,rfl⟩:∃u x,w=u++[x]:=by
    rcases List.eq_nil_or_concat w with rfl | ⟨u,x,rfl⟩
    ·cases h1
    ·exact ⟨u,x,by rw[List.concat_eq_append]⟩
   refine⟨u,(mem_levW (w:=u)).2 ⟨by rw[length_append]at h1;exact Nat.succ.inj h1,fun y hy=>h2 y (mem_append_left _ hy)⟩,List.mem_map.2 ⟨x,h2 x (mem_append_right _ mem_cons_self),rfl⟩⟩
theorem mem_upTo {c w:Str}:∀ {n:Nat},w∈upTo c n↔w.length≤n∧∀x∈w,x∈c
 |0=>by
  show w∈levW c 0↔_;rw[mem_levW (w:=w)]
  constructor
  ·rintro ⟨h1,h2⟩;exact ⟨by omega,h2⟩
  ·rintro ⟨h1,h2⟩;exact ⟨by omega,h2⟩
 |n+1=>by
  unfold upTo;rw[mem_append,mem_upTo (n:=n),mem_levW (w:=w)]
  constructor
  ·rintro (⟨h1,h2⟩ | ⟨h1,h2⟩)
   ·exact ⟨by omega,h2⟩
   ·exact ⟨by omega,h2⟩
  ·rintro ⟨h1,h2⟩
   by_cases h:w.length=n+1
   ·exact .inr ⟨h,h2⟩
   ·exact .inl ⟨by omega,h2⟩
theorem len_levW {c:Str}:∀ {n:Nat},(levW c n).length=c.length ^ n
 |0=>rfl
 |n+1=>by
  unfold levW;rw[List.length_flatMap];have:∀l:List Str,(l.map fun w=>(c.map fun x=>w++[x]).length).sum=l.length*c.length:=by
   intro l
   induction l with
   |nil=>simp
   |cons a l ih=>rw[List.map_cons,List.sum_cons,ih,List.length_map,length_cons,Nat.add_mul];omega
  rw[this,len_levW,Nat.pow_succ]
theorem pow_le {c n:Nat} (hc:c≤4) (hn:n≤4):c ^ n≤256:=Nat.le_trans (Nat.pow_le_pow_left hc n) (Nat.le_trans (Nat.pow_le_pow_right (by omega) hn) (by decide))
theorem len_upTo {c:Str} (hc:c.length≤4):∀ {n:Nat},n≤4→(upTo c n).length≤256*(n+1)
 |0,_=>by show 1≤_;omega
 |n+1,h=>by
  unfold upTo;rw[length_append,len_levW];have:=pow_le hc h;have:=len_upTo hc (n:=n) (by omega);omega
def rankR (c:Str):Str→Nat
 | []=>0
 |x::r=>rankR c r*c.length+(c.idxOf x+1)
def rankW (c t:Str):Nat:=rankR c t.reverse
theorem succ_idx {x y:UInt8}:∀ {c:Str},c.Nodup→succS c x=some y→c.idxOf y=c.idxOf x+1∧y∈c
 | [],_,h=>by cases h
 |a::l,hc,h=>by
  obtain⟨h1,h2⟩:=List.nodup_cons.1 hc;unfold succS at h
  by_cases e:a=x
  ·rw[zT e,cond_true]at h
   cases l with
   |nil=>cases h
   |cons b l =>
    have hb:b=y:=Option.some.inj h;subst hb;subst e;have hne:a≠b:=fun e=>h1 (e ▸ mem_cons_self);refine⟨?_,mem_cons_of_mem _ mem_cons_self⟩;rw[List.idxOf_cons,List.idxOf_cons,List.idxOf_cons,beq_eq_false_iff_ne.2 hne,beq_self_eq_true,beq_self_eq_true];rfl
  ·rw[zF e,cond_false]at h;obtain⟨h3,h4⟩:=succ_idx h2 h;have hne:a≠y:=fun e=>h1 (e ▸ h4);refine⟨?_,mem_cons_of_mem _ h4⟩;rw[List.idxOf_cons,List.idxOf_cons,beq_eq_false_iff_ne.2 hne,beq_eq_false_iff_ne.2 e,cond_false,cond_false,h3]
theorem last_idx {x:UInt8}:∀ {c:Str},x∈c→succS c x=none→c.idxOf x+1=c.length
 | [],h,_=>by cases h
 |a::l,hx,h=>by
  unfold succS at h
  by_cases e:a=x
  ·rw[zT e,cond_true]at h
   cases l with
   |nil=>subst e;simp
   |cons b l=>cases h
  ·rw[zF e,cond_false]at h;rcases List.mem_cons.1 hx with hx | hx
   ·exact absurd hx.symm e
   ·have:=last_idx hx h;rw[List.idxOf_cons,beq_eq_false_iff_ne.2 e,cond_false,this];rfl
theorem rankR_next {c:Str} (hc:c.Nodup) (h0:c≠[]):∀ {r:Str},(∀x∈r,x∈c)→rankR c (nextR c r)=rankR c r+1∧∀x∈nextR c r,x∈c
 | [],_=>by
  cases c with
  |nil=>exact absurd rfl h0
  |cons a l =>
   refine⟨?_,fun x hx=>by rw[mem_singleton.1 (show x∈[a] from hx)];exact mem_cons_self⟩;show rankR (a::l) [a]=_;simp[rankR]
 |x::r,h=>by
  have hx:=h x mem_cons_self;unfold nextR
  cases hs:succS c x with
  |some y =>
   obtain⟨h1,h2⟩:=succ_idx hc hs;refine⟨by show rankR c r*c.length+(c.idxOf y+1)=rankR c r*c.length+(c.idxOf x+1)+1;rw[h1];omega,fun z hz => ?_⟩;rcases List.mem_cons.1 hz with rfl | hz
   ·exact h2
   ·exact h z (mem_cons_of_mem _ hz)
  |none =>
   have h1:=last_idx hx hs;obtain⟨h2,h3⟩:=rankR_next hc h0 (r:=r) fun z hz=>h z (mem_cons_of_mem _ hz);have h4:c.headD 0∈c:=by
    cases c with
    |nil=>exact absurd rfl h0
    |cons a l=>exact mem_cons_self
   have h5:c.idxOf (c.headD 0)=0:=by
    cases c with
    |nil=>exact absurd rfl h0
    |cons a l=>simp
   refine⟨?_,fun z hz => ?_⟩
   ·show rankR c (nextR c r)*c.length+(c.idxOf (c.headD 0)+1)=rankR c r*c.length+(c.idxOf x+1)+1;rw[h2,h5,h1,Nat.add_mul];omega
   ·rcases List.mem_cons.1 (show z∈c.headD 0::nextR c r from hz)with rfl | hz
    ·exact h4
    ·exact h3 z hz
theorem rankW_next {c:Str} (hc:c.Nodup) (h0:c≠[]) {t:Str} (h:∀x∈t,x∈c):rankW c (nextW c t)=rankW c t+1∧∀x∈nextW c t,x∈c:=by
 unfold rankW nextW;rw[List.reverse_reverse];obtain⟨h1,h2⟩:=rankR_next hc h0 (r:=t.reverse) fun x hx=>h x (List.mem_reverse.1 hx);exact⟨h1,fun x hx=>h2 x (List.mem_reverse.1 hx)⟩
theorem rankR_le {c:Str} (hc:c.length≤4):∀ {r:Str},(∀x∈r,x∈c)→rankR c r+2≤2*5 ^ r.length
 | [],_=>by show 0+2≤2*5 ^ 0;decide
 |x::r,h=>by
  have h1:=rankR_le hc (r:=r) fun z hz=>h z (mem_cons_of_mem _ hz);have h2:=List.idxOf_lt_length_of_mem (h x mem_cons_self);unfold rankR;rw[length_cons,Nat.pow_succ];have h3:=Nat.mul_le_mul_left (rankR c r) hc;omega
theorem rankW_le {c t:Str} (hc:c.length≤4) (h:∀x∈t,x∈c) (ht:t.length≤4):rankW c t≤1250:=by
 have h1:=rankR_le hc (r:=t.reverse) fun x hx=>h x (List.mem_reverse.1 hx);rw[List.length_reverse]at h1;have h2:5 ^ t.length≤5 ^ 4:=Nat.pow_le_pow_right (by omega) ht;unfold rankW;have:(5:Nat) ^ 4=625:=rfl;omega
def firstD (f:Str→Bool):List Str→Str×Bool
 | []=>([],false)
 |w::l=>bif f w then(w,true)else firstD f l
def walkS (f:Str→Bool) (c:Str) (most:Int):Nat→Str→Str×Bool
 |0,_=>([],false)
 |n+1,t=>bif decide ((t.length:Int)≤most)then(bif f t then(t,true)else(bif decide (c=[])then([],false)else walkS f c most n (nextW c t)))else([],false)
theorem walkS_run {f:Str→Bool} {c:Str} {most:Int} (h0:c≠[]):∀ {l:List Str} {t e:Str} {n:Nat},Run c t l e→(∀w∈l,(w.length:Int)≤most)→most<(e.length:Int)→l.length<n→walkS f c most n t=firstD f l
 | [],t,e,n,h,_,h2,h3=>by
  obtain⟨n,rfl⟩:∃k,n=k+1:=⟨n-1,by omega⟩;have:t=e:=h;subst this;unfold walkS;rw[zF (by omega)];rfl
 |u::l,t,e,n,⟨h,h'⟩,h1,h2,h3=>by
  obtain⟨n,rfl⟩:∃k,n=k+1:=⟨n-1,by omega⟩;subst h;have h4:=h1 t mem_cons_self;rw[length_cons]at h3;unfold walkS firstD;rw[zT h4,cond_true,zF h0,cond_false,walkS_run h0 h' (fun w hw=>h1 w (mem_cons_of_mem _ hw)) h2 (by omega)]
theorem walkS_words {f:Str→Bool} {c:Str} (hc:c.Nodup) (h4:c.length≤4) {n:Nat} (hn:n≤4) {k:Nat} (hk:1300≤k):walkS f c (n:Int) k []=firstD f (upTo c n):=by
 by_cases h0:c=[]
 ·subst h0;obtain⟨k,rfl⟩:∃j,k=j+1:=⟨k-1,by omega⟩;unfold walkS;rw[upTo_nil,zT (by show(0:Int)≤n;omega),zT rfl];rfl
 ·have h1:=run_upTo hc h0 (n:=n);have h2:=len_upTo h4 hn;exact walkS_run h0 h1 (fun w hw=>by have:=(mem_upTo.1 hw).1;omega) (by rw[length_replicate];omega) (by omega)
theorem asc_len {b:Nat}:∀ {s:Str} {a:Nat},s.Pairwise (fun a b=>a.toNat<b.toNat)→(∀x∈s,a≤x.toNat∧x.toNat<b)→s.length≤b-a
 | [],_,_,_=>Nat.zero_le _
 |x::s,a,h,h1=>by
  obtain⟨h2,h3⟩:=List.pairwise_cons.1 h;obtain⟨h4,h5⟩:=h1 x mem_cons_self;have:=asc_len (a:=x.toNat+1) h3 fun y hy=>⟨h2 y hy,(h1 y (mem_cons_of_mem _ hy)).2⟩;rw[length_cons];omega
def isM (n:Int):Bool:=decide (0≤n)&&decide (n≤4)
theorem s_impl_isMost (n:Int) (_hn:Fit TI64 n):Sat Tryz.prog 50 [ofD TI64 n] [] (.d (ofD .bool (isM n))) [] :=
 fn_sound (cx:=cxOf Γ76 Tryz.f50.ntmps [] [] [] []) Tryz.func50 rfl ttOk Γ76ok mixed (fun _ _=>LoopsOk.no fun _=>rfl) (ro:=true) (by
  have y:evFn (cxOf Γ76 Tryz.f50.ntmps [] [] [] []) Tryz.f50 true [ofD TI64 n] []=some (vB (bif decide (0≤n)then decide (n≤4)else false),[]):=by kernel_rfl
  rw[y,b2];rfl)
def c_impl_isMost:Con:=conT [TI64] fun(n:Int)=>(none, .d (ofD .bool (isM n)))
theorem k_impl_isMost:ConOk Tryz.prog 50 c_impl_isMost:=conT_ok Tryz.call50 fun n hn _=>s_impl_isMost n hn
def Γ77:GL:=(50,c_impl_isMost)::Γ76
theorem Γ77ok:GO Γ77 := .cons k_impl_isMost Γ76ok
theorem s_spec_l4Length (n:Int) (_hn:Fit TI64 n):Sat Tryz.prog 72 [ofD TI64 n] [] (.d (ofD .bool (isM n))) [] :=
 fn_sound (cx:=cxOf Γ77 Tryz.f72.ntmps [] [] [] []) Tryz.func72 rfl ttOk Γ77ok mixed (fun _ _=>LoopsOk.no fun _=>rfl) (ro:=true) (by
  have y:evFn (cxOf Γ77 Tryz.f72.ntmps [] [] [] []) Tryz.f72 true [ofD TI64 n] []=some (vB (bif decide (0≤n)then decide (n≤4)else false),[]):=by kernel_rfl
  rw[y,b2];rfl)
def c_spec_l4Length:Con:=conT [TI64] fun(n:Int)=>(none, .d (ofD .bool (isM n)))
theorem k_spec_l4Length:ConOk Tryz.prog 72 c_spec_l4Length:=conT_ok Tryz.call72 fun n hn _=>s_spec_l4Length n hn
def Γ78:GL:=(72,c_spec_l4Length)::Γ77
theorem Γ78ok:GO Γ78 := .cons k_spec_l4Length Γ77ok
def cb_wu:Cx:=cxOf Γ78 Tryz.f51.ntmps [(10,[0,5,7,9,13,14,17,18,19,24,25]),(7,[0,5,7,13,14,17,18,19]),(4,[0,5,6,13,14])] [(0,[5]),(1,[0,5,6,13,14]),(2,[0,5,7,13,14]),(3,[0,5,7,13,14,17,18,19]),(4,[0,5,7,13,14,17,18,19]),(5,[0,5,7,9,13,14,17,18,19,24,25]),(1000000,[4])] [] []
abbrev wuH (o q l:List Str):Heap:=[(500000,some (.lis 9 .str o)),(500001,some (.lis 9 .str q)),(500002,some (.lis 9 .str l))]
theorem strFits {n:Nat} (h:n≤1000000):fits n Tryz.t9.bytes=true:=by
 rw[show Tryz.t9.bytes=16 by kernel_rfl];exact zT (by omega)
theorem x_impl_wordsUpTo_2 (c w:Str) (o q l:List Str) (n x m y p z:Int) (R:St→Option Fin) (K:Cont):evC (cb_wu.withLoops (look [])) (loopOf Tryz.f51 2) ⟨[(0,vS c),(5, ko0),(7, ko1),(9,vS w),(13,vI n),(14,vI x),(17, ko2),(18,vI m),(19,vI y),(24,vI p),(25,vI z)],wuH o q l⟩ (onward (headAt (cb_wu.withLoops (look [])) 10) R K)=(
branch (decide (z<p)) (
 need (inr z (W64 (z+1)) c.length) <|
 need (decide ((length w+(List.take ((W64 (z+1)).toNat-z.toNat) (List.drop z.toNat c)).length)≤9223372036854775807)) <|
 need (fits (q.length+[List.append w (List.take ((W64 (z+1)).toNat-z.toNat) (List.drop z.toNat c))].length) Tryz.t9.bytes) <| R (.mk [(0,vS c),(5,ko0),(7,ko1),(9,vS w),(13,vI n),(14,vI x),(17,ko2),(18,vI m),(19,vI y),(24,vI p),(25,vI (W64 (z+1)))] [(500000,(.some (.lis 9 (Ty.str) o))),(500001,(.some (.lis 9 ty9 (q.append [List.append w (List.take ((W64 (z+1)).toNat-z.toNat) (List.drop z.toNat c))])))),(500002,(.some (.lis 9 (Ty.str) l)))])) ( K (.exit 4) (.mk [(0,vS c),(5,ko0),(7,ko1),(13,vI n),(14,vI x),(17,ko2),(18,vI m),(19,vI y)] [(500000,(.some (.lis 9 (Ty.str) o))),(500001,(.some (.lis 9 (Ty.str) q))),(500002,(.some (.lis 9 (Ty.str) l)))]))):=by kernel_rfl
def cx0_w3:Cx:=(cb_wu).withLoops (look [])
def sh_w3:Sh:=([(0, .d .str),(5, .own 500000),(7, .own 500001),(9, .d .str),(13, .d TI64),(14, .d TI64),(17, .own 500002),(18, .d TI64),(19, .d TI64),(24, .d TI64),(25, .d TI64)],[(500000, .lis 9 .str),(500001, .lis 9 .str),(500002, .lis 9 .str)])
abbrev st_w3 (c w:Str) (n x m y p z:Int) (o q l:List (Str)):St:=⟨[(0,vS c),(5, ko0),(7, ko1),(9,vS w),(13,vI n),(14,vI x),(17, ko2),(18,vI m),(19,vI y),(24,vI p),(25,vI z)],[(500000,some (.lis 9 .str o)),(500001,some (.lis 9 .str q)),(500002,some (.lis 9 .str l))]⟩
def pre_w3 (c w:Str) (_n _x _m _y p z:Int) (_o q _l:List (Str)):Bool:=decide (0≤z)&&(decide (p=(length c:Int))&&(decide (length c≤1000)&&(decide (length w≤1000)&&decide ((length q:Int)≤100000+z))))
def res_w3 (c w:Str) (n x m y _p z:Int) (o q l:List (Str)) (K:Cont):Option Fin:=K (.exit 4) ⟨[(0,vS c),(5, ko0),(7, ko1),(13,vI n),(14,vI x),(17, ko2),(18,vI m),(19,vI y)],wuH o (q++(List.drop z.toNat c).map fun e=>w++[e]) l⟩
def mu_w3 (c _w:Str) (_n _x _m _y _p z:Int) (_o _q _l:List (Str)):Nat:=length c-z.toNat
theorem r_w3 (c w:Str) (n x m y p z:Int) (o q l:List (Str)) (K:Cont) (hI:pre_w3 c w n x m y p z o q l=true):(∀R:St→Option Fin,evC cx0_w3 (loopOf Tryz.f51 2) (st_w3 c w n x m y p z o q l) (onward (headAt cx0_w3 10) R K)=res_w3 c w n x m y p z o q l K) ∨
  (∃(c' w':Str) (n' x' m' y' p' z':Int) (o' q' l':List (Str)),pre_w3 c' w' n' x' m' y' p' z' o' q' l'=true∧mu_w3 c' w' n' x' m' y' p' z' o' q' l'<mu_w3 c w n x m y p z o q l∧res_w3 c' w' n' x' m' y' p' z' o' q' l' K=res_w3 c w n x m y p z o q l K∧∀R:St→Option Fin,evC cx0_w3 (loopOf Tryz.f51 2) (st_w3 c w n x m y p z o q l) (onward (headAt cx0_w3 10) R K)=R (st_w3 c' w' n' x' m' y' p' z' o' q' l')):=by
 have hx:=fun R=>x_impl_wordsUpTo_2 c w o q l n x m y p z R K;simp only[pre_w3,andd,dec_iff]at hI;obtain⟨h0,rfl,h1,h2,h3⟩:=hI
 by_cases hz:z<(length c:Int)
 ·have w1:W64 (z+1)=z+1:=wrap_small (by omega) (by omega);have hn:z.toNat<length c:=by omega
  have hd:List.drop z.toNat c=getD c z.toNat 0::List.drop (z+1).toNat c:=by
   rw[drop_eq_getElem_cons hn,show (z+1).toNat=z.toNat+1 by omega,zG,zE hn];rfl
  rw[zT hz,w1,inr_iff.2 (by omega:0≤z∧z≤z+1∧z+1≤(length c:Int)),slice_one h0 hz,strFits (by rw[length_singleton];omega),zT (by rw[length_singleton];omega:length w+length [getD c z.toNat 0]≤9223372036854775807)]at hx;right;refine⟨c,w,n,x,m,y,(length c:Int),z+1,o,q++[w++[getD c z.toNat 0]],l, ?_, ?_, ?_,fun R=>hx R⟩
  ·simp only[pre_w3,andd,dec_iff];rw[length_append,length_singleton];exact⟨by omega,trivial,h1,h2,by omega⟩
  ·simp only[mu_w3];omega
  ·simp only[res_w3,hd,List.map_cons,append_assoc];rfl
 ·left;intro R;refine(hx R).trans ?_;rw[zF hz];have e:List.drop z.toNat c=[]:=drop_eq_nil_of_le (by omega);simp only[res_w3,e,List.map_nil,List.append_nil];rfl
def g_w3:St→Cont→Option Fin:=gP sh_w3 (fun v=>match v with | ((c,w,n,x,m,y,p,z,()),(o,q,l,()))=>pre_w3 c w n x m y p z o q l) (fun v K=>match v with | ((c,w,n,x,m,y,p,z,()),(o,q,l,()))=>res_w3 c w n x m y p z o q l K)
def L_w3:LpL:=(10,g_w3)::[]
theorem l_w3 {L:LpL} (n:Nat) (h1:L.drop n=[]) (h2:idsFree (L.take n) (loopOf Tryz.f51 2)=true):LoopsTo g_w3 (cb_wu) (loopOf Tryz.f51 2) 10 L :=
 with_drop h1 h2 (gP_ok (fun v=>match v with | ((c,w,n,x,m,y,p,z,()),(o,q,l,()))=>mu_w3 c w n x m y p z o q l) fun v K hI=>by
  obtain⟨⟨c,w,n,x,m,y,p,z,⟨⟩⟩,⟨o,q,l,⟨⟩⟩⟩:=v;exact(r_w3 c w n x m y p z o q l K hI).imp id fun⟨c',w',n',x',m',y',p',z',o',q',l',h⟩=>⟨((c',w',n',x',m',y',p',z',()),(o',q',l',())),h⟩)
theorem x_impl_wordsUpTo_1 (c:Str) (o q l:List Str) (n x m y:Int) (R:St→Option Fin) (K:Cont):evC (cb_wu.withLoops (look L_w3)) (loopOf Tryz.f51 1) ⟨[(0,vS c),(5, ko0),(7, ko1),(13,vI n),(14,vI x),(17, ko2),(18,vI m),(19,vI y)],wuH o q l⟩ (onward (headAt (cb_wu.withLoops (look L_w3)) 7) R K)=(
branch (decide (y<m)) (
 need (inb y l.length) <|
 need (pre_w3 c (l.getD y.toNat ([]:Str)) n x m y ((c.length:Int)) 0 o q l) <| R (.mk [(0,vS c),(5,ko0),(7,ko1),(13,vI n),(14,vI x),(17,ko2),(18,vI m),(19,vI (W64 (y+1)))] [(500000,(.some (.lis 9 (Ty.str) o))),(500001,(.some (.lis 9 (Ty.str) (q.append (List.map (fun e=>List.append (l.getD y.toNat ([]:Str)) [e]) c))))),(500002,(.some (.lis 9 (Ty.str) l)))])) ( K (.exit 2) (.mk [(0,vS c),(5,ko0),(7,ko1),(13,vI n),(14,vI x)] [(500000,(.some (.lis 9 (Ty.str) o))),(500001,(.some (.lis 9 (Ty.str) q)))]))):=by kernel_rfl
theorem flat_at {f:Str→List Str} {l:List Str} {i:Int} (h0:0≤i) (h1:i<(l.length:Int)):(l.drop i.toNat).flatMap f=f (l.getD i.toNat [])++(l.drop (i+1).toNat).flatMap f:=by
 have hn:i.toNat<l.length:=by omega
 rw[drop_eq_getElem_cons hn,List.flatMap_cons,show (i+1).toNat=i.toNat+1 by omega,getD_at hn]
def cx0_w2:Cx:=(cb_wu).withLoops (look L_w3)
def sh_w2:Sh:=([(0, .d .str),(5, .own 500000),(7, .own 500001),(13, .d TI64),(14, .d TI64),(17, .own 500002),(18, .d TI64),(19, .d TI64)],[(500000, .lis 9 .str),(500001, .lis 9 .str),(500002, .lis 9 .str)])
abbrev st_w2 (c:Str) (n x m y:Int) (o q l:List (Str)):St:=⟨[(0,vS c),(5, ko0),(7, ko1),(13,vI n),(14,vI x),(17, ko2),(18,vI m),(19,vI y)],[(500000,some (.lis 9 .str o)),(500001,some (.lis 9 .str q)),(500002,some (.lis 9 .str l))]⟩
def pre_w2 (c:Str) (_n _x m y:Int) (_o q l:List (Str)):Bool:=decide (0≤y)&&(decide (m=(length l:Int))&&(decide (length c≤4)&&(decide (length l≤1000)&&(List.all l (fun e=>decide (length e≤1000))&&decide ((length q:Int)≤4*y)))))
def res_w2 (c:Str) (n x _m y:Int) (o q l:List (Str)) (K:Cont):Option Fin:=K (.exit 2) ⟨[(0,vS c),(5, ko0),(7, ko1),(13,vI n),(14,vI x)],[(500000,some (.lis 9 .str o)),(500001,some (.lis 9 .str (q++(List.drop y.toNat l).flatMap fun w=>c.map fun e=>w++[e])))]⟩
def mu_w2 (_c:Str) (_n _x _m y:Int) (_o _q l:List (Str)):Nat:=length l-y.toNat
theorem r_w2 (c:Str) (n x m y:Int) (o q l:List (Str)) (K:Cont) (hI:pre_w2 c n x m y o q l=true):(∀R:St→Option Fin,evC cx0_w2 (loopOf Tryz.f51 1) (st_w2 c n x m y o q l) (onward (headAt cx0_w2 7) R K)=res_w2 c n x m y o q l K) ∨
  (∃(c':Str) (n' x' m' y':Int) (o' q' l':List (Str)),pre_w2 c' n' x' m' y' o' q' l'=true∧mu_w2 c' n' x' m' y' o' q' l'<mu_w2 c n x m y o q l∧res_w2 c' n' x' m' y' o' q' l' K=res_w2 c n x m y o q l K∧∀R:St→Option Fin,evC cx0_w2 (loopOf Tryz.f51 1) (st_w2 c n x m y o q l) (onward (headAt cx0_w2 7) R K)=R (st_w2 c' n' x' m' y' o' q' l')):=by
 have hx:=fun R=>x_impl_wordsUpTo_1 c o q l n x m y R K;simp only[pre_w2,andd,dec_iff]at hI;obtain⟨h0,rfl,h1,h2,h3,h4⟩:=hI
 by_cases hz:y<(length l:Int)
 ·have w1:W64 (y+1)=y+1:=wrap_small (by omega) (by omega);have hn:y.toNat<length l:=by omega
  have hw:=of_decide_eq_true (all_eq_true.1 h3 _ (getD_mem (d:=([]:Str)) hn));have hg:=flat_at (f:=fun w=>c.map fun e=>w++[e]) h0 hz;have kp:pre_w3 c (getD l y.toNat []) n x (length l:Int) y (length c:Int) 0 o q l=true:=by
   simp only[pre_w3,andd,dec_iff];exact⟨Int.le_refl 0,trivial,by omega,hw,by omega⟩
  rw[zT hz,inb_ok h0 hz,w1,kp]at hx;right;refine⟨c,n,x,(length l:Int),y+1,o,q++c.map (fun e=>getD l y.toNat []++[e]),l, ?_, ?_, ?_,fun R=>hx R⟩
  ·simp only[pre_w2,andd,dec_iff];rw[length_append,List.length_map];exact⟨by omega,trivial,h1,h2,h3,by omega⟩
  ·simp only[mu_w2];omega
  ·simp only[res_w2,hg,append_assoc]
 ·left;intro R;refine(hx R).trans ?_;rw[zF hz];have e:List.drop y.toNat l=[]:=drop_eq_nil_of_le (by omega);simp only[res_w2,e,List.flatMap_nil,List.append_nil];rfl
def g_w2:St→Cont→Option Fin:=gP sh_w2 (fun v=>match v with | ((c,n,x,m,y,()),(o,q,l,()))=>pre_w2 c n x m y o q l) (fun v K=>match v with | ((c,n,x,m,y,()),(o,q,l,()))=>res_w2 c n x m y o q l K)
def L_w2:LpL:=(7,g_w2)::L_w3
theorem l_w2 {L:LpL} (n:Nat) (h1:L.drop n=L_w3) (h2:idsFree (L.take n) (loopOf Tryz.f51 1)=true):LoopsTo g_w2 (cb_wu) (loopOf Tryz.f51 1) 7 L :=
 with_drop h1 h2 (gP_ok (fun v=>match v with | ((c,n,x,m,y,()),(o,q,l,()))=>mu_w2 c n x m y o q l) fun v K hI=>by
  obtain⟨⟨c,n,x,m,y,⟨⟩⟩,⟨o,q,l,⟨⟩⟩⟩:=v;exact(r_w2 c n x m y o q l K hI).imp id fun⟨c',n',x',m',y',o',q',l',h⟩=>⟨((c',n',x',m',y',()),(o',q',l',())),h⟩)
abbrev st_w1 (c:Str) (n x:Int) (o l:List (Str)):St:=⟨[(0,vS c),(5, ko0),(6, ko1),(13,vI n),(14,vI x)],[(500000,some (.lis 9 .str o)),(500001,some (.lis 9 .str l))]⟩
theorem x_impl_wordsUpTo (c:Str) (o l:List Str) (n x:Int) (R:St→Option Fin) (K:Cont):evC (cb_wu.withLoops (look L_w2)) (loopOf Tryz.f51 0) (st_w1 c n x o l) (onward (headAt (cb_wu.withLoops (look L_w2)) 4) R K)=(
branch (decide (x<n)) (
 need (pre_w2 c n x ((l.length:Int)) 0 o [] l) <|
 need (fits (o.length+(id (List.flatMap (fun w=>List.map (fun e=>w.append [e]) c) l)).length) Tryz.t9.bytes) <| R (st_w1 c n (W64 (x+1)) (o.append (id (List.flatMap (fun w=>List.map (fun e=>w.append [e]) c) l))) (id (List.flatMap (fun w=>List.map (fun e=>w.append [e]) c) l)))) ( K (.exit 0) (.mk [(5,ko0)] [(500000,(.some (.lis 9 (Ty.str) o)))]))):=by kernel_rfl
def tailW (c:Str):Nat→Nat→List Str
 |_,0=>[]
 |x,k+1=>levW c (x+1)++tailW c (x+1) k
theorem tailW_eq {c:Str}:∀ {k x:Nat},upTo c x++tailW c x k=upTo c (x+k)
 |0,_=>List.append_nil _
 |k+1,x=>by
  unfold tailW;rw[← append_assoc,show upTo c x++levW c (x+1)=upTo c (x+1)from rfl,tailW_eq,show x+1+k=x+(k+1)by omega]
def cx0_w1:Cx:=(cb_wu).withLoops (look L_w2)
def sh_w1:Sh:=([(0, .d .str),(5, .own 500000),(6, .own 500001),(13, .d TI64),(14, .d TI64)],[(500000, .lis 9 .str),(500001, .lis 9 .str)])
def pre_w1 (c:Str) (n x:Int) (o l:List (Str)):Bool:=decide (0≤x)&&(decide (n≤4)&&(decide (length c≤4)&&(decide (l=levW c x.toNat)&&decide ((length o:Int)≤300*(x+1)))))
def res_w1 (c:Str) (n x:Int) (o _l:List (Str)) (K:Cont):Option Fin:=K (.exit 0) ⟨[(5, ko0)],[(500000,some (.lis 9 .str (o++tailW c x.toNat (n-x).toNat)))]⟩
def mu_w1 (_c:Str) (n x:Int) (_o _l:List (Str)):Nat:=(n-x).toNat
theorem r_w1 (c:Str) (n x:Int) (o l:List (Str)) (K:Cont) (hI:pre_w1 c n x o l=true):(∀R:St→Option Fin,evC cx0_w1 (loopOf Tryz.f51 0) (st_w1 c n x o l) (onward (headAt cx0_w1 4) R K)=res_w1 c n x o l K) ∨
  (∃(c':Str) (n' x':Int) (o' l':List (Str)),pre_w1 c' n' x' o' l'=true∧mu_w1 c' n' x' o' l'<mu_w1 c n x o l∧res_w1 c' n' x' o' l' K=res_w1 c n x o l K∧∀R:St→Option Fin,evC cx0_w1 (loopOf Tryz.f51 0) (st_w1 c n x o l) (onward (headAt cx0_w1 4) R K)=R (st_w1 c' n' x' o' l')):=by
 have hx:=fun R=>x_impl_wordsUpTo c o l n x R K;simp only[pre_w1,andd,dec_iff]at hI;obtain⟨h0,h1,h2,rfl,h3⟩:=hI
 by_cases hz:x<n
 ·have w1:W64 (x+1)=x+1:=wrap_small (by omega) (by omega);have hl:(levW c x.toNat).length≤256:=by rw[len_levW];exact pow_le h2 (by omega)
  have hl2:(levW c (x.toNat+1)).length≤256:=by rw[len_levW];exact pow_le h2 (by omega)
  obtain⟨k,hk⟩:∃k,(n-x).toNat=k+1:=⟨(n-x).toNat-1,by omega⟩;have hk2:(n-(x+1)).toNat=k:=by omega
  have hx1:(x+1).toNat=x.toNat+1:=by omega
  have kp:pre_w2 c n x ((levW c x.toNat).length:Int) 0 o [] (levW c x.toNat)=true:=by
   simp only[pre_w2,andd,dec_iff];refine⟨Int.le_refl 0,trivial,h2,by omega,all_eq_true.2 fun e he=>zT ?_,Int.le_refl _⟩;have:=((mem_levW (w:=e)).1 he).1;omega
  have kf:fits (length o+(levW c (x.toNat+1)).length) Tryz.t9.bytes=true:=strFits (by omega);rw[zT hz,w1,kp]at hx;change ∀R:St→Option Fin,_=branch true (need true (need (fits (length o+(levW c (x.toNat+1)).length) Tryz.t9.bytes) _)) _ at hx;rw[kf]at hx;right;refine⟨c,n,x+1,o++levW c (x.toNat+1),levW c (x.toNat+1), ?_, ?_, ?_,fun R=>hx R⟩
  ·simp only[pre_w1,andd,dec_iff];rw[length_append,hx1];exact⟨by omega,h1,h2,rfl,by omega⟩
  ·simp only[mu_w1];omega
  ·simp only[res_w1,hk,hk2,hx1,tailW,append_assoc]
 ·left;intro R;refine(hx R).trans ?_;rw[zF hz];have e:(n-x).toNat=0:=by omega
  simp only[res_w1,e,tailW,List.append_nil];rfl
def g_w1:St→Cont→Option Fin:=gP sh_w1 (fun v=>match v with | ((c,n,x,()),(o,l,()))=>pre_w1 c n x o l) (fun v K=>match v with | ((c,n,x,()),(o,l,()))=>res_w1 c n x o l K)
def L_w1:LpL:=(4,g_w1)::L_w2
def cx_w1:Cx:=(cb_wu).withLoops (look L_w1)
theorem l_w1 {L:LpL} (n:Nat) (h1:L.drop n=L_w2) (h2:idsFree (L.take n) (loopOf Tryz.f51 0)=true):LoopsTo g_w1 (cb_wu) (loopOf Tryz.f51 0) 4 L :=
 with_drop h1 h2 (gP_ok (fun v=>match v with | ((c,n,x,()),(o,l,()))=>mu_w1 c n x o l) fun v K hI=>by
  obtain⟨⟨c,n,x,⟨⟩⟩,⟨o,l,⟨⟩⟩⟩:=v;exact(r_w1 c n x o l K hI).imp id fun⟨c',n',x',o',l',h⟩=>⟨((c',n',x',()),(o',l',())),h⟩)
theorem y_impl_wordsUpTo (c:Str) (n:Int):evFn cx_w1 Tryz.f51 true [ofD .str c,ofD TI64 n] []=(
need (pre_w1 c n 0 [[]] [[]]) <| some ((.d (.one (.r (.li (Ty.str) ([[]].append (tailW c ((0:Int).toNat) (n-0).toNat)))))),[])):=by kernel_rfl
theorem s_impl_wordsUpTo (c:Str) (_hc:Fit .str c) (n:Int) (_hn:Fit TI64 n) (hpre:(decide (length c≤4)&&isM n)=true):Sat Tryz.prog 51 [ofD .str c,ofD TI64 n] [] (.d (ofD (.list .str) (upTo c n.toNat))) [] :=
 fn_sound (cx:=cx_w1) Tryz.func51 rfl ttOk Γ78ok mixed (fun c hc=>LoopsOk.all (l:=[(4,loopOf Tryz.f51 0),(7,loopOf Tryz.f51 1),(10,loopOf Tryz.f51 2)]) (by cases hc;kernel_rfl) ⟨atLoop rfl (l_w1 1 rfl (by kernel_rfl)),atLoop rfl (l_w2 2 rfl (by kernel_rfl)),atLoop rfl (l_w3 3 rfl (by kernel_rfl)),trivial⟩) (ro:=true) (by
  rw[andd,dec_iff]at hpre;obtain⟨h1,h2⟩:=hpre;unfold isM at h2;rw[andd,dec_iff,dec_iff]at h2;have kp:pre_w1 c n 0 [[]] [[]]=true:=by
   simp only[pre_w1,andd,dec_iff];exact⟨Int.le_refl 0,h2.2,h1,rfl,by show((1:Nat):Int)≤_;omega⟩
  have e:([[]]++tailW c 0 n.toNat:List Str)=upTo c n.toNat:=by
   have:=tailW_eq (c:=c) (k:=n.toNat) (x:=0);rw[Nat.zero_add]at this;exact this
  have e0:(n-0).toNat=n.toNat:=by omega
  rw[y_impl_wordsUpTo,kp,e0];exact congrArg (fun z:List Str=>(some (.d (.one (.r (.li .str z))),[]):Option Fin)) e)
def c_impl_wordsUpTo:Con:=conT [.str,TI64] fun(c:Str) (n:Int)=>(some (decide (length c≤4)&&isM n), .d (ofD (.list .str) (upTo c n.toNat)))
theorem k_impl_wordsUpTo:ConOk Tryz.prog 51 c_impl_wordsUpTo:=conT_ok Tryz.call51 fun c hc n hn hqq=>s_impl_wordsUpTo c hc n hn (pre_of hqq)
def Γ79:GL:=(51,c_impl_wordsUpTo)::Γ78
theorem Γ79ok:GO Γ79 := .cons k_impl_wordsUpTo Γ78ok
theorem dropS_at {l:List Str} {i:Int} (h0:0≤i) (h1:i<(l.length:Int)):List.drop i.toNat l=getD l i.toNat []::List.drop (i+1).toNat l:=by
 have hn:i.toNat<l.length:=by omega
 rw[drop_eq_getElem_cons hn,show (i+1).toNat=i.toNat+1 by omega,zG,zE hn];rfl
def fewS (l:List Str):Bool:=List.all l fun w=>Nat.ble (length w) 1000
theorem few_upTo {c:Str} {n:Nat} (hn:n≤4):fewS (upTo c n)=true:=all_eq_true.2 fun w hw=>ble_iff.2 (by have:=(mem_upTo.1 hw).1;omega)
theorem smalls_four {g:Gram}:(smallsG g).length≤4:=asc_len (a:=97) (b:=101) setS_asc fun x hx=>by
 have:=(setS_mem.1 hx).2;unfold small at this;rw[andd,ble_iff,ble_iff]at this;omega
theorem isM_iff {n:Int}:isM n=true↔0≤n∧n≤4:=by
 unfold isM;rw[andd,dec_iff,dec_iff]
def cb_many:Cx:=cxOf Γ79 Tryz.f120.ntmps [(2,[0,1,5])] [(0,[5]),(1,[0,1,5]),(1000000,[4])] [] []
abbrev st_many (s:Str) (n:Int) (o:Str):St:=⟨[(0,vS s),(1,vI n),(5,vS o)],[]⟩
theorem x_spec_l17Many (s o:Str) (n:Int) (R:St→Option Fin) (K:Cont):evC (cb_many.withLoops (look [])) (loopOf Tryz.f120 0) (st_many s n o) (onward (headAt (cb_many.withLoops (look [])) 2) R K)=(
branch (decide (0<n)) (
 branch (decide (n.tmod 2=1)) (
 need (decide ((length o+length s)≤9223372036854775807)) <|
 need (decide ((length s+length s)≤9223372036854775807)) <| R (st_many (List.append s s) (W64 (n.tdiv 2)) (List.append o s))) (
 need (decide ((length s+length s)≤9223372036854775807)) <| R (st_many (List.append s s) (W64 (n.tdiv 2)) o))) ( K (.exit 0) (.mk [(5,vS o)] []))):=by kernel_rfl
def rep (n:Nat) (c:UInt8):Str:=replicate n c
theorem rep_step {L m:Nat} {c:UInt8} {o:Str}:(bif decide (m % 2=1)then o++rep L c else o)++rep (m / 2*(2*L)) c=o++rep (m*L) c:=by
 have e:m*L=m % 2*L+m / 2*(2*L):=by
  have h:=Nat.div_add_mod m 2;have h2:(2*(m / 2)+m % 2)*L=m % 2*L+m / 2*(2*L):=by rw[Nat.add_mul,Nat.mul_comm 2 (m / 2),Nat.mul_assoc,Nat.add_comm]
  rw[h]at h2;exact h2
 unfold rep
 by_cases h:m % 2=1
 ·rw[zT h,cond_true,e,h,Nat.one_mul,append_assoc,List.replicate_append_replicate]
 ·rw[zF h,cond_false,e,show m % 2=0 by omega,Nat.zero_mul,Nat.zero_add]
def cx0_many:Cx:=(cb_many).withLoops (look [])
def sh_many:Sh:=([(0, .d .str),(1, .d TI64),(5, .d .str)],[])
def pre_many (s:Str) (n:Int) (o:Str):Bool:=decide (0≤n)&&(decide (s=rep (length s) (s.headD 0))&&(decide (0<length s)&&(decide (n.toNat*length s≤200)&&decide ((length o:Int)+n*200≤1000000))))
def res_many (s:Str) (n:Int) (o:Str) (K:Cont):Option Fin:=K (.exit 0) ⟨[(5,vS (o++rep (n.toNat*length s) (s.headD 0)))],[]⟩
def mu_many (_s:Str) (n:Int) (_o:Str):Nat:=n.toNat
theorem r_many (s:Str) (n:Int) (o:Str) (K:Cont) (hI:pre_many s n o=true):(∀R:St→Option Fin,evC cx0_many (loopOf Tryz.f120 0) (st_many s n o) (onward (headAt cx0_many 2) R K)=res_many s n o K) ∨
  (∃(s':Str) (n':Int) (o':Str),pre_many s' n' o'=true∧mu_many s' n' o'<mu_many s n o∧res_many s' n' o' K=res_many s n o K∧∀R:St→Option Fin,evC cx0_many (loopOf Tryz.f120 0) (st_many s n o) (onward (headAt cx0_many 2) R K)=R (st_many s' n' o')):=by
 have hx:=fun R=>x_spec_l17Many s o n R K;simp only[pre_many,andd,dec_iff]at hI;obtain⟨h0,h1,h2,h3,h4⟩:=hI
 by_cases hn:0<n
 ·have hL:length s≤200:=by
   have:=Nat.mul_le_mul_right (length s) (show 1≤n.toNat by omega);omega
  have w:W64 (n.tdiv 2)=((n.toNat / 2:Nat):Int):=by
   have e:n.tdiv 2=((n.toNat / 2:Nat):Int):=by
    rw[Int.tdiv_eq_ediv_of_nonneg h0];omega
   rw[e];exact wrap_small (by omega) (by omega)
  have hm:decide (n.tmod 2=1)=decide (n.toNat % 2=1):=by
   rw[Int.tmod_eq_emod_of_nonneg h0];rw[decide_eq_decide];omega
  have hd:List.append s s=rep (2*length s) (s.headD 0):=by
   show s++s=_;rw[h1];unfold rep;rw[List.replicate_append_replicate,length_replicate,Nat.two_mul]
   congr 1
   cases hs:length s with
   |zero=>omega
   |succ k=>rw[List.replicate_succ];rfl
  have hdl:length (List.append s s)=2*length s:=by
   show(s++s).length=_;rw[length_append];omega
  have hdh:(List.append s s).headD 0=s.headD 0:=by
   cases s with
   |nil=>exact absurd h2 (Nat.lt_irrefl 0)
   |cons c s=>rfl
  have hst:=rep_step (L:=length s) (m:=n.toNat) (c:=s.headD 0) (o:=o);have h3':n.toNat / 2*(2*length s)≤200:=by
   have e:n.toNat / 2*(2*length s)=(n.toNat / 2*2)*length s:=by rw[Nat.mul_assoc]
   rw[e];exact Nat.le_trans (Nat.mul_le_mul_right _ (Nat.div_mul_le_self _ _)) h3
  rw[zT hn,w,hm,zT (by omega:length o+length s≤9223372036854775807),zT (by omega:length s+length s≤9223372036854775807)]at hx;right
  cases hc:decide (n.toNat % 2=1)
  ·rw[hc,cond_false]at hst;rw[hc]at hx;refine⟨List.append s s,((n.toNat / 2:Nat):Int),o, ?_, ?_, ?_,fun R=>hx R⟩
   ·simp only[pre_many,andd,dec_iff];rw[hdl,hdh,Int.toNat_natCast];exact⟨by omega,hd,by omega,h3',by omega⟩
   ·simp only[mu_many];omega
   ·simp only[res_many];rw[hdl,hdh,Int.toNat_natCast,hst]
  ·rw[hc,cond_true]at hst;rw[hc]at hx;refine⟨List.append s s,((n.toNat / 2:Nat):Int),o++s, ?_, ?_, ?_,fun R=>hx R⟩
   ·simp only[pre_many,andd,dec_iff];rw[hdl,hdh,Int.toNat_natCast,length_append];exact⟨by omega,hd,by omega,h3',by omega⟩
   ·simp only[mu_many];omega
   ·simp only[res_many];rw[← h1]at hst;rw[hdl,hdh,Int.toNat_natCast,hst]
 ·left;intro R;refine(hx R).trans ?_;rw[zF hn];have e:n.toNat=0:=by omega
  have e2:o++rep (0*length s) (s.headD 0)=o:=by rw[Nat.zero_mul];exact List.append_nil o
  simp only[res_many,e,e2];rfl
def g_many:St→Cont→Option Fin:=gP sh_many (fun v=>match v with | ((s,n,o,()),())=>pre_many s n o) (fun v K=>match v with | ((s,n,o,()),())=>res_many s n o K)
def L_many:LpL:=(2,g_many)::[]
def cx_many:Cx:=(cb_many).withLoops (look L_many)
theorem l_many {L:LpL} (n:Nat) (h1:L.drop n=[]) (h2:idsFree (L.take n) (loopOf Tryz.f120 0)=true):LoopsTo g_many (cb_many) (loopOf Tryz.f120 0) 2 L :=
 with_drop h1 h2 (gP_ok (fun v=>match v with | ((s,n,o,()),())=>mu_many s n o) fun v K hI=>by
  obtain⟨⟨s,n,o,⟨⟩⟩,⟨⟩⟩:=v;exact(r_many s n o K hI).imp id fun⟨s',n',o',h⟩=>⟨((s',n',o',()),()),h⟩)
theorem y_spec_l17Many (s:Str) (n:Int):evFn cx_many Tryz.f120 true [ofD .str s,ofD TI64 n] []=(
need (pre_many s n ([]:Str)) <| some ((vS (([]:Str).append (rep (n.toNat*length s) (List.headD s 0)))),[])):=by kernel_rfl
theorem s_spec_l17Many (s:Str) (_hs:Fit .str s) (n:Int) (_hn:Fit TI64 n) (hpre:(decide (length s=1)&&(decide (0≤n)&&decide (n≤100)))=true):Sat Tryz.prog 120 [ofD .str s,ofD TI64 n] [] (.d (ofD .str (rep n.toNat (s.headD 0)))) [] :=
 fn_sound (cx:=cx_many) Tryz.func120 rfl ttOk Γ79ok mixed (fun c hc=>LoopsOk.all (l:=[(2,loopOf Tryz.f120 0)]) (by cases hc;kernel_rfl) ⟨atLoop rfl (l_many 1 rfl (by kernel_rfl)),trivial⟩) (ro:=true) (by
  simp only[andd,dec_iff]at hpre;obtain⟨h1,h2,h3⟩:=hpre;obtain⟨c,rfl⟩:=List.length_eq_one_iff.1 h1;have kp:pre_many [c] n []=true:=by
   simp only[pre_many,andd,dec_iff];exact⟨h2,rfl,Nat.one_pos,by show n.toNat*1≤200;omega,by show((0:Nat):Int)+n*200≤1000000;omega⟩
  rw[y_spec_l17Many,kp];exact congrArg (fun z:Str=>(some (.d (ofD .str z),[]):Option Fin)) (show []++rep (n.toNat*1) c=rep n.toNat c by rw[Nat.mul_one];rfl))
def c_spec_l17Many:Con:=conT [.str,TI64] fun(s:Str) (n:Int)=>(some (decide (length s=1)&&(decide (0≤n)&&decide (n≤100))), .d (ofD .str (rep n.toNat (s.headD 0))))
theorem k_spec_l17Many:ConOk Tryz.prog 120 c_spec_l17Many:=conT_ok Tryz.call120 fun s hs n hn hqq=>s_spec_l17Many s hs n hn (pre_of hqq)
def Γ80:GL:=(120,c_spec_l17Many)::Γ79
theorem Γ80ok:GO Γ80 := .cons k_spec_l17Many Γ79ok
def cb_next:Cx:=cxOf Γ80 Tryz.f76.ntmps [(5,[0,1,5,6]),(2,[0,1,5])] [(0,[0,1]),(1,[0,1,5]),(2,[0,1,5,6]),(3,[0,1,5,6]),(1000000,[4])] [] []
abbrev st_nx2 (c t:Str) (i k:Int):St:=⟨[(0,vS c),(1,vS t),(5,vI i),(6,vI k)],[]⟩
theorem x_spec_l4Next_1 (c t:Str) (i k:Int) (R:St→Option Fin) (K:Cont):evC (cb_next.withLoops (look [])) (loopOf Tryz.f76 1) (st_nx2 c t i k) (onward (headAt (cb_next.withLoops (look [])) 5) R K)=(
need (inb k c.length) <|
need (inb i t.length) <|
branch (!decide (byteAt c k=byteAt t i)) ( R (st_nx2 c t i (W64 (k+1)))) ( K (.exit 2) (.mk [(0,vS c),(1,vS t),(5,vI i),(6,vI k)] []))):=by kernel_rfl
theorem succ_getD:∀ {c:Str} {x:UInt8},x∈c→succS c x=c[c.idxOf x+1]?
 | [],_,h=>by cases h
 |a::l,x,h=>by
  unfold succS
  by_cases e:a=x
  ·subst e;rw[zT rfl,cond_true,List.idxOf_cons_self]
   cases l<;>rfl
  ·rw[zF e,cond_false,List.idxOf_cons,beq_eq_false_iff_ne.2 e,cond_false];rcases List.mem_cons.1 h with h | h
   ·exact absurd h.symm e
   ·exact succ_getD h
theorem idx_less:∀ {c:Str} {x:UInt8} {k:Nat},k<c.idxOf x→c.getD k 0≠x
 | [],_,k,h=>by cases h
 |a::l,x,k,h=>by
  rw[List.idxOf_cons]at h
  by_cases e:a=x
  ·rw[beq_iff_eq.2 e,cond_true]at h;omega
  ·rw[beq_eq_false_iff_ne.2 e,cond_false]at h
   cases k with
   |zero=>exact e
   |succ k=>exact idx_less (c:=l) (by omega)
theorem idx_at {c:Str} {x:UInt8} (h:x∈c):c.getD (c.idxOf x) 0=x:=by
 have h1:=List.idxOf_lt_length_of_mem h;rw[zG,zE h1];exact List.getElem_idxOf h1
def cx0_nx2:Cx:=(cb_next).withLoops (look [])
def sh_nx2:Sh:=([(0, .d .str),(1, .d .str),(5, .d TI64),(6, .d TI64)],[])
def pre_nx2 (c t:Str) (i k:Int):Bool:=decide (0≤k)&&(decide (0≤i)&&(decide (i<(length t:Int))&&(decide (getD t i.toNat 0∈c)&&(decide (k≤(c.idxOf (getD t i.toNat 0):Int))&&decide (length c≤1000)))))
def res_nx2 (c t:Str) (i _k:Int) (K:Cont):Option Fin:=K (.exit 2) ⟨[(0,vS c),(1,vS t),(5,vI i),(6,vI (c.idxOf (getD t i.toNat 0):Int))],[]⟩
def mu_nx2 (c t:Str) (i k:Int):Nat:=c.idxOf (getD t i.toNat 0)-k.toNat
theorem r_nx2 (c t:Str) (i k:Int) (K:Cont) (hI:pre_nx2 c t i k=true):(∀R:St→Option Fin,evC cx0_nx2 (loopOf Tryz.f76 1) (st_nx2 c t i k) (onward (headAt cx0_nx2 5) R K)=res_nx2 c t i k K) ∨
  (∃(c' t':Str) (i' k':Int),pre_nx2 c' t' i' k'=true∧mu_nx2 c' t' i' k'<mu_nx2 c t i k∧res_nx2 c' t' i' k' K=res_nx2 c t i k K∧∀R:St→Option Fin,evC cx0_nx2 (loopOf Tryz.f76 1) (st_nx2 c t i k) (onward (headAt cx0_nx2 5) R K)=R (st_nx2 c' t' i' k')):=by
 have hx:=fun R=>x_spec_l4Next_1 c t i k R K;simp only[pre_nx2,andd,dec_iff]at hI;obtain⟨h0,h1,h2,h3,h4,h5⟩:=hI;have hl:=List.idxOf_lt_length_of_mem h3;have w:W64 (k+1)=k+1:=wrap_small (by omega) (by omega);have hb:decide (byteAt c k=byteAt t i)=decide (getD c k.toNat 0=getD t i.toNat 0):=by
  rw[at_byte,at_byte,decide_eq_decide]
  constructor
  ·intro h;exact UInt8.toNat_inj.1 (by omega)
  ·intro h;rw[h]
 rw[inb_ok h0 (by omega),inb_ok h1 h2,hb,w]at hx
 by_cases he:k=(c.idxOf (getD t i.toNat 0):Int)
 ·left;intro R;refine(hx R).trans ?_;have hk:k.toNat=c.idxOf (getD t i.toNat 0):=by omega
  rw[zT (by rw[hk];exact idx_at h3)];simp only[res_nx2,← he];rfl
 ·right;have hk:k.toNat<c.idxOf (getD t i.toNat 0):=by omega
  rw[zF (idx_less hk)]at hx;refine⟨c,t,i,k+1, ?_, ?_,rfl,fun R=>hx R⟩
  ·simp only[pre_nx2,andd,dec_iff];exact⟨by omega,h1,h2,h3,by omega,h5⟩
  ·simp only[mu_nx2];omega
def g_nx2:St→Cont→Option Fin:=gP sh_nx2 (fun v=>match v with | ((c,t,i,k,()),())=>pre_nx2 c t i k) (fun v K=>match v with | ((c,t,i,k,()),())=>res_nx2 c t i k K)
def L_nx2:LpL:=(5,g_nx2)::[]
theorem l_nx2 {L:LpL} (n:Nat) (h1:L.drop n=[]) (h2:idsFree (L.take n) (loopOf Tryz.f76 1)=true):LoopsTo g_nx2 (cb_next) (loopOf Tryz.f76 1) 5 L :=
 with_drop h1 h2 (gP_ok (fun v=>match v with | ((c,t,i,k,()),())=>mu_nx2 c t i k) fun v K hI=>by
  obtain⟨⟨c,t,i,k,⟨⟩⟩,⟨⟩⟩:=v;exact(r_nx2 c t i k K hI).imp id fun⟨c',t',i',k',h⟩=>⟨((c',t',i',k',()),()),h⟩)
abbrev st_nx1 (c t:Str) (i:Int):St:=⟨[(0,vS c),(1,vS t),(5,vI i)],[]⟩
theorem x_spec_l4Next (c t:Str) (i:Int) (R:St→Option Fin) (K:Cont):evC (cb_next.withLoops (look L_nx2)) (loopOf Tryz.f76 0) (st_nx1 c t i) (onward (headAt (cb_next.withLoops (look L_nx2)) 2) R K)=(
branch (decide (0≤i)) (
 need (pre_nx2 c t i 0) <|
 branch (decide (W64 ((List.idxOf (getD t i.toNat 0) c:Int)+1)<(c.length:Int))) (
 need (inr 0 i t.length) <|
 need (inr (W64 ((List.idxOf (getD t i.toNat 0) c:Int)+1)) (W64 ((List.idxOf (getD t i.toNat 0) c:Int)+2)) c.length) <|
 need (decide (((List.take i.toNat t).length+(List.take ((W64 ((List.idxOf (getD t i.toNat 0) c:Int)+2)).toNat-(W64 ((List.idxOf (getD t i.toNat 0) c:Int)+1)).toNat) (List.drop (W64 ((List.idxOf (getD t i.toNat 0) c:Int)+1)).toNat c)).length)≤9223372036854775807)) <|
 need (inr 0 1 c.length) <|
 need (decide ((List.take (Int.toNat 1-(0:Int).toNat) c).length=1)&&(decide (0≤W64 (W64 ((t.length:Int)-1)-i))&&decide (W64 (W64 ((t.length:Int)-1)-i)≤100))) <|
 need (decide ((((List.take i.toNat t).append (List.take ((W64 ((List.idxOf (getD t i.toNat 0) c:Int)+2)).toNat-(W64 ((List.idxOf (getD t i.toNat 0) c:Int)+1)).toNat) (List.drop (W64 ((List.idxOf (getD t i.toNat 0) c:Int)+1)).toNat c))).length+length (rep (W64 (W64 ((t.length:Int)-1)-i)).toNat ((List.take (Int.toNat 1-(0:Int).toNat) c).headD 0)))≤9223372036854775807)) <| K (.ret) (.mk [(4,(vS (((List.take i.toNat t).append (List.take ((W64 ((List.idxOf (getD t i.toNat 0) c:Int)+2)).toNat-(W64 ((List.idxOf (getD t i.toNat 0) c:Int)+1)).toNat) (List.drop (W64 ((List.idxOf (getD t i.toNat 0) c:Int)+1)).toNat c))).append (rep (W64 (W64 ((t.length:Int)-1)-i)).toNat ((List.take (Int.toNat 1-(0:Int).toNat) c).headD 0)))))] [])) ( R (st_nx1 c t (W64 (i-1))))) ( K (.exit 0) (.mk [(0,vS c),(1,vS t)] []))):=by kernel_rfl
def anyS (c t:Str) (i:Int):Bool:=List.any (List.take (i+1).toNat t) fun x=>(succS c x).isSome
theorem nextW_all {c:Str}:∀ {n:Nat} {w:Str},w.length=n→List.any w (fun x=>(succS c x).isSome)=false→nextW c w=rep (n+1) (c.headD 0)
 |0,w,hw,_=>by
  rw[List.length_eq_zero_iff.1 hw];rfl
 |n+1,w,hw,h=>by
  obtain⟨u,x,rfl⟩:∃u x,w=u++[x]:=by
   rcases List.eq_nil_or_concat w with rfl | ⟨u,x,rfl⟩
   ·cases hw
   ·exact ⟨u,x,by rw[List.concat_eq_append]⟩
  rw[List.any_append,Bool.or_eq_false_iff]at h;have hx:succS c x=none:=by
   have:=h.2;rw[List.any_cons,List.any_nil,Bool.or_false]at this
   cases hs:succS c x with
   |none=>rfl
   |some y=>rw[hs]at this;cases this
  rw[length_append]at hw;rw[nextW_none hx,nextW_all (n:=n) (Nat.succ.inj hw) h.1];unfold rep;rw[← List.replicate_succ']
theorem rep_one {m:Nat} {c:UInt8} {w:Str}:w++[c]++rep m c=w++rep (m+1) c:=by
 unfold rep;rw[append_assoc,List.replicate_succ];rfl
def cx0_nx1:Cx:=(cb_next).withLoops (look L_nx2)
def sh_nx1:Sh:=([(0, .d .str),(1, .d .str),(5, .d TI64)],[])
def pre_nx1 (c t:Str) (i:Int):Bool:=decide (-1≤i)&&(decide (i<(length t:Int))&&(List.all t (fun x=>decide (x∈c))&&(decide (length c≤1000)&&(decide (length t≤50)&&decide (0<length c)))))
def res_nx1 (c t:Str) (i:Int) (K:Cont):Option Fin:=branch (anyS c t i) (K .ret ⟨[(4,vS (nextW c (List.take (i+1).toNat t)++rep ((length t:Int)-1-i).toNat (c.headD 0)))],[]⟩) (K (.exit 0) ⟨[(0,vS c),(1,vS t)],[]⟩)
def mu_nx1 (_c _t:Str) (i:Int):Nat:=(i+1).toNat
theorem r_nx1 (c t:Str) (i:Int) (K:Cont) (hI:pre_nx1 c t i=true):(∀R:St→Option Fin,evC cx0_nx1 (loopOf Tryz.f76 0) (st_nx1 c t i) (onward (headAt cx0_nx1 2) R K)=res_nx1 c t i K) ∨
  (∃(c' t':Str) (i':Int),pre_nx1 c' t' i'=true∧mu_nx1 c' t' i'<mu_nx1 c t i∧res_nx1 c' t' i' K=res_nx1 c t i K∧∀R:St→Option Fin,evC cx0_nx1 (loopOf Tryz.f76 0) (st_nx1 c t i) (onward (headAt cx0_nx1 2) R K)=R (st_nx1 c' t' i')):=by
 have hx:=fun R=>x_spec_l4Next c t i R K;simp only[pre_nx1,andd,dec_iff]at hI;obtain⟨h0,h1,h2,h3,h4,h5⟩:=hI
 by_cases hi:0≤i
 ·have hn:i.toNat<length t:=by omega
  have hm:getD t i.toNat 0∈c:=of_decide_eq_true (all_eq_true.1 h2 _ (getD_mem hn));have hk:=List.idxOf_lt_length_of_mem hm;have hs:=succ_getD hm;have kp:pre_nx2 c t i 0=true:=by
   simp only[pre_nx2,andd,dec_iff];exact⟨Int.le_refl 0,hi,h1,hm,by omega,h3⟩
  have w:W64 (i-1)=i-1:=wrap_small (by omega) (by omega);have htk:List.take (i+1).toNat t=List.take i.toNat t++[getD t i.toNat 0]:=by
   rw[show (i+1).toNat=i.toNat+1 by omega,List.take_succ_eq_append_getElem hn,zG,zE hn];rfl
  change ∀R:St→Option Fin,_=branch _ (need (pre_nx2 c t i 0) (branch (decide (W64 ((c.idxOf (getD t i.toNat 0):Int)+1)<(length c:Int))) _ _)) _ at hx;have w1:W64 ((c.idxOf (getD t i.toNat 0):Int)+1)=(c.idxOf (getD t i.toNat 0):Int)+1:=wrap_small (by omega) (by omega);rw[zT hi,kp,w1,w]at hx
  by_cases hl:c.idxOf (getD t i.toNat 0)+1<length c
  ·left;intro R;refine(hx R).trans ?_;have w2:W64 ((c.idxOf (getD t i.toNat 0):Int)+2)=(c.idxOf (getD t i.toNat 0):Int)+1+1:=by
    rw[show (c.idxOf (getD t i.toNat 0):Int)+2=(c.idxOf (getD t i.toNat 0):Int)+1+1 by omega];exact wrap_small (by omega) (by omega)
   have w3:W64 (W64 ((length t:Int)-1)-i)=(length t:Int)-1-i:=by
    rw[show W64 ((length t:Int)-1)=(length t:Int)-1 from wrap_small (by omega) (by omega)];exact wrap_small (by omega) (by omega)
   have hs2:succS c (getD t i.toNat 0)=some (getD c (c.idxOf (getD t i.toNat 0)+1) 0):=by
    rw[hs,zE hl];exact congrArg some (by rw[zG (l:=c),zE hl];rfl)
   have ha:anyS c t i=true:=by
    unfold anyS;rw[htk,List.any_append,List.any_cons,hs2];exact Bool.or_true _
   have hc1:List.take (Int.toNat 1-(0:Int).toNat) c=[c.headD 0]:=by
    cases c with
    |nil=>exact absurd h5 (Nat.lt_irrefl 0)
    |cons a l=>rfl
   have hsl:=slice_one (s:=c) (i:=(c.idxOf (getD t i.toNat 0):Int)+1) (by omega) (by omega);have hy:getD c ((c.idxOf (getD t i.toNat 0):Int)+1).toNat 0=getD c (c.idxOf (getD t i.toNat 0)+1) 0:=by
    rw[show ((c.idxOf (getD t i.toNat 0):Int)+1).toNat=c.idxOf (getD t i.toNat 0)+1 by omega]
   rw[hy]at hsl;simp only[res_nx1];rw[ha,htk,nextW_some hs2];rw[zT (by omega:(c.idxOf (getD t i.toNat 0):Int)+1<(length c:Int))];change need _ (need (inr ((c.idxOf (getD t i.toNat 0):Int)+1) (W64 ((c.idxOf (getD t i.toNat 0):Int)+2)) (length c)) (need (decide (length (List.take i.toNat t)+length (List.take ((W64 ((c.idxOf (getD t i.toNat 0):Int)+2)).toNat-((c.idxOf (getD t i.toNat 0):Int)+1).toNat) (List.drop ((c.idxOf (getD t i.toNat 0):Int)+1).toNat c))≤9223372036854775807)) (need _ (need (decide (length (List.take (Int.toNat 1-(0:Int).toNat) c)=1)&&(decide (0≤W64 (W64 ((length t:Int)-1)-i))&&decide (W64 (W64 ((length t:Int)-1)-i)≤100))) (need (decide (length (List.take i.toNat t++List.take ((W64 ((c.idxOf (getD t i.toNat 0):Int)+2)).toNat-((c.idxOf (getD t i.toNat 0):Int)+1).toNat) (List.drop ((c.idxOf (getD t i.toNat 0):Int)+1).toNat c))+length (rep (W64 (W64 ((length t:Int)-1)-i)).toNat (List.headD (List.take (Int.toNat 1-(0:Int).toNat) c) 0))≤9223372036854775807)) (K .ret ⟨[(4,vS (List.take i.toNat t++List.take ((W64 ((c.idxOf (getD t i.toNat 0):Int)+2)).toNat-((c.idxOf (getD t i.toNat 0):Int)+1).toNat) (List.drop ((c.idxOf (getD t i.toNat 0):Int)+1).toNat c)++rep (W64 (W64 ((length t:Int)-1)-i)).toNat (List.headD (List.take (Int.toNat 1-(0:Int).toNat) c) 0)))],[]⟩))))))=_;rw[w2,w3,hsl,hc1];have hr:length (rep ((length t:Int)-1-i).toNat (List.headD [c.headD 0] 0))=((length t:Int)-1-i).toNat:=length_replicate;have ht:length (List.take i.toNat t)≤50:=by rw[length_take];omega
   rw[inr_iff.2 (by omega:(0:Int)≤0∧0≤i∧i≤(length t:Int)),inr_iff.2 (by omega:0≤(c.idxOf (getD t i.toNat 0):Int)+1∧(c.idxOf (getD t i.toNat 0):Int)+1≤(c.idxOf (getD t i.toNat 0):Int)+1+1∧(c.idxOf (getD t i.toNat 0):Int)+1+1≤(length c:Int)),inr_iff.2 (by omega:(0:Int)≤0∧(0:Int)≤1∧1≤(length c:Int)),
    zT (by rw[length_singleton];omega:length (List.take i.toNat t)+length [getD c (c.idxOf (getD t i.toNat 0)+1) 0]≤9223372036854775807),
    zT (by omega:0≤(length t:Int)-1-i),zT (by omega:(length t:Int)-1-i≤100),
    zT (by rw[hr,length_append,length_singleton];omega:length (List.take i.toNat t++[getD c (c.idxOf (getD t i.toNat 0)+1) 0])+length (rep ((length t:Int)-1-i).toNat (List.headD [c.headD 0] 0))≤9223372036854775807)]
   rfl
  ·right;have hs2:succS c (getD t i.toNat 0)=none:=by
    rw[hs];exact getElem?_eq_none (by omega)
   rw[zF (by omega:¬(c.idxOf (getD t i.toNat 0):Int)+1<(length c:Int))]at hx;refine⟨c,t,i-1, ?_, ?_, ?_,fun R=>hx R⟩
   ·simp only[pre_nx1,andd,dec_iff];exact⟨by omega,by omega,h2,h3,h4,h5⟩
   ·simp only[mu_nx1];omega
   ·have e1:(i-1+1).toNat=i.toNat:=by omega
    have ha:anyS c t i=anyS c t (i-1):=by
     unfold anyS;rw[htk,e1,List.any_append,List.any_cons,hs2];exact Bool.or_false _
    have e2:((length t:Int)-1-(i-1)).toNat=((length t:Int)-1-i).toNat+1:=by omega
    simp only[res_nx1];rw[ha,htk,nextW_none hs2,e1,e2,rep_one]
 ·left;intro R;refine(hx R).trans ?_;rw[zF hi];have e:(i+1).toNat=0:=by omega
  have ha:anyS c t i=false:=by unfold anyS;rw[e];rfl
  simp only[res_nx1];rw[ha];rfl
def g_nx1:St→Cont→Option Fin:=gP sh_nx1 (fun v=>match v with | ((c,t,i,()),())=>pre_nx1 c t i) (fun v K=>match v with | ((c,t,i,()),())=>res_nx1 c t i K)
def L_nx1:LpL:=(2,g_nx1)::L_nx2
def cx_nx1:Cx:=(cb_next).withLoops (look L_nx1)
theorem l_nx1 {L:LpL} (n:Nat) (h1:L.drop n=L_nx2) (h2:idsFree (L.take n) (loopOf Tryz.f76 0)=true):LoopsTo g_nx1 (cb_next) (loopOf Tryz.f76 0) 2 L :=
 with_drop h1 h2 (gP_ok (fun v=>match v with | ((c,t,i,()),())=>mu_nx1 c t i) fun v K hI=>by
  obtain⟨⟨c,t,i,⟨⟩⟩,⟨⟩⟩:=v;exact(r_nx1 c t i K hI).imp id fun⟨c',t',i',h⟩=>⟨((c',t',i',()),()),h⟩)
def nextP (c t:Str):Bool:=List.all t (fun x=>decide (x∈c))&&(decide (length c≤1000)&&(decide (length t≤50)&&decide (0<length c)))
theorem y_spec_l4Next (c:Str) (t:Str):evFn cx_nx1 Tryz.f76 true [ofD .str c,ofD .str t] []=(
need (pre_nx1 c t (W64 ((t.length:Int)-1))) <|
branch (anyS c t (W64 ((t.length:Int)-1))) ( some ((vS (List.append (nextW c (List.take (W64 ((t.length:Int)-1)+1).toNat t)) (rep ((t.length:Int)-1-W64 ((t.length:Int)-1)).toNat (List.headD c 0)))),[])) (
 need (inr 0 1 c.length) <|
 need (decide ((List.take (Int.toNat 1-(0:Int).toNat) c).length=1)&&(decide (0≤W64 ((t.length:Int)+1))&&decide (W64 ((t.length:Int)+1)≤100))) <| some ((vS (rep (W64 ((t.length:Int)+1)).toNat ((List.take (Int.toNat 1-(0:Int).toNat) c).headD 0))),[]))):=by kernel_rfl
theorem s_spec_l4Next (c:Str) (_hc:Fit .str c) (t:Str) (_ht:Fit .str t) (hpre:(nextP c t)=true):Sat Tryz.prog 76 [ofD .str c,ofD .str t] [] (.d (ofD .str (nextW c t))) [] :=
 fn_sound (cx:=cx_nx1) Tryz.func76 rfl ttOk Γ80ok mixed (fun c hc=>LoopsOk.all (l:=[(2,loopOf Tryz.f76 0),(5,loopOf Tryz.f76 1)]) (by cases hc;kernel_rfl) ⟨atLoop rfl (l_nx1 1 rfl (by kernel_rfl)),atLoop rfl (l_nx2 2 rfl (by kernel_rfl)),trivial⟩) (ro:=true) (by
  unfold nextP at hpre;simp only[andd,dec_iff]at hpre;obtain⟨h1,h2,h3,h4⟩:=hpre;have w1:W64 ((length t:Int)-1)=(length t:Int)-1:=wrap_small (by omega) (by omega);have w2:W64 ((length t:Int)+1)=(length t:Int)+1:=wrap_small (by omega) (by omega);have kp:pre_nx1 c t ((length t:Int)-1)=true:=by
   simp only[pre_nx1,andd,dec_iff];exact⟨by omega,by omega,h1,h2,h3,h4⟩
  have e1:List.take ((length t:Int)-1+1).toNat t=t:=List.take_of_length_le (by omega);have e2:((length t:Int)-1-((length t:Int)-1)).toNat=0:=by omega
  have e3:((length t:Int)+1).toNat=length t+1:=by omega
  have hc1:List.take (Int.toNat 1-(0:Int).toNat) c=[c.headD 0]:=by
   cases c with
   |nil=>exact absurd h4 (Nat.lt_irrefl 0)
   |cons a l=>rfl
  have ha:anyS c t ((length t:Int)-1)=List.any t (fun x=>(succS c x).isSome):=by unfold anyS;rw[e1]
  rw[y_spec_l4Next,w1,w2,kp,e1,e2,e3,ha,inr_iff.2 (by omega:(0:Int)≤0∧(0:Int)≤1∧1≤(length c:Int)),hc1,zT (by omega:0≤(length t:Int)+1),zT (by omega:(length t:Int)+1≤100)]
  cases hh:List.any t (fun x=>(succS c x).isSome)
  ·exact congrArg (fun z:Str=>(some (.d (ofD .str z),[]):Option Fin)) (nextW_all rfl hh).symm
  ·exact congrArg (fun z:Str=>(some (.d (ofD .str z),[]):Option Fin)) (List.append_nil (nextW c t)))
def c_spec_l4Next:Con:=conT [.str, .str] fun(c:Str) (t:Str)=>(some (nextP c t), .d (ofD .str (nextW c t)))
theorem k_spec_l4Next:ConOk Tryz.prog 76 c_spec_l4Next:=conT_ok Tryz.call76 fun c hc t ht hqq=>s_spec_l4Next c hc t ht (pre_of hqq)
def Γ81:GL:=(76,c_spec_l4Next)::Γ80
theorem Γ81ok:GO Γ81 := .cons k_spec_l4Next Γ80ok
theorem nextR_len {c:Str}:∀ {r:Str},(nextR c r).length≤r.length+1
 | []=>Nat.le_refl _
 |x::r=>by
  have:=nextR_len (c:=c) (r:=r);unfold nextR
  cases succS c x with
  |some y=>show (y::r).length≤_;simp only[length_cons];omega
  |none=>show (c.headD 0::nextR c r).length≤_;simp only[length_cons];omega
theorem nextW_len {c t:Str}:(nextW c t).length≤t.length+1:=by
 have:=nextR_len (c:=c) (r:=t.reverse);unfold nextW;rw[List.length_reverse];rw[List.length_reverse]at this;exact this
theorem allIn {c t:Str}:List.all t (fun x=>decide (x∈c))=true↔∀x∈t,x∈c:=by
 rw[all_eq_true];exact⟨fun h x hx=>of_decide_eq_true (h x hx),fun h x hx=>zT (h x hx)⟩
theorem nextP_mk {c t:Str} (h:∀x∈t,x∈c) (h4:length c≤4) (h5:length t≤5) (h0:c≠[]):nextP c t=true:=by
 unfold nextP;simp only[andd,dec_iff];exact⟨allIn.2 h,by omega,by omega,List.length_pos_iff.2 h0⟩
def cb_l2a:Cx:=cxOf Γ81 Tryz.f113.ntmps [(2,[0,1,2,7])] [(0,[]),(1,[0,1,2,7]),(1000000,[6])] [] []
abbrev st_l2a (s t:Str) (b:Bool) (i:Int):St:=⟨[(0,vS s),(1,vS t),(2,vB b),(7,vI i)],[]⟩
theorem x_spec_l2All (s t:Str) (b:Bool) (i:Int) (R:St→Option Fin) (K:Cont):evC (cb_l2a.withLoops (look [])) (loopOf Tryz.f113 0) (st_l2a s t b i) (onward (headAt (cb_l2a.withLoops (look [])) 2) R K)=(
branch (decide (i<(s.length:Int))) (
 need (inb i s.length) <|
 need (bif decide ((!inS t (byteAt s i))=true)&&decide (b=true)then inb i s.length else true) <|
 branch (bif !inS t (byteAt s i)then !bif b then smallI (byteAt s i)else false else false) ( K (.ret) (.mk [(6,vB false)] [])) ( R (st_l2a s t b (W64 (i+1))))) ( K (.exit 0) (.mk [] []))):=by kernel_rfl
def okIn (t:Str) (b:Bool) (c:UInt8):Bool:=inS t (c.toNat:Int)||(b&&small c)
def allOf (t:Str) (b:Bool) (s:Str):Bool:=s.all (okIn t b)
theorem allOf_at {t s:Str} {b:Bool} {i:Int} (h0:0≤i) (h1:i<(s.length:Int)):allOf t b (s.drop i.toNat)=((inS t (byteAt s i)||(b&&smallI (byteAt s i)))&&allOf t b (s.drop (i+1).toNat)):=by
 have hn:i.toNat<s.length:=by omega
 have hb:byteAt s i=((s[i.toNat]).toNat:Int):=by
  unfold byteAt;rw[zG,zE hn];rfl
 unfold allOf;rw[drop_eq_getElem_cons hn,List.all_cons,show (i+1).toNat=i.toNat+1 by omega,hb,smallI_nat];rfl
def cx0_l2a:Cx:=(cb_l2a).withLoops (look [])
def sh_l2a:Sh:=([(0, .d .str),(1, .d .str),(2, .d .bool),(7, .d TI64)],[])
def pre_l2a (s _t:Str) (_b:Bool) (i:Int):Bool:=decide (0≤i)&&Nat.ble s.length big
def res_l2a (s t:Str) (b:Bool) (i:Int) (K:Cont):Option Fin:=branch (allOf t b (s.drop i.toNat)) (K (.exit 0) ⟨[],[]⟩) (K .ret ⟨[(6,vB false)],[]⟩)
def mu_l2a (s _t:Str) (_b:Bool) (i:Int):Nat:=s.length-i.toNat
theorem r_l2a (s t:Str) (b:Bool) (i:Int) (K:Cont) (hI:pre_l2a s t b i=true):(∀R:St→Option Fin,evC cx0_l2a (loopOf Tryz.f113 0) (st_l2a s t b i) (onward (headAt cx0_l2a 2) R K)=res_l2a s t b i K) ∨
  (∃(s' t':Str) (b':Bool) (i':Int),pre_l2a s' t' b' i'=true∧mu_l2a s' t' b' i'<mu_l2a s t b i∧res_l2a s' t' b' i' K=res_l2a s t b i K∧∀R:St→Option Fin,evC cx0_l2a (loopOf Tryz.f113 0) (st_l2a s t b i) (onward (headAt cx0_l2a 2) R K)=R (st_l2a s' t' b' i')):=by
 have hx:=fun R=>x_spec_l2All s t b i R K;simp only[pre_l2a,andd,dec_iff,ble_iff]at hI;obtain⟨h0,h1⟩:=hI
 by_cases hi:i<(s.length:Int)
 ·have hg:=allOf_at (t:=t) (b:=b) h0 hi;rw[zT hi,inb_ok h0 hi,W1 h0 hi h1,Bool.cond_self]at hx;have hh:(bif !inS t (byteAt s i)then !bif b then smallI (byteAt s i)else false else false) = !(inS t (byteAt s i)||(b&&smallI (byteAt s i))):=by
   cases inS t (byteAt s i)<;>cases b<;>cases smallI (byteAt s i)<;>rfl
  rw[hh]at hx
  cases hc:(inS t (byteAt s i)||(b&&smallI (byteAt s i)))
  ·left;intro R;rw[hc]at hg;refine(hx R).trans ?_;rw[hc];simp only[res_l2a,hg];rfl
  ·right;rw[hc]at hg;refine⟨s,t,b,i+1, ?_, ?_, ?_,fun R=>(hx R).trans ?_⟩
   ·exact andd.2 ⟨dec_iff.2 (by omega),ble_iff.2 h1⟩
   ·simp only[mu_l2a];omega
   ·simp only[res_l2a,hg];rfl
   ·rw[hc];rfl
 ·left;intro R;refine(hx R).trans ?_;rw[zF hi];simp only[res_l2a];rw[drop_eq_nil_of_le (by omega)];rfl
def g_l2a:St→Cont→Option Fin:=gP sh_l2a (fun v=>match v with | ((s,t,b,i,()),())=>pre_l2a s t b i) (fun v K=>match v with | ((s,t,b,i,()),())=>res_l2a s t b i K)
def L_l2a:LpL:=(2,g_l2a)::[]
def cx_l2a:Cx:=(cb_l2a).withLoops (look L_l2a)
theorem l_l2a {L:LpL} (n:Nat) (h1:L.drop n=[]) (h2:idsFree (L.take n) (loopOf Tryz.f113 0)=true):LoopsTo g_l2a (cb_l2a) (loopOf Tryz.f113 0) 2 L :=
 with_drop h1 h2 (gP_ok (fun v=>match v with | ((s,t,b,i,()),())=>mu_l2a s t b i) fun v K hI=>by
  obtain⟨⟨s,t,b,i,⟨⟩⟩,⟨⟩⟩:=v;exact(r_l2a s t b i K hI).imp id fun⟨s',t',b',i',h⟩=>⟨((s',t',b',i',()),()),h⟩)
theorem y_spec_l2All (s:Str) (t:Str) (b:Bool):evFn cx_l2a Tryz.f113 true [ofD .str s,ofD .str t,ofD .bool b] []=(
need (pre_l2a s t b 0) <|
branch (allOf t b s) ( some ((vB true),[])) ( some ((vB false),[]))):=by kernel_rfl
theorem s_spec_l2All (s:Str) (hs:Fit .str s) (t:Str) (_ht:Fit .str t) (b:Bool) (_hb:Fit .bool b):Sat Tryz.prog 113 [ofD .str s,ofD .str t,ofD .bool b] [] (.d (ofD .bool (allOf t b s))) [] :=
 fn_sound (cx:=cx_l2a) Tryz.func113 rfl ttOk Γ81ok mixed (fun c hc=>LoopsOk.all (l:=[(2,loopOf Tryz.f113 0)]) (by cases hc;kernel_rfl) ⟨atLoop rfl (l_l2a 1 rfl (by kernel_rfl)),trivial⟩) (ro:=true) (by
  have h:pre_l2a s t b 0=true:=andd.2 ⟨rfl,ble_iff.2 hs⟩;rw[y_spec_l2All,h];show branch (allOf t b s) _ _=_
  cases allOf t b s<;>rfl)
def c_spec_l2All:Con:=conT [.str, .str, .bool] fun(s:Str) (t:Str) (b:Bool)=>(none, .d (ofD .bool (allOf t b s)))
theorem k_spec_l2All:ConOk Tryz.prog 113 c_spec_l2All:=conT_ok Tryz.call113 fun s hs t ht b hb _=>s_spec_l2All s hs t ht b hb
def Γ82:GL:=(113,c_spec_l2All)::Γ81
theorem Γ82ok:GO Γ82 := .cons k_spec_l2All Γ81ok
def cb_l2g:Cx:=cxOf Γ82 Tryz.f98.ntmps [(3,[1,2,5,6])] [(0,[5]),(1,[1,2,5,6]),(1000000,[4])] [] []
abbrev st_l2g (b:Bool) (o:Str) (i:Int) (g:Gram):St:=⟨[(1,vB b),(2, kp0),(5,vS o),(6,vI i)],[(500000,some (boxD 25 TG g))]⟩
theorem x_spec_l2Grow (g:Gram) (o:Str) (b:Bool) (i:Int) (R:St→Option Fin) (K:Cont):evC (cb_l2g.withLoops (look [])) (loopOf Tryz.f98 0) (st_l2g b o i g) (onward (headAt (cb_l2g.withLoops (look [])) 3) R K)=(
branch (decide (i<(length g.snd:Int))) (
 need (inb i (length g.snd)) <|
 need (inb 0 (length (getD g.snd i.toNat d0).fst)) <|
 branch (bif !inS o (byteAt (getD g.snd i.toNat d0).fst 0)then allOf o b (getD g.snd i.toNat d0).snd else false) (
 need (inb 0 (length (getD g.snd i.toNat d0).fst)) <|
 need (o.length.ble 1000000) <| R (st_l2g b (addS (UInt8.ofNat (byteAt (getD g.snd i.toNat d0).fst 0).toNat) o) (W64 (Int.neg 1+1)) g)) ( R (st_l2g b o (W64 (i+1)) g))) ( K (.exit 0) (.mk [(5,vS o)] []))):=by kernel_rfl
theorem cnt_lenB {α:Type} {f:α→Bool}:∀ {l:List α},cntB f l≤l.length
 | []=>Nat.le_refl _
 |a::l=>by
  have:=cnt_lenB (f:=f) (l:=l);unfold cntB;rw[length_cons]
  cases f a
  ·rw[cond_false];omega
  ·rw[cond_true];omega
def newR (o:Str) (b:Bool) (r:Rule):Bool := !inS o (byteAt r.1 0)&&allOf o b r.2
def signR (r:Rule):UInt8:=UInt8.ofNat (byteAt r.1 0).toNat
def grwN (l:List Rule) (b:Bool):Nat→Int→Str→Str
 |0,_,o=>o
 |n+1,i,o=>bif decide (i<(l.length:Int))then(bif newR o b (l.getD i.toNat d0)then grwN l b n 0 (addS (signR (l.getD i.toNat d0)) o)else grwN l b n (i+1) o)else o
def missL (l:List Rule) (o:Str):Nat:=cntB (fun r => !inS o (byteAt r.1 0)) l
def muG (l:List Rule) (i:Int) (o:Str):Nat:=missL l o*(l.length+1)+(l.length-i.toNat)
theorem inS_any {s:Str} {c:Int}:inS s c=true↔∃x∈s,(x.toNat:Int)=c:=by
 unfold inS;rw[List.any_eq_true]
 constructor
 ·rintro ⟨x,hx,h⟩;exact ⟨x,hx,dec_iff.1 h⟩
 ·rintro ⟨x,hx,h⟩;exact ⟨x,hx,zT h⟩
theorem signR_nat {r:Rule}:((signR r).toNat:Int)=byteAt r.1 0:=by
 have:signR r=r.1.getD 0 0:=by
  unfold signR byteAt;show UInt8.ofNat (((r.1.getD 0 0).toNat:Int)).toNat=_;rw[Int.toNat_natCast,UInt8.ofNat_toNat]
 rw[this];rfl
theorem miss_add {l:List Rule} {o:Str} {r:Rule} {b:Bool} (hr:r∈l) (h:newR o b r=true):missL l (addS (signR r) o)<missL l o:=by
 obtain⟨h1,_⟩:=andd.1 h;refine cnt_lt (fun q _ hq => ?_) ⟨r,hr, ?_,h1⟩
 ·cases hc:inS o (byteAt q.1 0)
  ·rfl
  ·obtain ⟨x,hx,e⟩:=inS_any.1 hc;rw[inS_any.2 ⟨x,addS_mem.2 (.inr hx),e⟩]at hq
   cases hq
 ·rw[inS_any.2 ⟨signR r,addS_mem.2 (.inl rfl),signR_nat⟩];rfl
theorem mu_add {l:List Rule} {o:Str} {b:Bool} {i:Int} (h0:0≤i) (h1:i<(l.length:Int)) (h:newR o b (l.getD i.toNat d0)=true):muG l 0 (addS (signR (l.getD i.toNat d0)) o)<muG l i o:=by
 have:=miss_add (getD_mem (d:=d0) (by omega:i.toNat<l.length)) h;unfold muG;have h2:(missL l (addS (signR (l.getD i.toNat d0)) o)+1)*(l.length+1)≤missL l o*(l.length+1):=Nat.mul_le_mul_right _ this;rw[Nat.succ_mul]at h2;have:(0:Int).toNat=0:=rfl;omega
theorem mu_next {l:List Rule} {o:Str} {i:Int} (h0:0≤i) (h1:i<(l.length:Int)):muG l (i+1) o<muG l i o:=by
 unfold muG;omega
theorem grow_fuel {l:List Rule} {b:Bool}:∀ {n n':Nat} {i:Int} {o:Str},0≤i→muG l i o<n→muG l i o<n'→grwN l b n i o=grwN l b n' i o
 |0,_,_,_,_,h,_=>absurd h (Nat.not_lt_zero _)
 |_+1,0,_,_,_,_,h=>absurd h (Nat.not_lt_zero _)
 |n+1,n'+1,i,o,h0,h1,h2=>by
  unfold grwN
  by_cases hi:i<(l.length:Int)
  ·rw[zT hi,cond_true,cond_true]
   cases hc:newR o b (l.getD i.toNat d0)
   ·have:=mu_next (o:=o) h0 hi;exact grow_fuel (by omega) (by omega) (by omega)
   ·have:=mu_add h0 hi hc;exact grow_fuel (Int.le_refl 0) (by omega) (by omega)
  ·rw[zF hi];rfl
def growV (l:List Rule) (b:Bool) (i:Int) (o:Str):Str:=grwN l b (muG l i o+1) i o
theorem growV_at {l:List Rule} {b:Bool} {i:Int} {o:Str} (h0:0≤i):growV l b i o=bif decide (i<(l.length:Int))then(bif newR o b (l.getD i.toNat d0)then growV l b 0 (addS (signR (l.getD i.toNat d0)) o)else growV l b (i+1) o)else o:=by
 unfold growV
 conv=>lhs;unfold grwN
 by_cases hi:i<(l.length:Int)
 ·rw[zT hi,cond_true,cond_true]
  cases hc:newR o b (l.getD i.toNat d0)
  ·have:=mu_next (o:=o) h0 hi;exact grow_fuel (by omega) (by omega) (by omega)
  ·have:=mu_add h0 hi hc;exact grow_fuel (Int.le_refl 0) (by omega) (by omega)
 ·rw[zF hi];rfl
def okLf (l:List Rule):Bool:=decide (length l≤1000)&&List.all l fun r=>bigS r.1
def cx0_l2g:Cx:=(cb_l2g).withLoops (look [])
def sh_l2g:Sh:=([(1, .d .bool),(2, .ptr 500000 0),(5, .d .str),(6, .d TI64)],[(500000, .box 25 TG)])
def pre_l2g (_b:Bool) (o:Str) (i:Int) (g:Gram):Bool:=decide (0≤i)&&(okLf g.2&&decide (missL g.2 o+length o≤1000))
def res_l2g (b:Bool) (o:Str) (i:Int) (g:Gram) (K:Cont):Option Fin:=K (.exit 0) ⟨[(5,vS (growV g.2 b i o))],[]⟩
def mu_l2g (_b:Bool) (o:Str) (i:Int) (g:Gram):Nat:=muG g.2 i o
theorem r_l2g (b:Bool) (o:Str) (i:Int) (g:Gram) (K:Cont) (hI:pre_l2g b o i g=true):(∀R:St→Option Fin,evC cx0_l2g (loopOf Tryz.f98 0) (st_l2g b o i g) (onward (headAt cx0_l2g 3) R K)=res_l2g b o i g K) ∨
  (∃(b':Bool) (o':Str) (i':Int) (g':Gram),pre_l2g b' o' i' g'=true∧mu_l2g b' o' i' g'<mu_l2g b o i g∧res_l2g b' o' i' g' K=res_l2g b o i g K∧∀R:St→Option Fin,evC cx0_l2g (loopOf Tryz.f98 0) (st_l2g b o i g) (onward (headAt cx0_l2g 3) R K)=R (st_l2g b' o' i' g')):=by
 have hx:=fun R=>x_spec_l2Grow g o b i R K;simp only[pre_l2g,andd,dec_iff]at hI;obtain⟨h0,h1,h2⟩:=hI;obtain⟨l1,l2⟩:=andd.1 h1;have l1:=dec_iff.1 l1;have hg:=growV_at (l:=g.2) (b:=b) (o:=o) h0
 by_cases hi:i<(length g.2:Int)
 ·have w:W64 (i+1)=i+1:=wrap_small (by omega) (by omega);have w2:W64 (Int.neg 1+1)=0:=by decide
  have hmem:=getD_mem (d:=d0) (by omega:i.toNat<length g.2);have hl:inb 0 (length (getD g.2 i.toNat d0).1)=true:=by
   obtain⟨c,e,_⟩:=bigS_one (all_eq_true.1 l2 _ hmem);rw[e];rfl
  have hh:(bif !inS o (byteAt (getD g.2 i.toNat d0).1 0)then allOf o b (getD g.2 i.toNat d0).2 else false)=newR o b (getD g.2 i.toNat d0):=by
   unfold newR
   cases inS o (byteAt (getD g.2 i.toNat d0).1 0)<;>rfl
  rw[zT hi,inb_ok h0 hi,hl,hh,ble_iff.2 (by omega:length o≤1000000),w,w2]at hx;rw[zT hi,cond_true]at hg;right
  cases hc:newR o b (getD g.2 i.toNat d0)
  ·rw[hc]at hx hg;refine⟨b,o,i+1,g, ?_, ?_, ?_,fun R=>hx R⟩
   ·simp only[pre_l2g,andd,dec_iff];exact⟨by omega,h1,h2⟩
   ·simp only[mu_l2g];exact mu_next h0 hi
   ·simp only[res_l2g,hg];rfl
  ·rw[hc]at hx hg;refine⟨b,addS (signR (getD g.2 i.toNat d0)) o,0,g, ?_, ?_, ?_,fun R=>hx R⟩
   ·simp only[pre_l2g,andd,dec_iff];have:=miss_add hmem hc;have:=addS_len (c:=signR (getD g.2 i.toNat d0)) (s:=o);exact⟨Int.le_refl 0,h1,by omega⟩
   ·simp only[mu_l2g];exact mu_add h0 hi hc
   ·simp only[res_l2g,hg];rfl
 ·left;intro R;refine(hx R).trans ?_;rw[zF hi]at hg ⊢;simp only[res_l2g,hg];rfl
def g_l2g:St→Cont→Option Fin:=gP sh_l2g (fun v=>match v with | ((b,o,i,()),(g,()))=>pre_l2g b o i g) (fun v K=>match v with | ((b,o,i,()),(g,()))=>res_l2g b o i g K)
def L_l2g:LpL:=(3,g_l2g)::[]
def cx_l2g:Cx:=(cb_l2g).withLoops (look L_l2g)
theorem l_l2g {L:LpL} (n:Nat) (h1:L.drop n=[]) (h2:idsFree (L.take n) (loopOf Tryz.f98 0)=true):LoopsTo g_l2g (cb_l2g) (loopOf Tryz.f98 0) 3 L :=
 with_drop h1 h2 (gP_ok (fun v=>match v with | ((b,o,i,()),(g,()))=>mu_l2g b o i g) fun v K hI=>by
  obtain⟨⟨b,o,i,⟨⟩⟩,⟨g,⟨⟩⟩⟩:=v;exact(r_l2g b o i g K hI).imp id fun⟨b',o',i',g',h⟩=>⟨((b',o',i',()),(g',())),h⟩)
theorem y_spec_l2Grow (g:Gram) (b:Bool):evFn cx_l2g Tryz.f98 true [ofD TG g,ofD .bool b] []=(
need (pre_l2g b ([]:Str) 0 g) <| some ((vS (growV g.snd b 0 ([]:Str))),[])):=by kernel_rfl
theorem s_spec_l2Grow (g:Gram) (_hg:Fit TG g) (b:Bool) (_hb:Fit .bool b) (hpre:(okLf g.2)=true):Sat Tryz.prog 98 [ofD TG g,ofD .bool b] [] (.d (ofD .str (growV g.2 b 0 []))) [] :=
 fn_sound (cx:=cx_l2g) Tryz.func98 rfl ttOk Γ82ok mixed (fun c hc=>LoopsOk.all (l:=[(3,loopOf Tryz.f98 0)]) (by cases hc;kernel_rfl) ⟨atLoop rfl (l_l2g 1 rfl (by kernel_rfl)),trivial⟩) (ro:=true) (by
  have hm:missL g.2 []≤length g.2:=cnt_lenB;have hl:=dec_iff.1 (andd.1 hpre).1;have h:pre_l2g b ([]:Str) 0 g=true:=by
   simp only[pre_l2g,andd,dec_iff];refine⟨Int.le_refl 0,hpre, ?_⟩;show missL g.2 []+0≤1000;omega
  rw[y_spec_l2Grow,h];rfl)
def c_spec_l2Grow:Con:=conT [TG, .bool] fun(g:Gram) (b:Bool)=>(some (okLf g.2), .d (ofD .str (growV g.2 b 0 [])))
theorem k_spec_l2Grow:ConOk Tryz.prog 98 c_spec_l2Grow:=conT_ok Tryz.call98 fun g hg b hb hqq=>s_spec_l2Grow g hg b hb (pre_of hqq)
def Γ83:GL:=(98,c_spec_l2Grow)::Γ82
theorem Γ83ok:GO Γ83 := .cons k_spec_l2Grow Γ82ok
def cb_join:Cx:=cxOf Γ83 Tryz.f73.ntmps [(2,[0,1,5])] [(0,[0]),(1,[0,1,5]),(1000000,[4])] [] []
abbrev st_join (a b:Str) (i:Int):St:=⟨[(0,vS a),(1,vS b),(5,vI i)],[]⟩
theorem x_spec_l2Join (a b:Str) (i:Int) (R:St→Option Fin) (K:Cont):evC (cb_join.withLoops (look [])) (loopOf Tryz.f73 0) (st_join a b i) (onward (headAt (cb_join.withLoops (look [])) 2) R K)=(
branch (decide (i<(b.length:Int))) (
 need (inb i b.length) <|
 need (a.length.ble 1000000) <| R (st_join (addS (UInt8.ofNat (byteAt b i).toNat) a) b (W64 (i+1)))) ( K (.exit 0) (.mk [(0,vS a)] []))):=by kernel_rfl
def joinV (a b:Str):Str:=putS (fun _=>true) a b
def cx0_join:Cx:=(cb_join).withLoops (look [])
def sh_join:Sh:=([(0, .d .str),(1, .d .str),(5, .d TI64)],[])
def pre_join (a b:Str) (i:Int):Bool:=decide (0≤i)&&(Nat.ble (length b) 1000&&decide ((length a:Int)≤i+1000))
def res_join (a b:Str) (i:Int) (K:Cont):Option Fin:=K (.exit 0) ⟨[(0,vS (joinV a (b.drop i.toNat)))],[]⟩
def mu_join (_a b:Str) (i:Int):Nat:=length b-i.toNat
theorem r_join (a b:Str) (i:Int) (K:Cont) (hI:pre_join a b i=true):(∀R:St→Option Fin,evC cx0_join (loopOf Tryz.f73 0) (st_join a b i) (onward (headAt cx0_join 2) R K)=res_join a b i K) ∨
  (∃(a' b':Str) (i':Int),pre_join a' b' i'=true∧mu_join a' b' i'<mu_join a b i∧res_join a' b' i' K=res_join a b i K∧∀R:St→Option Fin,evC cx0_join (loopOf Tryz.f73 0) (st_join a b i) (onward (headAt cx0_join 2) R K)=R (st_join a' b' i')):=by
 have hx:=fun R=>x_spec_l2Join a b i R K;simp only[pre_join,andd,dec_iff,ble_iff]at hI;obtain⟨h0,h1,h2⟩:=hI
 by_cases hi:i<(b.length:Int)
 ·have hg:=put_at (p:=fun _=>true) (o:=a) h0 hi;have hby:byteAt b i=((b.getD i.toNat 0).toNat:Int):=rfl;have hu:UInt8.ofNat (byteAt b i).toNat=b.getD i.toNat 0:=by rw[hby];exact byteL_nat _
  have hol:(length a).ble 1000000=true:=ble_iff.2 (by omega);simp only[hi,decide_true,inb_ok h0 hi,branch_true,W1 h0 hi (show b.length≤big by unfold big;omega),hu,hol]at hx;right;refine⟨addS (b.getD i.toNat 0) a,b,i+1, ?_, ?_, ?_,fun R=>hx R⟩
  ·simp only[pre_join,andd,dec_iff,ble_iff];have:=addS_len (c:=b.getD i.toNat 0) (s:=a);exact⟨by omega,h1,by omega⟩
  ·simp only[mu_join];omega
  ·simp only[res_join,joinV,hg];rfl
 ·left;intro R;refine(hx R).trans ?_;simp only[hi,decide_false,branch_false,res_join];rw[drop_eq_nil_of_le (by omega)];rfl
def g_join:St→Cont→Option Fin:=gP sh_join (fun v=>match v with | ((a,b,i,()),())=>pre_join a b i) (fun v K=>match v with | ((a,b,i,()),())=>res_join a b i K)
def L_join:LpL:=(2,g_join)::[]
def cx_join:Cx:=(cb_join).withLoops (look L_join)
theorem l_join {L:LpL} (n:Nat) (h1:L.drop n=[]) (h2:idsFree (L.take n) (loopOf Tryz.f73 0)=true):LoopsTo g_join (cb_join) (loopOf Tryz.f73 0) 2 L :=
 with_drop h1 h2 (gP_ok (fun v=>match v with | ((a,b,i,()),())=>mu_join a b i) fun v K hI=>by
  obtain⟨⟨a,b,i,⟨⟩⟩,⟨⟩⟩:=v;exact(r_join a b i K hI).imp id fun⟨a',b',i',h⟩=>⟨((a',b',i',()),()),h⟩)
theorem y_spec_l2Join (a b:Str):evFn cx_join Tryz.f73 true [ofD .str a,ofD .str b] []=need (pre_join a b 0) (some (vS (joinV a b),[])):=by kernel_rfl
theorem s_spec_l2Join (a:Str) (_ha:Fit .str a) (b:Str) (_hb:Fit .str b) (hpre:(Nat.ble (length a) 1000&&Nat.ble (length b) 1000)=true):Sat Tryz.prog 73 [ofD .str a,ofD .str b] [] (.d (ofD .str (joinV a b))) [] :=
 fn_sound (cx:=cx_join) Tryz.func73 rfl ttOk Γ83ok mixed (fun c hc=>LoopsOk.all (l:=[(2,loopOf Tryz.f73 0)]) (by cases hc;kernel_rfl) ⟨atLoop rfl (l_join 1 rfl (by kernel_rfl)),trivial⟩) (ro:=true) (by
  obtain⟨h1,h2⟩:=andd.1 hpre;have h:pre_join a b 0=true:=andd.2 ⟨rfl,andd.2 ⟨h2,zT (by have:=ble_iff.1 h1;omega)⟩⟩;rw[y_spec_l2Join,h];rfl)
def c_spec_l2Join:Con:=conT [.str, .str] fun(a:Str) (b:Str)=>(some (Nat.ble (length a) 1000&&Nat.ble (length b) 1000), .d (ofD .str (joinV a b)))
theorem k_spec_l2Join:ConOk Tryz.prog 73 c_spec_l2Join:=conT_ok Tryz.call73 fun a ha b hb hqq=>s_spec_l2Join a ha b hb (pre_of hqq)
def Γ84:GL:=(73,c_spec_l2Join)::Γ83
theorem Γ84ok:GO Γ84 := .cons k_spec_l2Join Γ83ok
def cb_use:Cx:=cxOf Γ84 Tryz.f67.ntmps [(11,[2,4,6,7,8]),(4,[1,2,3,4,5])] [(2,[2,7]),(3,[2,4,6,7,8]),(0,[1,2,4]),(1,[1,2,3,4,5]),(1000000,[2])] [] []
abbrev grP (n:Nat) (s:Str):Option Obj:=some (.box 25 [.r (.v (.string (mk s))), .own n])
def metR (m:Str) (r:Rule):Bool:=inS m (byteAt r.1 0)
def useR (m:Str) (r:Rule):Bool:=bif inS m (byteAt r.1 0)then allOf m true r.2 else false
theorem filt_at {p:Rule→Bool} {l:List Rule} {i:Int} (h0:0≤i) (h1:i<(l.length:Int)):(l.drop i.toNat).filter p=(bif p (l.getD i.toNat d0)then [l.getD i.toNat d0] else [])++(l.drop (i+1).toNat).filter p:=by
 have hn:i.toNat<l.length:=by omega
 rw[drop_eq_getElem_cons hn,show (i+1).toNat=i.toNat+1 by omega,getD_at hn,List.filter_cons]
 cases p l[i.toNat]<;>rfl
theorem x_spec_l2Useful_1 (z m s t:Str) (l q:List Rule) (i:Int) (R:St→Option Fin) (K:Cont):evC (cb_use.withLoops (look [])) (loopOf Tryz.f67 1) ⟨[(2, kp0),(4, kp1),(6,vS m),(7, .d (.one (.ptr 500002 0))),(8,vI i)],[(500000,smO z),(500001,grP 500003 s),(500002,grP 500004 t),(500003,some (.lis 63 TRu l)),(500004,some (.lis 63 TRu q))]⟩ (onward (headAt (cb_use.withLoops (look [])) 11) R K)=(
branch (decide (i<(l.length:Int))) (
 need (inb i l.length) <|
 need (inb 0 (length (l.getD i.toNat d0).fst)) <|
 branch (inS m (byteAt (l.getD i.toNat d0).fst 0)) (
 need (inb i l.length) <|
 need (fits (q.length+[l.getD i.toNat d0].length) Tryz.t63.bytes) <| R (.mk [(2,kp0),(4,kp1),(6,vS m),(7,(.d (.one (.ptr 500002 0)))),(8,vI (W64 (i+1)))] [(500000,(.some (.box 25 [(.r (.v (Value.string (mk z)))),(.r (.v (Value.slice none 0 0)))]))),(500001,(.some (.box 25 [(.r (.v (Value.string (mk s)))),(.own 500003)]))),(500002,(.some (.box 25 [(.r (.v (Value.string (mk t)))),(.own 500004)]))),(500003,some (.lis 63 TRu l)),(500004,(.some (.lis 63 ty63 (q.append [l.getD i.toNat d0]))))])) ( R (.mk [(2,kp0),(4,kp1),(6,vS m),(7,(.d (.one (.ptr 500002 0)))),(8,vI (W64 (i+1)))] [(500000,(.some (.box 25 [(.r (.v (Value.string (mk z)))),(.r (.v (Value.slice none 0 0)))]))),(500001,(.some (.box 25 [(.r (.v (Value.string (mk s)))),(.own 500003)]))),(500002,(.some (.box 25 [(.r (.v (Value.string (mk t)))),(.own 500004)]))),(500003,some (.lis 63 TRu l)),(500004,some (.lis 63 TRu q))]))) ( K (.exit 2) (.mk [(2,kp0),(7,kp1)] [(500000,(.some (.box 25 [(.r (.v (Value.string (mk z)))),(.r (.v (Value.slice none 0 0)))]))),(500001,(.some (.box 25 [(.r (.v (Value.string (mk t)))),(.own 500002)]))),(500002,some (.lis 63 TRu q))]))):=by kernel_rfl
def cx0_use2:Cx:=(cb_use).withLoops (look [])
def sh_use2:Sh:=([(2, .ptr 500000 0),(4, .ptr 500001 0),(6, .d .str),(7, .ptr 500002 0),(8, .d TI64)],[(500000, .mix 25 [.d .str, .nil]),(500001, .mix 25 [.d .str, .own 500003]),(500002, .mix 25 [.d .str, .own 500004]),(500003, .lis 63 TRu),(500004, .lis 63 TRu)])
abbrev st_use2 (m:Str) (i:Int) (z s t:Str) (l q:List (Rule)):St:=⟨[(2, kp0),(4, kp1),(6,vS m),(7, .d (.one (.ptr 500002 0))),(8,vI i)],[(500000,some (.box 25 ((cellsR .str z).map C.r++[.r (.v (.slice none 0 0))]))),(500001,some (.box 25 ((cellsR .str s).map C.r++[.own 500003]))),(500002,some (.box 25 ((cellsR .str t).map C.r++[.own 500004]))),(500003,some (.lis 63 TRu l)),(500004,some (.lis 63 TRu q))]⟩
def pre_use2 (_m:Str) (i:Int) (_z _s _t:Str) (l q:List (Rule)):Bool:=decide (0≤i)&&(List.all l (fun r=>bigS r.1)&&(decide (length l≤1000)&&decide ((length q:Int)≤i)))
def res_use2 (m:Str) (i:Int) (z _s t:Str) (l q:List (Rule)) (K:Cont):Option Fin:=K (.exit 2) ⟨[(2, kp0),(7, kp1)],[(500000,smO z),(500001,grP 500002 t),(500002,some (.lis 63 TRu (q++(l.drop i.toNat).filter (metR m))))]⟩
def mu_use2 (_m:Str) (i:Int) (_z _s _t:Str) (l _q:List (Rule)):Nat:=length l-i.toNat
theorem r_use2 (m:Str) (i:Int) (z s t:Str) (l q:List (Rule)) (K:Cont) (hI:pre_use2 m i z s t l q=true):(∀R:St→Option Fin,evC cx0_use2 (loopOf Tryz.f67 1) (st_use2 m i z s t l q) (onward (headAt cx0_use2 11) R K)=res_use2 m i z s t l q K) ∨
  (∃(m':Str) (i':Int) (z' s' t':Str) (l' q':List (Rule)),pre_use2 m' i' z' s' t' l' q'=true∧mu_use2 m' i' z' s' t' l' q'<mu_use2 m i z s t l q∧res_use2 m' i' z' s' t' l' q' K=res_use2 m i z s t l q K∧∀R:St→Option Fin,evC cx0_use2 (loopOf Tryz.f67 1) (st_use2 m i z s t l q) (onward (headAt cx0_use2 11) R K)=R (st_use2 m' i' z' s' t' l' q')):=by
 have hx:=fun R=>x_spec_l2Useful_1 z m s t l q i R K;simp only[pre_use2,andd,dec_iff]at hI;obtain⟨h0,h1,h2,h3⟩:=hI
 by_cases hi:i<(l.length:Int)
 ·have hg:=filt_at (p:=metR m) h0 hi;have hmem:=getD_mem (d:=d0) (by omega:i.toNat<length l);have hl:inb 0 (length (getD l i.toNat d0).1)=true:=by
   obtain⟨c,e,_⟩:=bigS_one (all_eq_true.1 h1 _ hmem);rw[e];rfl
  have w:W64 (i+1)=i+1:=wrap_small (by omega) (by omega);rw[zT hi,inb_ok h0 hi,hl,ruleBytes,fits_ok (by rw[length_singleton];omega) (by omega),w]at hx;right
  cases hc:metR m (l.getD i.toNat d0)
  ·rw[show inS m (byteAt (l.getD i.toNat d0).1 0)=false from hc]at hx;rw[hc]at hg;refine⟨m,i+1,z,s,t,l,q, ?_, ?_, ?_,fun R=>hx R⟩
   ·simp only[pre_use2,andd,dec_iff];exact⟨by omega,h1,h2,by omega⟩
   ·simp only[mu_use2];omega
   ·simp only[res_use2,hg];rfl
  ·rw[show inS m (byteAt (l.getD i.toNat d0).1 0)=true from hc]at hx;rw[hc]at hg;refine⟨m,i+1,z,s,t,l,q++[l.getD i.toNat d0], ?_, ?_, ?_,fun R=>hx R⟩
   ·simp only[pre_use2,andd,dec_iff];rw[length_append,length_singleton];exact⟨by omega,h1,h2,by omega⟩
   ·simp only[mu_use2];omega
   ·simp only[res_use2,hg,cond_true,append_assoc]
 ·left;intro R;refine(hx R).trans ?_;rw[zF hi];simp only[res_use2];rw[drop_eq_nil_of_le (by omega),List.filter_nil,List.append_nil];rfl
def g_use2:St→Cont→Option Fin:=gP sh_use2 (fun v=>match v with | ((m,i,()),((z,()),(s,()),(t,()),l,q,()))=>pre_use2 m i z s t l q) (fun v K=>match v with | ((m,i,()),((z,()),(s,()),(t,()),l,q,()))=>res_use2 m i z s t l q K)
def L_use2:LpL:=(11,g_use2)::[]
theorem l_use2 {L:LpL} (n:Nat) (h1:L.drop n=[]) (h2:idsFree (L.take n) (loopOf Tryz.f67 1)=true):LoopsTo g_use2 (cb_use) (loopOf Tryz.f67 1) 11 L :=
 with_drop h1 h2 (gP_ok (fun v=>match v with | ((m,i,()),((z,()),(s,()),(t,()),l,q,()))=>mu_use2 m i z s t l q) fun v K hI=>by
  obtain⟨⟨m,i,⟨⟩⟩,⟨⟨z,⟨⟩⟩,⟨s,⟨⟩⟩,⟨t,⟨⟩⟩,l,q,⟨⟩⟩⟩:=v;exact(r_use2 m i z s t l q K hI).imp id fun⟨m',i',z',s',t',l',q',h⟩=>⟨((m',i',()),((z',()),(s',()),(t',()),l',q',())),h⟩)
theorem x_spec_l2Useful (g:Gram) (z m s:Str) (l:List Rule) (i:Int) (R:St→Option Fin) (K:Cont):evC (cb_use.withLoops (look L_use2)) (loopOf Tryz.f67 0) ⟨[(1, kp0),(2, kp1),(3,vS m),(4, .d (.one (.ptr 500002 0))),(5,vI i)],[(500000,some (boxD 25 TG g)),(500001,smO z),(500002,grP 500003 s),(500003,some (.lis 63 TRu l))]⟩ (onward (headAt (cb_use.withLoops (look L_use2)) 4) R K)=(
branch (decide (i<(length g.snd:Int))) (
 need (inb i (length g.snd)) <|
 need (inb 0 (length (getD g.snd i.toNat d0).fst)) <|
 need (bif decide (inS m (byteAt (getD g.snd i.toNat d0).fst 0)=true)then inb i (length g.snd)else true) <|
 branch (bif inS m (byteAt (getD g.snd i.toNat d0).fst 0)then allOf m true (getD g.snd i.toNat d0).snd else false) (
 need (inb i (length g.snd)) <|
 need (fits (l.length+[getD g.snd i.toNat d0].length) Tryz.t63.bytes) <| R (.mk [(1,kp0),(2,kp1),(3,vS m),(4,(.d (.one (.ptr 500002 0)))),(5,vI (W64 (i+1)))] [(500000,some (boxD 25 TG g)),(500001,(.some (.box 25 [(.r (.v (Value.string (mk z)))),(.r (.v (Value.slice none 0 0)))]))),(500002,(.some (.box 25 [(.r (.v (Value.string (mk s)))),(.own 500003)]))),(500003,(.some (.lis 63 ty63 (l.append [getD g.snd i.toNat d0]))))])) ( R (.mk [(1,kp0),(2,kp1),(3,vS m),(4,(.d (.one (.ptr 500002 0)))),(5,vI (W64 (i+1)))] [(500000,some (boxD 25 TG g)),(500001,(.some (.box 25 [(.r (.v (Value.string (mk z)))),(.r (.v (Value.slice none 0 0)))]))),(500002,(.some (.box 25 [(.r (.v (Value.string (mk s)))),(.own 500003)]))),(500003,some (.lis 63 TRu l))]))) ( K (.exit 0) (.mk [(1,kp0),(2,kp1),(4,(.d (.one (.ptr 500002 0))))] [(500000,some (boxD 25 TG g)),(500001,(.some (.box 25 [(.r (.v (Value.string (mk z)))),(.r (.v (Value.slice none 0 0)))]))),(500002,(.some (.box 25 [(.r (.v (Value.string (mk s)))),(.own 500003)]))),(500003,some (.lis 63 TRu l))]))):=by kernel_rfl
def cx0_use1:Cx:=(cb_use).withLoops (look L_use2)
def sh_use1:Sh:=([(1, .ptr 500000 0),(2, .ptr 500001 0),(3, .d .str),(4, .ptr 500002 0),(5, .d TI64)],[(500000, .box 25 TG),(500001, .mix 25 [.d .str, .nil]),(500002, .mix 25 [.d .str, .own 500003]),(500003, .lis 63 TRu)])
abbrev st_use1 (m:Str) (i:Int) (g:Gram) (z s:Str) (l:List (Rule)):St:=⟨[(1, kp0),(2, kp1),(3,vS m),(4, .d (.one (.ptr 500002 0))),(5,vI i)],[(500000,some (boxD 25 TG g)),(500001,some (.box 25 ((cellsR .str z).map C.r++[.r (.v (.slice none 0 0))]))),(500002,some (.box 25 ((cellsR .str s).map C.r++[.own 500003]))),(500003,some (.lis 63 TRu l))]⟩
def pre_use1 (_m:Str) (i:Int) (g:Gram) (_z _s:Str) (l:List (Rule)):Bool:=decide (0≤i)&&(List.all g.2 (fun r=>bigS r.1)&&(decide (length g.2≤1000)&&decide ((length l:Int)≤i)))
def res_use1 (m:Str) (i:Int) (g:Gram) (z s:Str) (l:List (Rule)) (K:Cont):Option Fin:=K (.exit 0) ⟨[(1, kp0),(2, kp1),(4, .d (.one (.ptr 500002 0)))],[(500000,some (boxD 25 TG g)),(500001,smO z),(500002,grP 500003 s),(500003,some (.lis 63 TRu (l++(g.2.drop i.toNat).filter (useR m))))]⟩
def mu_use1 (_m:Str) (i:Int) (g:Gram) (_z _s:Str) (_l:List (Rule)):Nat:=length g.2-i.toNat
theorem r_use1 (m:Str) (i:Int) (g:Gram) (z s:Str) (l:List (Rule)) (K:Cont) (hI:pre_use1 m i g z s l=true):(∀R:St→Option Fin,evC cx0_use1 (loopOf Tryz.f67 0) (st_use1 m i g z s l) (onward (headAt cx0_use1 4) R K)=res_use1 m i g z s l K) ∨
  (∃(m':Str) (i':Int) (g':Gram) (z' s':Str) (l':List (Rule)),pre_use1 m' i' g' z' s' l'=true∧mu_use1 m' i' g' z' s' l'<mu_use1 m i g z s l∧res_use1 m' i' g' z' s' l' K=res_use1 m i g z s l K∧∀R:St→Option Fin,evC cx0_use1 (loopOf Tryz.f67 0) (st_use1 m i g z s l) (onward (headAt cx0_use1 4) R K)=R (st_use1 m' i' g' z' s' l')):=by
 have hx:=fun R=>x_spec_l2Useful g z m s l i R K;simp only[pre_use1,andd,dec_iff]at hI;obtain⟨h0,h1,h2,h3⟩:=hI
 by_cases hi:i<(length g.2:Int)
 ·have hg:=filt_at (p:=useR m) (l:=g.2) h0 hi;have hmem:=getD_mem (d:=d0) (by omega:i.toNat<length g.2);have hl:inb 0 (length (getD g.2 i.toNat d0).1)=true:=by
   obtain⟨c,e,_⟩:=bigS_one (all_eq_true.1 h1 _ hmem);rw[e];rfl
  have w:W64 (i+1)=i+1:=wrap_small (by omega) (by omega);rw[zT hi,inb_ok h0 hi,hl,Bool.cond_self,ruleBytes,fits_ok (by rw[length_singleton];omega) (by omega),w]at hx;right
  cases hc:useR m (getD g.2 i.toNat d0)
  ·rw[show (bif inS m (byteAt (getD g.2 i.toNat d0).1 0)then allOf m true (getD g.2 i.toNat d0).2 else false)=false from hc]at hx;rw[hc]at hg;refine⟨m,i+1,g,z,s,l, ?_, ?_, ?_,fun R=>hx R⟩
   ·simp only[pre_use1,andd,dec_iff];exact⟨by omega,h1,h2,by omega⟩
   ·simp only[mu_use1];omega
   ·simp only[res_use1,hg];rfl
  ·rw[show (bif inS m (byteAt (getD g.2 i.toNat d0).1 0)then allOf m true (getD g.2 i.toNat d0).2 else false)=true from hc]at hx;rw[hc]at hg;refine⟨m,i+1,g,z,s,l++[getD g.2 i.toNat d0], ?_, ?_, ?_,fun R=>hx R⟩
   ·simp only[pre_use1,andd,dec_iff];rw[length_append,length_singleton];exact⟨by omega,h1,h2,by omega⟩
   ·simp only[mu_use1];omega
   ·simp only[res_use1,hg,cond_true,append_assoc]
 ·left;intro R;refine(hx R).trans ?_;rw[zF hi];have e:List.drop i.toNat g.2=[]:=drop_eq_nil_of_le (by omega);simp only[res_use1,e,List.filter_nil,List.append_nil];rfl
def g_use1:St→Cont→Option Fin:=gP sh_use1 (fun v=>match v with | ((m,i,()),(g,(z,()),(s,()),l,()))=>pre_use1 m i g z s l) (fun v K=>match v with | ((m,i,()),(g,(z,()),(s,()),l,()))=>res_use1 m i g z s l K)
def L_use1:LpL:=(4,g_use1)::L_use2
def cx_use1:Cx:=(cb_use).withLoops (look L_use1)
theorem l_use1 {L:LpL} (n:Nat) (h1:L.drop n=L_use2) (h2:idsFree (L.take n) (loopOf Tryz.f67 0)=true):LoopsTo g_use1 (cb_use) (loopOf Tryz.f67 0) 4 L :=
 with_drop h1 h2 (gP_ok (fun v=>match v with | ((m,i,()),(g,(z,()),(s,()),l,()))=>mu_use1 m i g z s l) fun v K hI=>by
  obtain⟨⟨m,i,⟨⟩⟩,⟨g,⟨z,⟨⟩⟩,⟨s,⟨⟩⟩,l,⟨⟩⟩⟩:=v;exact(r_use1 m i g z s l K hI).imp id fun⟨m',i',g',z',s',l',h⟩=>⟨((m',i',()),(g',(z',()),(s',()),l',())),h⟩)
theorem y_spec_l2Useful (g:Gram):evFn cx_use1 Tryz.f67 true [ofD TG g] []=(
need (okLf g.snd) <|
need (pre_use1 (growV g.snd true 0 []) 0 g ([]:Str) g.fst []) <|
need (okM (g.fst,id (List.filter (useR (growV g.snd true 0 [])) g.snd))) <|
need (pre_use2 (metG (g.fst,id (List.filter (useR (growV g.snd true 0 [])) g.snd))) 0 ([]:Str) g.fst g.fst (id (List.filter (useR (growV g.snd true 0 [])) g.snd)) []) <| some ((.d (.agg [(.r (.v (Value.string (mk g.fst)))),(.r (.li TRu (id (List.filter (metR (metG (g.fst,id (List.filter (useR (growV g.snd true 0 [])) g.snd)))) (id (id (List.filter (useR (growV g.snd true 0 [])) g.snd)))))))])),[])):=by kernel_rfl
def useX (g:Gram):List Rule:=g.2.filter (useR (growV g.2 true 0 []))
def useG (g:Gram):Gram:=(g.1,(useX g).filter (metR (metG (g.1,useX g))))
def usP (g:Gram):Bool:=bigS g.1&&(decide (length g.2≤100)&&List.all g.2 szL)
theorem usP_x {g:Gram} (h:usP g=true):okLf g.2=true∧okM (g.1,useX g)=true∧(List.all (useX g) fun r=>bigS r.1)=true∧length (useX g)≤100:=by
 unfold usP at h;rw[andd,andd,dec_iff]at h;obtain⟨h1,h2,h3⟩:=h;obtain⟨h4,h5⟩:=all_szL.1 h3;have hf:length (useX g)≤100:=Nat.le_trans (List.length_filter_le _ _) h2;have hm:∀r∈useX g,r∈g.2:=fun r hr=>(List.mem_filter.1 hr).1;refine⟨andd.2 ⟨zT (by omega),h5⟩,andd.2 ⟨h1,andd.2 ⟨ble_iff.2 (by show length (useX g)≤1000;omega),all_eq_true.2 fun r hr => ?_⟩⟩,all_eq_true.2 fun r hr=>all_eq_true.1 h5 r (hm r hr),hf⟩;obtain⟨c,e,_⟩:=bigS_one (all_eq_true.1 h5 r (hm r hr));have q:=szR_iff.1 (all_eq_true.1 h4 r (hm r hr));exact andd.2 ⟨by rw[e];rfl,ble_iff.2 (by omega)⟩
theorem s_spec_l2Useful (g:Gram) (_hg:Fit TG g) (hpre:(usP g)=true):Sat Tryz.prog 67 [ofD TG g] [] (.d (ofD TG (useG g))) [] :=
 fn_sound (cx:=cx_use1) Tryz.func67 rfl ttOk Γ84ok mixed (fun c hc=>LoopsOk.all (l:=[(4,loopOf Tryz.f67 0),(11,loopOf Tryz.f67 1)]) (by cases hc;kernel_rfl) ⟨atLoop rfl (l_use1 1 rfl (by kernel_rfl)),atLoop rfl (l_use2 2 rfl (by kernel_rfl)),trivial⟩) (ro:=true) (by
  obtain⟨h1,h2,h3,h4⟩:=usP_x hpre;have h5:=andd.1 h1;have k1:pre_use1 (growV g.2 true 0 []) 0 g ([]:Str) g.1 []=true:=by
   simp only[pre_use1,andd,dec_iff];exact⟨Int.le_refl 0,h5.2,dec_iff.1 h5.1,Int.le_refl 0⟩
  have k2:pre_use2 (metG (g.1,useX g)) 0 ([]:Str) g.1 g.1 (useX g) []=true:=by
   simp only[pre_use2,andd,dec_iff];exact⟨Int.le_refl 0,h3,by omega,Int.le_refl 0⟩
  have y:=y_spec_l2Useful g;rw[h1,k1]at y;refine y.trans ?_;show need (okM (g.1,useX g)) (need (pre_use2 (metG (g.1,useX g)) 0 ([]:Str) g.1 g.1 (useX g) []) _)=_;rw[h2,k2];rfl)
def c_spec_l2Useful:Con:=conT [TG] fun(g:Gram)=>(some (usP g), .d (ofD TG (useG g)))
theorem k_spec_l2Useful:ConOk Tryz.prog 67 c_spec_l2Useful:=conT_ok Tryz.call67 fun g hg hqq=>s_spec_l2Useful g hg (pre_of hqq)
def Γ85:GL:=(67,c_spec_l2Useful)::Γ84
theorem Γ85ok:GO Γ85 := .cons k_spec_l2Useful Γ84ok
def cb_only:Cx:=cxOf Γ85 Tryz.f68.ntmps [(8,[1,2,4,5,6,7]),(5,[1,2,4,5,6])] [(0,[4,5]),(1,[1,2,4,5,6]),(2,[1,2,4,5,6]),(3,[1,2,4,5,6,7]),(1000000,[4])] [] []
theorem x_spec_GramOnly_1 (a:List Int) (g:Gram) (z s:Str) (l:List Rule) (i k:Int) (R:St→Option Fin) (K:Cont):evC (cb_only.withLoops (look [])) (loopOf Tryz.f68 1) ⟨[(1, .d (ofD TIS a)),(2, kp0),(4, kp1),(5, .d (.one (.ptr 500002 0))),(6,vI i),(7,vI k)],[(500000,some (boxD 25 TG g)),(500001,smO z),(500002,grP 500003 s),(500003,some (.lis 63 TRu l))]⟩ (onward (headAt (cb_only.withLoops (look [])) 8) R K)=(
branch (decide (k<(a.length:Int))) (
 need (inb k a.length) <|
 branch (decide (a.getD k.toNat 0=i)) (
 need (inb i (length g.snd)) <|
 need (fits (l.length+[getD g.snd i.toNat d0].length) Tryz.t63.bytes) <| K (.exit 2) (.mk [(1,(.d (.one (.r (.li (Ty.int IntKind.i64) a))))),(2,kp0),(4,kp1),(5,(.d (.one (.ptr 500002 0)))),(6,vI i)] [(500000,some (boxD 25 TG g)),(500001,(.some (.box 25 [(.r (.v (Value.string (mk z)))),(.r (.v (Value.slice none 0 0)))]))),(500002,(.some (.box 25 [(.r (.v (Value.string (mk s)))),(.own 500003)]))),(500003,(.some (.lis 63 ty63 (l.append [getD g.snd i.toNat d0]))))])) ( R (.mk [(1,(.d (.one (.r (.li (Ty.int IntKind.i64) a))))),(2,kp0),(4,kp1),(5,(.d (.one (.ptr 500002 0)))),(6,vI i),(7,vI (W64 (k+1)))] [(500000,some (boxD 25 TG g)),(500001,(.some (.box 25 [(.r (.v (Value.string (mk z)))),(.r (.v (Value.slice none 0 0)))]))),(500002,(.some (.box 25 [(.r (.v (Value.string (mk s)))),(.own 500003)]))),(500003,some (.lis 63 TRu l))]))) ( K (.exit 2) (.mk [(1,(.d (.one (.r (.li (Ty.int IntKind.i64) a))))),(2,kp0),(4,kp1),(5,(.d (.one (.ptr 500002 0)))),(6,vI i)] [(500000,some (boxD 25 TG g)),(500001,(.some (.box 25 [(.r (.v (Value.string (mk z)))),(.r (.v (Value.slice none 0 0)))]))),(500002,(.some (.box 25 [(.r (.v (Value.string (mk s)))),(.own 500003)]))),(500003,some (.lis 63 TRu l))]))):=by kernel_rfl
def onlyL (a:List Int) (g:Gram) (i:Int):List Rule:=bif a.any (fun k=>decide (k=i))then [getD g.2 i.toNat d0] else []
theorem any_at {a:List Int} {i k:Int} (h0:0≤k) (h1:k<(a.length:Int)):(a.drop k.toNat).any (fun k=>decide (k=i))=(decide (a.getD k.toNat 0=i)||(a.drop (k+1).toNat).any fun k=>decide (k=i)):=by
 have hn:k.toNat<a.length:=by omega
 rw[drop_eq_getElem_cons hn,show (k+1).toNat=k.toNat+1 by omega,List.any_cons,zG,zE hn];rfl
def cx0_on2:Cx:=(cb_only).withLoops (look [])
def sh_on2:Sh:=([(1, .d TIS),(2, .ptr 500000 0),(4, .ptr 500001 0),(5, .ptr 500002 0),(6, .d TI64),(7, .d TI64)],[(500000, .box 25 TG),(500001, .mix 25 [.d .str, .nil]),(500002, .mix 25 [.d .str, .own 500003]),(500003, .lis 63 TRu)])
abbrev st_on2 (a:List Int) (i k:Int) (g:Gram) (z s:Str) (l:List (Rule)):St:=⟨[(1, .d (ofD TIS a)),(2, kp0),(4, kp1),(5, .d (.one (.ptr 500002 0))),(6,vI i),(7,vI k)],[(500000,some (boxD 25 TG g)),(500001,some (.box 25 ((cellsR .str z).map C.r++[.r (.v (.slice none 0 0))]))),(500002,some (.box 25 ((cellsR .str s).map C.r++[.own 500003]))),(500003,some (.lis 63 TRu l))]⟩
def pre_on2 (a:List Int) (i k:Int) (g:Gram) (_z _s:Str) (l:List (Rule)):Bool:=decide (0≤k)&&(decide (0≤i)&&(decide (i<(length g.2:Int))&&(decide (length a≤1000)&&decide (length l≤1000))))
def res_on2 (a:List Int) (i k:Int) (g:Gram) (z s:Str) (l:List (Rule)) (K:Cont):Option Fin:=K (.exit 2) ⟨[(1, .d (ofD TIS a)),(2, kp0),(4, kp1),(5, .d (.one (.ptr 500002 0))),(6,vI i)],[(500000,some (boxD 25 TG g)),(500001,smO z),(500002,grP 500003 s),(500003,some (.lis 63 TRu (l++onlyL (a.drop k.toNat) g i)))]⟩
def mu_on2 (a:List Int) (_i k:Int) (_g:Gram) (_z _s:Str) (_l:List (Rule)):Nat:=length a-k.toNat
theorem r_on2 (a:List Int) (i k:Int) (g:Gram) (z s:Str) (l:List (Rule)) (K:Cont) (hI:pre_on2 a i k g z s l=true):(∀R:St→Option Fin,evC cx0_on2 (loopOf Tryz.f68 1) (st_on2 a i k g z s l) (onward (headAt cx0_on2 8) R K)=res_on2 a i k g z s l K) ∨
  (∃(a':List Int) (i' k':Int) (g':Gram) (z' s':Str) (l':List (Rule)),pre_on2 a' i' k' g' z' s' l'=true∧mu_on2 a' i' k' g' z' s' l'<mu_on2 a i k g z s l∧res_on2 a' i' k' g' z' s' l' K=res_on2 a i k g z s l K∧∀R:St→Option Fin,evC cx0_on2 (loopOf Tryz.f68 1) (st_on2 a i k g z s l) (onward (headAt cx0_on2 8) R K)=R (st_on2 a' i' k' g' z' s' l')):=by
 have hx:=fun R=>x_spec_GramOnly_1 a g z s l i k R K;simp only[pre_on2,andd,dec_iff]at hI;obtain⟨h0,h1,h2,h3,h4⟩:=hI
 by_cases hi:k<(a.length:Int)
 ·have hg:=any_at (i:=i) h0 hi;have w:W64 (k+1)=k+1:=wrap_small (by omega) (by omega);rw[zT hi,inb_ok h0 hi,inb_ok h1 h2,ruleBytes,fits_ok (by rw[length_singleton];omega) (by omega),w]at hx
  cases hc:decide (a.getD k.toNat 0=i)
  ·rw[hc]at hx hg;right;refine⟨a,i,k+1,g,z,s,l, ?_, ?_, ?_,fun R=>hx R⟩
   ·simp only[pre_on2,andd,dec_iff];exact⟨by omega,h1,h2,h3,h4⟩
   ·simp only[mu_on2];omega
   ·simp only[res_on2,onlyL,hg,Bool.false_or]
  ·rw[hc]at hx hg;left;intro R;refine(hx R).trans ?_;simp only[res_on2,onlyL,hg,Bool.true_or];rfl
 ·left;intro R;refine(hx R).trans ?_;rw[zF hi];have e:List.drop k.toNat a=[]:=drop_eq_nil_of_le (by omega);simp only[res_on2,onlyL,e,List.any_nil,cond_false,List.append_nil];rfl
def g_on2:St→Cont→Option Fin:=gP sh_on2 (fun v=>match v with | ((a,i,k,()),(g,(z,()),(s,()),l,()))=>pre_on2 a i k g z s l) (fun v K=>match v with | ((a,i,k,()),(g,(z,()),(s,()),l,()))=>res_on2 a i k g z s l K)
def L_on2:LpL:=(8,g_on2)::[]
theorem l_on2 {L:LpL} (n:Nat) (h1:L.drop n=[]) (h2:idsFree (L.take n) (loopOf Tryz.f68 1)=true):LoopsTo g_on2 (cb_only) (loopOf Tryz.f68 1) 8 L :=
 with_drop h1 h2 (gP_ok (fun v=>match v with | ((a,i,k,()),(g,(z,()),(s,()),l,()))=>mu_on2 a i k g z s l) fun v K hI=>by
  obtain⟨⟨a,i,k,⟨⟩⟩,⟨g,⟨z,⟨⟩⟩,⟨s,⟨⟩⟩,l,⟨⟩⟩⟩:=v;exact(r_on2 a i k g z s l K hI).imp id fun⟨a',i',k',g',z',s',l',h⟩=>⟨((a',i',k',()),(g',(z',()),(s',()),l',())),h⟩)
theorem x_spec_GramOnly (a:List Int) (g:Gram) (z s:Str) (l:List Rule) (i:Int) (R:St→Option Fin) (K:Cont):evC (cb_only.withLoops (look L_on2)) (loopOf Tryz.f68 0) ⟨[(1, .d (ofD TIS a)),(2, kp0),(4, kp1),(5, .d (.one (.ptr 500002 0))),(6,vI i)],[(500000,some (boxD 25 TG g)),(500001,smO z),(500002,grP 500003 s),(500003,some (.lis 63 TRu l))]⟩ (onward (headAt (cb_only.withLoops (look L_on2)) 5) R K)=(
branch (decide (i<(length g.snd:Int))) (
 need (pre_on2 a i 0 g z s l) <| R (.mk [(1,(.d (.one (.r (.li (Ty.int IntKind.i64) a))))),(2,kp0),(4,kp1),(5,(.d (.one (.ptr 500002 0)))),(6,vI (W64 (i+1)))] [(500000,some (boxD 25 TG g)),(500001,(.some (.box 25 [(.r (.v (Value.string (mk z)))),(.r (.v (Value.slice none 0 0)))]))),(500002,(.some (.box 25 [(.r (.v (Value.string (mk s)))),(.own 500003)]))),(500003,(.some (.lis 63 TRu (l.append (onlyL a g i)))))])) ( K (.exit 0) (.mk [(4,kp0),(5,kp1)] [(500000,(.some (.box 25 [(.r (.v (Value.string (mk z)))),(.r (.v (Value.slice none 0 0)))]))),(500001,(.some (.box 25 [(.r (.v (Value.string (mk s)))),(.own 500002)]))),(500002,some (.lis 63 TRu l))]))):=by kernel_rfl
def onlyF (a:List Int) (g:Gram) (i:Int):List Rule:=(List.range' i.toNat (length g.2-i.toNat)).flatMap fun(k:Nat)=>onlyL a g (k:Int)
theorem onlyF_at {a:List Int} {g:Gram} {i:Int} (h0:0≤i) (h1:i<(length g.2:Int)):onlyF a g i=onlyL a g i++onlyF a g (i+1):=by
 unfold onlyF;rw[show length g.2-i.toNat=(length g.2-(i+1).toNat)+1 by omega,List.range'_succ,List.flatMap_cons,show (i+1).toNat=i.toNat+1 by omega,show ((i.toNat:Nat):Int)=i by omega]
theorem onlyL_len {a:List Int} {g:Gram} {i:Int}:(onlyL a g i).length≤1:=by
 unfold onlyL
 cases a.any fun k=>decide (k=i)
 ·exact Nat.zero_le _
 ·exact Nat.le_refl _
def cx0_on1:Cx:=(cb_only).withLoops (look L_on2)
def sh_on1:Sh:=([(1, .d TIS),(2, .ptr 500000 0),(4, .ptr 500001 0),(5, .ptr 500002 0),(6, .d TI64)],[(500000, .box 25 TG),(500001, .mix 25 [.d .str, .nil]),(500002, .mix 25 [.d .str, .own 500003]),(500003, .lis 63 TRu)])
abbrev st_on1 (a:List Int) (i:Int) (g:Gram) (z s:Str) (l:List (Rule)):St:=⟨[(1, .d (ofD TIS a)),(2, kp0),(4, kp1),(5, .d (.one (.ptr 500002 0))),(6,vI i)],[(500000,some (boxD 25 TG g)),(500001,some (.box 25 ((cellsR .str z).map C.r++[.r (.v (.slice none 0 0))]))),(500002,some (.box 25 ((cellsR .str s).map C.r++[.own 500003]))),(500003,some (.lis 63 TRu l))]⟩
def pre_on1 (a:List Int) (i:Int) (g:Gram) (_z _s:Str) (l:List (Rule)):Bool:=decide (0≤i)&&(decide (length a≤1000)&&(decide (length g.2≤1000)&&decide ((length l:Int)≤i)))
def res_on1 (a:List Int) (i:Int) (g:Gram) (z s:Str) (l:List (Rule)) (K:Cont):Option Fin:=K (.exit 0) ⟨[(4, kp0),(5, kp1)],[(500000,smO z),(500001,grP 500002 s),(500002,some (.lis 63 TRu (l++onlyF a g i)))]⟩
def mu_on1 (_a:List Int) (i:Int) (g:Gram) (_z _s:Str) (_l:List (Rule)):Nat:=length g.2-i.toNat
theorem r_on1 (a:List Int) (i:Int) (g:Gram) (z s:Str) (l:List (Rule)) (K:Cont) (hI:pre_on1 a i g z s l=true):(∀R:St→Option Fin,evC cx0_on1 (loopOf Tryz.f68 0) (st_on1 a i g z s l) (onward (headAt cx0_on1 5) R K)=res_on1 a i g z s l K) ∨
  (∃(a':List Int) (i':Int) (g':Gram) (z' s':Str) (l':List (Rule)),pre_on1 a' i' g' z' s' l'=true∧mu_on1 a' i' g' z' s' l'<mu_on1 a i g z s l∧res_on1 a' i' g' z' s' l' K=res_on1 a i g z s l K∧∀R:St→Option Fin,evC cx0_on1 (loopOf Tryz.f68 0) (st_on1 a i g z s l) (onward (headAt cx0_on1 5) R K)=R (st_on1 a' i' g' z' s' l')):=by
 have hx:=fun R=>x_spec_GramOnly a g z s l i R K;simp only[pre_on1,andd,dec_iff]at hI;obtain⟨h0,h1,h2,h3⟩:=hI
 by_cases hi:i<(length g.2:Int)
 ·have hg:=onlyF_at (a:=a) h0 hi;have w:W64 (i+1)=i+1:=wrap_small (by omega) (by omega);have k1:pre_on2 a i 0 g z s l=true:=by
   simp only[pre_on2,andd,dec_iff];exact⟨Int.le_refl 0,h0,hi,h1,by omega⟩
  rw[zT hi,k1,w]at hx;right;refine⟨a,i+1,g,z,s,l++onlyL a g i, ?_, ?_, ?_,fun R=>hx R⟩
  ·simp only[pre_on1,andd,dec_iff];rw[length_append];have:=onlyL_len (a:=a) (g:=g) (i:=i);exact⟨by omega,h1,h2,by omega⟩
  ·simp only[mu_on1];omega
  ·simp only[res_on1,hg,append_assoc]
 ·left;intro R;refine(hx R).trans ?_;rw[zF hi];have e:onlyF a g i=[]:=by
   unfold onlyF;rw[show length g.2-i.toNat=0 by omega];rfl
  simp only[res_on1,e,List.append_nil];rfl
def g_on1:St→Cont→Option Fin:=gP sh_on1 (fun v=>match v with | ((a,i,()),(g,(z,()),(s,()),l,()))=>pre_on1 a i g z s l) (fun v K=>match v with | ((a,i,()),(g,(z,()),(s,()),l,()))=>res_on1 a i g z s l K)
def L_on1:LpL:=(5,g_on1)::L_on2
def cx_on1:Cx:=(cb_only).withLoops (look L_on1)
theorem l_on1 {L:LpL} (n:Nat) (h1:L.drop n=L_on2) (h2:idsFree (L.take n) (loopOf Tryz.f68 0)=true):LoopsTo g_on1 (cb_only) (loopOf Tryz.f68 0) 5 L :=
 with_drop h1 h2 (gP_ok (fun v=>match v with | ((a,i,()),(g,(z,()),(s,()),l,()))=>mu_on1 a i g z s l) fun v K hI=>by
  obtain⟨⟨a,i,⟨⟩⟩,⟨g,⟨z,⟨⟩⟩,⟨s,⟨⟩⟩,l,⟨⟩⟩⟩:=v;exact(r_on1 a i g z s l K hI).imp id fun⟨a',i',g',z',s',l',h⟩=>⟨((a',i',()),(g',(z',()),(s',()),l',())),h⟩)
theorem y_spec_GramOnly (g:Gram) (a:List Int):evFn cx_on1 Tryz.f68 true [ofD TG g,ofD TIS a] []=(
branch (!okG g) ( some ((.d (.agg [(.r (.v (Value.string (mk [])))),(.r (.li ty63 ([])))])),[])) (
 need (pre_on1 a 0 g ([]:Str) g.fst []) <| some ((.d (.agg [(.r (.v (Value.string (mk g.fst)))),(.r (.li TRu (id (onlyF a g 0))))])),[]))):=by kernel_rfl
def onlyG (g:Gram) (a:List Int):Gram:=bif okG g then(g.1,onlyF a g 0)else([],[])
theorem s_spec_GramOnly (g:Gram) (_hg:Fit TG g) (a:List Int) (_ha:Fit TIS a) (hpre:(decide (length a≤1000))=true):Sat Tryz.prog 68 [ofD TG g,ofD TIS a] [] (.d (ofD TG (onlyG g a))) [] :=
 fn_sound (cx:=cx_on1) Tryz.func68 rfl ttOk Γ85ok mixed (fun c hc=>LoopsOk.all (l:=[(5,loopOf Tryz.f68 0),(8,loopOf Tryz.f68 1)]) (by cases hc;kernel_rfl) ⟨atLoop rfl (l_on1 1 rfl (by kernel_rfl)),atLoop rfl (l_on2 2 rfl (by kernel_rfl)),trivial⟩) (ro:=true) (by
  rw[y_spec_GramOnly];unfold onlyG
  cases h:okG g
  ·rfl
  ·have k:pre_on1 a 0 g ([]:Str) g.1 []=true:=by
    simp only[pre_on1,andd,dec_iff];have:=(okG_iff h).2.1;exact⟨Int.le_refl 0,of_decide_eq_true hpre,by omega,Int.le_refl 0⟩
   rw[k];rfl)
def c_spec_GramOnly:Con:=conT [TG,TIS] fun(g:Gram) (a:List Int)=>(some (decide (length a≤1000)), .d (ofD TG (onlyG g a)))
theorem k_spec_GramOnly:ConOk Tryz.prog 68 c_spec_GramOnly:=conT_ok Tryz.call68 fun g hg a ha hqq=>s_spec_GramOnly g hg a ha (pre_of hqq)
def Γ86:GL:=(68,c_spec_GramOnly)::Γ85
theorem Γ86ok:GO Γ86 := .cons k_spec_GramOnly Γ85ok
abbrev asN:List Int:=[2,3,1,0,Int.neg 1,5]
abbrev asX (l:List Int):Rd:=rdGo (drawV l).snd 1
theorem y_spec_DrawAllSame (l:List Int):evFn (cxOf Γ86 Tryz.f34.ntmps [] [(0,[2,3,5,6,7]),(1000000,[2,3,4])] [] []) Tryz.f34 true [ofD TB l] []=(
need (rdAt (gramV l).snd 10000000940000&&szG 20 (gramV l).fst) <|
need (rdOk (drawV l).snd) <|
branch (decide (pickV (drawV l).snd 4=0)) (
 need (rdAt (asX l) 10000000900000) <|
 need (rdOk (F_spec_l1Gram (asX l)).snd&&Nat.blt 0 asN.length) <| some ((.tup [(.agg [(.r (.v (Value.string (mk (gramV l).fst.fst)))),(.r (.li TRu ((gramV l).fst.snd)))]),(.agg [(.r (.v (Value.string (mk (F_spec_l1Gram (asX l)).fst.fst)))),(.r (.li TRu ((F_spec_l1Gram (asX l)).fst.snd)))]),(.one (.r (.v (Value.int IntKind.i64 (numV (F_spec_l1Gram (asX l)).snd asN)))))]),[])) (
 branch (decide (pickV (drawV l).snd 4=1)) (
 need (usP (gramV l).fst) <|
 need (rdOk (asX l)&&Nat.blt 0 asN.length) <| some ((.tup [(.agg [(.r (.v (Value.string (mk (gramV l).fst.fst)))),(.r (.li TRu ((gramV l).fst.snd)))]),(.agg [(.r (.v (Value.string (mk (useG (gramV l).fst).fst)))),(.r (.li TRu ((useG (gramV l).fst).snd)))]),(.one (.r (.v (Value.int IntKind.i64 (numV (asX l) asN)))))]),[])) (
 branch (decide (pickV (drawV l).snd 4=2)) (
  need (rdOk (asX l)&&Nat.blt 0 asN.length) <| some ((.tup [(.agg [(.r (.v (Value.string (mk (gramV l).fst.fst)))),(.r (.li TRu ((gramV l).fst.snd)))]),(.agg [(.r (.v (Value.string (mk (onlyG (gramV l).fst [0,2,3]).fst)))),(.r (.li TRu ((onlyG (gramV l).fst [0,2,3]).snd)))]),(.one (.r (.v (Value.int IntKind.i64 (numV (asX l) asN)))))]),[])) (
  need (rdOk (asX l)&&Nat.blt 0 asN.length) <| some ((.tup [(.agg [(.r (.v (Value.string (mk (gramV l).fst.fst)))),(.r (.li TRu ((gramV l).fst.snd)))]),(.agg [(.r (.v (Value.string (mk (drawV l).fst.fst)))),(.r (.li TRu ((drawV l).fst.snd)))]),(.one (.r (.v (Value.int IntKind.i64 (numV (asX l) asN)))))]),[]))))):=by kernel_rfl
theorem szG_sub {k:Nat} {g:Gram} {l:List Rule} (h:szG k g=true) (hl:length l≤k) (hs:∀r∈l,r∈g.2):szG k (g.1,l)=true:=by
 unfold szG at *;rw[andd,andd]at *;exact⟨h.1,ble_iff.2 hl,all_eq_true.2 fun r hr=>all_eq_true.1 h.2.2 r (hs r hr)⟩
theorem useG_sz {k:Nat} {g:Gram} (h:szG k g=true):szG k (useG g)=true:=by
 have hk:=h;unfold szG at hk;rw[andd,andd]at hk;refine szG_sub h (Nat.le_trans (List.length_filter_le _ _) (Nat.le_trans (List.length_filter_le _ _) (ble_iff.1 hk.2.1))) fun r hr => ?_;exact(List.mem_filter.1 (List.mem_filter.1 hr).1).1
theorem flat_len {α β:Type} {f:α→List β} (h:∀a,(f a).length≤1):∀ {l:List α},(l.flatMap f).length≤l.length
 | []=>Nat.le_refl _
 |a::l=>by
  rw[List.flatMap_cons,length_append,length_cons];have h1:=h a;have h2:=flat_len h (l:=l);omega
theorem onlyG_sz {k:Nat} {g:Gram} {a:List Int} (h:szG k g=true):szG k (onlyG g a)=true:=by
 unfold onlyG;have hk:=h;unfold szG at hk;rw[andd,andd]at hk;have hk:=ble_iff.1 hk.2.1
 cases okG g
 ·exact rfl
 ·rw[cond_true];refine szG_sub h ?_ fun r hr => ?_
  ·have:=flat_len (f:=fun (k:Nat)=>onlyL a g (k:Int)) (fun _=>onlyL_len) (l:=List.range' (0:Int).toNat (length g.2-(0:Int).toNat));rw[List.length_range']at this;unfold onlyF;omega
  ·obtain ⟨j,hj,hr⟩:=List.mem_flatMap.1 hr;have hj:=List.mem_range'_1.1 hj;unfold onlyL at hr
   revert hr
   cases a.any fun k=>decide (k=((j:Nat):Int))
   ·intro hr;cases hr
   ·intro hr;have hr:=mem_singleton.1 hr;rw[hr];exact getD_mem (by omega)
theorem asN_le {x:Rd} (h1:BY x) (h2:rdOk x=true) : -1≤numV x asN∧numV x asN≤5:=numV_le (by decide) h1 h2 (by decide)
theorem e_spec_DrawAllSame (l:List Int) (hl:Fit TB l):∃q:Gram×Gram×Int,evFn (cxOf Γ86 Tryz.f34.ntmps [] [(0,[2,3,5,6,7]),(1000000,[2,3,4])] [] []) Tryz.f34 true [ofD TB l] []=some (.tup [ofD TG q.1,ofD TG q.2.1,ofD TI64 q.2.2],[])∧(szG 20 q.1=true∧szG 20 q.2.1=true∧(-1≤q.2.2∧q.2.2≤5)):=by
 obtain⟨r,h1,h2⟩:Ok (evFn (cxOf Γ86 Tryz.f34.ntmps [] [(0,[2,3,5,6,7]),(1000000,[2,3,4])] [] []) Tryz.f34 true [ofD TB l] []) (fun r=>∃(v:Gram×Gram×Int),r=(.tup [ofD TG v.1,ofD TG v.2.1,ofD TI64 v.2.2],[])∧(szG 20 v.1=true∧szG 20 v.2.1=true∧(-1≤v.2.2∧v.2.2≤5))):=by
  obtain⟨h0,h1,h2,h3⟩:=draw_ok hl;obtain⟨_,g1,_⟩:=gram_ok hl;have g2:=gram_lef hl;have b0:BY (openV l):=byB_iff.1 (openV_by hl);have a1:Adv (openV l) (asX l) 301:=(h3.trans (Adv.one _)).le (by omega);have k1:rdOk (asX l)=true:=a1.ok (openV_at l) (by omega);have k2:rdAt (asX l) 10000000900000=true:=a1.at (openV_at l) (by omega);have f1:Fit TR (asX l):=a1.fit (openV_fit hl) (openV_at l) (by omega);obtain⟨p1,p2⟩:=p_spec_l1Gram (asX l) f1 k2;have a2:=a1.trans p2;have k3:rdOk (F_spec_l1Gram (asX l)).2=true:=a2.ok (openV_at l) (by omega);have n1:=asN_le (BY_adv a1 b0) k1;have n2:=asN_le (BY_adv a2 b0) k3;have gs:szG 20 (gramV l).1=true:=szG_le g1 (by omega);have hu:usP (gramV l).1=true:=by
   have q1:=andd.1 g2;have q2:=g1;unfold szG at q2;rw[andd,andd]at q2;exact andd.2 ⟨q1.1,andd.2 ⟨zT (Nat.le_trans (ble_iff.1 q2.2.1) (by omega)),all_szL.2 ⟨q2.2.2,q1.2⟩⟩⟩
  rw[y_spec_DrawAllSame];exact Ok.need h1 (Ok.need (h3.ok (openV_at l) (by omega)) (Ok.br (fun _=>Ok.need k2 (Ok.need (andd.2 ⟨k3,rfl⟩) (Ok.ret ⟨(_,_,_),rfl,gs,szG_le (andd.1 p1).1 (by omega),n2⟩)))
   fun _=>Ok.br (fun _=>Ok.need hu (Ok.need (andd.2 ⟨k1,rfl⟩) (Ok.ret ⟨(_,_,_),rfl,gs,useG_sz gs,n1⟩)))
   fun _=>Ok.br (fun _=>Ok.need (andd.2 ⟨k1,rfl⟩) (Ok.ret ⟨(_,_,_),rfl,gs,onlyG_sz gs,n1⟩)) fun _=>Ok.need (andd.2 ⟨k1,rfl⟩) (Ok.ret ⟨(_,_,_),rfl,gs,h2,n1⟩)))
 obtain⟨v,h2,h3⟩:=h2;exact⟨v,by rw[h1,h2],h3⟩
def F_spec_DrawAllSame (l:List Int):Gram×Gram×Int:=oneOf (fun q:Gram×Gram×Int=>evFn (cxOf Γ86 Tryz.f34.ntmps [] [(0,[2,3,5,6,7]),(1000000,[2,3,4])] [] []) Tryz.f34 true [ofD TB l] []=some (.tup [ofD TG q.1,ofD TG q.2.1,ofD TI64 q.2.2],[])∧(szG 20 q.1=true∧szG 20 q.2.1=true∧(-1≤q.2.2∧q.2.2≤5)))
theorem s_spec_DrawAllSame (l:List Int) (hl:Fit TB l):Sat Tryz.prog 34 [ofD TB l] [] (.tup [ofD TG (F_spec_DrawAllSame l).1,ofD TG (F_spec_DrawAllSame l).2.1,ofD TI64 (F_spec_DrawAllSame l).2.2]) [] :=
 fn_sound (cx:=cxOf Γ86 Tryz.f34.ntmps [] [(0,[2,3,5,6,7]),(1000000,[2,3,4])] [] []) Tryz.func34 rfl ttOk Γ86ok mixed (fun _ _=>LoopsOk.no fun _=>rfl) (ro:=true) (oneOf_spec (e_spec_DrawAllSame l hl)).1
def c_spec_DrawAllSame:Con:=conT [TB] fun(l:List Int)=>(none, .tup [ofD TG (F_spec_DrawAllSame l).1,ofD TG (F_spec_DrawAllSame l).2.1,ofD TI64 (F_spec_DrawAllSame l).2.2])
theorem k_spec_DrawAllSame:ConOk Tryz.prog 34 c_spec_DrawAllSame:=conT_ok Tryz.call34 fun l hl _=>s_spec_DrawAllSame l hl
def Γ87:GL:=(34,c_spec_DrawAllSame)::Γ86
theorem Γ87ok:GO Γ87 := .cons k_spec_DrawAllSame Γ86ok
def cb_ias:Cx:=(cxOf Γ87 Tryz.f35.ntmps [(4,[3,4,29,30,31])] [(0,[]),(1,[3,4,29,30,31]),(1000000,[6,7])] [] []).parted [1]
abbrev st_ias (l:List Str) (n i:Int) (g h:Gram):St:=⟨[(3, kp0),(4, kp1),(29, .d (ofD TSS l)),(30,vI n),(31,vI i)],[(500000,some (boxD 25 TG g)),(500001,some (boxD 25 TG h))]⟩
theorem x_impl_AllSame (g h:Gram) (l:List Str) (n i:Int) (R:St→Option Fin) (K:Cont):evC (cb_ias.withLoops (look [])) (loopOf Tryz.f35 0) (st_ias l n i g h) (onward (headAt (cb_ias.withLoops (look [])) 4) R K)=(
branch (decide (i<n)) (
 need (inb i l.length) <|
 need (okRs g.snd&&(length (l.getD i.toNat ([]:Str))).ble 1000) <|
 need (okRs h.snd&&(length (l.getD i.toNat ([]:Str))).ble 1000) <|
 branch (!decide (derB (l.getD i.toNat ([]:Str)) (chartM (l.getD i.toNat ([]:Str)) g.snd) g.fst 0 (length (l.getD i.toNat ([]:Str)):Int)=derB (l.getD i.toNat ([]:Str)) (chartM (l.getD i.toNat ([]:Str)) h.snd) h.fst 0 (length (l.getD i.toNat ([]:Str)):Int))) ( K (.ret) (.mk [(6,vS (l.getD i.toNat ([]:Str))),(7,vB true)] [])) ( R (st_ias l n (W64 (i+1)) g h))) ( K (.exit 0) (.mk [] []))):=by kernel_rfl
def diffB (g h:Gram) (w:Str):Bool := !decide (isD g w=isD h w)
def cx0_ias:Cx:=(cb_ias).withLoops (look [])
def sh_ias:Sh:=([(3, .ptr 500000 0),(4, .ptr 500001 0),(29, .d TSS),(30, .d TI64),(31, .d TI64)],[(500000, .box 25 TG),(500001, .box 25 TG)])
def pre_ias (l:List Str) (n i:Int) (g h:Gram):Bool:=decide (0≤i)&&(decide (n=(length l:Int))&&(okG g&&(okG h&&(fewS l&&decide (length l≤100000)))))
def res_ias (l:List Str) (_n i:Int) (g h:Gram) (K:Cont):Option Fin:=branch (firstD (diffB g h) (List.drop i.toNat l)).2 (K .ret ⟨[(6,vS (firstD (diffB g h) (List.drop i.toNat l)).1),(7,vB true)],[]⟩) (K (.exit 0) ⟨[],[]⟩)
def mu_ias (l:List Str) (_n i:Int) (_g _h:Gram):Nat:=length l-i.toNat
theorem r_ias (l:List Str) (n i:Int) (g h:Gram) (K:Cont) (hI:pre_ias l n i g h=true):(∀R:St→Option Fin,evC cx0_ias (loopOf Tryz.f35 0) (st_ias l n i g h) (onward (headAt cx0_ias 4) R K)=res_ias l n i g h K) ∨
  (∃(l':List Str) (n' i':Int) (g' h':Gram),pre_ias l' n' i' g' h'=true∧mu_ias l' n' i' g' h'<mu_ias l n i g h∧res_ias l' n' i' g' h' K=res_ias l n i g h K∧∀R:St→Option Fin,evC cx0_ias (loopOf Tryz.f35 0) (st_ias l n i g h) (onward (headAt cx0_ias 4) R K)=R (st_ias l' n' i' g' h')):=by
 have hx:=fun R=>x_impl_AllSame g h l n i R K;simp only[pre_ias,andd,dec_iff]at hI;obtain⟨h0,rfl,h1,h2,h3,h4⟩:=hI
 by_cases hi:i<(length l:Int)
 ·have w:W64 (i+1)=i+1:=wrap_small (by omega) (by omega);have hw:=all_eq_true.1 h3 _ (getD_mem (d:=([]:Str)) (by omega:i.toNat<length l));have hg:=dropS_at h0 hi;have kk:(okRs g.2&&(length (l.getD i.toNat ([]:Str))).ble 1000)=true:=andd.2 ⟨ok_rs h1,hw⟩;have kh:(okRs h.2&&(length (l.getD i.toNat ([]:Str))).ble 1000)=true:=andd.2 ⟨ok_rs h2,hw⟩;have ht:firstD (diffB g h) (List.drop i.toNat l)=bif diffB g h (getD l i.toNat [])then(getD l i.toNat [],true)else firstD (diffB g h) (List.drop (i+1).toNat l):=by rw[hg];rfl
  rw[zT hi,inb_ok h0 hi,kk,kh,w]at hx;change ∀R:St→Option Fin,_=branch (diffB g h (getD l i.toNat [])) _ _ at hx
  cases hc:diffB g h (getD l i.toNat [])
  ·rw[hc]at hx ht;right;refine⟨l,(length l:Int),i+1,g,h, ?_, ?_, ?_,fun R=>hx R⟩
   ·simp only[pre_ias,andd,dec_iff];exact⟨by omega,trivial,h1,h2,h3,h4⟩
   ·simp only[mu_ias];omega
   ·simp only[res_ias,ht];rfl
  ·rw[hc]at hx ht;left;intro R;refine(hx R).trans ?_;simp only[res_ias,ht];rfl
 ·left;intro R;refine(hx R).trans ?_;rw[zF hi];have e:List.drop i.toNat l=[]:=drop_eq_nil_of_le (by omega);simp only[res_ias,e];rfl
def g_ias:St→Cont→Option Fin:=gP sh_ias (fun v=>match v with | ((l,n,i,()),(g,h,()))=>pre_ias l n i g h) (fun v K=>match v with | ((l,n,i,()),(g,h,()))=>res_ias l n i g h K)
def L_ias:LpL:=(4,g_ias)::[]
def cx_ias:Cx:=(cb_ias).withLoops (look L_ias)
theorem l_ias {L:LpL} (n:Nat) (h1:L.drop n=[]) (h2:idsFree (L.take n) (loopOf Tryz.f35 0)=true):LoopsTo g_ias (cb_ias) (loopOf Tryz.f35 0) 4 L :=
 with_drop h1 h2 (gP_ok (fun v=>match v with | ((l,n,i,()),(g,h,()))=>mu_ias l n i g h) fun v K hI=>by
  obtain⟨⟨l,n,i,⟨⟩⟩,⟨g,h,⟨⟩⟩⟩:=v;exact(r_ias l n i g h K hI).imp id fun⟨l',n',i',g',h',h⟩=>⟨((l',n',i',()),(g',h',())),h⟩)
theorem y_impl_AllSame (g:Gram) (h:Gram) (n:Int):evFn cx_ias Tryz.f35 true [ofD TG g,ofD TG h,ofD TI64 n] []=(
branch (decide ((!okG g)=false)) (
 branch (decide ((bif false then true else !okG h)=false)) (
 branch (bif false then true else !isM n) ( some ((.tup [(.one (.r (.v (Value.string (mk []))))),(.one (.r (.v (Value.bool false))))]),[])) (
  need ((length (bif okG g then smallsG g else [])+length (bif okG h then smallsG h else [])).blt 50) <|
  need (decide ((length (unionV (bif okG g then smallsG g else []) (bif okG h then smallsG h else [])))≤4)&&isM n) <|
  need (pre_ias (upTo (unionV (bif okG g then smallsG g else []) (bif okG h then smallsG h else [])) n.toNat) (((upTo (unionV (bif okG g then smallsG g else []) (bif okG h then smallsG h else [])) n.toNat).length:Int)) 0 g h) <|
  branch ((firstD (diffB g h) (id (upTo (unionV (bif okG g then smallsG g else []) (bif okG h then smallsG h else [])) n.toNat))).snd) ( some ((.tup [(.one (.r (.v (Value.string (mk (firstD (diffB g h) (id (upTo (unionV (bif okG g then smallsG g else []) (bif okG h then smallsG h else [])) n.toNat))).fst))))),(.one (.r (.v (Value.bool true))))]),[])) ( some ((.tup [(.one (.r (.v (Value.string (mk []))))),(.one (.r (.v (Value.bool false))))]),[])))) ( some ((.tup [(.one (.r (.v (Value.string (mk []))))),(.one (.r (.v (Value.bool false))))]),[]))) ( some ((.tup [(.one (.r (.v (Value.string (mk []))))),(.one (.r (.v (Value.bool false))))]),[]))):=by kernel_rfl
theorem firstD_no {f:Str→Bool}:∀ {l:List Str},(firstD f l).2=false→firstD f l=([],false)
 | [],_=>rfl
 |w::l,h=>by
  unfold firstD at h ⊢
  cases hf:f w
  ·rw[hf]at h;exact firstD_no (l:=l) h
  ·rw[hf]at h;cases h
theorem both_small {g h:Gram}:∀x∈unionV (smallsG g) (smallsG h),small x=true:=fun x hx=>by
 rcases unionV_mem.1 hx with hx | hx
 ·exact (setS_mem.1 hx).2
 ·exact (setS_mem.1 hx).2
theorem both_four {g h:Gram}:(unionV (smallsG g) (smallsG h)).length≤4:=asc_len (a:=97) (b:=101) unionV_asc fun x hx=>by
 have:=both_small x hx;unfold small at this;rw[andd,ble_iff,ble_iff]at this;omega
theorem both_nodup {g h:Gram}:(unionV (smallsG g) (smallsG h)).Nodup:=(unionV_asc (a:=smallsG g) (b:=smallsG h)).imp fun hh e=>by subst e;omega
def sameG (g h:Gram) (n:Int):Str×Bool:=bif okG g&&(okG h&&isM n)then firstD (diffB g h) (upTo (unionV (smallsG g) (smallsG h)) n.toNat)else([],false)
theorem s_impl_AllSame (g:Gram) (_hg:Fit TG g) (h:Gram) (_hh:Fit TG h) (n:Int) (_hn:Fit TI64 n):Sat Tryz.prog 35 [ofD TG g,ofD TG h,ofD TI64 n] [] (.tup [ofD .str (sameG g h n).1,ofD .bool (sameG g h n).2]) [] :=
 fn_sound (cx:=cx_ias) Tryz.func35 rfl ttOk Γ87ok mixed (fun c hc=>LoopsOk.all (l:=[(4,loopOf Tryz.f35 0)]) (by cases hc;kernel_rfl) ⟨atLoop rfl (l_ias 1 rfl (by kernel_rfl)),trivial⟩) (ro:=true) (by
  rw[y_impl_AllSame];unfold sameG
  cases h1:okG g
  ·rfl
  ·cases h2:okG h
   ·rfl
   ·cases h3:isM n
    ·rfl
    ·obtain ⟨n0,n1⟩:=isM_iff.1 h3;have hl:=len_upTo (c:=unionV (smallsG g) (smallsG h)) both_four (n:=n.toNat) (by omega);have k1:(length (bif true then smallsG g else [])+length (bif true then smallsG h else [])).blt 50=true:=ble_iff.2 (by
      have:=smalls_four (g:=g);have:=smalls_four (g:=h);show(smallsG g).length+(smallsG h).length+1≤50;omega)
     have k2:decide (length (unionV (bif true then smallsG g else []) (bif true then smallsG h else []))≤4)=true:=zT both_four;have k3:pre_ias (upTo (unionV (bif true then smallsG g else []) (bif true then smallsG h else [])) n.toNat) ((upTo (unionV (bif true then smallsG g else []) (bif true then smallsG h else [])) n.toNat).length:Int) 0 g h=true:=by
      simp only[pre_ias,andd,dec_iff];exact⟨Int.le_refl 0,trivial,h1,h2,few_upTo (by omega),by show(upTo (unionV (smallsG g) (smallsG h)) n.toNat).length≤100000;omega⟩
     rw[k1,k2,k3];show branch (firstD (diffB g h) (upTo (unionV (smallsG g) (smallsG h)) n.toNat)).2 _ _=some (T.tup [ofD .str (firstD (diffB g h) (upTo (unionV (smallsG g) (smallsG h)) n.toNat)).1,ofD .bool (firstD (diffB g h) (upTo (unionV (smallsG g) (smallsG h)) n.toNat)).2],[])
     cases hd:(firstD (diffB g h) (upTo (unionV (smallsG g) (smallsG h)) n.toNat)).2
     ·rw[firstD_no hd];rfl
     ·rfl)
def c_impl_AllSame:Con:=conT [TG,TG,TI64] fun(g:Gram) (h:Gram) (n:Int)=>(none, .tup [ofD .str (sameG g h n).1,ofD .bool (sameG g h n).2])
theorem k_impl_AllSame:ConOk Tryz.prog 35 c_impl_AllSame:=conT_ok Tryz.call35 fun g hg h hh n hn _=>s_impl_AllSame g hg h hh n hn
def Γ88:GL:=(35,c_impl_AllSame)::Γ87
theorem Γ88ok:GO Γ88 := .cons k_impl_AllSame Γ87ok
def cb_sas:Cx:=(cxOf Γ88 Tryz.f36.ntmps [(5,[2,3,4,8,9])] [(0,[]),(1,[2,3,4,8,9]),(1000000,[6,7])] [] []).parted [1]
abbrev st_sas (n:Int) (c t:Str) (g h:Gram):St:=⟨[(2,vI n),(3, kp0),(4, kp1),(8,vS c),(9,vS t)],[(500000,some (boxD 25 TG g)),(500001,some (boxD 25 TG h))]⟩
theorem x_spec_AllSame (g h:Gram) (c t:Str) (n:Int) (R:St→Option Fin) (K:Cont):evC (cb_sas.withLoops (look [])) (loopOf Tryz.f36 0) (st_sas n c t g h) (onward (headAt (cb_sas.withLoops (look [])) 5) R K)=(
branch (decide ((t.length:Int)≤n)) (
 need (okG g&&t.length.ble 1000) <|
 need (okG h&&t.length.ble 1000) <|
 branch (!decide (isD g t=isD h t)) ( K (.ret) (.mk [(6,vS t),(7,vB true)] [])) (
 branch (decide (c=[])) ( K (.ret) (.mk [(6,vS []),(7,vB false)] [])) (
  need (nextP c t) <| R (st_sas n c (nextW c t) g h)))) ( K (.exit 0) (.mk [] []))):=by kernel_rfl
def cx0_sas:Cx:=(cb_sas).withLoops (look [])
def sh_sas:Sh:=([(2, .d TI64),(3, .ptr 500000 0),(4, .ptr 500001 0),(8, .d .str),(9, .d .str)],[(500000, .box 25 TG),(500001, .box 25 TG)])
def pre_sas (n:Int) (c t:Str) (g h:Gram):Bool:=okG g&&(okG h&&(decide (n≤4)&&(decide c.Nodup&&(decide (length c≤4)&&(List.all t (fun x=>decide (x∈c))&&decide (length t≤5))))))
def res_sas (n:Int) (c t:Str) (g h:Gram) (K:Cont):Option Fin:=branch (walkS (diffB g h) c n (3000-rankW c t) t).2 (K .ret ⟨[(6,vS (walkS (diffB g h) c n (3000-rankW c t) t).1),(7,vB true)],[]⟩) (branch (decide (c=[])&&decide ((length t:Int)≤n)) (K .ret ⟨[(6,vS []),(7,vB false)],[]⟩) (K (.exit 0) ⟨[],[]⟩))
def mu_sas (_n:Int) (c t:Str) (_g _h:Gram):Nat:=3000-rankW c t
theorem r_sas (n:Int) (c t:Str) (g h:Gram) (K:Cont) (hI:pre_sas n c t g h=true):(∀R:St→Option Fin,evC cx0_sas (loopOf Tryz.f36 0) (st_sas n c t g h) (onward (headAt cx0_sas 5) R K)=res_sas n c t g h K) ∨
  (∃(n':Int) (c' t':Str) (g' h':Gram),pre_sas n' c' t' g' h'=true∧mu_sas n' c' t' g' h'<mu_sas n c t g h∧res_sas n' c' t' g' h' K=res_sas n c t g h K∧∀R:St→Option Fin,evC cx0_sas (loopOf Tryz.f36 0) (st_sas n c t g h) (onward (headAt cx0_sas 5) R K)=R (st_sas n' c' t' g' h')):=by
 have hx:=fun R=>x_spec_AllSame g h c t n R K;simp only[pre_sas,andd,dec_iff]at hI;obtain⟨h1,h2,h3,h4,h5,h6,h7⟩:=hI;have ht:=allIn.1 h6;have kk:(okG g&&(length t).ble 1000)=true:=andd.2 ⟨h1,ble_iff.2 (by omega)⟩;have kh:(okG h&&(length t).ble 1000)=true:=andd.2 ⟨h2,ble_iff.2 (by omega)⟩;rw[kk,kh]at hx
 by_cases hn:(length t:Int)≤n
 ·rw[zT hn]at hx;change ∀R:St→Option Fin,_=branch (diffB g h t) _ _ at hx;have hr:=rankW_le h5 ht (by omega);obtain⟨k,hk⟩:∃k,3000-rankW c t=k+1:=⟨2999-rankW c t,by omega⟩;have hg:walkS (diffB g h) c n (k+1) t=bif diffB g h t then(t,true)else(bif decide (c=[])then([],false)else walkS (diffB g h) c n k (nextW c t)):=by
   conv=>lhs;unfold walkS
   rw[zT hn];rfl
  cases hc:diffB g h t
  ·rw[hc]at hx hg;rw[cond_false]at hg
   by_cases hc0:c=[]
   ·rw[zT hc0]at hx hg;left;intro R;refine(hx R).trans ?_;simp only[res_sas,hk,hg];rw[zT hc0,zT hn];rfl
   ·rw[zF hc0]at hx hg;rw[cond_false]at hg;change ∀R:St→Option Fin,_=need (nextP c t) _ at hx;rw[nextP_mk ht h5 h7 hc0]at hx;obtain⟨r1,r2⟩:=rankW_next h4 hc0 ht;have hl:=nextW_len (c:=c) (t:=t);have hk2:3000-rankW c (nextW c t)=k:=by omega
    right;refine⟨n,c,nextW c t,g,h, ?_, ?_, ?_,fun R=>hx R⟩
    ·simp only[pre_sas,andd,dec_iff];exact⟨h1,h2,h3,h4,h5,allIn.2 r2,by omega⟩
    ·simp only[mu_sas];omega
    ·simp only[res_sas,hk,hk2,hg];rw[zF hc0,Bool.false_and,Bool.false_and]
  ·rw[hc]at hx hg;left;intro R;refine(hx R).trans ?_;simp only[res_sas,hk,hg];rfl
 ·rw[zF hn]at hx;left;intro R;refine(hx R).trans ?_;have e:walkS (diffB g h) c n (3000-rankW c t) t=([],false):=by
   cases 3000-rankW c t with
   |zero=>rfl
   |succ k=>unfold walkS;rw[zF hn];rfl
  simp only[res_sas,e];rw[zF hn,Bool.and_false];rfl
def g_sas:St→Cont→Option Fin:=gP sh_sas (fun v=>match v with | ((n,c,t,()),(g,h,()))=>pre_sas n c t g h) (fun v K=>match v with | ((n,c,t,()),(g,h,()))=>res_sas n c t g h K)
def L_sas:LpL:=(5,g_sas)::[]
def cx_sas:Cx:=(cb_sas).withLoops (look L_sas)
theorem l_sas {L:LpL} (n:Nat) (h1:L.drop n=[]) (h2:idsFree (L.take n) (loopOf Tryz.f36 0)=true):LoopsTo g_sas (cb_sas) (loopOf Tryz.f36 0) 5 L :=
 with_drop h1 h2 (gP_ok (fun v=>match v with | ((n,c,t,()),(g,h,()))=>mu_sas n c t g h) fun v K hI=>by
  obtain⟨⟨n,c,t,⟨⟩⟩,⟨g,h,⟨⟩⟩⟩:=v;exact(r_sas n c t g h K hI).imp id fun⟨n',c',t',g',h',h⟩=>⟨((n',c',t',()),(g',h',())),h⟩)
theorem y_spec_AllSame (g:Gram) (h:Gram) (n:Int):evFn cx_sas Tryz.f36 true [ofD TG g,ofD TG h,ofD TI64 n] []=(
branch (decide ((!okG g)=false)) (
 branch (decide ((bif false then true else !okG h)=false)) (
 branch (bif false then true else !isM n) ( some ((.tup [(.one (.r (.v (Value.string (mk []))))),(.one (.r (.v (Value.bool false))))]),[])) (
  need (okG g) <|
  need (okG h) <|
  need ((length (setS (bigIs false) (signsG g))).ble 1000&&(length (setS (bigIs false) (signsG h))).ble 1000) <|
  need (pre_sas n (joinV (setS (bigIs false) (signsG g)) (setS (bigIs false) (signsG h))) ([]:Str) g h) <|
  branch ((walkS (diffB g h) (joinV (setS (bigIs false) (signsG g)) (setS (bigIs false) (signsG h))) n (3000-rankW (joinV (setS (bigIs false) (signsG g)) (setS (bigIs false) (signsG h))) ([]:Str)) ([]:Str)).snd) ( some ((.tup [(.one (.r (.v (Value.string (mk (walkS (diffB g h) (joinV (setS (bigIs false) (signsG g)) (setS (bigIs false) (signsG h))) n (3000-rankW (joinV (setS (bigIs false) (signsG g)) (setS (bigIs false) (signsG h))) ([]:Str)) ([]:Str)).fst))))),(.one (.r (.v (Value.bool true))))]),[])) (
  branch (decide (joinV (setS (bigIs false) (signsG g)) (setS (bigIs false) (signsG h))=[])&&decide ((([]:Str).length:Int)≤n)) ( some ((.tup [(.one (.r (.v (Value.string (mk []))))),(.one (.r (.v (Value.bool false))))]),[])) ( some ((.tup [(.one (.r (.v (Value.string (mk []))))),(.one (.r (.v (Value.bool false))))]),[]))))) ( some ((.tup [(.one (.r (.v (Value.string (mk []))))),(.one (.r (.v (Value.bool false))))]),[]))) ( some ((.tup [(.one (.r (.v (Value.string (mk []))))),(.one (.r (.v (Value.bool false))))]),[]))):=by kernel_rfl
theorem join_union {g h:Gram}:joinV (smallsG g) (smallsG h)=unionV (smallsG g) (smallsG h):=asc_ext (putS_asc setS_asc) unionV_asc fun c=>by
 unfold joinV;rw[putS_mem,unionV_mem];simp
theorem s_spec_AllSame (g:Gram) (_hg:Fit TG g) (h:Gram) (_hh:Fit TG h) (n:Int) (_hn:Fit TI64 n):Sat Tryz.prog 36 [ofD TG g,ofD TG h,ofD TI64 n] [] (.tup [ofD .str (sameG g h n).1,ofD .bool (sameG g h n).2]) [] :=
 fn_sound (cx:=cx_sas) Tryz.func36 rfl ttOk Γ88ok mixed (fun c hc=>LoopsOk.all (l:=[(5,loopOf Tryz.f36 0)]) (by cases hc;kernel_rfl) ⟨atLoop rfl (l_sas 1 rfl (by kernel_rfl)),trivial⟩) (ro:=true) (by
  rw[y_spec_AllSame];unfold sameG
  cases h1:okG g
  ·rfl
  ·cases h2:okG h
   ·rfl
   ·cases h3:isM n
    ·rfl
    ·obtain ⟨n0,n1⟩:=isM_iff.1 h3;have e1:setS (bigIs false) (signsG g)=smallsG g:=smalls_eq h1;have e2:setS (bigIs false) (signsG h)=smallsG h:=smalls_eq h2;have s1:=smalls_four (g:=g);have s2:=smalls_four (g:=h);have k1:((length (smallsG g)).ble 1000&&(length (smallsG h)).ble 1000)=true:=andd.2 ⟨ble_iff.2 (by omega),ble_iff.2 (by omega)⟩;have k2:pre_sas n (unionV (smallsG g) (smallsG h)) [] g h=true:=by
      simp only[pre_sas,andd,dec_iff];exact⟨h1,h2,n1,both_nodup,both_four,rfl,Nat.zero_le _⟩
     have hr:3000-rankW (unionV (smallsG g) (smallsG h)) ([]:Str)=3000:=rfl;have hw:=walkS_words (f:=diffB g h) (c:=unionV (smallsG g) (smallsG h)) both_nodup both_four (n:=n.toNat) (by omega) (k:=3000) (by omega);rw[show ((n.toNat:Nat):Int)=n by omega]at hw;rw[e1,e2,join_union,k1,k2,hr,hw];show branch (firstD (diffB g h) (upTo (unionV (smallsG g) (smallsG h)) n.toNat)).2 _ (branch _ _ _)=some (T.tup [ofD .str (firstD (diffB g h) (upTo (unionV (smallsG g) (smallsG h)) n.toNat)).1,ofD .bool (firstD (diffB g h) (upTo (unionV (smallsG g) (smallsG h)) n.toNat)).2],[])
     cases hd:(firstD (diffB g h) (upTo (unionV (smallsG g) (smallsG h)) n.toNat)).2
     ·rw[firstD_no hd]
      cases (decide (unionV (smallsG g) (smallsG h)=[])&&decide ((([]:Str).length:Int)≤n))<;>rfl
     ·rfl)
def c_spec_AllSame:Con:=conT [TG,TG,TI64] fun(g:Gram) (h:Gram) (n:Int)=>(none, .tup [ofD .str (sameG g h n).1,ofD .bool (sameG g h n).2])
theorem k_spec_AllSame:ConOk Tryz.prog 36 c_spec_AllSame:=conT_ok Tryz.call36 fun g hg h hh n hn _=>s_spec_AllSame g hg h hh n hn
def Γ89:GL:=(36,c_spec_AllSame)::Γ88
theorem Γ89ok:GO Γ89 := .cons k_spec_AllSame Γ88ok
theorem firstD_some {f:Str→Bool}:∀ {l:List Str},(firstD f l).2=true→(firstD f l).1∈l∧f (firstD f l).1=true
 | [],h=>by cases h
 |w::l,h=>by
  unfold firstD at h ⊢
  cases hf:f w
  ·rw[hf]at h;obtain⟨h1,h2⟩:=firstD_some (l:=l) h;exact⟨mem_cons_of_mem _ h1,h2⟩
  ·exact ⟨mem_cons_self,hf⟩
theorem firstD_none {f:Str→Bool} (h:∀w,f w=false):∀ {l:List Str},firstD f l=([],false)
 | []=>rfl
 |w::l=>by unfold firstD;rw[h w];exact firstD_none h
theorem same_sym {g h:Gram} {n:Int}:sameG h g n=sameG g h n:=by
 unfold sameG;have e1:unionV (smallsG h) (smallsG g)=unionV (smallsG g) (smallsG h):=asc_ext unionV_asc unionV_asc fun c=>by rw[unionV_mem,unionV_mem];exact Or.comm
 have e2:diffB h g=diffB g h:=funext fun w=>by
  unfold diffB
  cases isD g w<;>cases isD h w<;>rfl
 rw[e1,e2]
 cases okG g<;>cases okG h<;>rfl
theorem same_self {g:Gram} {n:Int}:sameG g g n=([],false):=by
 unfold sameG
 cases okG g&&(okG g&&isM n)
 ·rfl
 ·exact firstD_none fun w=>by unfold diffB;rw[zT rfl];rfl
theorem same_no {g h:Gram} {n:Int} (hs:(sameG g h n).2=false):sameG g h n=([],false):=by
 unfold sameG at hs ⊢
 cases hc:okG g&&(okG h&&isM n)
 ·rfl
 ·rw[hc]at hs;exact firstD_no hs
theorem same_some {g h:Gram} {n:Int} (hs:(sameG g h n).2=true):both2 g (sameG g h n).1=true∧both2 h (sameG g h n).1=true∧diffB g h (sameG g h n).1=true:=by
 unfold sameG at hs ⊢
 cases hc:okG g&&(okG h&&isM n)
 ·rw[hc]at hs;cases hs
 ·rw[hc]at hs;rw[cond_true];obtain⟨h1,h2⟩:=andd.1 hc;obtain⟨h2,h3⟩:=andd.1 h2;obtain⟨n0,n1⟩:=isM_iff.1 h3;obtain⟨m1,m2⟩:=firstD_some hs;obtain⟨m3,m4⟩:=mem_upTo.1 m1;have m5:areSm (firstD (diffB g h) (upTo (unionV (smallsG g) (smallsG h)) n.toNat)).1 8=true:=areSm_iff.2 ⟨by omega,all_eq_true.2 fun c hc=>both_small c (m4 c hc)⟩;unfold both2;rw[b2,b2,andd,andd];exact⟨⟨h1,m5⟩,⟨h2,m5⟩,m2⟩
theorem y_laws_FnAllSame (l:List Int):evFn (cxOf Γ89 Tryz.f10.ntmps [] [] [] []) Tryz.f10 true [ofD TB l] []=(
branch (decide (1048576<(l.length:Int))) ( some ((vB true),[])) (
 branch (bif bif bif bif !decide ((sameG (F_spec_DrawAllSame l).fst (F_spec_DrawAllSame l).snd.fst (F_spec_DrawAllSame l).snd.snd).fst=(sameG (F_spec_DrawAllSame l).fst (F_spec_DrawAllSame l).snd.fst (F_spec_DrawAllSame l).snd.snd).fst)then true else !decide ((sameG (F_spec_DrawAllSame l).fst (F_spec_DrawAllSame l).snd.fst (F_spec_DrawAllSame l).snd.snd).snd=(sameG (F_spec_DrawAllSame l).fst (F_spec_DrawAllSame l).snd.fst (F_spec_DrawAllSame l).snd.snd).snd)then true else !decide ((sameG (F_spec_DrawAllSame l).snd.fst (F_spec_DrawAllSame l).fst (F_spec_DrawAllSame l).snd.snd).fst=(sameG (F_spec_DrawAllSame l).fst (F_spec_DrawAllSame l).snd.fst (F_spec_DrawAllSame l).snd.snd).fst)then true else !decide ((sameG (F_spec_DrawAllSame l).snd.fst (F_spec_DrawAllSame l).fst (F_spec_DrawAllSame l).snd.snd).snd=(sameG (F_spec_DrawAllSame l).fst (F_spec_DrawAllSame l).snd.fst (F_spec_DrawAllSame l).snd.snd).snd)then true else(sameG (F_spec_DrawAllSame l).fst (F_spec_DrawAllSame l).fst (F_spec_DrawAllSame l).snd.snd).snd) ( some ((vB false),[])) ( some ((vB (bif bif !(sameG (F_spec_DrawAllSame l).fst (F_spec_DrawAllSame l).snd.fst (F_spec_DrawAllSame l).snd.snd).snd then decide ((sameG (F_spec_DrawAllSame l).fst (F_spec_DrawAllSame l).snd.fst (F_spec_DrawAllSame l).snd.snd).fst=[])else false then true else bif (sameG (F_spec_DrawAllSame l).fst (F_spec_DrawAllSame l).snd.fst (F_spec_DrawAllSame l).snd.snd).snd then !decide ((both2 (F_spec_DrawAllSame l).fst (sameG (F_spec_DrawAllSame l).fst (F_spec_DrawAllSame l).snd.fst (F_spec_DrawAllSame l).snd.snd).fst&&isD (F_spec_DrawAllSame l).fst (sameG (F_spec_DrawAllSame l).fst (F_spec_DrawAllSame l).snd.fst (F_spec_DrawAllSame l).snd.snd).fst)=(both2 (F_spec_DrawAllSame l).snd.fst (sameG (F_spec_DrawAllSame l).fst (F_spec_DrawAllSame l).snd.fst (F_spec_DrawAllSame l).snd.snd).fst&&isD (F_spec_DrawAllSame l).snd.fst (sameG (F_spec_DrawAllSame l).fst (F_spec_DrawAllSame l).snd.fst (F_spec_DrawAllSame l).snd.snd).fst))else false)),[])))):=by kernel_rfl
theorem s_laws_FnAllSame (l:List Int) (_hl:Fit TB l):Sat Tryz.prog 10 [ofD TB l] [] (.d (ofD .bool true)) [] :=
 fn_sound (cx:=cxOf Γ89 Tryz.f10.ntmps [] [] [] []) Tryz.func10 rfl ttOk Γ89ok mixed (fun _ _=>LoopsOk.no fun _=>rfl) (ro:=true) (by
  rw[y_laws_FnAllSame]
  generalize F_spec_DrawAllSame l=d
  obtain⟨g,h,n⟩:=d
  cases decide (1048576<(length l:Int))
  ·dsimp only;rw[same_sym (g:=g) (h:=h),same_self]
   cases hs:(sameG g h n).2
   ·have e:=same_no hs;rw[e];rfl
   ·obtain ⟨h1,h2,h3⟩:=same_some hs;rw[h1,h2,zT (rfl:(sameG g h n).1=(sameG g h n).1)];show some (vB (diffB g h (sameG g h n).1),[])=_;rw[h3];rfl
  ·rfl)
end
end Go.Proofs.YtmeiebnfmhddnaaGreatDoor.Ev
