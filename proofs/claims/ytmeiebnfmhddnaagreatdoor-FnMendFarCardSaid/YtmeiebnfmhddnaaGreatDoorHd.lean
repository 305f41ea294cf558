/-
  Words, of both sides.
-/
import Derived.Test.YtmeiebnfmhddnaaGreatDoorHb
namespace Go.Proofs.YtmeiebnfmhddnaaGreatDoor.Ev
open Go
def levW (c:Str):Nat→List Str
 |0=>[[]]
 |n+1=>(levW c n).flatMap fun w=>c.map fun x=>w++[x]
def upTo (c:Str):Nat→List Str
 |0=>[[]]
 |n+1=>upTo c n++levW c (n+1)
theorem mem_levW {c:Str}:∀ {n:Nat} {w:Str},w∈levW c n↔w.length=n∧∀x∈w,x∈c
 |0,w=>by
  unfold levW
  rw[List.mem_singleton]
  constructor
  ·rintro rfl;exact ⟨rfl,fun x hx=>by cases hx⟩
  ·rintro ⟨h,_⟩;exact List.length_eq_zero_iff.1 h
 |n+1,w=>by
  unfold levW
  rw[List.mem_flatMap]
  constructor
  ·rintro ⟨u,hu,h⟩
   obtain⟨x,hx,rfl⟩:=List.mem_map.1 h
   obtain⟨h1,h2⟩:=(mem_levW (w:=u)).1 hu
   refine⟨by rw[List.length_append,h1];rfl,fun y hy => ?_⟩
   rcases List.mem_append.1 hy with hy | hy
   ·exact h2 y hy
   ·rw[List.mem_singleton.1 hy];exact hx
  ·rintro ⟨h1,h2⟩
   obtain⟨u,x,rfl⟩:∃u x,w=u++[x]:=by
    rcases List.eq_nil_or_concat w with rfl | ⟨u,x,rfl⟩
    ·cases h1
    ·exact ⟨u,x,by rw[List.concat_eq_append]⟩
   refine⟨u,(mem_levW (w:=u)).2 ⟨by rw[List.length_append]at h1;exact Nat.succ.inj h1,fun y hy=>h2 y (List.mem_append_left _ hy)⟩,List.mem_map.2 ⟨x,h2 x (List.mem_append_right _ List.mem_cons_self),rfl⟩⟩
theorem mem_upTo {c w:Str}:∀ {n:Nat},w∈upTo c n↔w.length≤n∧∀x∈w,x∈c
 |0=>by
  show w∈levW c 0↔_
  rw[mem_levW (w:=w)]
  constructor
  ·rintro ⟨h1,h2⟩;exact ⟨by omega,h2⟩
  ·rintro ⟨h1,h2⟩;exact ⟨by omega,h2⟩
 |n+1=>by
  unfold upTo
  rw[List.mem_append,mem_upTo (n:=n),mem_levW (w:=w)]
  constructor
  ·rintro (⟨h1,h2⟩ | ⟨h1,h2⟩)
   ·exact ⟨by omega,h2⟩
   ·exact ⟨by omega,h2⟩
  ·rintro ⟨h1,h2⟩
   by_cases h:w.length=n+1
   ·exact .inr ⟨h,h2⟩
   ·exact .inl ⟨by omega,h2⟩
theorem len_levW {c:Str}:∀ {n:Nat},(levW c n).length=c.length ^ n
 |0=>rfl
 |n+1=>by
  unfold levW
  rw[List.length_flatMap]
  have:∀l:List Str,(l.map fun w=>(c.map fun x=>w++[x]).length).sum=l.length*c.length:=by
   intro l
   induction l with
   |nil=>simp
   |cons a l ih=>rw[List.map_cons,List.sum_cons,ih,List.length_map,List.length_cons,Nat.add_mul];omega
  rw[this,len_levW,Nat.pow_succ]
theorem pow_le {c n:Nat} (hc:c≤4) (hn:n≤4):c ^ n≤256:=Nat.le_trans (Nat.pow_le_pow_left hc n) (Nat.le_trans (Nat.pow_le_pow_right (by omega) hn) (by decide))
theorem len_upTo {c:Str} (hc:c.length≤4):∀ {n:Nat},n≤4→(upTo c n).length≤256*(n+1)
 |0,_=>by show 1≤_;omega
 |n+1,h=>by
  unfold upTo
  rw[List.length_append,len_levW]
  have:=pow_le hc h
  have:=len_upTo hc (n:=n) (by omega)
  omega
def takeF (f:Str→Bool):List Str→List Str→List Str
 | [],o=>o
 |w::l,o=>takeF f l (bif Nat.blt o.length 60&&f w then o++[w] else o)
theorem takeF_full {f:Str→Bool}:∀ {l o:List Str},60≤o.length→takeF f l o=o
 | [],_,_=>rfl
 |w::l,o,h=>by
  have:Nat.blt o.length 60=false:=by
   cases hb:Nat.blt o.length 60
   ·rfl
   ·have:=blt_iff.1 hb;omega
  unfold takeF
  rw[this,Bool.false_and,cond_false]
  exact takeF_full h
theorem takeF_filter {f:Str→Bool}:∀ {l o:List Str},o.length≤60→takeF f l o=List.take 60 (o++l.filter f)
 | [],o,h=>by
  show o=List.take 60 (o++[])
  rw[List.append_nil,List.take_of_length_le h]
 |w::l,o,h=>by
  unfold takeF
  cases hb:Nat.blt o.length 60
  ·have:o.length=60:=by
    by_cases h2:o.length<60
    ·rw[blt_iff.2 h2]at hb;cases hb
    ·omega
   rw[Bool.false_and,cond_false,takeF_full (by omega),List.take_append_of_le_length (by omega),List.take_of_length_le (by omega)]
  ·have:=blt_iff.1 hb
   rw[Bool.true_and]
   cases hf:f w
   ·rw[cond_false,takeF_filter h,List.filter_cons,hf];rfl
   ·rw[cond_true,takeF_filter (by rw[List.length_append];show _+1≤60;omega),List.filter_cons,hf,List.append_assoc];rfl
def wordsV (f:Str→Bool) (c:Str) (n:Nat):List Str:=List.take 60 ((upTo c n).filter f)
theorem mem_words {f:Str→Bool} {c:Str} {n:Nat} {w:Str} (h:w∈wordsV f c n):f w=true∧w.length≤n∧∀x∈w,x∈c:=by
 have h:=List.mem_filter.1 (List.mem_of_mem_take h)
 exact⟨h.2,mem_upTo.1 h.1⟩
theorem len_words {f:Str→Bool} {c:Str} {n:Nat}:(wordsV f c n).length≤60:=by
 unfold wordsV
 rw[List.length_take];omega
theorem asc_len {b:Nat}:∀ {s:Str} {a:Nat},s.Pairwise (fun a b=>a.toNat<b.toNat)→(∀x∈s,a≤x.toNat∧x.toNat<b)→s.length≤b-a
 | [],_,_,_=>Nat.zero_le _
 |x::s,a,h,h1=>by
  obtain⟨h2,h3⟩:=List.pairwise_cons.1 h
  obtain⟨h4,h5⟩:=h1 x List.mem_cons_self
  have:=asc_len (a:=x.toNat+1) h3 fun y hy=>⟨h2 y hy,(h1 y (List.mem_cons_of_mem _ hy)).2⟩
  rw[List.length_cons];omega
def isM (n:Int):Bool:=decide (0≤n)&&decide (n≤4)
theorem s_impl_isMost (n:Int) (_hn:Fit TI64 n):Sat Tryz.prog 50 [ofD TI64 n] [] (.d (ofD .bool (isM n))) [] :=
 fn_sound (cx:=cxOf Γ80 Tryz.f50.ntmps [] [] [] []) Tryz.func50 rfl ttOk Γ80ok mixed (fun _ _=>LoopsOk.no fun _=>rfl) (ro:=true) (by
  have y:evFn (cxOf Γ80 Tryz.f50.ntmps [] [] [] []) Tryz.f50 true [ofD TI64 n] []=some (vB (bif decide (0≤n)then decide (n≤4)else false),[]):=by kernel_rfl
  rw[y,b2];rfl)
noncomputable def c_impl_isMost:Con:=conT [TI64] fun(n:Int)=>(none, .d (ofD .bool (isM n)))
theorem k_impl_isMost:ConOk Tryz.prog 50 c_impl_isMost:=conT_ok Tryz.call50 fun n hn _=>s_impl_isMost n hn
noncomputable def Γ81:List (Nat×Con):=(50,c_impl_isMost)::Γ80
theorem Γ81ok:EnvOk Tryz.prog (look Γ81) := .cons k_impl_isMost Γ80ok
noncomputable def cb_wu:Cx:=cxOf Γ81 Tryz.f51.ntmps [(10,[0,5,7,9,13,14,17,18,19,24,25]),(7,[0,5,7,13,14,17,18,19]),(4,[0,5,6,13,14])] [(0,[5]),(1,[0,5,6,13,14]),(2,[0,5,7,13,14]),(3,[0,5,7,13,14,17,18,19]),(4,[0,5,7,13,14,17,18,19]),(5,[0,5,7,9,13,14,17,18,19,24,25]),(1000000,[4])] [] []
abbrev wuH (o q l:List Str):Heap:=[(500000,some (.lis 9 .str o)),(500001,some (.lis 9 .str q)),(500002,some (.lis 9 .str l))]
theorem strFits {n:Nat} (h:n≤1000000):fits n Tryz.t9.bytes=true:=by
 rw[show Tryz.t9.bytes=16 by kernel_rfl]
 exact decide_eq_true (by omega)
theorem x_impl_wordsUpTo_2 (c w:Str) (o q l:List Str) (n x m y p z:Int) (R:St→Option Fin) (K:Cont):evC (cb_wu.withLoops (look [])) (loopOf Tryz.f51 2) ⟨[(0,vS c),(5, .d (.one (.own 500000))),(7, .d (.one (.own 500001))),(9,vS w),(13,vI n),(14,vI x),(17, .d (.one (.own 500002))),(18,vI m),(19,vI y),(24,vI p),(25,vI z)],wuH o q l⟩ (onward (headAt (cb_wu.withLoops (look [])) 10) R K)=(
branch (decide (z<p)) (
 need (inr z (W64 (z+1)) c.length) <|
 need (decide ((List.length w+(List.take ((W64 (z+1)).toNat-z.toNat) (List.drop z.toNat c)).length)≤9223372036854775807)) <|
 need (fits (q.length+[List.append w (List.take ((W64 (z+1)).toNat-z.toNat) (List.drop z.toNat c))].length) Tryz.t9.bytes) <| R (.mk [(0,(vS c)),(5,(.d (.one (.own 500000)))),(7,(.d (.one (.own 500001)))),(9,(vS w)),(13,(vI n)),(14,(vI x)),(17,(.d (.one (.own 500002)))),(18,(vI m)),(19,(vI y)),(24,(vI p)),(25,(vI (W64 (z+1))))] [(500000,(.some (.lis 9 (Ty.str) o))),(500001,(.some (.lis 9 ty9 (q.append [List.append w (List.take ((W64 (z+1)).toNat-z.toNat) (List.drop z.toNat c))])))),(500002,(.some (.lis 9 (Ty.str) l)))])) ( K (.exit 4) (.mk [(0,(vS c)),(5,(.d (.one (.own 500000)))),(7,(.d (.one (.own 500001)))),(13,(vI n)),(14,(vI x)),(17,(.d (.one (.own 500002)))),(18,(vI m)),(19,(vI y))] [(500000,(.some (.lis 9 (Ty.str) o))),(500001,(.some (.lis 9 (Ty.str) q))),(500002,(.some (.lis 9 (Ty.str) l)))]))):=by kernel_rfl
noncomputable def cx0_w3:Cx:=(cb_wu).withLoops (look [])
def sh_w3:Sh:=([(0, .d .str),(5, .own 500000),(7, .own 500001),(9, .d .str),(13, .d TI64),(14, .d TI64),(17, .own 500002),(18, .d TI64),(19, .d TI64),(24, .d TI64),(25, .d TI64)],[(500000, .lis 9 .str),(500001, .lis 9 .str),(500002, .lis 9 .str)])
abbrev st_w3 (c w:Str) (n x m y p z:Int) (o q l:List (Str)):St:=⟨[(0, .d (ofD .str c)),(5, .d (.one (.own 500000))),(7, .d (.one (.own 500001))),(9, .d (ofD .str w)),(13, .d (ofD TI64 n)),(14, .d (ofD TI64 x)),(17, .d (.one (.own 500002))),(18, .d (ofD TI64 m)),(19, .d (ofD TI64 y)),(24, .d (ofD TI64 p)),(25, .d (ofD TI64 z))],[(500000,some (.lis 9 .str o)),(500001,some (.lis 9 .str q)),(500002,some (.lis 9 .str l))]⟩
def pre_w3 (c w:Str) (_n _x _m _y p z:Int) (_o q _l:List (Str)):Bool:=decide (0≤z)&&(decide (p=(List.length c:Int))&&(decide (List.length c≤1000)&&(decide (List.length w≤1000)&&decide ((List.length q:Int)≤100000+z))))
noncomputable def res_w3 (c w:Str) (n x m y _p z:Int) (o q l:List (Str)) (K:Cont):Option Fin:=K (.exit 4) ⟨[(0,vS c),(5, .d (.one (.own 500000))),(7, .d (.one (.own 500001))),(13,vI n),(14,vI x),(17, .d (.one (.own 500002))),(18,vI m),(19,vI y)],wuH o (q++(List.drop z.toNat c).map fun e=>w++[e]) l⟩
def mu_w3 (c _w:Str) (_n _x _m _y _p z:Int) (_o _q _l:List (Str)):Nat:=List.length c-z.toNat
theorem r_w3 (c w:Str) (n x m y p z:Int) (o q l:List (Str)) (K:Cont) (hI:pre_w3 c w n x m y p z o q l=true):(∀R:St→Option Fin,evC cx0_w3 (loopOf Tryz.f51 2) (st_w3 c w n x m y p z o q l) (onward (headAt cx0_w3 10) R K)=res_w3 c w n x m y p z o q l K) ∨
  (∃(c' w':Str) (n' x' m' y' p' z':Int) (o' q' l':List (Str)),pre_w3 c' w' n' x' m' y' p' z' o' q' l'=true∧mu_w3 c' w' n' x' m' y' p' z' o' q' l'<mu_w3 c w n x m y p z o q l∧res_w3 c' w' n' x' m' y' p' z' o' q' l' K=res_w3 c w n x m y p z o q l K∧∀R:St→Option Fin,evC cx0_w3 (loopOf Tryz.f51 2) (st_w3 c w n x m y p z o q l) (onward (headAt cx0_w3 10) R K)=R (st_w3 c' w' n' x' m' y' p' z' o' q' l')):=by
 have hx:=fun R=>x_impl_wordsUpTo_2 c w o q l n x m y p z R K
 simp only[pre_w3,andd,dec_iff]at hI
 obtain⟨h0,rfl,h1,h2,h3⟩:=hI
 by_cases hz:z<(List.length c:Int)
 ·have w1:W64 (z+1)=z+1:=wrap_small (by omega) (by omega)
  have hn:z.toNat<List.length c:=by omega
  have hd:List.drop z.toNat c=List.getD c z.toNat 0::List.drop (z+1).toNat c:=by
   rw[List.drop_eq_getElem_cons hn,show (z+1).toNat=z.toNat+1 by omega,List.getD_eq_getElem?_getD,List.getElem?_eq_getElem hn];rfl
  rw[decide_eq_true hz,w1,inr_iff.2 (by omega:0≤z∧z≤z+1∧z+1≤(List.length c:Int)),slice_one h0 hz,strFits (by rw[List.length_singleton];omega),decide_eq_true (by rw[List.length_singleton];omega:List.length w+List.length [List.getD c z.toNat 0]≤9223372036854775807)]at hx
  right
  refine⟨c,w,n,x,m,y,(List.length c:Int),z+1,o,q++[w++[List.getD c z.toNat 0]],l, ?_, ?_, ?_,fun R=>hx R⟩
  ·simp only[pre_w3,andd,dec_iff]
   rw[List.length_append,List.length_singleton]
   exact⟨by omega,trivial,h1,h2,by omega⟩
  ·simp only[mu_w3];omega
  ·simp only[res_w3,hd,List.map_cons,List.append_assoc];rfl
 ·left
  intro R
  refine(hx R).trans ?_
  rw[decide_eq_false hz]
  have e:List.drop z.toNat c=[]:=List.drop_eq_nil_of_le (by omega)
  simp only[res_w3,e,List.map_nil,List.append_nil];rfl
noncomputable def g_w3:St→Cont→Option Fin:=gP sh_w3 (fun v=>match v with | ((c,w,n,x,m,y,p,z,()),(o,q,l,()))=>pre_w3 c w n x m y p z o q l) (fun v K=>match v with | ((c,w,n,x,m,y,p,z,()),(o,q,l,()))=>res_w3 c w n x m y p z o q l K)
noncomputable def L_w3:List (Nat×(St→Cont→Option Fin)):=(10,g_w3)::[]
theorem l_w3 {L:List (Nat×(St→Cont→Option Fin))} (n:Nat) (h1:L.drop n=[]) (h2:idsFree (L.take n) (loopOf Tryz.f51 2)=true):∀st K r,g_w3 st K=some r→∃N,iter (evC ((cb_wu).withLoops (look L)) (loopOf Tryz.f51 2)) (headAt ((cb_wu).withLoops (look L)) 10) N st K=some r :=
 with_drop h1 h2 (gP_ok (fun v=>match v with | ((c,w,n,x,m,y,p,z,()),(o,q,l,()))=>mu_w3 c w n x m y p z o q l) fun v K hI=>by
  obtain⟨⟨(c:Str),(w:Str),(n:Int),(x:Int),(m:Int),(y:Int),(p:Int),(z:Int),⟨⟩⟩,⟨(o:List (Str)),(q:List (Str)),(l:List (Str)),⟨⟩⟩⟩:=v
  rcases r_w3 c w n x m y p z o q l K hI with h1 | ⟨c',w',n',x',m',y',p',z',o',q',l',h1,h2,h3,h4⟩
  ·exact .inl h1
  ·exact .inr ⟨((c',w',n',x',m',y',p',z',()),(o',q',l',())),h1,h2,h3,h4⟩)
theorem x_impl_wordsUpTo_1 (c:Str) (o q l:List Str) (n x m y:Int) (R:St→Option Fin) (K:Cont):evC (cb_wu.withLoops (look L_w3)) (loopOf Tryz.f51 1) ⟨[(0,vS c),(5, .d (.one (.own 500000))),(7, .d (.one (.own 500001))),(13,vI n),(14,vI x),(17, .d (.one (.own 500002))),(18,vI m),(19,vI y)],wuH o q l⟩ (onward (headAt (cb_wu.withLoops (look L_w3)) 7) R K)=(
branch (decide (y<m)) (
 need (inb y l.length) <|
 need (pre_w3 c (l.getD y.toNat ([]:Str)) n x m y ((c.length:Int)) 0 o q l) <| R (.mk [(0,(vS c)),(5,(.d (.one (.own 500000)))),(7,(.d (.one (.own 500001)))),(13,(vI n)),(14,(vI x)),(17,(.d (.one (.own 500002)))),(18,(vI m)),(19,(vI (W64 (y+1))))] [(500000,(.some (.lis 9 (Ty.str) o))),(500001,(.some (.lis 9 (Ty.str) (q.append (List.map (fun e=>List.append (l.getD y.toNat ([]:Str)) [e]) c))))),(500002,(.some (.lis 9 (Ty.str) l)))])) ( K (.exit 2) (.mk [(0,(vS c)),(5,(.d (.one (.own 500000)))),(7,(.d (.one (.own 500001)))),(13,(vI n)),(14,(vI x))] [(500000,(.some (.lis 9 (Ty.str) o))),(500001,(.some (.lis 9 (Ty.str) q)))]))):=by kernel_rfl
theorem flat_at {f:Str→List Str} {l:List Str} {i:Int} (h0:0≤i) (h1:i<(l.length:Int)):(l.drop i.toNat).flatMap f=f (l.getD i.toNat [])++(l.drop (i+1).toNat).flatMap f:=by
 have hn:i.toNat<l.length:=by omega
 rw[List.drop_eq_getElem_cons hn,List.flatMap_cons,show (i+1).toNat=i.toNat+1 by omega,getD_at hn]
noncomputable def cx0_w2:Cx:=(cb_wu).withLoops (look L_w3)
def sh_w2:Sh:=([(0, .d .str),(5, .own 500000),(7, .own 500001),(13, .d TI64),(14, .d TI64),(17, .own 500002),(18, .d TI64),(19, .d TI64)],[(500000, .lis 9 .str),(500001, .lis 9 .str),(500002, .lis 9 .str)])
abbrev st_w2 (c:Str) (n x m y:Int) (o q l:List (Str)):St:=⟨[(0, .d (ofD .str c)),(5, .d (.one (.own 500000))),(7, .d (.one (.own 500001))),(13, .d (ofD TI64 n)),(14, .d (ofD TI64 x)),(17, .d (.one (.own 500002))),(18, .d (ofD TI64 m)),(19, .d (ofD TI64 y))],[(500000,some (.lis 9 .str o)),(500001,some (.lis 9 .str q)),(500002,some (.lis 9 .str l))]⟩
def pre_w2 (c:Str) (_n _x m y:Int) (_o q l:List (Str)):Bool:=decide (0≤y)&&(decide (m=(List.length l:Int))&&(decide (List.length c≤4)&&(decide (List.length l≤1000)&&(List.all l (fun e=>decide (List.length e≤1000))&&decide ((List.length q:Int)≤4*y)))))
noncomputable def res_w2 (c:Str) (n x _m y:Int) (o q l:List (Str)) (K:Cont):Option Fin:=K (.exit 2) ⟨[(0,vS c),(5, .d (.one (.own 500000))),(7, .d (.one (.own 500001))),(13,vI n),(14,vI x)],[(500000,some (.lis 9 .str o)),(500001,some (.lis 9 .str (q++(List.drop y.toNat l).flatMap fun w=>c.map fun e=>w++[e])))]⟩
def mu_w2 (_c:Str) (_n _x _m y:Int) (_o _q l:List (Str)):Nat:=List.length l-y.toNat
theorem r_w2 (c:Str) (n x m y:Int) (o q l:List (Str)) (K:Cont) (hI:pre_w2 c n x m y o q l=true):(∀R:St→Option Fin,evC cx0_w2 (loopOf Tryz.f51 1) (st_w2 c n x m y o q l) (onward (headAt cx0_w2 7) R K)=res_w2 c n x m y o q l K) ∨
  (∃(c':Str) (n' x' m' y':Int) (o' q' l':List (Str)),pre_w2 c' n' x' m' y' o' q' l'=true∧mu_w2 c' n' x' m' y' o' q' l'<mu_w2 c n x m y o q l∧res_w2 c' n' x' m' y' o' q' l' K=res_w2 c n x m y o q l K∧∀R:St→Option Fin,evC cx0_w2 (loopOf Tryz.f51 1) (st_w2 c n x m y o q l) (onward (headAt cx0_w2 7) R K)=R (st_w2 c' n' x' m' y' o' q' l')):=by
 have hx:=fun R=>x_impl_wordsUpTo_1 c o q l n x m y R K
 simp only[pre_w2,andd,dec_iff]at hI
 obtain⟨h0,rfl,h1,h2,h3,h4⟩:=hI
 by_cases hz:y<(List.length l:Int)
 ·have w1:W64 (y+1)=y+1:=wrap_small (by omega) (by omega)
  have hn:y.toNat<List.length l:=by omega
  have hw:=of_decide_eq_true (List.all_eq_true.1 h3 _ (getD_mem (d:=([]:Str)) hn))
  have hg:=flat_at (f:=fun w=>c.map fun e=>w++[e]) h0 hz
  have kp:pre_w3 c (List.getD l y.toNat []) n x (List.length l:Int) y (List.length c:Int) 0 o q l=true:=by
   simp only[pre_w3,andd,dec_iff]
   exact⟨Int.le_refl 0,trivial,by omega,hw,by omega⟩
  rw[decide_eq_true hz,inb_ok h0 hz,w1,kp]at hx
  right
  refine⟨c,n,x,(List.length l:Int),y+1,o,q++c.map (fun e=>List.getD l y.toNat []++[e]),l, ?_, ?_, ?_,fun R=>hx R⟩
  ·simp only[pre_w2,andd,dec_iff]
   rw[List.length_append,List.length_map]
   exact⟨by omega,trivial,h1,h2,h3,by omega⟩
  ·simp only[mu_w2];omega
  ·simp only[res_w2,hg,List.append_assoc]
 ·left
  intro R
  refine(hx R).trans ?_
  rw[decide_eq_false hz]
  have e:List.drop y.toNat l=[]:=List.drop_eq_nil_of_le (by omega)
  simp only[res_w2,e,List.flatMap_nil,List.append_nil];rfl
noncomputable def g_w2:St→Cont→Option Fin:=gP sh_w2 (fun v=>match v with | ((c,n,x,m,y,()),(o,q,l,()))=>pre_w2 c n x m y o q l) (fun v K=>match v with | ((c,n,x,m,y,()),(o,q,l,()))=>res_w2 c n x m y o q l K)
noncomputable def L_w2:List (Nat×(St→Cont→Option Fin)):=(7,g_w2)::L_w3
theorem l_w2 {L:List (Nat×(St→Cont→Option Fin))} (n:Nat) (h1:L.drop n=L_w3) (h2:idsFree (L.take n) (loopOf Tryz.f51 1)=true):∀st K r,g_w2 st K=some r→∃N,iter (evC ((cb_wu).withLoops (look L)) (loopOf Tryz.f51 1)) (headAt ((cb_wu).withLoops (look L)) 7) N st K=some r :=
 with_drop h1 h2 (gP_ok (fun v=>match v with | ((c,n,x,m,y,()),(o,q,l,()))=>mu_w2 c n x m y o q l) fun v K hI=>by
  obtain⟨⟨(c:Str),(n:Int),(x:Int),(m:Int),(y:Int),⟨⟩⟩,⟨(o:List (Str)),(q:List (Str)),(l:List (Str)),⟨⟩⟩⟩:=v
  rcases r_w2 c n x m y o q l K hI with h1 | ⟨c',n',x',m',y',o',q',l',h1,h2,h3,h4⟩
  ·exact .inl h1
  ·exact .inr ⟨((c',n',x',m',y',()),(o',q',l',())),h1,h2,h3,h4⟩)
theorem x_impl_wordsUpTo (c:Str) (o l:List Str) (n x:Int) (R:St→Option Fin) (K:Cont):evC (cb_wu.withLoops (look L_w2)) (loopOf Tryz.f51 0) ⟨[(0,vS c),(5, .d (.one (.own 500000))),(6, .d (.one (.own 500001))),(13,vI n),(14,vI x)],[(500000,some (.lis 9 .str o)),(500001,some (.lis 9 .str l))]⟩ (onward (headAt (cb_wu.withLoops (look L_w2)) 4) R K)=(
branch (decide (x<n)) (
 need (pre_w2 c n x ((l.length:Int)) 0 o [] l) <|
 need (fits (o.length+(id (List.flatMap (fun w=>List.map (fun e=>w.append [e]) c) l)).length) Tryz.t9.bytes) <| R (.mk [(0,(vS c)),(5,(.d (.one (.own 500000)))),(6,(.d (.one (.own 500001)))),(13,(vI n)),(14,(vI (W64 (x+1))))] [(500000,(.some (.lis 9 ty9 (o.append (id (List.flatMap (fun w=>List.map (fun e=>w.append [e]) c) l)))))),(500001,(.some (.lis 9 (Ty.str) (id (List.flatMap (fun w=>List.map (fun e=>w.append [e]) c) l)))))])) ( K (.exit 0) (.mk [(5,(.d (.one (.own 500000))))] [(500000,(.some (.lis 9 (Ty.str) o)))]))):=by kernel_rfl
def tailW (c:Str):Nat→Nat→List Str
 |_,0=>[]
 |x,k+1=>levW c (x+1)++tailW c (x+1) k
theorem tailW_eq {c:Str}:∀ {k x:Nat},upTo c x++tailW c x k=upTo c (x+k)
 |0,_=>List.append_nil _
 |k+1,x=>by
  unfold tailW
  rw[← List.append_assoc,show upTo c x++levW c (x+1)=upTo c (x+1)from rfl,tailW_eq,show x+1+k=x+(k+1)by omega]
noncomputable def cx0_w1:Cx:=(cb_wu).withLoops (look L_w2)
def sh_w1:Sh:=([(0, .d .str),(5, .own 500000),(6, .own 500001),(13, .d TI64),(14, .d TI64)],[(500000, .lis 9 .str),(500001, .lis 9 .str)])
abbrev st_w1 (c:Str) (n x:Int) (o l:List (Str)):St:=⟨[(0, .d (ofD .str c)),(5, .d (.one (.own 500000))),(6, .d (.one (.own 500001))),(13, .d (ofD TI64 n)),(14, .d (ofD TI64 x))],[(500000,some (.lis 9 .str o)),(500001,some (.lis 9 .str l))]⟩
def pre_w1 (c:Str) (n x:Int) (o l:List (Str)):Bool:=decide (0≤x)&&(decide (n≤4)&&(decide (List.length c≤4)&&(decide (l=levW c x.toNat)&&decide ((List.length o:Int)≤300*(x+1)))))
noncomputable def res_w1 (c:Str) (n x:Int) (o _l:List (Str)) (K:Cont):Option Fin:=K (.exit 0) ⟨[(5, .d (.one (.own 500000)))],[(500000,some (.lis 9 .str (o++tailW c x.toNat (n-x).toNat)))]⟩
def mu_w1 (_c:Str) (n x:Int) (_o _l:List (Str)):Nat:=(n-x).toNat
theorem r_w1 (c:Str) (n x:Int) (o l:List (Str)) (K:Cont) (hI:pre_w1 c n x o l=true):(∀R:St→Option Fin,evC cx0_w1 (loopOf Tryz.f51 0) (st_w1 c n x o l) (onward (headAt cx0_w1 4) R K)=res_w1 c n x o l K) ∨
  (∃(c':Str) (n' x':Int) (o' l':List (Str)),pre_w1 c' n' x' o' l'=true∧mu_w1 c' n' x' o' l'<mu_w1 c n x o l∧res_w1 c' n' x' o' l' K=res_w1 c n x o l K∧∀R:St→Option Fin,evC cx0_w1 (loopOf Tryz.f51 0) (st_w1 c n x o l) (onward (headAt cx0_w1 4) R K)=R (st_w1 c' n' x' o' l')):=by
 have hx:=fun R=>x_impl_wordsUpTo c o l n x R K
 simp only[pre_w1,andd,dec_iff]at hI
 obtain⟨h0,h1,h2,rfl,h3⟩:=hI
 by_cases hz:x<n
 ·have w1:W64 (x+1)=x+1:=wrap_small (by omega) (by omega)
  have hl:(levW c x.toNat).length≤256:=by rw[len_levW];exact pow_le h2 (by omega)
  have hl2:(levW c (x.toNat+1)).length≤256:=by rw[len_levW];exact pow_le h2 (by omega)
  obtain⟨k,hk⟩:∃k,(n-x).toNat=k+1:=⟨(n-x).toNat-1,by omega⟩
  have hk2:(n-(x+1)).toNat=k:=by omega
  have hx1:(x+1).toNat=x.toNat+1:=by omega
  have kp:pre_w2 c n x ((levW c x.toNat).length:Int) 0 o [] (levW c x.toNat)=true:=by
   simp only[pre_w2,andd,dec_iff]
   refine⟨Int.le_refl 0,trivial,h2,by omega,List.all_eq_true.2 fun e he=>decide_eq_true ?_,Int.le_refl _⟩
   have:=((mem_levW (w:=e)).1 he).1
   omega
  have kf:fits (List.length o+(levW c (x.toNat+1)).length) Tryz.t9.bytes=true:=strFits (by omega)
  rw[decide_eq_true hz,w1,kp]at hx
  change ∀R:St→Option Fin,_=branch true (need true (need (fits (List.length o+(levW c (x.toNat+1)).length) Tryz.t9.bytes) _)) _ at hx
  rw[kf]at hx
  right
  refine⟨c,n,x+1,o++levW c (x.toNat+1),levW c (x.toNat+1), ?_, ?_, ?_,fun R=>hx R⟩
  ·simp only[pre_w1,andd,dec_iff]
   rw[List.length_append,hx1]
   exact⟨by omega,h1,h2,rfl,by omega⟩
  ·simp only[mu_w1];omega
  ·simp only[res_w1,hk,hk2,hx1,tailW,List.append_assoc]
 ·left
  intro R
  refine(hx R).trans ?_
  rw[decide_eq_false hz]
  have e:(n-x).toNat=0:=by omega
  simp only[res_w1,e,tailW,List.append_nil];rfl
noncomputable def g_w1:St→Cont→Option Fin:=gP sh_w1 (fun v=>match v with | ((c,n,x,()),(o,l,()))=>pre_w1 c n x o l) (fun v K=>match v with | ((c,n,x,()),(o,l,()))=>res_w1 c n x o l K)
noncomputable def L_w1:List (Nat×(St→Cont→Option Fin)):=(4,g_w1)::L_w2
noncomputable def cx_w1:Cx:=(cb_wu).withLoops (look L_w1)
theorem l_w1 {L:List (Nat×(St→Cont→Option Fin))} (n:Nat) (h1:L.drop n=L_w2) (h2:idsFree (L.take n) (loopOf Tryz.f51 0)=true):∀st K r,g_w1 st K=some r→∃N,iter (evC ((cb_wu).withLoops (look L)) (loopOf Tryz.f51 0)) (headAt ((cb_wu).withLoops (look L)) 4) N st K=some r :=
 with_drop h1 h2 (gP_ok (fun v=>match v with | ((c,n,x,()),(o,l,()))=>mu_w1 c n x o l) fun v K hI=>by
  obtain⟨⟨(c:Str),(n:Int),(x:Int),⟨⟩⟩,⟨(o:List (Str)),(l:List (Str)),⟨⟩⟩⟩:=v
  rcases r_w1 c n x o l K hI with h1 | ⟨c',n',x',o',l',h1,h2,h3,h4⟩
  ·exact .inl h1
  ·exact .inr ⟨((c',n',x',()),(o',l',())),h1,h2,h3,h4⟩)
theorem y_impl_wordsUpTo (c:Str) (n:Int):evFn cx_w1 Tryz.f51 true [ofD .str c,ofD TI64 n] []=(
need (pre_w1 c n 0 [[]] [[]]) <| some ((.d (.one (.r (.li (Ty.str) ([[]].append (tailW c ((0:Int).toNat) (n-0).toNat)))))),[])):=by kernel_rfl
theorem s_impl_wordsUpTo (c:Str) (_hc:Fit .str c) (n:Int) (_hn:Fit TI64 n) (hpre:(decide (List.length c≤4)&&isM n)=true):Sat Tryz.prog 51 [ofD .str c,ofD TI64 n] [] (.d (ofD (.list .str) (upTo c n.toNat))) [] :=
 fn_sound (cx:=cx_w1) Tryz.func51 rfl ttOk Γ81ok mixed (fun c hc=>LoopsOk.all (l:=[(4,loopOf Tryz.f51 0),(7,loopOf Tryz.f51 1),(10,loopOf Tryz.f51 2)]) (by cases hc;kernel_rfl) ⟨atLoop rfl (l_w1 1 rfl (by kernel_rfl)),atLoop rfl (l_w2 2 rfl (by kernel_rfl)),atLoop rfl (l_w3 3 rfl (by kernel_rfl)),trivial⟩) (ro:=true) (by
  rw[andd,dec_iff]at hpre
  obtain⟨h1,h2⟩:=hpre
  unfold isM at h2
  rw[andd,dec_iff,dec_iff]at h2
  have kp:pre_w1 c n 0 [[]] [[]]=true:=by
   simp only[pre_w1,andd,dec_iff]
   exact⟨Int.le_refl 0,h2.2,h1,rfl,by show((1:Nat):Int)≤_;omega⟩
  have e:([[]]++tailW c 0 n.toNat:List Str)=upTo c n.toNat:=by
   have:=tailW_eq (c:=c) (k:=n.toNat) (x:=0)
   rw[Nat.zero_add]at this
   exact this
  have e0:(n-0).toNat=n.toNat:=by omega
  rw[y_impl_wordsUpTo,kp,e0]
  exact congrArg (fun z:List Str=>(some (.d (.one (.r (.li .str z))),[]):Option Fin)) e)
noncomputable def c_impl_wordsUpTo:Con:=conT [.str,TI64] fun(c:Str) (n:Int)=>(some (decide (List.length c≤4)&&isM n), .d (ofD (.list .str) (upTo c n.toNat)))
theorem k_impl_wordsUpTo:ConOk Tryz.prog 51 c_impl_wordsUpTo:=conT_ok Tryz.call51 fun c hc n hn hqq=>s_impl_wordsUpTo c hc n hn (pre_of hqq)
noncomputable def Γ82:List (Nat×Con):=(51,c_impl_wordsUpTo)::Γ81
theorem Γ82ok:EnvOk Tryz.prog (look Γ82) := .cons k_impl_wordsUpTo Γ81ok
noncomputable def cb_iaw:Cx:=(cxOf Γ82 Tryz.f16.ntmps [(5,[2,5,20,21,22])] [(0,[5]),(1,[2,5,20,21,22]),(1000000,[4])] [] []).parted [1,7]
theorem x_impl_AllWords (g:Gram) (l o:List Str) (n i:Int) (R:St→Option Fin) (K:Cont):evC (cb_iaw.withLoops (look [])) (loopOf Tryz.f16 0) ⟨[(2, .d (.one (.ptr 500000 0))),(5, .d (.one (.own 500001))),(20, .d (ofD TSS l)),(21,vI n),(22,vI i)],[(500000,some (boxD 25 TG g)),(500001,some (.lis 9 .str o))]⟩ (onward (headAt (cb_iaw.withLoops (look [])) 5) R K)=(
branch (decide (i<n)) (
 need (inb i l.length) <|
 branch (decide (decide ((o.length:Int)<60)=true)) (
 need (okRs g.snd&&(List.length (l.getD i.toNat ([]:Str))).ble 1000) <|
 branch (bif true then derB (l.getD i.toNat ([]:Str)) (chartM (l.getD i.toNat ([]:Str)) g.snd) g.fst 0 (List.length (l.getD i.toNat ([]:Str)):Int)else false) (
  need (fits (o.length+[l.getD i.toNat ([]:Str)].length) Tryz.t9.bytes) <| R (.mk [(2,(.d (.one (.ptr 500000 0)))),(5,(.d (.one (.own 500001)))),(20,(.d (.one (.r (.li (Ty.str) l))))),(21,(vI n)),(22,(vI (W64 (i+1))))] [(500000,(some (boxD 25 TG g))),(500001,(.some (.lis 9 ty9 (o.append [l.getD i.toNat ([]:Str)]))))])) ( R (.mk [(2,(.d (.one (.ptr 500000 0)))),(5,(.d (.one (.own 500001)))),(20,(.d (.one (.r (.li (Ty.str) l))))),(21,(vI n)),(22,(vI (W64 (i+1))))] [(500000,(some (boxD 25 TG g))),(500001,(.some (.lis 9 (Ty.str) o)))]))) ( R (.mk [(2,(.d (.one (.ptr 500000 0)))),(5,(.d (.one (.own 500001)))),(20,(.d (.one (.r (.li (Ty.str) l))))),(21,(vI n)),(22,(vI (W64 (i+1))))] [(500000,(some (boxD 25 TG g))),(500001,(.some (.lis 9 (Ty.str) o)))]))) ( K (.exit 0) (.mk [(5,(.d (.one (.own 500000))))] [(500000,(.some (.lis 9 (Ty.str) o)))]))):=by kernel_rfl
theorem dropS_at {l:List Str} {i:Int} (h0:0≤i) (h1:i<(l.length:Int)):List.drop i.toNat l=List.getD l i.toNat []::List.drop (i+1).toNat l:=by
 have hn:i.toNat<l.length:=by omega
 rw[List.drop_eq_getElem_cons hn,show (i+1).toNat=i.toNat+1 by omega,List.getD_eq_getElem?_getD,List.getElem?_eq_getElem hn];rfl
def fewS (l:List Str):Bool:=List.all l fun w=>Nat.ble (List.length w) 1000
noncomputable def cx0_iaw:Cx:=(cb_iaw).withLoops (look [])
def sh_iaw:Sh:=([(2, .ptr 500000 0),(5, .own 500001),(20, .d TSS),(21, .d TI64),(22, .d TI64)],[(500000, .box 25 TG),(500001, .lis 9 .str)])
abbrev st_iaw (l:List Str) (n i:Int) (g:Gram) (o:List (Str)):St:=⟨[(2, .d (.one (.ptr 500000 0))),(5, .d (.one (.own 500001))),(20, .d (ofD TSS l)),(21, .d (ofD TI64 n)),(22, .d (ofD TI64 i))],[(500000,some (boxD 25 TG g)),(500001,some (.lis 9 .str o))]⟩
def pre_iaw (l:List Str) (n i:Int) (g:Gram) (o:List (Str)):Bool:=decide (0≤i)&&(decide (n=(List.length l:Int))&&(okG g&&(fewS l&&(decide (List.length l≤100000)&&decide (List.length o≤60)))))
noncomputable def res_iaw (l:List Str) (_n i:Int) (g:Gram) (o:List (Str)) (K:Cont):Option Fin:=K (.exit 0) ⟨[(5, .d (.one (.own 500000)))],[(500000,some (.lis 9 .str (takeF (isD g) (List.drop i.toNat l) o)))]⟩
def mu_iaw (l:List Str) (_n i:Int) (_g:Gram) (_o:List (Str)):Nat:=List.length l-i.toNat
theorem r_iaw (l:List Str) (n i:Int) (g:Gram) (o:List (Str)) (K:Cont) (hI:pre_iaw l n i g o=true):(∀R:St→Option Fin,evC cx0_iaw (loopOf Tryz.f16 0) (st_iaw l n i g o) (onward (headAt cx0_iaw 5) R K)=res_iaw l n i g o K) ∨
  (∃(l':List Str) (n' i':Int) (g':Gram) (o':List (Str)),pre_iaw l' n' i' g' o'=true∧mu_iaw l' n' i' g' o'<mu_iaw l n i g o∧res_iaw l' n' i' g' o' K=res_iaw l n i g o K∧∀R:St→Option Fin,evC cx0_iaw (loopOf Tryz.f16 0) (st_iaw l n i g o) (onward (headAt cx0_iaw 5) R K)=R (st_iaw l' n' i' g' o')):=by
 have hx:=fun R=>x_impl_AllWords g l o n i R K
 simp only[pre_iaw,andd,dec_iff]at hI
 obtain⟨h0,rfl,h1,h2,h3,h4⟩:=hI
 by_cases hi:i<(List.length l:Int)
 ·have w:W64 (i+1)=i+1:=wrap_small (by omega) (by omega)
  have hw:=List.all_eq_true.1 h2 _ (getD_mem (d:=([]:Str)) (by omega:i.toNat<List.length l))
  have hg:=dropS_at h0 hi
  have kk:(okRs g.2&&(List.length (l.getD i.toNat ([]:Str))).ble 1000)=true:=andd.2 ⟨ok_rs h1,hw⟩
  have ht:takeF (isD g) (List.drop i.toNat l) o=takeF (isD g) (List.drop (i+1).toNat l) (bif Nat.blt (List.length o) 60&&isD g (List.getD l i.toNat [])then o++[List.getD l i.toNat []] else o):=by rw[hg];rfl
  rw[decide_eq_true hi,inb_ok h0 hi,kk,w,strFits (by rw[List.length_singleton];omega)]at hx
  right
  by_cases ho:List.length o<60
  ·rw[decide_eq_true (by omega:(List.length o:Int)<60)]at hx
   rw[blt_iff.2 ho,Bool.true_and]at ht
   change ∀R:St→Option Fin,_=branch (isD g (List.getD l i.toNat [])) (need true _) _ at hx
   cases hc:isD g (List.getD l i.toNat [])
   ·rw[hc]at hx ht
    refine⟨l,(List.length l:Int),i+1,g,o, ?_, ?_, ?_,fun R=>hx R⟩
    ·simp only[pre_iaw,andd,dec_iff]
     exact⟨by omega,trivial,h1,h2,h3,h4⟩
    ·simp only[mu_iaw];omega
    ·simp only[res_iaw,ht];rfl
   ·rw[hc]at hx ht
    refine⟨l,(List.length l:Int),i+1,g,o++[List.getD l i.toNat []], ?_, ?_, ?_,fun R=>hx R⟩
    ·simp only[pre_iaw,andd,dec_iff]
     rw[List.length_append,List.length_singleton]
     exact⟨by omega,trivial,h1,h2,h3,by omega⟩
    ·simp only[mu_iaw];omega
    ·simp only[res_iaw,ht];rfl
  ·rw[decide_eq_false (by omega:¬(List.length o:Int)<60)]at hx
   have hb:Nat.blt (List.length o) 60=false:=by
    cases hb:Nat.blt (List.length o) 60
    ·rfl
    ·exact absurd (blt_iff.1 hb) ho
   rw[hb,Bool.false_and,cond_false]at ht
   refine⟨l,(List.length l:Int),i+1,g,o, ?_, ?_, ?_,fun R=>hx R⟩
   ·simp only[pre_iaw,andd,dec_iff]
    exact⟨by omega,trivial,h1,h2,h3,h4⟩
   ·simp only[mu_iaw];omega
   ·simp only[res_iaw,ht]
 ·left
  intro R
  refine(hx R).trans ?_
  rw[decide_eq_false hi]
  have e:List.drop i.toNat l=[]:=List.drop_eq_nil_of_le (by omega)
  simp only[res_iaw,e];rfl
noncomputable def g_iaw:St→Cont→Option Fin:=gP sh_iaw (fun v=>match v with | ((l,n,i,()),(g,o,()))=>pre_iaw l n i g o) (fun v K=>match v with | ((l,n,i,()),(g,o,()))=>res_iaw l n i g o K)
noncomputable def L_iaw:List (Nat×(St→Cont→Option Fin)):=(5,g_iaw)::[]
noncomputable def cx_iaw:Cx:=(cb_iaw).withLoops (look L_iaw)
theorem l_iaw {L:List (Nat×(St→Cont→Option Fin))} (n:Nat) (h1:L.drop n=[]) (h2:idsFree (L.take n) (loopOf Tryz.f16 0)=true):∀st K r,g_iaw st K=some r→∃N,iter (evC ((cb_iaw).withLoops (look L)) (loopOf Tryz.f16 0)) (headAt ((cb_iaw).withLoops (look L)) 5) N st K=some r :=
 with_drop h1 h2 (gP_ok (fun v=>match v with | ((l,n,i,()),(g,o,()))=>mu_iaw l n i g o) fun v K hI=>by
  obtain⟨⟨(l:List Str),(n:Int),(i:Int),⟨⟩⟩,⟨(g:Gram),(o:List (Str)),⟨⟩⟩⟩:=v
  rcases r_iaw l n i g o K hI with h1 | ⟨l',n',i',g',o',h1,h2,h3,h4⟩
  ·exact .inl h1
  ·exact .inr ⟨((l',n',i',()),(g',o',())),h1,h2,h3,h4⟩)
theorem few_upTo {c:Str} {n:Nat} (hn:n≤4):fewS (upTo c n)=true:=List.all_eq_true.2 fun w hw=>ble_iff.2 (by have:=(mem_upTo.1 hw).1;omega)
theorem smalls_four {g:Gram}:(smallsG g).length≤4:=asc_len (a:=97) (b:=101) setS_asc fun x hx=>by
 have:=(setS_mem.1 hx).2
 unfold small at this
 rw[andd,ble_iff,ble_iff]at this
 omega
theorem isM_iff {n:Int}:isM n=true↔0≤n∧n≤4:=by
 unfold isM
 rw[andd,dec_iff,dec_iff]
def wordsG (g:Gram) (n:Int):List Str:=bif okG g&&isM n then wordsV (isD g) (smallsG g) n.toNat else []
theorem y_impl_AllWords (g:Gram) (n:Int):evFn cx_iaw Tryz.f16 true [ofD TG g,ofD TI64 n] []=(
branch (decide ((!okG g)=false)) (
 branch (bif false then true else !isM n) ( some ((.d (.one (.r (.li ty9 ([]))))),[])) (
 need (decide ((List.length (bif okG g then smallsG g else []))≤4)&&isM n) <|
 need (pre_iaw (upTo (bif okG g then smallsG g else []) n.toNat) (((upTo (bif okG g then smallsG g else []) n.toNat).length:Int)) 0 g []) <| some ((.d (.one (.r (.li (Ty.str) (takeF (isD g) (id (upTo (bif okG g then smallsG g else []) n.toNat)) []))))),[]))) ( some ((.d (.one (.r (.li ty9 ([]))))),[]))):=by kernel_rfl
theorem s_impl_AllWords (g:Gram) (_hg:Fit TG g) (n:Int) (_hn:Fit TI64 n):Sat Tryz.prog 16 [ofD TG g,ofD TI64 n] [] (.d (ofD (.list .str) (wordsG g n))) [] :=
 fn_sound (cx:=cx_iaw) Tryz.func16 rfl ttOk Γ82ok mixed (fun c hc=>LoopsOk.all (l:=[(5,loopOf Tryz.f16 0)]) (by cases hc;kernel_rfl) ⟨atLoop rfl (l_iaw 1 rfl (by kernel_rfl)),trivial⟩) (ro:=true) (by
  rw[y_impl_AllWords]
  unfold wordsG
  cases h1:okG g
  ·rfl
  ·cases h2:isM n
   ·rfl
   ·obtain ⟨n0,n1⟩:=isM_iff.1 h2
    have k1:decide (List.length (bif true then smallsG g else [])≤4)=true:=decide_eq_true smalls_four
    have hl:=len_upTo (c:=smallsG g) smalls_four (n:=n.toNat) (by omega)
    have k2:pre_iaw (upTo (bif true then smallsG g else []) n.toNat) ((upTo (bif true then smallsG g else []) n.toNat).length:Int) 0 g []=true:=by
     simp only[pre_iaw,andd,dec_iff]
     exact⟨Int.le_refl 0,trivial,h1,few_upTo (by omega),by show(upTo (smallsG g) n.toNat).length≤100000;omega,by show 0≤60;omega⟩
    rw[k1,k2]
    exact congrArg (fun z:List Str=>(some (.d (.one (.r (.li .str z))),[]):Option Fin)) (takeF_filter (f:=isD g) (l:=upTo (smallsG g) n.toNat) (o:=[]) (by show 0≤60;omega)))
noncomputable def c_impl_AllWords:Con:=conT [TG,TI64] fun(g:Gram) (n:Int)=>(none, .d (ofD (.list .str) (wordsG g n)))
theorem k_impl_AllWords:ConOk Tryz.prog 16 c_impl_AllWords:=conT_ok Tryz.call16 fun g hg n hn _=>s_impl_AllWords g hg n hn
noncomputable def Γ83:List (Nat×Con):=(16,c_impl_AllWords)::Γ82
theorem Γ83ok:EnvOk Tryz.prog (look Γ83) := .cons k_impl_AllWords Γ82ok
theorem wordsG_len {g:Gram} {n:Int}:(wordsG g n).length≤60:=by
 unfold wordsG
 cases okG g&&isM n
 ·exact Nat.zero_le _
 ·exact len_words
theorem wordsG_mem {g:Gram} {n:Int} {w:Str} (h:w∈wordsG g n):okG g=true∧isM n=true∧isD g w=true∧(List.length w:Int)≤n∧(∀x∈w,x∈smallsG g)∧both2 g w=true:=by
 unfold wordsG at h
 cases hc:okG g&&isM n<;>rw[hc]at h
 ·cases h
 ·obtain ⟨h1,h2⟩:=andd.1 hc
  obtain⟨n0,n1⟩:=isM_iff.1 h2
  obtain⟨m1,m2,m3⟩:=mem_words h
  refine⟨h1,h2,m1,by omega,m3, ?_⟩
  unfold both2
  rw[b2,andd,areSm_iff]
  exact⟨h1,by omega,List.all_eq_true.2 fun c hc=>(setS_mem.1 (m3 c hc)).2⟩
end Go.Proofs.YtmeiebnfmhddnaaGreatDoor.Ev
