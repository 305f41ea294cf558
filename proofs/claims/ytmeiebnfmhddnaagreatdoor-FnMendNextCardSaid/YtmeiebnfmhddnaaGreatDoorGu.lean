/-
  Draws of trees.
-/
import Derived.Test.YtmeiebnfmhddnaaGreatDoorGr
namespace Go.Proofs.YtmeiebnfmhddnaaGreatDoor.Ev
open Go
noncomputable section
def forL (s:Str):List Rule→Nat→List Int
 | [],_=>[]
 |r::l,k=>bif decide (r.1=s)then(k:Int)::forL s l (k+1)else forL s l (k+1)
theorem forL_at {s:Str} {l:List Rule} {i:Int} (h0:0≤i) (h1:i<(l.length:Int)):forL s (l.drop i.toNat) i.toNat=bif decide ((l.getD i.toNat d0).1=s)then i::forL s (l.drop (i+1).toNat) (i+1).toNat else forL s (l.drop (i+1).toNat) (i+1).toNat:=by
 have hn:i.toNat<l.length:=by omega
 rw[List.drop_eq_getElem_cons hn,show (i+1).toNat=i.toNat+1 by omega,getD_at hn]
 show(bif decide (l[i.toNat].1=s)then(i.toNat:Int)::_ else _)=_
 rw[Int.toNat_of_nonneg h0]
theorem forL_mem {s:Str} {a:Int}:∀ {l:List Rule} {k:Nat},a∈forL s l k→(k:Int)≤a∧a<(k:Int)+(l.length:Int)∧(l.getD (a.toNat-k) d0).1=s
 | [],_,h=>by cases h
 |r::l,k,h=>by
  unfold forL at h
  by_cases e:r.1=s
  ·rw[decide_eq_true e]at h
   rcases List.mem_cons.1 h with rfl | h
   ·refine ⟨Int.le_refl _,by simp only[List.length_cons];omega, ?_⟩
    rw[show ((k:Int)).toNat-k=0 by omega];exact e
   ·obtain ⟨h1,h2,h3⟩:=forL_mem (l:=l) (k:=k+1) h
    refine⟨by omega,by simp only[List.length_cons];omega, ?_⟩
    rw[show a.toNat-k=a.toNat-(k+1)+1 by omega];exact h3
  ·rw[decide_eq_false e]at h
   obtain⟨h1,h2,h3⟩:=forL_mem (l:=l) (k:=k+1) h
   refine⟨by omega,by simp only[List.length_cons];omega, ?_⟩
   rw[show a.toNat-k=a.toNat-(k+1)+1 by omega];exact h3
theorem forL_len {s:Str}:∀ {l:List Rule} {k:Nat},(forL s l k).length≤l.length
 | [],_=>Nat.le_refl _
 |r::l,k=>by
  unfold forL
  have:=forL_len (s:=s) (l:=l) (k:=k+1)
  cases decide (r.1=s)
  ·simp only[cond_false,List.length_cons];omega
  ·simp only[cond_true,List.length_cons];omega
def cb_l1For:Cx:=cxOf Γ58 Tryz.f152.ntmps [(3,[1,2,5,6])] [(0,[5]),(1,[1,2,5,6]),(1000000,[4])] [] []
theorem x_spec_l1For (g:Gram) (s:Str) (l:List Int) (i:Int) (R:St→Option Fin) (K:Cont):evC (cb_l1For.withLoops (look [])) (loopOf Tryz.f152 0) ⟨[(1,vS s),(2, pA),(5, oB),(6,vI i)],[(500000,some (boxD 25 TG g)),(500001,some (.lis 3 TI64 l))]⟩ (onward (headAt (cb_l1For.withLoops (look [])) 3) R K)=(
branch (decide (i<(List.length g.snd:Int))) (
 need (inb i (List.length g.snd)) <|
 branch (decide ((List.getD g.snd i.toNat d0).fst=s)) (
 need (fits (l.length+[i].length) Tryz.t3.bytes) <| R (.mk [(1,vS s),(2,pA),(5,oB),(6,vI (W64 (i+1)))] [(500000,some (boxD 25 TG g)),(500001,(.some (.lis 3 ty3 (l.append [i]))))])) ( R (.mk [(1,vS s),(2,pA),(5,oB),(6,vI (W64 (i+1)))] [(500000,some (boxD 25 TG g)),(500001,some (.lis 3 TI64 l))]))) ( K (.exit 0) (.mk [(5,oA)] [(500000,some (.lis 3 TI64 l))]))):=by kernel_rfl
theorem intBytes:Tryz.t3.bytes=8:=by kernel_rfl
def cx0_l1For:Cx:=(cb_l1For).withLoops (look [])
def sh_l1For:Sh:=([(1, .d .str),(2, .ptr 500000 0),(5, .own 500001),(6, .d TI64)],[(500000, .box 25 TG),(500001, .lis 3 TI64)])
abbrev st_l1For (s:Str) (i:Int) (g:Gram) (l:List (Int)):St:=⟨[(1,vS s),(2, .d (.one (.ptr 500000 0))),(5, .d (.one (.own 500001))),(6,vI i)],[(500000,some (boxD 25 TG g)),(500001,some (.lis 3 TI64 l))]⟩
def pre_l1For (_s:Str) (i:Int) (g:Gram) (l:List (Int)):Bool:=decide (0≤i)&&(Nat.ble (List.length g.2) 1000&&decide ((List.length l:Int)≤i))
def res_l1For (s:Str) (i:Int) (g:Gram) (l:List (Int)) (K:Cont):Option Fin:=K (.exit 0) ⟨[(5, oA)],[(500000,some (.lis 3 TI64 (l++forL s (g.2.drop i.toNat) i.toNat)))]⟩
def mu_l1For (_s:Str) (i:Int) (g:Gram) (_l:List (Int)):Nat:=List.length g.2-i.toNat
theorem r_l1For (s:Str) (i:Int) (g:Gram) (l:List (Int)) (K:Cont) (hI:pre_l1For s i g l=true):(∀R:St→Option Fin,evC cx0_l1For (loopOf Tryz.f152 0) (st_l1For s i g l) (onward (headAt cx0_l1For 3) R K)=res_l1For s i g l K) ∨
  (∃(s':Str) (i':Int) (g':Gram) (l':List (Int)),pre_l1For s' i' g' l'=true∧mu_l1For s' i' g' l'<mu_l1For s i g l∧res_l1For s' i' g' l' K=res_l1For s i g l K∧∀R:St→Option Fin,evC cx0_l1For (loopOf Tryz.f152 0) (st_l1For s i g l) (onward (headAt cx0_l1For 3) R K)=R (st_l1For s' i' g' l')):=by
 have hx:=fun R=>x_spec_l1For g s l i R K
 simp only[pre_l1For,andd,dec_iff,ble_iff]at hI
 obtain⟨h0,h1,h2⟩:=hI
 by_cases hi:i<(List.length g.2:Int)
 ·have hg:=forL_at (s:=s) h0 hi
  have k1:fits (List.length l+[i].length) Tryz.t3.bytes=true:=by rw[intBytes];exact fits_ok (by simp;omega) (by omega)
  simp only[hi,decide_true,inb_ok h0 hi,branch_true,W1 h0 hi (show List.length g.2≤big by unfold big;omega),k1]at hx
  right
  cases hc:decide ((List.getD g.2 i.toNat d0).1=s)
  ·rw[hc]at hg
   refine⟨s,i+1,g,l, ?_, ?_, ?_,fun R=>(hx R).trans ?_⟩
   ·simp only[pre_l1For,andd,dec_iff,ble_iff];exact ⟨by omega,h1,by omega⟩
   ·simp only[mu_l1For];omega
   ·simp only[res_l1For,hg];rfl
   ·rw[hc];rfl
  ·rw[hc]at hg
   refine⟨s,i+1,g,l++[i], ?_, ?_, ?_,fun R=>(hx R).trans ?_⟩
   ·simp only[pre_l1For,andd,dec_iff,ble_iff,List.length_append,List.length_singleton];exact ⟨by omega,h1,by omega⟩
   ·simp only[mu_l1For];omega
   ·simp only[res_l1For,hg,List.append_assoc];rfl
   ·rw[hc];rfl
 ·left
  intro R
  refine(hx R).trans ?_
  have e:l++forL s (g.2.drop i.toNat) i.toNat=l:=by rw[List.drop_eq_nil_of_le (by omega)];exact List.append_nil l
  simp only[hi,decide_false,branch_false,res_l1For,e]
def g_l1For:St→Cont→Option Fin:=gP sh_l1For (fun v=>match v with | ((s,i,()),(g,l,()))=>pre_l1For s i g l) (fun v K=>match v with | ((s,i,()),(g,l,()))=>res_l1For s i g l K)
def L_l1For:LpL:=(3,g_l1For)::[]
def cx_l1For:Cx:=(cb_l1For).withLoops (look L_l1For)
theorem l_l1For {L:LpL} (n:Nat) (h1:L.drop n=[]) (h2:idsFree (L.take n) (loopOf Tryz.f152 0)=true):LoopsTo g_l1For (cb_l1For) (loopOf Tryz.f152 0) 3 L :=
 with_drop h1 h2 (gP_ok (fun v=>match v with | ((s,i,()),(g,l,()))=>mu_l1For s i g l) fun v K hI=>by
  obtain⟨⟨s,i,⟨⟩⟩,⟨g,l,⟨⟩⟩⟩:=v
  exact(r_l1For s i g l K hI).imp id fun⟨s',i',g',l',h⟩=>⟨((s',i',()),(g',l',())),h⟩)
theorem y_spec_l1For (g:Gram) (s:Str):evFn cx_l1For Tryz.f152 true [ofD TG g,ofD .str s] []=(
need (pre_l1For s 0 g []) <| some ((.d (.one (.r (.li TI64 (id (forL s g.snd ((0:Int).toNat))))))),[])):=by kernel_rfl
theorem s_spec_l1For (g:Gram) (_hg:Fit TG g) (s:Str) (_hs:Fit .str s) (hpre:(Nat.ble (List.length g.2) 1000)=true):Sat Tryz.prog 152 [ofD TG g,ofD .str s] [] (.d (ofD TIS (forL s g.2 0))) [] :=
 fn_sound (cx:=cx_l1For) Tryz.func152 rfl ttOk Γ58ok mixed (fun c hc=>LoopsOk.all (l:=[(3,loopOf Tryz.f152 0)]) (by cases hc;kernel_rfl) ⟨atLoop rfl (l_l1For 1 rfl (by kernel_rfl)),trivial⟩) (ro:=true) (by
  have h:pre_l1For s 0 g []=true:=andd.2 ⟨rfl,andd.2 ⟨hpre,rfl⟩⟩
  rw[y_spec_l1For,h];rfl)
def c_spec_l1For:Con:=conT [TG, .str] fun(g:Gram) (s:Str)=>(some (Nat.ble (List.length g.2) 1000), .d (ofD TIS (forL s g.2 0)))
theorem k_spec_l1For:ConOk Tryz.prog 152 c_spec_l1For:=conT_ok Tryz.call152 fun g hg s hs hqq=>s_spec_l1For g hg s hs (pre_of hqq)
def Γ59:GL:=(152,c_spec_l1For)::Γ58
theorem Γ59ok:GO Γ59 := .cons k_spec_l1For Γ58ok
def smT (t:GTree):Bool:=Nat.ble (List.length (GTree.sign t)) 8&&(decide (-1≤GTree.rule t)&&(decide (GTree.rule t≤1000)&&Nat.ble (List.length (GTree.kids t)) 8))
def tOk:Nat→GTree→Bool
 |0,t=>smT t&&Nat.beq (List.length (GTree.kids t)) 0
 |n+1,t=>smT t&&List.all (GTree.kids t) (tOk n)
def pw (n:Nat):Int:=((10 ^ n:Nat):Int)
theorem pw_pos (n:Nat):1≤pw n:=by
 have:0<10 ^ n:=Nat.pow_pos (by omega)
 unfold pw;omega
theorem pw_succ (n:Nat):pw (n+1)=10*pw n:=by unfold pw;rw[Nat.pow_succ];omega
def anyPre (n:Nat) (x:Rd) (g:Gram) (s:Str) (d:Int):Bool:=rdAt x (1000000000000-pw n)&&(szG 20 g&&(decide (0≤d)&&(decide (d<(n:Int))&&(Nat.ble (List.length s) 8&&Nat.ble n 12))))
def anyQ (n:Nat) (x:Rd) (g:Gram) (s:Str) (d:Int) (q:GTree×Rd):Prop:=Sat Tryz.prog 127 [.one (.ptr 0 0),ofD TG g,ofD .str s,ofD TI64 d] [boxD 120 TR x] (.d (ofD .tree q.1)) [(0,some (boxD 120 TR q.2))]∧(tOk n q.1=true∧Adv x q.2 (pw n))
instance:Nonempty (GTree×Rd):=⟨(.node [] 0 [],[],0)⟩
def F_any (n:Nat) (x:Rd) (g:Gram) (s:Str) (d:Int):GTree×Rd:=oneOf (anyQ n x g s d)
def anyH (n:Nat):Prop:=∀(x:Rd) (g:Gram) (s:Str) (d:Int),Fit TR x→Fit TG g→Fit .str s→Fit TI64 d→anyPre n x g s d=true→∃q,anyQ n x g s d q
def conAny (n:Nat):Con:=conB 120 TR [TG, .str,TI64] fun(x:Rd) (g:Gram) (s:Str) (d:Int)=>(some (anyPre n x g s d), .d (ofD .tree (F_any n x g s d).1),(F_any n x g s d).2)
theorem k_any {n:Nat} (h:anyH n):ConOk Tryz.prog 127 (conAny n):=conB_ok Tryz.call127 fun x hx g hg s hs d hd hqq=>(oneOf_spec (h x g s d hx hg hs hd (pre_of hqq))).1
theorem any0:anyH 0:=fun x g s d _ _ _ _ h=>by
 unfold anyPre at h
 simp only[andd,dec_iff]at h
 omega
abbrev rgt (g:Gram) (k:Int):Str:=(List.getD g.2 k.toNat d0).2
def minK (g:Gram):List Int→Int→Int
 | [],k=>k
 |a::l,k=>minK g l (bif decide (((rgt g a).length:Int)<((rgt g k).length:Int))then a else k)
theorem minK_in {g:Gram} {n:Nat}:∀ {l:List Int} {k:Int},inb k n=true→l.all (fun a=>inb a n)=true→inb (minK g l k) n=true
 | [],_,h,_=>h
 |a::l,k,h,h2=>by
  rw[List.all_cons,andd]at h2
  refine minK_in (l:=l) ?_ h2.2
  cases decide (((rgt g a).length:Int)<((rgt g k).length:Int))
  ·exact h
  ·exact h2.1
theorem minK_at {g:Gram} {l:List Int} {i k:Int} (h0:0≤i) (h1:i<(l.length:Int)):minK g (l.drop i.toNat) k=minK g (l.drop (i+1).toNat) (bif decide (((rgt g (l.getD i.toNat 0)).length:Int)<((rgt g k).length:Int))then l.getD i.toNat 0 else k):=by
 have hn:i.toNat<l.length:=by omega
 rw[List.drop_eq_getElem_cons hn,show (i+1).toNat=i.toNat+1 by omega,List.getD_eq_getElem?_getD,List.getElem?_eq_getElem hn];rfl
abbrev tz:GTree := .node [] 0 []
theorem tEta (t:GTree):GTree.node t.sign t.rule t.kids=t:=by cases t;rfl
theorem treeBytes:Tryz.t139.bytes=48:=by kernel_rfl
theorem rgt_len {g:Gram} {n:Nat} {k:Int} (h:szG n g=true):(rgt g k).length≤8:=by
 unfold szG at h
 rw[andd,andd]at h
 by_cases hk:k.toNat<List.length g.2
 ·have:=szR_iff.1 (List.all_eq_true.1 h.2.2 (List.getD g.2 k.toNat d0) (by rw[getD_at hk];exact List.getElem_mem hk))
  exact this.2
 ·show (List.getD g.2 k.toNat d0).2.length≤8
  rw[List.getD_eq_getElem?_getD,List.getElem?_eq_none (by omega)]
  exact Nat.zero_le _
theorem leaf_ok {n:Nat} {s:Str} (h:List.length s≤8):tOk n (.node s (-1) [])=true:=by
 have h1:smT (.node s (-1) [])=true:=andd.2 ⟨ble_iff.2 h,rfl⟩
 cases n
 ·exact andd.2 ⟨h1,rfl⟩
 ·exact andd.2 ⟨h1,rfl⟩
structure Lev where
 n:Nat
 h:anyH n
noncomputable section
variable [Inhabited Lev]
abbrev lv:Nat:=(default:Lev).n
def c_spec_l3AnyR:Con:=conAny lv
theorem k_spec_l3AnyR:ConOk Tryz.prog 127 c_spec_l3AnyR:=k_any (default:Lev).h
def Γ60:GL:=(127,c_spec_l3AnyR)::Γ59
theorem Γ60ok:GO Γ60 := .cons k_spec_l3AnyR Γ59ok
def cb_any:Cx:=cxOf Γ60 Tryz.f127.ntmps [(15,[0,3,5,8,10,12,13]),(9,[0,2,3,5,8,9,10,11])] [(2,[8,12]),(3,[0,3,5,8,10,12,13]),(0,[0,2,3,5,8,10]),(1,[0,2,3,5,8,9,10,11]),(1000000,[8])] [(15,[(300012,139, .tree)])] []
abbrev treeO (s:Str) (r:Int):Option Obj:=some (.box 139 [.r (.v (.string (mk s))), .r (.v (.int .i64 r)), .r (.v (.slice none 0 0))])
theorem x_spec_l3Any (x:Rd) (g:Gram) (s z:Str) (d q k i:Int) (l:List Int) (R:St→Option Fin) (K:Cont):evC (cb_any.withLoops (look [])) (loopOf Tryz.f127 0) ⟨[(0,vP 0),(2,vS s),(3,vI d),(5, pA),(8, pB),(9, .d (ofD TIS l)),(10,vI k),(11,vI i)],[(0,bR x),(500000,some (boxD 25 TG g)),(500001,treeO z q)]⟩ (onward (headAt (cb_any.withLoops (look [])) 9) R K)=(
branch (decide (i<(l.length:Int))) (
 need (inb i l.length) <|
 need (inb (l.getD i.toNat 0) (List.length g.snd)) <|
 need (inb k (List.length g.snd)) <|
 branch (decide ((List.length (List.getD g.snd (Int.toNat (l.getD i.toNat 0)) d0).snd:Int)<(List.length (List.getD g.snd k.toNat d0).snd:Int))) (
 need (inb i l.length) <| R (.mk [(0,(.d (.one (.ptr 0 0)))),(2,vS s),(3,vI d),(5,pA),(8,pB),(9,(.d (.one (.r (.li (Ty.int IntKind.i64) l))))),(10,vI (l.getD i.toNat 0)),(11,vI (W64 (i+1)))] [(0,(bR x)),(500000,some (boxD 25 TG g)),(500001,(.some (.box 139 [(.r (.v (Value.string (mk z)))),(.r (.v (Value.int IntKind.i64 q))),(.r (.v (Value.slice none 0 0)))])))])) ( R (.mk [(0,(.d (.one (.ptr 0 0)))),(2,vS s),(3,vI d),(5,pA),(8,pB),(9,(.d (.one (.r (.li (Ty.int IntKind.i64) l))))),(10,vI k),(11,vI (W64 (i+1)))] [(0,(bR x)),(500000,some (boxD 25 TG g)),(500001,(.some (.box 139 [(.r (.v (Value.string (mk z)))),(.r (.v (Value.int IntKind.i64 q))),(.r (.v (Value.slice none 0 0)))])))]))) ( K (.exit 0) (.mk [(0,(.d (.one (.ptr 0 0)))),(2,vS s),(3,vI d),(5,pA),(8,pB),(10,vI k)] [(0,(bR x)),(500000,some (boxD 25 TG g)),(500001,(.some (.box 139 [(.r (.v (Value.string (mk z)))),(.r (.v (Value.int IntKind.i64 q))),(.r (.v (Value.slice none 0 0)))])))]))):=by kernel_rfl
def cx0_shA:Cx:=(cb_any).withLoops (look [])
def sh_shA:Sh:=([(0, .ptr 0 0),(2, .d .str),(3, .d TI64),(5, .ptr 500000 0),(8, .ptr 500001 0),(9, .d TIS),(10, .d TI64),(11, .d TI64)],[(0, .box 120 TR),(500000, .box 25 TG),(500001, .mix 139 [.d .str, .d TI64, .nil])])
abbrev st_shA (s:Str) (d:Int) (l:List Int) (k i:Int) (x:Den TR) (g:Gram) (z:Str) (q:Int):St:=⟨[(0, .d (.one (.ptr 0 0))),(2,vS s),(3,vI d),(5, .d (.one (.ptr 500000 0))),(8, .d (.one (.ptr 500001 0))),(9, .d (ofD TIS l)),(10,vI k),(11,vI i)],[(0,some (boxD 120 TR x)),(500000,some (boxD 25 TG g)),(500001,some (.box 139 ((cellsR .str z).map C.r++(cellsR TI64 q).map C.r++[.r (.v (.slice none 0 0))])))]⟩
def pre_shA (_s:Str) (_d:Int) (l:List Int) (k i:Int) (_x:Den TR) (g:Gram) (_z:Str) (_q:Int):Bool:=decide (0≤i)&&(inb k (List.length g.2)&&(List.all l (fun a=>inb a (List.length g.2))&&Nat.ble (List.length l) 1000))
def res_shA (s:Str) (d:Int) (l:List Int) (k i:Int) (x:Den TR) (g:Gram) (z:Str) (q:Int) (K:Cont):Option Fin:=K (.exit 0) ⟨[(0,vP 0),(2,vS s),(3,vI d),(5, pA),(8, pB),(10,vI (minK g (l.drop i.toNat) k))],[(0,bR x),(500000,some (boxD 25 TG g)),(500001,treeO z q)]⟩
def mu_shA (_s:Str) (_d:Int) (l:List Int) (_k i:Int) (_x:Den TR) (_g:Gram) (_z:Str) (_q:Int):Nat:=List.length l-i.toNat
theorem r_shA (s:Str) (d:Int) (l:List Int) (k i:Int) (x:Den TR) (g:Gram) (z:Str) (q:Int) (K:Cont) (hI:pre_shA s d l k i x g z q=true):(∀R:St→Option Fin,evC cx0_shA (loopOf Tryz.f127 0) (st_shA s d l k i x g z q) (onward (headAt cx0_shA 9) R K)=res_shA s d l k i x g z q K) ∨
  (∃(s':Str) (d':Int) (l':List Int) (k' i':Int) (x':Den TR) (g':Gram) (z':Str) (q':Int),pre_shA s' d' l' k' i' x' g' z' q'=true∧mu_shA s' d' l' k' i' x' g' z' q'<mu_shA s d l k i x g z q∧res_shA s' d' l' k' i' x' g' z' q' K=res_shA s d l k i x g z q K∧∀R:St→Option Fin,evC cx0_shA (loopOf Tryz.f127 0) (st_shA s d l k i x g z q) (onward (headAt cx0_shA 9) R K)=R (st_shA s' d' l' k' i' x' g' z' q')):=by
 have hx:=fun R=>x_spec_l3Any x g s z d q k i l R K
 simp only[pre_shA,andd,dec_iff,ble_iff]at hI
 obtain⟨h0,h1,h2,h3⟩:=hI
 by_cases hi:i<(List.length l:Int)
 ·have hg:=minK_at (g:=g) (k:=k) h0 hi
  have ha:inb (l.getD i.toNat 0) (List.length g.2)=true:=List.all_eq_true.1 h2 _ (by
   have hn:i.toNat<List.length l:=by omega
   show List.getD l i.toNat 0∈l
   rw[List.getD_eq_getElem?_getD,List.getElem?_eq_getElem hn];exact List.getElem_mem hn)
  simp only[hi,decide_true,inb_ok h0 hi,ha,h1,branch_true,W1 h0 hi (show List.length l≤big by unfold big;omega)]at hx
  right
  cases hc:decide (((rgt g (l.getD i.toNat 0)).length:Int)<((rgt g k).length:Int))
  ·rw[hc]at hg
   refine⟨s,d,l,k,i+1,x,g,z,q, ?_, ?_, ?_,fun R=>(hx R).trans ?_⟩
   ·simp only[pre_shA,andd,dec_iff,ble_iff];exact ⟨by omega,h1,h2,h3⟩
   ·simp only[mu_shA];omega
   ·simp only[res_shA,hg];rfl
   ·rw[show decide ((List.length (List.getD g.2 (Int.toNat (l.getD i.toNat 0)) d0).2:Int)<(List.length (List.getD g.2 k.toNat d0).2:Int))=false from hc];rfl
  ·rw[hc]at hg
   refine⟨s,d,l,l.getD i.toNat 0,i+1,x,g,z,q, ?_, ?_, ?_,fun R=>(hx R).trans ?_⟩
   ·simp only[pre_shA,andd,dec_iff,ble_iff];exact ⟨by omega,ha,h2,h3⟩
   ·simp only[mu_shA];omega
   ·simp only[res_shA,hg];rfl
   ·rw[show decide ((List.length (List.getD g.2 (Int.toNat (l.getD i.toNat 0)) d0).2:Int)<(List.length (List.getD g.2 k.toNat d0).2:Int))=true from hc];rfl
 ·left
  intro R
  refine(hx R).trans ?_
  have e:l.drop i.toNat=[]:=List.drop_eq_nil_of_le (by omega)
  simp only[hi,decide_false,branch_false,res_shA,e];rfl
def g_shA:St→Cont→Option Fin:=gP sh_shA (fun v=>match v with | ((s,d,l,k,i,()),(x,g,(z,q,()),()))=>pre_shA s d l k i x g z q) (fun v K=>match v with | ((s,d,l,k,i,()),(x,g,(z,q,()),()))=>res_shA s d l k i x g z q K)
theorem l_shA {L:LpL} (n:Nat) (h1:L.drop n=[]) (h2:idsFree (L.take n) (loopOf Tryz.f127 0)=true):LoopsTo g_shA (cb_any) (loopOf Tryz.f127 0) 9 L :=
 with_drop h1 h2 (gP_ok (fun v=>match v with | ((s,d,l,k,i,()),(x,g,(z,q,()),()))=>mu_shA s d l k i x g z q) fun v K hI=>by
  obtain⟨⟨s,d,l,k,i,⟨⟩⟩,⟨x,g,⟨z,q,⟨⟩⟩,⟨⟩⟩⟩:=v
  exact(r_shA s d l k i x g z q K hI).imp id fun⟨s',d',l',k',i',x',g',z',q',h⟩=>⟨((s',d',l',k',i',()),(x',g',(z',q',()),())),h⟩)
theorem x_spec_l3Any_1 (x:Rd) (g:Gram) (s z:Str) (d q r k i:Int) (ks:List GTree) (R:St→Option Fin) (K:Cont):evC cb_any (loopOf Tryz.f127 1) ⟨[(0,vP 0),(3,vI d),(5, pA),(8, pB),(10,vI k),(12, .d (.one (.ptr 500002 0))),(13,vI i)],[(0,bR x),(500000,some (boxD 25 TG g)),(500001,treeO z q),(500002,some (.box 139 [.r (.v (.string (mk s))), .r (.v (.int .i64 r)), .own 500003])),(500003,some (.lis 139 .tree ks))]⟩ (onward (headAt cb_any 15) R K)=(
need (inb k (List.length g.snd)) <|
branch (decide (i<(List.length (List.getD g.snd k.toNat d0).snd:Int))) (
 need (inb k (List.length g.snd)) <|
 need (inr i (W64 (i+1)) (List.length (List.getD g.snd k.toNat d0).snd)) <|
 need (anyPre lv x g (List.take ((W64 (i+1)).toNat-i.toNat) (List.drop i.toNat (List.getD g.snd k.toNat d0).snd)) (W64 (d-1))) <|
 need (fits (ks.length+[GTree.node (F_any lv x g (List.take ((W64 (i+1)).toNat-i.toNat) (List.drop i.toNat (List.getD g.snd k.toNat d0).snd)) (W64 (d-1))).fst.sign (F_any lv x g (List.take ((W64 (i+1)).toNat-i.toNat) (List.drop i.toNat (List.getD g.snd k.toNat d0).snd)) (W64 (d-1))).fst.rule (F_any lv x g (List.take ((W64 (i+1)).toNat-i.toNat) (List.drop i.toNat (List.getD g.snd k.toNat d0).snd)) (W64 (d-1))).fst.kids].length) Tryz.t139.bytes) <| R (.mk [(0,(.d (.one (.ptr 0 0)))),(3,vI d),(5,pA),(8,pB),(10,vI k),(12,(.d (.one (.ptr 500002 0)))),(13,vI (W64 (i+1)))] [(0,(bR (F_any lv x g (List.take ((W64 (i+1)).toNat-i.toNat) (List.drop i.toNat (List.getD g.snd k.toNat d0).snd)) (W64 (d-1))).snd)),(500000,some (boxD 25 TG g)),(500001,(.some (.box 139 [(.r (.v (Value.string (mk z)))),(.r (.v (Value.int IntKind.i64 q))),(.r (.v (Value.slice none 0 0)))]))),(500002,(.some (.box 139 [(.r (.v (Value.string (mk s)))),(.r (.v (Value.int IntKind.i64 r))),(.own 500003)]))),(500003,(.some (.lis 139 ty139 (ks.append [GTree.node (F_any lv x g (List.take ((W64 (i+1)).toNat-i.toNat) (List.drop i.toNat (List.getD g.snd k.toNat d0).snd)) (W64 (d-1))).fst.sign (F_any lv x g (List.take ((W64 (i+1)).toNat-i.toNat) (List.drop i.toNat (List.getD g.snd k.toNat d0).snd)) (W64 (d-1))).fst.rule (F_any lv x g (List.take ((W64 (i+1)).toNat-i.toNat) (List.drop i.toNat (List.getD g.snd k.toNat d0).snd)) (W64 (d-1))).fst.kids]))))])) ( K (.exit 2) (.mk [(8,pA),(12,pB)] [(500000,(.some (.box 139 [(.r (.v (Value.string (mk z)))),(.r (.v (Value.int IntKind.i64 q))),(.r (.v (Value.slice none 0 0)))]))),(500001,(.some (.box 139 [(.r (.v (Value.string (mk s)))),(.r (.v (Value.int IntKind.i64 r))),(.own 500002)]))),(0,(bR x)),(500002,(.some (.lis 139 (Ty.tree) ks)))]))):=by kernel_rfl
theorem any_low (x:Rd) (g:Gram) (s:Str) (d:Int) (hf:fitR x=true) (hs:List.length s≤8) (hd : -1000≤d∧d≤1000) (h:anyPre lv x g s d=true):tOk lv (F_any lv x g s d).1=true∧Adv x (F_any lv x g s d).2 (pw lv):=by
 have h1:=h
 unfold anyPre at h1
 simp only[andd,dec_iff,ble_iff]at h1
 obtain⟨a1,a2,a3,a4,a5,a6⟩:=h1
 have hp:=pw_pos lv
 refine(oneOf_spec ((default:Lev).h x g s d (fitR_fit hf a1 (by omega)) (szG_fit a2 (by omega)) ?_ ?_ h)).2
 ·show List.length s≤9223372036854775807
  omega
 ·exact wrap_small (by omega) (by omega)
def cx0_kids:Cx:=cb_any
def sh_kids:Sh:=([(0, .ptr 0 0),(3, .d TI64),(5, .ptr 500000 0),(8, .ptr 500001 0),(10, .d TI64),(12, .ptr 500002 0),(13, .d TI64)],[(0, .box 120 TR),(500000, .box 25 TG),(500001, .mix 139 [.d .str, .d TI64, .nil]),(500002, .mix 139 [.d .str, .d TI64, .own 500003]),(500003, .lis 139 .tree)])
abbrev st_kids (d:Int) (k:Int) (i:Int) (x:Den TR) (g:Gram) (z:Str) (q:Int) (s:Str) (r:Int) (ks:List (GTree)):St:=⟨[(0, .d (.one (.ptr 0 0))),(3,vI d),(5, .d (.one (.ptr 500000 0))),(8, .d (.one (.ptr 500001 0))),(10,vI k),(12, .d (.one (.ptr 500002 0))),(13,vI i)],[(0,some (boxD 120 TR x)),(500000,some (boxD 25 TG g)),(500001,some (.box 139 ((cellsR .str z).map C.r++(cellsR TI64 q).map C.r++[.r (.v (.slice none 0 0))]))),(500002,some (.box 139 ((cellsR .str s).map C.r++(cellsR TI64 r).map C.r++[.own 500003]))),(500003,some (.lis 139 .tree ks))]⟩
def V_kids (d:Int) (k:Int) (i:Int) (x:Den TR) (g:Gram) (z:Str) (q:Int) (s:Str) (r:Int) (ks:List (GTree)):sh_kids.V:=((d,k,i,()),(x,g,(z,q,()),(s,r,()),ks,()))
def out_kids (o:(Str×Int)×(Str×Int)×List GTree×Rd):St:=⟨[(8, pA),(12, pB)],[(500000,treeO o.1.1 o.1.2),(500001,some (.box 139 [.r (.v (.string (mk o.2.1.1))), .r (.v (.int .i64 o.2.1.2)), .own 500002])),(0,bR o.2.2.2),(500002,some (.lis 139 .tree o.2.2.1))]⟩
def inv_kids (d:Int) (k:Int) (i:Int) (x:Den TR) (g:Gram) (_z:Str) (_q:Int) (_s:Str) (_r:Int) (ks:List (GTree)):Bool:=fitR x&&(rdAt x (1000000000000-pw (lv+1)+1+i*pw lv)&&(szG 20 g&&(decide (1≤d)&&(decide (d≤(lv:Int))&&(Nat.ble lv 11&&(inb k (List.length g.2)&&(decide (0≤i)&&(decide (i≤((rgt g k).length:Int))&&(decide ((ks.length:Int)≤i)&&List.all ks (tOk lv))))))))))
def post_kids (_d:Int) (_k:Int) (i:Int) (x:Den TR) (_g:Gram) (z:Str) (q:Int) (s:Str) (r:Int) (_ks:List (GTree)) (o:(Str×Int)×(Str×Int)×List GTree×Rd):Prop:=o.1=(z,q)∧o.2.1=(s,r)∧List.all o.2.2.1 (tOk lv)=true∧o.2.2.1.length≤8∧Adv x o.2.2.2 ((8-i)*pw lv)
def mu_kids (_d:Int) (_k:Int) (i:Int) (_x:Den TR) (_g:Gram) (_z:Str) (_q:Int) (_s:Str) (_r:Int) (_ks:List (GTree)):Nat:=(8-i).toNat
theorem r_kids (d:Int) (k:Int) (i:Int) (x:Den TR) (g:Gram) (z:Str) (q:Int) (s:Str) (r:Int) (ks:List (GTree)) (hI:inv_kids d k i x g z q s r ks=true):(∃o:(Str×Int)×(Str×Int)×List GTree×Rd,post_kids d k i x g z q s r ks o∧∀(R:St→Option Fin) (K:Cont),evC cx0_kids (loopOf Tryz.f127 1) (st_kids d k i x g z q s r ks) (onward (headAt cx0_kids 15) R K)=K (.exit 2) (out_kids o)) ∨
  (∃(d':Int) (k':Int) (i':Int) (x':Den TR) (g':Gram) (z':Str) (q':Int) (s':Str) (r':Int) (ks':List (GTree)),inv_kids d' k' i' x' g' z' q' s' r' ks'=true∧mu_kids d' k' i' x' g' z' q' s' r' ks'<mu_kids d k i x g z q s r ks∧(∀o,post_kids d' k' i' x' g' z' q' s' r' ks' o→post_kids d k i x g z q s r ks o)∧∀(R:St→Option Fin) (K:Cont),evC cx0_kids (loopOf Tryz.f127 1) (st_kids d k i x g z q s r ks) (onward (headAt cx0_kids 15) R K)=R (st_kids d' k' i' x' g' z' q' s' r' ks')):=by
 simp only[inv_kids,andd,dec_iff,ble_iff]at hI
 obtain⟨h1,h2,h3,h4,h5,h6,h7,h8,h9,h10,h11⟩:=hI
 have hr8:=rgt_len (k:=k) h3
 have hp:=pw_pos lv
 have hp2:=pw_succ lv
 have hx:=fun R K=>x_spec_l3Any_1 x g s z d q r k i ks R K
 rw[h7]at hx
 by_cases hi:i<((rgt g k).length:Int)
 ·right
  have hipw:i*pw lv≤7*pw lv:=Int.mul_le_mul_of_nonneg_right (by omega) (by omega)
  have hn1:(i+1)*pw lv=i*pw lv+pw lv:=by rw[Int.add_mul,Int.one_mul]
  have hn2:(8-i)*pw lv=(8-(i+1))*pw lv+pw lv:=by rw[show (8:Int)-i=(8-(i+1))+1 by omega,Int.add_mul,Int.one_mul]
  have w1:W64 (i+1)=i+1:=wrap_small (by omega) (by omega)
  have w2:W64 (d-1)=d-1:=wrap_small (by omega) (by omega)
  have hsl:List.take ((i+1).toNat-i.toNat) (List.drop i.toNat (rgt g k))=[(rgt g k).getD i.toNat 0]:=slice_one h8 hi
  have hpre:anyPre lv x g [(rgt g k).getD i.toNat 0] (d-1)=true:=by
   unfold anyPre
   simp only[andd,dec_iff,ble_iff]
   refine⟨?_,h3,by omega,by omega,by simp,by omega⟩
   have:=rdAt_iff.1 h2
   exact rdAt_iff.2 ⟨this.1,by omega⟩
  obtain⟨p1,p2⟩:=any_low x g [(rgt g k).getD i.toNat 0] (d-1) h1 (by simp) ⟨by omega,by omega⟩ hpre
  have k1:inr i (i+1) (rgt g k).length=true:=inr_iff.2 (by omega)
  rw[w1,w2]at hx
  change ∀R K,_=need true (branch (decide (i<((rgt g k).length:Int))) (need true (need (inr i (i+1) (rgt g k).length) _)) _)at hx
  rw[decide_eq_true hi,k1]at hx
  generalize hF:F_any lv x g [(rgt g k).getD i.toNat 0] (d-1)=f at p1 p2
  refine⟨d,k,i+1,f.2,g,z,q,s,r,ks++[f.1], ?_, ?_, ?_,fun R K=>(hx R K).trans ?_⟩
  ·simp only[inv_kids,andd,dec_iff,ble_iff]
   have ha:=rdAt_iff.1 h2
   refine⟨by rw[fitR_adv p2];exact h1, ?_,h3,h4,h5,h6,h7,by omega,by omega,by rw[List.length_append,List.length_singleton];omega, ?_⟩
   ·have:=p2.2
    exact rdAt_iff.2 ⟨by omega,by omega⟩
   ·rw[List.all_append,h11,List.all_cons,p1];rfl
  ·simp only[mu_kids];omega
  ·rintro o ⟨g1,g2,g3,g4,g5⟩
   exact⟨g1,g2,g3,g4,(p2.trans g5).le (by omega)⟩
  ·have e:List.take ((i+1).toNat-i.toNat) (List.drop i.toNat (List.getD g.2 k.toNat d0).2)=[(rgt g k).getD i.toNat 0]:=hsl
   have k2:fits (ks.length+[f.1].length) Tryz.t139.bytes=true:=by rw[treeBytes];exact fits_ok (by simp;omega) (by omega)
   rw[e,hF,hpre,tEta,k2];rfl
 ·left
  refine⟨((z,q),(s,r),ks,x),⟨rfl,rfl,h11,by show ks.length≤8;omega,(Adv.refl x).le (Int.mul_nonneg (by omega) (by omega))⟩,fun R K=>(hx R K).trans ?_⟩
  change need true (branch (decide (i<((rgt g k).length:Int))) _ _)=_
  rw[decide_eq_false hi,branch_false,need_t]
  unfold out_kids
  rfl
def I_kids:sh_kids.V→Bool:=fun v=>match v with | ((d,k,i,()),(x,g,(z,q,()),(s,r,()),ks,()))=>inv_kids d k i x g z q s r ks
def P_kids:sh_kids.V→(Str×Int)×(Str×Int)×List GTree×Rd→Prop:=fun v o=>match v with | ((d,k,i,()),(x,g,(z,q,()),(s,r,()),ks,()))=>post_kids d k i x g z q s r ks o
def M_kids:sh_kids.V→Nat:=fun v=>match v with | ((d,k,i,()),(x,g,(z,q,()),(s,r,()),ks,()))=>mu_kids d k i x g z q s r ks
theorem a_kids:∀v:sh_kids.V,I_kids v=true→∃o,P_kids v o∧∀K r,K (.exit 2) (out_kids o)=some r→∃N,iter (evC cx0_kids (loopOf Tryz.f127 1)) (headAt cx0_kids 15) N (sh_kids.mk v) K=some r :=
 loop_any (fun v=>I_kids v=true) P_kids (.exit 2) M_kids fun v hI=>by
  obtain⟨⟨(d:Int),(k:Int),(i:Int),⟨⟩⟩,⟨(x:Den TR),(g:Gram),⟨(z:Str),(q:Int),⟨⟩⟩,⟨(s:Str),(r:Int),⟨⟩⟩,(ks:List (GTree)),⟨⟩⟩⟩:=v
  rcases r_kids d k i x g z q s r ks hI with⟨o,h1,h2⟩ | ⟨d',k',i',x',g',z',q',s',r',ks',h1,h2,h3,h4⟩
  ·exact .inl ⟨o,h1,h2⟩
  ·exact .inr ⟨V_kids d' k' i' x' g' z' q' s' r' ks',h1,h2,h3,h4⟩
def g_kids:St→Cont→Option Fin:=gEnd sh_kids I_kids out_kids (evC cx0_kids (loopOf Tryz.f127 1)) (headAt cx0_kids 15) P_kids (.exit 2)
def E_kids (d:Int) (k:Int) (i:Int) (x:Den TR) (g:Gram) (z:Str) (q:Int) (s:Str) (r:Int) (ks:List (GTree)):(Str×Int)×(Str×Int)×List GTree×Rd:=endOf sh_kids.mk out_kids (evC cx0_kids (loopOf Tryz.f127 1)) (headAt cx0_kids 15) P_kids (.exit 2) (V_kids d k i x g z q s r ks)
theorem q_kids (d:Int) (k:Int) (i:Int) (x:Den TR) (g:Gram) (z:Str) (q:Int) (s:Str) (r:Int) (ks:List (GTree)) (hI:inv_kids d k i x g z q s r ks=true):post_kids d k i x g z q s r ks (E_kids d k i x g z q s r ks):=(endOf_spec (a_kids (V_kids d k i x g z q s r ks) hI)).1
def cx_anyF:Cx:=cb_any.withLoops (look [(15,g_kids),(9,g_shA)])
theorem y_spec_l3Any (x:Rd) (g:Gram) (s:Str) (d:Int):evFn cx_anyF Tryz.f127 true [.one (.ptr 0 0),ofD TG g,ofD .str s,ofD TI64 d] [boxD 120 TR x]=(
branch (smallS s) ( some ((.d (.agg [(.r (.v (Value.string (mk s)))),(.r (.v (Value.int IntKind.i64 (Int.neg 1)))),(.r (.li ty139 ([])))])),[(0,(bR x))])) (
 need (g.snd.length.ble 1000) <|
 branch (bif decide (((forL s g.snd 0).length:Int)=0)then true else decide (d<1)) ( some ((.d (.agg [(.r (.v (Value.string (mk s)))),(.r (.v (Value.int IntKind.i64 (Int.neg 1)))),(.r (.li ty139 ([])))])),[(0,(bR x))])) (
 need (rdOk x) <|
 need (inb (pickV x ((forL s g.snd 0).length:Int)) (forL s g.snd 0).length) <|
 branch (decide (d<4)) (
  need (pre_shA s d (forL s g.snd 0) ((forL s g.snd 0).getD (pickV x ((forL s g.snd 0).length:Int)).toNat 0) 0 (rdGo x 1) g ([]:Str) 0) <|
  need (inv_kids d (minK g (id (forL s g.snd 0)) ((forL s g.snd 0).getD (pickV x ((forL s g.snd 0).length:Int)).toNat 0)) 0 (rdGo x 1) g ([]:Str) 0 s (minK g (id (forL s g.snd 0)) ((forL s g.snd 0).getD (pickV x ((forL s g.snd 0).length:Int)).toNat 0)) []) <| some ((.d (.agg [(.r (.v (Value.string (mk (E_kids d (minK g (id (forL s g.snd 0)) ((forL s g.snd 0).getD (pickV x ((forL s g.snd 0).length:Int)).toNat 0)) 0 (rdGo x 1) g ([]:Str) 0 s (minK g (id (forL s g.snd 0)) ((forL s g.snd 0).getD (pickV x ((forL s g.snd 0).length:Int)).toNat 0)) []).snd.fst.fst)))),(.r (.v (Value.int IntKind.i64 (E_kids d (minK g (id (forL s g.snd 0)) ((forL s g.snd 0).getD (pickV x ((forL s g.snd 0).length:Int)).toNat 0)) 0 (rdGo x 1) g ([]:Str) 0 s (minK g (id (forL s g.snd 0)) ((forL s g.snd 0).getD (pickV x ((forL s g.snd 0).length:Int)).toNat 0)) []).snd.fst.snd))),(.r (.li (Ty.tree) ((E_kids d (minK g (id (forL s g.snd 0)) ((forL s g.snd 0).getD (pickV x ((forL s g.snd 0).length:Int)).toNat 0)) 0 (rdGo x 1) g ([]:Str) 0 s (minK g (id (forL s g.snd 0)) ((forL s g.snd 0).getD (pickV x ((forL s g.snd 0).length:Int)).toNat 0)) []).snd.snd.fst)))])),[(0,(bR (E_kids d (minK g (id (forL s g.snd 0)) ((forL s g.snd 0).getD (pickV x ((forL s g.snd 0).length:Int)).toNat 0)) 0 (rdGo x 1) g ([]:Str) 0 s (minK g (id (forL s g.snd 0)) ((forL s g.snd 0).getD (pickV x ((forL s g.snd 0).length:Int)).toNat 0)) []).snd.snd.snd))])) (
  need (inv_kids d ((forL s g.snd 0).getD (pickV x ((forL s g.snd 0).length:Int)).toNat 0) 0 (rdGo x 1) g ([]:Str) 0 s ((forL s g.snd 0).getD (pickV x ((forL s g.snd 0).length:Int)).toNat 0) []) <| some ((.d (.agg [(.r (.v (Value.string (mk (E_kids d ((forL s g.snd 0).getD (pickV x ((forL s g.snd 0).length:Int)).toNat 0) 0 (rdGo x 1) g ([]:Str) 0 s ((forL s g.snd 0).getD (pickV x ((forL s g.snd 0).length:Int)).toNat 0) []).snd.fst.fst)))),(.r (.v (Value.int IntKind.i64 (E_kids d ((forL s g.snd 0).getD (pickV x ((forL s g.snd 0).length:Int)).toNat 0) 0 (rdGo x 1) g ([]:Str) 0 s ((forL s g.snd 0).getD (pickV x ((forL s g.snd 0).length:Int)).toNat 0) []).snd.fst.snd))),(.r (.li (Ty.tree) ((E_kids d ((forL s g.snd 0).getD (pickV x ((forL s g.snd 0).length:Int)).toNat 0) 0 (rdGo x 1) g ([]:Str) 0 s ((forL s g.snd 0).getD (pickV x ((forL s g.snd 0).length:Int)).toNat 0) []).snd.snd.fst)))])),[(0,(bR (E_kids d ((forL s g.snd 0).getD (pickV x ((forL s g.snd 0).length:Int)).toNat 0) 0 (rdGo x 1) g ([]:Str) 0 s ((forL s g.snd 0).getD (pickV x ((forL s g.snd 0).length:Int)).toNat 0) []).snd.snd.snd))]))))):=by kernel_rfl
abbrev anyG (n:Nat) (x:Rd) (r:Fin):Prop:=∃(v:GTree) (x':Rd),r=(.d (ofD .tree v),[(0,some (boxD 120 TR x'))])∧tOk n v=true∧Adv x x' (pw n)
theorem any_fin {x:Rd} {g:Gram} {s:Str} {d k:Int} (hs:List.length s≤8) (hi:inv_kids d k 0 (rdGo x 1) g [] 0 s k []=true) (hk:0≤k∧k≤1000) :
  Ok (some (.d (.agg [.r (.v (.string (mk (E_kids d k 0 (rdGo x 1) g ([]:Str) 0 s k []).2.1.1))), .r (.v (.int .i64 (E_kids d k 0 (rdGo x 1) g ([]:Str) 0 s k []).2.1.2)), .r (.li .tree (E_kids d k 0 (rdGo x 1) g ([]:Str) 0 s k []).2.2.1)]),[(0,bR (E_kids d k 0 (rdGo x 1) g ([]:Str) 0 s k []).2.2.2)])) (anyG (lv+1) x):=by
 obtain⟨g1,g2,g3,g4,g5⟩:=q_kids d k 0 (rdGo x 1) g [] 0 s k [] hi
 generalize E_kids d k 0 (rdGo x 1) g ([]:Str) 0 s k []=o at g1 g2 g3 g4 g5
 obtain⟨o1,⟨o2,o3⟩,o4,o5⟩:=o
 cases g2
 have hp:=pw_pos lv
 have hp2:=pw_succ lv
 refine Ok.ret ⟨.node s k o4,o5,rfl,andd.2 ⟨andd.2 ⟨ble_iff.2 hs,andd.2 ⟨dec_iff.2 (show (-1:Int)≤k by omega),andd.2 ⟨dec_iff.2 (show k≤1000 by omega),ble_iff.2 g4⟩⟩⟩,g3⟩,((Adv.one x).trans g5).le ?_⟩
 rw[show (8:Int)-0=8 from rfl];omega
theorem any_up:anyH (lv+1):=fun x g s d hx hg hs hd hpre=>by
 have f0:=fit_fitR hx
 unfold anyPre at hpre
 simp only[andd,dec_iff,ble_iff]at hpre
 obtain⟨a1,a2,a3,a4,a5,a6⟩:=hpre
 have hp:=pw_pos lv
 have hp2:=pw_succ lv
 have hlen:List.length g.2≤20:=by
  unfold szG at a2
  rw[andd,andd,ble_iff,ble_iff]at a2
  exact a2.2.1
 have hleaf:Ok (some (.d (.agg [.r (.v (.string (mk s))), .r (.v (.int .i64 (Int.neg 1))), .r (.li .tree [])]),[(0,bR x)])) (anyG (lv+1) x):=Ok.ret ⟨.node s (-1) [],x,rfl,leaf_ok a5,(Adv.refl x).le (by omega)⟩
 have main:Ok (evFn cx_anyF Tryz.f127 true [.one (.ptr 0 0),ofD TG g,ofD .str s,ofD TI64 d] [boxD 120 TR x]) (anyG (lv+1) x):=by
  rw[y_spec_l3Any]
  refine Ok.br (fun _=>hleaf) fun _=>Ok.need (ble_iff.2 (by omega)) (Ok.br (fun _=>hleaf) fun hc => ?_)
  have hc1:¬((forL s g.2 0).length:Int)=0∧¬d<1:=by
   rw[b3]at hc
   simp only[Bool.or_eq_false_iff,decide_eq_false_iff_not]at hc
   exact hc
  have k0:rdOk x=true:=ok1 a1 (by omega)
  have hpk:=pickV_range (n:=((forL s g.2 0).length:Int)) ((byB_iff.1 (andd.1 f0).1)) k0 (by omega)
  have hin:=inb_ok hpk.1 hpk.2
  have hall:∀a∈forL s g.2 0,inb a (List.length g.2)=true∧0≤a∧a≤1000:=fun a ha=>by
   obtain⟨m1,m2,_⟩:=forL_mem ha
   exact⟨inb_ok (by omega) (by omega),by omega,by omega⟩
  have hk1:(forL s g.2 0).getD (pickV x ((forL s g.2 0).length:Int)).toNat 0∈forL s g.2 0:=by
   have hn:(pickV x ((forL s g.2 0).length:Int)).toNat<(forL s g.2 0).length:=by omega
   rw[List.getD_eq_getElem?_getD,List.getElem?_eq_getElem hn];exact List.getElem_mem hn
  generalize hK:(forL s g.2 0).getD (pickV x ((forL s g.2 0).length:Int)).toNat 0=k at hk1
  obtain⟨q1,q2,q3⟩:=hall k hk1
  have hinv:∀k',inb k' (List.length g.2)=true→inv_kids d k' 0 (rdGo x 1) g [] 0 s k' []=true:=fun k' hk'=>by
   simp only[inv_kids,andd,dec_iff,ble_iff]
   have ha:=rdAt_iff.1 a1
   refine⟨by rw[fitR_adv (Adv.one x)];exact f0, ?_,a2,by omega,by omega,by omega,hk',by omega,by omega,by simp,rfl⟩
   rw[Int.zero_mul]
   exact rdAt_iff.2 ⟨by simp only[rdGo];omega,by simp only[rdGo];omega⟩
  refine Ok.need k0 (Ok.need hin (Ok.br (fun _ => ?_) fun _=>Ok.need (hinv k q1) (any_fin a5 (hinv k q1) ⟨q2,q3⟩)))
  have hsh:pre_shA s d (forL s g.2 0) k 0 (rdGo x 1) g ([]:Str) 0=true:=by
   simp only[pre_shA,andd,dec_iff,ble_iff]
   refine⟨by omega,q1,List.all_eq_true.2 fun a ha=>(hall a ha).1, ?_⟩
   have:=forL_len (s:=s) (l:=g.2) (k:=0)
   omega
  have hm:=minK_in (g:=g) (n:=List.length g.2) (l:=forL s g.2 0) (k:=k) q1 (List.all_eq_true.2 fun a ha=>(hall a ha).1)
  have hm2:=inb_iff.1 hm
  exact Ok.need hsh (Ok.need (hinv _ hm) (any_fin a5 (hinv _ hm) ⟨hm2.1,by show minK g (forL s g.2 0) k≤1000;omega⟩))
 obtain⟨r,e1,v,x',e2,e3,e4⟩:=main
 subst e2
 exact⟨(v,x'),fn_sound (cx:=cx_anyF) Tryz.func127 rfl ttOk Γ60ok mixed (fun c hc=>LoopsOk.all (l:=[(9,loopOf Tryz.f127 0),(15,loopOf Tryz.f127 1)]) (by cases hc;kernel_rfl) ⟨atLoop rfl (l_shA (L:=[(15,g_kids),(9,g_shA)]) 2 rfl (by kernel_rfl)),atLoop rfl (with_ok (by kernel_rfl) (gEnd_ok a_kids)),trivial⟩) (ro:=true) e1,e3,e4⟩
end
theorem any_all:∀n,anyH n
 |0=>any0
 |n+1=>@any_up ⟨⟨n,any_all n⟩⟩
def c_spec_l3Any:Con:=conAny 9
theorem k_spec_l3Any:ConOk Tryz.prog 127 c_spec_l3Any:=k_any (any_all 9)
def Γ61:GL:=(127,c_spec_l3Any)::Γ59
theorem Γ61ok:GO Γ61 := .cons k_spec_l3Any Γ59ok
def tOkP:Nat→GTree→Bool
 |0,_=>false
 |n+1,t=>tOk n t
theorem tOkP_kids:∀ {n:Nat} {t:GTree},tOkP (n+1) t=true→smT t=true∧List.all (GTree.kids t) (tOkP n)=true
 |0,t,h=>by
  obtain⟨h1,h2⟩:=andd.1 h
  exact⟨h1,by rw[List.length_eq_zero_iff.1 (Nat.eq_of_beq_eq_true h2)];rfl⟩
 |n+1,t,h=>andd.1 h
def yldP:Nat→GTree→Str
 |0,_=>[]
 |n+1,t=>bif smallS t.sign then t.sign else t.kids.flatMap (yldP n)
theorem flat_len {f:GTree→Str} {m:Nat}:∀ {l:List GTree},(∀t∈l,(f t).length≤m)→(l.flatMap f).length≤l.length*m
 | [],_=>Nat.zero_le _
 |t::l,h=>by
  have h1:=h t List.mem_cons_self
  have h2:=flat_len (l:=l) fun t ht=>h t (List.mem_cons_of_mem _ ht)
  rw[List.flatMap_cons,List.length_append,List.length_cons,Nat.add_mul]
  omega
theorem yld_len:∀ {n:Nat} {t:GTree},tOkP n t=true→(yldP n t).length≤8 ^ n
 |0,_,_=>Nat.zero_le _
 |n+1,t,h=>by
  obtain⟨h1,h2⟩:=tOkP_kids h
  have hp:0<8 ^ n:=Nat.pow_pos (by omega)
  unfold yldP
  rw[Nat.pow_succ]
  cases hs:smallS t.sign
  ·have hk:List.length t.kids≤8:=by
    unfold smT at h1
    rw[andd,andd,andd]at h1
    exact ble_iff.1 h1.2.2.2
   have:=flat_len (f:=yldP n) (m:=8 ^ n) (l:=t.kids) fun k hk=>yld_len (List.all_eq_true.1 h2 k hk)
   have h3:=Nat.mul_le_mul_right (8 ^ n) hk
   simp only[cond_false]
   omega
  ·obtain ⟨c,e,_⟩:=smallS_one hs
   rw[cond_true,e]
   simp only[List.length_cons,List.length_nil]
   omega
theorem yld_len12 {n:Nat} {t:GTree} (h:tOkP n t=true) (hn:n≤12):(yldP n t).length≤68719476736 :=
 Nat.le_trans (yld_len h) (Nat.le_trans (Nat.pow_le_pow_right (by omega) hn) (by decide))
abbrev kidT (t:GTree) (i:Int):GTree:=t.kids.getD i.toNat tz
theorem kid_in {t:GTree} {i:Int} (h0:0≤i) (h1:i<(t.kids.length:Int)):kidT t i∈t.kids:=by
 have hn:i.toNat<t.kids.length:=by omega
 show t.kids.getD i.toNat tz∈_
 rw[List.getD_eq_getElem?_getD,List.getElem?_eq_getElem hn];exact List.getElem_mem hn
theorem yl_at {n:Nat} {t:GTree} {i:Int} (h0:0≤i) (h1:i<(t.kids.length:Int)):(t.kids.drop i.toNat).flatMap (yldP n)=yldP n (kidT t i)++(t.kids.drop (i+1).toNat).flatMap (yldP n):=by
 have hn:i.toNat<t.kids.length:=by omega
 rw[List.drop_eq_getElem_cons hn,List.flatMap_cons,show (i+1).toNat=i.toNat+1 by omega]
 show _=yldP n (t.kids.getD i.toNat tz)++_
 rw[List.getD_eq_getElem?_getD,List.getElem?_eq_getElem hn];rfl
def conYield (n:Nat):Con:=conT [.tree] fun(t:GTree)=>(some (tOkP n t&&Nat.ble n 12), .d (ofD .str (yldP n t)))
structure LevY where
 n:Nat
 h:ConOk Tryz.prog 126 (conYield n)
noncomputable section
variable [Inhabited LevY]
abbrev lvY:Nat:=(default:LevY).n
def c_spec_l3YieldR:Con:=conYield lvY
theorem k_spec_l3YieldR:ConOk Tryz.prog 126 c_spec_l3YieldR:=(default:LevY).h
def Γ62:GL:=(126,c_spec_l3YieldR)::Γ61
theorem Γ62ok:GO Γ62 := .cons k_spec_l3YieldR Γ61ok
def cb_yield:Cx:=cxOf Γ62 Tryz.f126.ntmps [(5,[1,3,4])] [(0,[3]),(1,[1,3,4]),(1000000,[2])] [] []
theorem x_spec_l3Yield (t:GTree) (o:Str) (i:Int) (R:St→Option Fin) (K:Cont):evC (cb_yield.withLoops (look [])) (loopOf Tryz.f126 0) ⟨[(1, pA),(3,vS o),(4,vI i)],[(500000,some (boxD 139 .tree t))]⟩ (onward (headAt (cb_yield.withLoops (look [])) 5) R K)=(
branch (decide (i<(t.kids.length:Int))) (
 need (inb i t.kids.length) <|
 need (tOkP lvY (GTree.node (GTree.sign (t.kids.getD i.toNat tz)) (GTree.rule (t.kids.getD i.toNat tz)) (GTree.kids (t.kids.getD i.toNat tz)))&&lvY.ble 12) <|
 need (decide ((List.length o+List.length (yldP lvY (GTree.node (GTree.sign (t.kids.getD i.toNat tz)) (GTree.rule (t.kids.getD i.toNat tz)) (GTree.kids (t.kids.getD i.toNat tz)))))≤9223372036854775807)) <| R (.mk [(1,pA),(3,(vS (List.append o (yldP lvY (GTree.node (GTree.sign (t.kids.getD i.toNat tz)) (GTree.rule (t.kids.getD i.toNat tz)) (GTree.kids (t.kids.getD i.toNat tz))))))),(4,vI (W64 (i+1)))] [(500000,(.some (.box 139 [(.r (.v (Value.string (mk t.sign)))),(.r (.v (Value.int IntKind.i64 t.rule))),(.r (.li (Ty.tree) (t.kids)))])))])) ( K (.exit 0) (.mk [(3,vS o)] []))):=by kernel_rfl
def cx0_ylA:Cx:=(cb_yield).withLoops (look [])
def sh_ylA:Sh:=([(1, .ptr 500000 0),(3, .d .str),(4, .d TI64)],[(500000, .box 139 .tree)])
abbrev st_ylA (o:Str) (i:Int) (t:GTree):St:=⟨[(1, .d (.one (.ptr 500000 0))),(3,vS o),(4,vI i)],[(500000,some (boxD 139 .tree t))]⟩
def pre_ylA (o:Str) (i:Int) (t:GTree):Bool:=decide (0≤i)&&(smT t&&(List.all (GTree.kids t) (tOkP lvY)&&(Nat.ble lvY 12&&decide ((List.length o:Int)≤i*68719476736))))
def res_ylA (o:Str) (i:Int) (t:GTree) (K:Cont):Option Fin:=K (.exit 0) ⟨[(3,vS (o++(t.kids.drop i.toNat).flatMap (yldP lvY)))],[]⟩
def mu_ylA (_o:Str) (i:Int) (t:GTree):Nat:=t.kids.length-i.toNat
theorem r_ylA (o:Str) (i:Int) (t:GTree) (K:Cont) (hI:pre_ylA o i t=true):(∀R:St→Option Fin,evC cx0_ylA (loopOf Tryz.f126 0) (st_ylA o i t) (onward (headAt cx0_ylA 5) R K)=res_ylA o i t K) ∨
  (∃(o':Str) (i':Int) (t':GTree),pre_ylA o' i' t'=true∧mu_ylA o' i' t'<mu_ylA o i t∧res_ylA o' i' t' K=res_ylA o i t K∧∀R:St→Option Fin,evC cx0_ylA (loopOf Tryz.f126 0) (st_ylA o i t) (onward (headAt cx0_ylA 5) R K)=R (st_ylA o' i' t')):=by
 have hx:=fun R=>x_spec_l3Yield t o i R K
 rw[tEta (t.kids.getD i.toNat tz)]at hx
 change ∀R,_=branch (decide (i<(t.kids.length:Int))) (need (inb i t.kids.length) (need (tOkP lvY (kidT t i)&&lvY.ble 12) (need (decide ((List.length o+List.length (yldP lvY (kidT t i)))≤9223372036854775807)) _))) _ at hx
 simp only[pre_ylA]at hI
 rw[andd,andd,andd,andd,dec_iff,ble_iff,dec_iff]at hI
 obtain⟨h0,h1,h2,h3,h4⟩:=hI
 have hk8:t.kids.length≤8:=by
  have h5:=h1
  unfold smT at h5
  rw[andd,andd,andd]at h5
  exact ble_iff.1 h5.2.2.2
 by_cases hi:i<(t.kids.length:Int)
 ·have hkid:=List.all_eq_true.1 h2 _ (kid_in h0 hi)
  have hlen:=yld_len12 hkid h3
  have k1:(tOkP lvY (kidT t i)&&lvY.ble 12)=true:=andd.2 ⟨hkid,ble_iff.2 h3⟩
  have k2:decide ((List.length o+List.length (yldP lvY (kidT t i)))≤9223372036854775807)=true:=dec_iff.2 (by omega)
  have w:W64 (i+1)=i+1:=wrap_small (by omega) (by omega)
  rw[decide_eq_true hi,inb_ok h0 hi,k1,k2,w]at hx
  have hg:=yl_at (n:=lvY) h0 hi
  right
  refine⟨o++yldP lvY (kidT t i),i+1,t, ?_, ?_, ?_,fun R=>hx R⟩
  ·simp only[pre_ylA]
   rw[andd,andd,andd,andd,dec_iff,ble_iff,dec_iff,List.length_append]
   exact⟨by omega,h1,h2,h3,by omega⟩
  ·simp only[mu_ylA];omega
  ·simp only[res_ylA,hg,List.append_assoc]
 ·left
  intro R
  refine(hx R).trans ?_
  rw[decide_eq_false hi]
  have e:t.kids.drop i.toNat=[]:=List.drop_eq_nil_of_le (by omega)
  simp only[res_ylA,e,List.flatMap_nil,List.append_nil];rfl
def g_ylA:St→Cont→Option Fin:=gP sh_ylA (fun v=>match v with | ((o,i,()),(t,()))=>pre_ylA o i t) (fun v K=>match v with | ((o,i,()),(t,()))=>res_ylA o i t K)
def L_ylA:LpL:=(5,g_ylA)::[]
def cx_ylA:Cx:=(cb_yield).withLoops (look L_ylA)
theorem l_ylA {L:LpL} (n:Nat) (h1:L.drop n=[]) (h2:idsFree (L.take n) (loopOf Tryz.f126 0)=true):LoopsTo g_ylA (cb_yield) (loopOf Tryz.f126 0) 5 L :=
 with_drop h1 h2 (gP_ok (fun v=>match v with | ((o,i,()),(t,()))=>mu_ylA o i t) fun v K hI=>by
  obtain⟨⟨o,i,⟨⟩⟩,⟨t,⟨⟩⟩⟩:=v
  exact(r_ylA o i t K hI).imp id fun⟨o',i',t',h⟩=>⟨((o',i',()),(t',())),h⟩)
theorem y_spec_l3Yield (t:GTree):evFn cx_ylA Tryz.f126 true [ofD .tree t] []=(
branch (smallS t.sign) ( some ((vS t.sign),[])) (
 need (pre_ylA ([]:Str) 0 (GTree.node t.sign t.rule t.kids)) <| some ((vS (([]:Str).append (List.flatMap (yldP lvY) (id (GTree.node t.sign t.rule t.kids).kids)))),[]))):=by kernel_rfl
theorem yield_up:ConOk Tryz.prog 126 (conYield (lvY+1)):=conT_ok Tryz.call126 fun(t:GTree) ht hqq=>by
 obtain⟨h1,h2⟩:=andd.1 (pre_of hqq)
 have h2:=ble_iff.1 h2
 obtain⟨g1,g2⟩:=tOkP_kids h1
 refine fn_sound (cx:=cx_ylA) Tryz.func126 rfl ttOk Γ62ok mixed (fun c hc=>LoopsOk.all (l:=[(5,loopOf Tryz.f126 0)]) (by cases hc;kernel_rfl) ⟨atLoop rfl (l_ylA 1 rfl (by kernel_rfl)),trivial⟩) (ro:=true) ?_
 refine(y_spec_l3Yield t).trans ?_
 have hp:pre_ylA ([]:Str) 0 (GTree.node t.sign t.rule t.kids)=true:=by
  rw[tEta]
  simp only[pre_ylA]
  rw[andd,andd,andd,andd,dec_iff,ble_iff,dec_iff]
  exact⟨Int.le_refl _,g1,g2,by omega,by simp⟩
 rw[hp]
 show branch (smallS t.sign) _ _=some (vS (bif smallS t.sign then t.sign else t.kids.flatMap (yldP lvY)),[])
 cases smallS t.sign<;>rfl
end
theorem yield_all:∀n,ConOk Tryz.prog 126 (conYield n)
 |0=>conT_ok Tryz.call126 fun(t:GTree) _ hqq=>by
  have:=pre_of hqq
  cases (andd.1 this).1
 |n+1=>@yield_up ⟨⟨n,yield_all n⟩⟩
def c_spec_l3Yield:Con:=conYield 10
theorem k_spec_l3Yield:ConOk Tryz.prog 126 c_spec_l3Yield:=yield_all 10
def Γ63:GL:=(126,c_spec_l3Yield)::Γ61
theorem Γ63ok:GO Γ63 := .cons k_spec_l3Yield Γ61ok
end
end Go.Proofs.YtmeiebnfmhddnaaGreatDoor.Ev
