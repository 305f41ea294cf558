/-
  Draws of trees and their texts; the law FnTreeText.
-/
import Derived.Test.YtkhhclpkljikkaaDoorGzc
import Derived.WalkKit
import Derived.Lib.Walk
import Derived.WalkSpells
namespace Go.Proofs.YtkhhclpkljikkaaDoor.Ev
open Go
open List (length length_append length_cons length_singleton length_replicate length_set length_take length_drop mem_cons_of_mem mem_cons_self getD replicate mem_append_left mem_append_right all_eq_true drop_eq_getElem_cons drop_eq_nil_of_le append_assoc mem_singleton getElem?_append_left getElem?_append_right getElem?_eq_none getElem?_take mem_append)
noncomputable section
def conBH (t:TypeId) (s:Ty) (bs:List Ty) (G:Den s→Fn bs (Option Bool×T×Heap)):Con:=⟨false,fun ds os=>match ds,os with
 | .one (.ptr 0 0)::ds,[.box t' cs]=>match Nat.beq t t',allSome (cs.map rOfC)with
  |true,some rs=>match asR s rs with
   |some x=>match applyD bs (G x) ds with
    |some (c,r,y)=>some (c,r,y)
    |none=>none
   |none=>none
  |_,_=>none
 |_,_=>none⟩
theorem conBH_ok {P:Program} {f:FuncId} {t:TypeId} {s:Ty} {bs:List Ty} {G:Den s→Fn bs (Option Bool×T×Heap)} (hin:∀args w,(callFunc f args).run P w = .ok (.enter f args) w)
  (he:∀x,Fit s x→EachF bs (G x) fun ds r=>(r.1=none∨r.1=some true)→Sat P f (.one (.ptr 0 0)::ds) [boxD t s x] r.2.1 r.2.2):ConOk P f (conBH t s bs G):=by
 refine⟨hin,fun ds os c x objs hc hok => ?_⟩;simp only[conBH]at hc
 split at hc
 ·rename_i ds t' cs
  split at hc
  ·rename_i rs htt hrs
   split at hc
   ·rename_i x0 hx0
    split at hc
    ·rename_i c' r y hap
     cases hc
     have:=zB htt;subst this;have e:=rOfC_all hrs;subst e;intro w F β args H hds
     -- the variable, told by its typed data
     have h0:hOf [.box t (rs.map .r)] 0=some (some (.box t (rs.map .r))):=by rw[hOf_eq];rfl
     have hs:∀i o o',hOf [.box t (rs.map .r)] i=some (some o)→hOf [boxD t s x0] i=some (some o')→o = .box t (rs.map .r)∧o'=boxD t s x0:=fun i o o' h1 h2=>by
      rw[hOf_eq]at h1 h2
      cases i with
      |zero=>simp at h1 h2;exact ⟨h1.symm,h2.symm⟩
      |succ i=>simp at h1
     have S:Shp (hOf [.box t (rs.map .r)]) (hOf [boxD t s x0]):=fun i=>by
      rw[hOf_eq,hOf_eq]
      cases i with
      |zero=>simp
      |succ i=>simp
     have hle:=asR_sound hx0;have key:∀ {g:HF} {w':World} {F':Nat→Prop} {β':Nat→Value} {i:Nat},RepO w' F' g β' i (.box t (rs.map .r))→RepO w' F' g β' i (boxD t s x0):=by
      intro g w' F' β' i ho;obtain⟨b,us,g1,g2,g3⟩:=ho;exact⟨b,us,g1,g2,(All2.map_l (f:=C.r)).2 (All2_le ((All2.map_l (f:=C.r)).1 g3) hle)⟩
     have H1:Inv w (Own (hOf [.box t (rs.map .r)]) β) F w F (hOf [boxD t s x0]) β:=H.told S fun i o o' h1 h2 hr=>by
      obtain⟨rfl,rfl⟩:=hs i o o' h1 h2;exact key hr
     have hOwn:Own (hOf [.box t (rs.map .r)]) β=Own (hOf [boxD t s x0]) β:=by
      funext b
      apply propext
      constructor
      ·rintro ⟨i,o,h1,h2⟩;obtain⟨o',ho'⟩:=(S i).2.1 ⟨o,h1⟩;exact⟨i,o',ho',h2⟩
      ·rintro ⟨i,o,h1,h2⟩;obtain⟨o',ho'⟩:=(S i).2.2 ⟨o,h1⟩;exact⟨i,o',ho',h2⟩
     rw[hOwn]at H1;have hfit:Fit s x0:=cells_fit (key (H.obj 0 _ h0))
     cases hds with
     |cons g1 g2 =>
      have g2':=g2.mono fun _ _=>S.repD;obtain⟨ds',q1,q2⟩:=each_of (he x0 hfit) hap g2';refine(q1 hok w F β _ H1 (.cons (S.repD g1) q2)).mono ?_;rintro e w' ⟨v,F',β',r1,r2,r3,r4,r5,r6⟩;rw[← hOwn]at r2;exact⟨v,F',β',r1,r2,r3,r4,r5,r6⟩
    ·cases hc
   ·cases hc
  ·cases hc
 ·cases hc
def c_spec_l3AnyF:Con:=conBH 125 TR [TG, .str,TI64] fun(x:Rd) (g:Gram) (s:Str) (d:Int)=>(some (anyPre 9 x g s d), .d (fresT (F_anyF 9 x g s d).1),[(1000,some (.lis 28 .tree (F_anyF 9 x g s d).1.kids)),(0,some (boxD 125 TR (F_anyF 9 x g s d).2))])
theorem anyF9:anyHF 9:=@any_upF ⟨⟨8,any_all 8⟩⟩
theorem k_spec_l3AnyF:ConOk Tryd.prog 70 c_spec_l3AnyF:=conBH_ok Tryd.call70 fun x hx g hg s hs d hd hqq=>(oneOf_spec (anyF9 x g s d hx hg hs hd (pre_of hqq))).1
def Γ57:GL:=(70,c_spec_l3AnyF)::Γ56
theorem Γ57ok:GO Γ57 := .cons k_spec_l3AnyF Γ56ok
def tOkW (t:GTree):Bool:=Nat.ble (length t.sign) 8&&(decide (-2≤t.rule)&&(decide (t.rule≤1000)&&(Nat.ble (length t.kids) 9&&List.all t.kids (tOk 8))))
theorem tOkW_iff {t:GTree}:tOkW t=true↔length t.sign≤8 ∧ -2≤t.rule∧t.rule≤1000∧length t.kids≤9∧List.all t.kids (tOk 8)=true:=by
 unfold tOkW;rw[andd,andd,andd,andd,ble_iff,dec_iff,dec_iff,ble_iff]
theorem tOk_W {t:GTree} (h:tOk 9 t=true):length t.sign≤8 ∧ -1≤t.rule∧t.rule≤1000∧length t.kids≤8∧List.all t.kids (tOk 8)=true:=by
 obtain⟨h1,h2⟩:=andd.1 h;unfold smT at h1;rw[andd,andd,andd,ble_iff,dec_iff,dec_iff,ble_iff]at h1;exact⟨h1.1,h1.2.1,h1.2.2.1,h1.2.2.2,h2⟩
instance:Nonempty ((Gram×GTree)×Rd):=⟨((([],[]), .node [] 0 []),[],0)⟩
instance:Nonempty (Gram×GTree):=⟨(([],[]), .node [] 0 [])⟩
abbrev nT4:List Int:=[4,6,8,3]
abbrev sA (x:Rd):GTree×Rd:=F_anyF 9 (rdGo (F_spec_l1Gram x).2 1) (F_spec_l1Gram x).1 (F_spec_l1Gram x).1.1 (numV (F_spec_l1Gram x).2 nT4)
theorem y_spec_l3Some (x:Rd) :evFn ((cxOf Γ57 Tryd.f29.ntmps [] [(0,[2,3,4,5]),(1000000,[2,3])] [] [])) Tryd.f29 true [.one (.ptr 0 0)] [boxD 125 TR x]=(
need (rdAt x 10000000900000) <|
need (rdOk (F_spec_l1Gram x).snd&&Nat.blt 0 [4,6,8,3].length) <|
need (anyPre 9 (rdGo (F_spec_l1Gram x).snd 1) (F_spec_l1Gram x).fst (F_spec_l1Gram x).fst.fst (numV (F_spec_l1Gram x).snd [4,6,8,3])) <|
need (rdOk (F_anyF 9 (rdGo (F_spec_l1Gram x).snd 1) (F_spec_l1Gram x).fst (F_spec_l1Gram x).fst.fst (numV (F_spec_l1Gram x).snd [4,6,8,3])).snd) <|
branch (decide (pickV (F_anyF 9 (rdGo (F_spec_l1Gram x).snd 1) (F_spec_l1Gram x).fst (F_spec_l1Gram x).fst.fst (numV (F_spec_l1Gram x).snd [4,6,8,3])).snd 40=0)) (
 need (rdOk (rdGo (F_anyF 9 (rdGo (F_spec_l1Gram x).snd 1) (F_spec_l1Gram x).fst (F_spec_l1Gram x).fst.fst (numV (F_spec_l1Gram x).snd [4,6,8,3])).snd 1)&&Nat.blt 0 [Int.neg 1,1,9,Int.neg 2].length) <| some ((.tup [(.agg [(.r (.v (Value.string (mk (F_spec_l1Gram x).fst.fst)))),(.r (.li TRu ((F_spec_l1Gram x).fst.snd)))]),(.agg [(.r (.v (Value.string (mk (F_anyF 9 (rdGo (F_spec_l1Gram x).snd 1) (F_spec_l1Gram x).fst (F_spec_l1Gram x).fst.fst (numV (F_spec_l1Gram x).snd [4,6,8,3])).fst.sign)))),(.r (.v (Value.int IntKind.i64 (numV (rdGo (F_anyF 9 (rdGo (F_spec_l1Gram x).snd 1) (F_spec_l1Gram x).fst (F_spec_l1Gram x).fst.fst (numV (F_spec_l1Gram x).snd [4,6,8,3])).snd 1) [Int.neg 1,1,9,Int.neg 2])))),(.r (.li (Ty.tree) ((F_anyF 9 (rdGo (F_spec_l1Gram x).snd 1) (F_spec_l1Gram x).fst (F_spec_l1Gram x).fst.fst (numV (F_spec_l1Gram x).snd [4,6,8,3])).fst.kids)))])]),[(0,(bR (rdGo (rdGo (F_anyF 9 (rdGo (F_spec_l1Gram x).snd 1) (F_spec_l1Gram x).fst (F_spec_l1Gram x).fst.fst (numV (F_spec_l1Gram x).snd [4,6,8,3])).snd 1) 1)))])) (
 branch (decide (pickV (F_anyF 9 (rdGo (F_spec_l1Gram x).snd 1) (F_spec_l1Gram x).fst (F_spec_l1Gram x).fst.fst (numV (F_spec_l1Gram x).snd [4,6,8,3])).snd 40=1)) (
 need (rdOk (rdGo (F_anyF 9 (rdGo (F_spec_l1Gram x).snd 1) (F_spec_l1Gram x).fst (F_spec_l1Gram x).fst.fst (numV (F_spec_l1Gram x).snd [4,6,8,3])).snd 1)&&Nat.blt 0 [[66],[97],[],[70]].length) <| some ((.tup [(.agg [(.r (.v (Value.string (mk (F_spec_l1Gram x).fst.fst)))),(.r (.li TRu ((F_spec_l1Gram x).fst.snd)))]),(.agg [(.r (.v (Value.string (mk (ofV (rdGo (F_anyF 9 (rdGo (F_spec_l1Gram x).snd 1) (F_spec_l1Gram x).fst (F_spec_l1Gram x).fst.fst (numV (F_spec_l1Gram x).snd [4,6,8,3])).snd 1) [[66],[97],[],[70]]))))),(.r (.v (Value.int IntKind.i64 (F_anyF 9 (rdGo (F_spec_l1Gram x).snd 1) (F_spec_l1Gram x).fst (F_spec_l1Gram x).fst.fst (numV (F_spec_l1Gram x).snd [4,6,8,3])).fst.rule))),(.r (.li (Ty.tree) ((F_anyF 9 (rdGo (F_spec_l1Gram x).snd 1) (F_spec_l1Gram x).fst (F_spec_l1Gram x).fst.fst (numV (F_spec_l1Gram x).snd [4,6,8,3])).fst.kids)))])]),[(0,(bR (rdGo (rdGo (F_anyF 9 (rdGo (F_spec_l1Gram x).snd 1) (F_spec_l1Gram x).fst (F_spec_l1Gram x).fst.fst (numV (F_spec_l1Gram x).snd [4,6,8,3])).snd 1) 1)))])) (
 branch (decide (pickV (F_anyF 9 (rdGo (F_spec_l1Gram x).snd 1) (F_spec_l1Gram x).fst (F_spec_l1Gram x).fst.fst (numV (F_spec_l1Gram x).snd [4,6,8,3])).snd 40=2)) (
  need (fits ((F_anyF 9 (rdGo (F_spec_l1Gram x).snd 1) (F_spec_l1Gram x).fst (F_spec_l1Gram x).fst.fst (numV (F_spec_l1Gram x).snd [4,6,8,3])).fst.kids.length+[GTree.node ([97]:Str) (Int.neg 1) []].length) Tryd.t28.bytes) <| some ((.tup [(.agg [(.r (.v (Value.string (mk (F_spec_l1Gram x).fst.fst)))),(.r (.li TRu ((F_spec_l1Gram x).fst.snd)))]),(.agg [(.r (.v (Value.string (mk (F_anyF 9 (rdGo (F_spec_l1Gram x).snd 1) (F_spec_l1Gram x).fst (F_spec_l1Gram x).fst.fst (numV (F_spec_l1Gram x).snd [4,6,8,3])).fst.sign)))),(.r (.v (Value.int IntKind.i64 (F_anyF 9 (rdGo (F_spec_l1Gram x).snd 1) (F_spec_l1Gram x).fst (F_spec_l1Gram x).fst.fst (numV (F_spec_l1Gram x).snd [4,6,8,3])).fst.rule))),(.r (.li ty28 ((F_anyF 9 (rdGo (F_spec_l1Gram x).snd 1) (F_spec_l1Gram x).fst (F_spec_l1Gram x).fst.fst (numV (F_spec_l1Gram x).snd [4,6,8,3])).fst.kids.append [GTree.node ([97]:Str) (Int.neg 1) []])))])]),[(0,(bR (rdGo (F_anyF 9 (rdGo (F_spec_l1Gram x).snd 1) (F_spec_l1Gram x).fst (F_spec_l1Gram x).fst.fst (numV (F_spec_l1Gram x).snd [4,6,8,3])).snd 1)))])) (
  branch (decide (pickV (F_anyF 9 (rdGo (F_spec_l1Gram x).snd 1) (F_spec_l1Gram x).fst (F_spec_l1Gram x).fst.fst (numV (F_spec_l1Gram x).snd [4,6,8,3])).snd 40=3)) (
  need (rdAt (rdGo (F_anyF 9 (rdGo (F_spec_l1Gram x).snd 1) (F_spec_l1Gram x).fst (F_spec_l1Gram x).fst.fst (numV (F_spec_l1Gram x).snd [4,6,8,3])).snd 1) 10000000940000&&szG 20 (F_spec_l1Gram x).fst) <|
  need (rdAt (F_spec_l1Bent (rdGo (F_anyF 9 (rdGo (F_spec_l1Gram x).snd 1) (F_spec_l1Gram x).fst (F_spec_l1Gram x).fst.fst (numV (F_spec_l1Gram x).snd [4,6,8,3])).snd 1) (F_spec_l1Gram x).fst).snd 10000000940000&&szG 20 (F_spec_l1Bent (rdGo (F_anyF 9 (rdGo (F_spec_l1Gram x).snd 1) (F_spec_l1Gram x).fst (F_spec_l1Gram x).fst.fst (numV (F_spec_l1Gram x).snd [4,6,8,3])).snd 1) (F_spec_l1Gram x).fst).fst) <| some ((.tup [(.agg [(.r (.v (Value.string (mk (F_spec_l1Bent (F_spec_l1Bent (rdGo (F_anyF 9 (rdGo (F_spec_l1Gram x).snd 1) (F_spec_l1Gram x).fst (F_spec_l1Gram x).fst.fst (numV (F_spec_l1Gram x).snd [4,6,8,3])).snd 1) (F_spec_l1Gram x).fst).snd (F_spec_l1Bent (rdGo (F_anyF 9 (rdGo (F_spec_l1Gram x).snd 1) (F_spec_l1Gram x).fst (F_spec_l1Gram x).fst.fst (numV (F_spec_l1Gram x).snd [4,6,8,3])).snd 1) (F_spec_l1Gram x).fst).fst).fst.fst)))),(.r (.li TRu ((F_spec_l1Bent (F_spec_l1Bent (rdGo (F_anyF 9 (rdGo (F_spec_l1Gram x).snd 1) (F_spec_l1Gram x).fst (F_spec_l1Gram x).fst.fst (numV (F_spec_l1Gram x).snd [4,6,8,3])).snd 1) (F_spec_l1Gram x).fst).snd (F_spec_l1Bent (rdGo (F_anyF 9 (rdGo (F_spec_l1Gram x).snd 1) (F_spec_l1Gram x).fst (F_spec_l1Gram x).fst.fst (numV (F_spec_l1Gram x).snd [4,6,8,3])).snd 1) (F_spec_l1Gram x).fst).fst).fst.snd)))]),(.agg [(.r (.v (Value.string (mk (F_anyF 9 (rdGo (F_spec_l1Gram x).snd 1) (F_spec_l1Gram x).fst (F_spec_l1Gram x).fst.fst (numV (F_spec_l1Gram x).snd [4,6,8,3])).fst.sign)))),(.r (.v (Value.int IntKind.i64 (F_anyF 9 (rdGo (F_spec_l1Gram x).snd 1) (F_spec_l1Gram x).fst (F_spec_l1Gram x).fst.fst (numV (F_spec_l1Gram x).snd [4,6,8,3])).fst.rule))),(.r (.li (Ty.tree) ((F_anyF 9 (rdGo (F_spec_l1Gram x).snd 1) (F_spec_l1Gram x).fst (F_spec_l1Gram x).fst.fst (numV (F_spec_l1Gram x).snd [4,6,8,3])).fst.kids)))])]),[(0,(bR (F_spec_l1Bent (F_spec_l1Bent (rdGo (F_anyF 9 (rdGo (F_spec_l1Gram x).snd 1) (F_spec_l1Gram x).fst (F_spec_l1Gram x).fst.fst (numV (F_spec_l1Gram x).snd [4,6,8,3])).snd 1) (F_spec_l1Gram x).fst).snd (F_spec_l1Bent (rdGo (F_anyF 9 (rdGo (F_spec_l1Gram x).snd 1) (F_spec_l1Gram x).fst (F_spec_l1Gram x).fst.fst (numV (F_spec_l1Gram x).snd [4,6,8,3])).snd 1) (F_spec_l1Gram x).fst).fst).snd))])) ( some ((.tup [(.agg [(.r (.v (Value.string (mk (F_spec_l1Gram x).fst.fst)))),(.r (.li TRu ((F_spec_l1Gram x).fst.snd)))]),(.agg [(.r (.v (Value.string (mk (F_anyF 9 (rdGo (F_spec_l1Gram x).snd 1) (F_spec_l1Gram x).fst (F_spec_l1Gram x).fst.fst (numV (F_spec_l1Gram x).snd [4,6,8,3])).fst.sign)))),(.r (.v (Value.int IntKind.i64 (F_anyF 9 (rdGo (F_spec_l1Gram x).snd 1) (F_spec_l1Gram x).fst (F_spec_l1Gram x).fst.fst (numV (F_spec_l1Gram x).snd [4,6,8,3])).fst.rule))),(.r (.li (Ty.tree) ((F_anyF 9 (rdGo (F_spec_l1Gram x).snd 1) (F_spec_l1Gram x).fst (F_spec_l1Gram x).fst.fst (numV (F_spec_l1Gram x).snd [4,6,8,3])).fst.kids)))])]),[(0,(bR (rdGo (F_anyF 9 (rdGo (F_spec_l1Gram x).snd 1) (F_spec_l1Gram x).fst (F_spec_l1Gram x).fst.fst (numV (F_spec_l1Gram x).snd [4,6,8,3])).snd 1)))])))))):=by kernel_rfl
theorem e_spec_l3Some (x:Rd)  (hx:Fit TR x)  (hpre:(rdAt x 800000000)=true):∃q:(Gram×GTree)×Rd,evFn (((cxOf Γ57 Tryd.f29.ntmps [] [(0,[2,3,4,5]),(1000000,[2,3])] [] []))) Tryd.f29 true [.one (.ptr 0 0)] [boxD 125 TR x]=some (.tup [ofD TG q.1.1,ofD .tree q.1.2],[(0,some (boxD 125 TR q.2))])∧((szG 40 q.1.1=true∧tOkW q.1.2=true)∧Adv x q.2 2000000000):=by
 obtain⟨r,h1,h2⟩:Ok (evFn (((cxOf Γ57 Tryd.f29.ntmps [] [(0,[2,3,4,5]),(1000000,[2,3])] [] []))) Tryd.f29 true [.one (.ptr 0 0)] [boxD 125 TR x]) (fun r=>∃(v:Gram×GTree) (x':Rd),r=(.tup [ofD TG v.1,ofD .tree v.2],[(0,some (boxD 125 TR x'))])∧((szG 40 v.1=true∧tOkW v.2=true)∧Adv x x' 2000000000)):=by
  have f0:=fit_fitR hx;have hb:BY x:=byB_iff.1 (andd.1 f0).1;have k0:rdAt x 10000000900000=true:=(Adv.refl x).at hpre (by omega);obtain⟨g1,g2⟩:=p_spec_l1Gram x hx k0;have g1:=(andd.1 g1).1;rw[y_spec_l3Some];change Ok (need _ (need _ (need _ (need (rdOk (sA x).2) _)))) _;have b1:BY (F_spec_l1Gram x).2:=BY_adv g2 hb;have r1:rdAt (F_spec_l1Gram x).2 800000100=true:=g2.at hpre (by omega);have k1:rdOk (F_spec_l1Gram x).2=true:=ok1 r1 (by omega);have hn:=numV_le (x:=(F_spec_l1Gram x).2) (l:=nT4) (a:=3) (b:=8) (by decide) b1 k1 (by decide);have a1:Adv x (rdGo (F_spec_l1Gram x).2 1) 101:=g2.trans (Adv.one _);have r2:rdAt (rdGo (F_spec_l1Gram x).2 1) 800000101=true:=a1.at hpre (by omega);have g20:=szG_le g1 (m:=20) (by omega);have gl:length (F_spec_l1Gram x).1.1≤8:=by
   unfold szG at g1;rw[andd,ble_iff]at g1;exact g1.1
  have hpre9:anyPre 9 (rdGo (F_spec_l1Gram x).2 1) (F_spec_l1Gram x).1 (F_spec_l1Gram x).1.1 (numV (F_spec_l1Gram x).2 nT4)=true:=by
   unfold anyPre;simp only[andd,dec_iff,ble_iff];refine⟨a1.at hpre (by rw[show pw 9=1000000000 from rfl];omega),g20,by omega,by omega,gl,by omega⟩
  have hf2:fitR (rdGo (F_spec_l1Gram x).2 1)=true:=by rw[fitR_adv a1];exact f0
  obtain⟨t1,t2⟩:=(oneOf_spec (anyF9 (rdGo (F_spec_l1Gram x).2 1) (F_spec_l1Gram x).1 (F_spec_l1Gram x).1.1 (numV (F_spec_l1Gram x).2 nT4) (fitR_fit hf2 r2 (by omega)) (szG_fit g20 (by omega)) (by show(F_spec_l1Gram x).1.1.length≤9223372036854775807;omega) (wrap_small (by omega) (by omega)) hpre9)).2;have t1:tOk 9 (sA x).1=true:=t1;have t2:Adv (rdGo (F_spec_l1Gram x).2 1) (sA x).2 (pw 9):=t2;obtain⟨w1,w2,w3,w4,w5⟩:=tOk_W t1;have a3:Adv x (sA x).2 1000000101:=(a1.trans t2).le (by rw[show pw 9=1000000000 from rfl];omega);have r3:rdAt (sA x).2 1800000101=true:=a3.at hpre (by omega);have b3':BY (sA x).2:=BY_adv a3 hb;have k3:rdOk (sA x).2=true:=ok1 r3 (by omega);have a4:Adv x (rdGo (sA x).2 1) 1000000102:=a3.trans (Adv.one _);have r4:rdAt (rdGo (sA x).2 1) 1800000102=true:=a4.at hpre (by omega);have k4:rdOk (rdGo (sA x).2 1)=true:=ok1 r4 (by omega);have a5:Adv x (rdGo (rdGo (sA x).2 1) 1) 1000000103:=a4.trans (Adv.one _);have g40:=szG_le g1 (m:=40) (by omega);have hsix:szG 6 (F_spec_l1Gram x).1=true:=g1;refine Ok.need k0 (Ok.need (andd.2 ⟨k1,rfl⟩) (Ok.need hpre9 (Ok.need k3 (Ok.br (fun _ => ?_) fun _=>Ok.br (fun _ => ?_) fun _=>Ok.br (fun _ => ?_) fun _=>Ok.br (fun _ => ?_) fun _ => ?_))))
  ·have hm:=numV_le (x:=rdGo (sA x).2 1) (l:=[-1,1,9,-2]) (a := -2) (b:=9) (by decide) (BY_adv (Adv.one _) b3') k4 (by decide);refine Ok.need (andd.2 ⟨k4,rfl⟩) (Ok.ret ⟨((F_spec_l1Gram x).1, .node (sA x).1.sign (numV (rdGo (sA x).2 1) [-1,1,9,-2]) (sA x).1.kids),_,rfl,⟨g40,tOkW_iff.2 ⟨w1, ?_, ?_,by show(sA x).1.kids.length≤9;omega,w5⟩⟩,a5.le (by omega)⟩)
   ·show (-2:Int)≤numV _ _;omega
   ·show numV _ _≤1000;omega
  ·have hof:(ofV (rdGo (sA x).2 1) [[66],[97],[],[70]]).length≤1:=ofV_len (by decide);refine Ok.need (andd.2 ⟨k4,rfl⟩) (Ok.ret ⟨((F_spec_l1Gram x).1, .node (ofV (rdGo (sA x).2 1) [[66],[97],[],[70]]) (sA x).1.rule (sA x).1.kids),_,rfl,⟨g40,tOkW_iff.2 ⟨?_, ?_,w3,by show(sA x).1.kids.length≤9;omega,w5⟩⟩,a5.le (by omega)⟩)
   ·show (ofV _ _).length≤8;omega
   ·show (-2:Int)≤(sA x).1.rule;omega
  ·have k5:fits ((sA x).1.kids.length+1) Tryd.t28.bytes=true:=by rw[treeBytes];exact fits_ok (by omega) (by omega)
   refine Ok.need k5 (Ok.ret ⟨((F_spec_l1Gram x).1, .node (sA x).1.sign (sA x).1.rule ((sA x).1.kids++[.node [97] (-1) []])),_,rfl,⟨g40,tOkW_iff.2 ⟨w1, ?_,w3, ?_, ?_⟩⟩,a4.le (by omega)⟩)
   ·show (-2:Int)≤(sA x).1.rule;omega
   ·show ((sA x).1.kids++[_]).length≤9;rw[length_append,length_singleton];omega
   ·show List.all ((sA x).1.kids++[_]) (tOk 8)=true;rw[List.all_append,w5,List.all_cons,leaf_ok (show length ([97]:Str)≤8 by decide)];rfl
  ·have hp1:(rdAt (rdGo (sA x).2 1) 10000000940000&&szG 20 (F_spec_l1Gram x).1)=true:=andd.2 ⟨a4.at hpre (by omega),g20⟩;have hf4:fitR (rdGo (sA x).2 1)=true:=by rw[fitR_adv a4];exact f0
   obtain⟨p1,p2⟩:=p_spec_l1Bent (rdGo (sA x).2 1) (F_spec_l1Gram x).1 (fitR_fit hf4 r4 (by omega)) hp1;have q1:=p1 6 (by omega) hsix;have a6:Adv x (F_spec_l1Bent (rdGo (sA x).2 1) (F_spec_l1Gram x).1).2 1000000302:=(a4.trans p2).le (by omega);have hp2:(rdAt (F_spec_l1Bent (rdGo (sA x).2 1) (F_spec_l1Gram x).1).2 10000000940000&&szG 20 (F_spec_l1Bent (rdGo (sA x).2 1) (F_spec_l1Gram x).1).1)=true:=andd.2 ⟨a6.at hpre (by omega),q1⟩;have hf6:fitR (F_spec_l1Bent (rdGo (sA x).2 1) (F_spec_l1Gram x).1).2=true:=by rw[fitR_adv a6];exact f0
   have r6:rdAt (F_spec_l1Bent (rdGo (sA x).2 1) (F_spec_l1Gram x).1).2 1800000302=true:=a6.at hpre (by omega);obtain⟨p3,p4⟩:=p_spec_l1Bent _ (F_spec_l1Bent (rdGo (sA x).2 1) (F_spec_l1Gram x).1).1 (fitR_fit hf6 r6 (by omega)) hp2;have q2:=p3 20 (by omega) q1;exact Ok.need hp1 (Ok.need hp2 (Ok.ret ⟨(_,(sA x).1),_,rfl,⟨szG_le q2 (by omega),tOkW_iff.2 ⟨w1,by show(-2:Int)≤(sA x).1.rule;omega,w3,by show(sA x).1.kids.length≤9;omega,w5⟩⟩,(a6.trans p4).le (by omega)⟩))
  ·exact Ok.ret ⟨((F_spec_l1Gram x).1,(sA x).1),_,rfl,⟨g40,tOkW_iff.2 ⟨w1,by show(-2:Int)≤(sA x).1.rule;omega,w3,by show(sA x).1.kids.length≤9;omega,w5⟩⟩,a4.le (by omega)⟩
 obtain⟨v,x',h2,h3⟩:=h2;exact⟨(v,x'),by rw[h1,h2],h3⟩
def F_spec_l3Some (x:Rd) :(Gram×GTree)×Rd:=oneOf (fun q:(Gram×GTree)×Rd=>evFn (((cxOf Γ57 Tryd.f29.ntmps [] [(0,[2,3,4,5]),(1000000,[2,3])] [] []))) Tryd.f29 true [.one (.ptr 0 0)] [boxD 125 TR x]=some (.tup [ofD TG q.1.1,ofD .tree q.1.2],[(0,some (boxD 125 TR q.2))])∧((szG 40 q.1.1=true∧tOkW q.1.2=true)∧Adv x q.2 2000000000))
theorem p_spec_l3Some (x:Rd)  (hx:Fit TR x)  (hpre:(rdAt x 800000000)=true):(szG 40 (F_spec_l3Some x ).1.1=true∧tOkW (F_spec_l3Some x ).1.2=true)∧Adv x (F_spec_l3Some x ).2 2000000000:=(oneOf_spec (e_spec_l3Some x  hx  hpre)).2
theorem s_spec_l3Some (x:Rd)  (hx:Fit TR x)  (hpre:(rdAt x 800000000)=true):Sat Tryd.prog 29 [.one (.ptr 0 0)] [boxD 125 TR x] (.tup [ofD TG (F_spec_l3Some x ).1.1,ofD .tree (F_spec_l3Some x ).1.2]) [(0,some (boxD 125 TR (F_spec_l3Some x ).2))] :=
 fn_sound (cx:=((cxOf Γ57 Tryd.f29.ntmps [] [(0,[2,3,4,5]),(1000000,[2,3])] [] []))) Tryd.func29 rfl ttOk Γ57ok mixed (fun _ _=>LoopsOk.no fun _=>rfl) (ro:=true) (oneOf_spec (e_spec_l3Some x  hx  hpre)).1
def c_spec_l3Some:Con:=conB 125 TR [] fun(x:Rd) =>(some (rdAt x 800000000), .tup [ofD TG (F_spec_l3Some x ).1.1,ofD .tree (F_spec_l3Some x ).1.2],(F_spec_l3Some x ).2)
theorem k_spec_l3Some:ConOk Tryd.prog 29 c_spec_l3Some:=conB_ok Tryd.call29 fun x hx  hqq=>s_spec_l3Some x  hx  (pre_of hqq)
def Γ58:GL:=(29,c_spec_l3Some)::Γ57
theorem Γ58ok:GO Γ58 := .cons k_spec_l3Some Γ57ok
def c_spec_l3AnyZ:Con:=conAny 9
theorem k_spec_l3AnyZ:ConOk Tryd.prog 70 c_spec_l3AnyZ:=k_any (any_all 9)
def Γ59:GL:=(70,c_spec_l3AnyZ)::Γ58
theorem Γ59ok:GO Γ59 := .cons k_spec_l3AnyZ Γ58ok
theorem y_spec_DrawTreeOk (l:List Int):evFn (cxOf Γ59 Tryd.f6.ntmps [] [] [] []) Tryd.f6 true [ofD TB l] []=(
some ((.tup [(.agg [(.r (.v (Value.string (mk (F_spec_l3Some (openV l)).fst.fst.fst)))),(.r (.li TRu ((F_spec_l3Some (openV l)).fst.fst.snd)))]),(.agg [(.r (.v (Value.string (mk (F_spec_l3Some (openV l)).fst.snd.sign)))),(.r (.v (Value.int IntKind.i64 (F_spec_l3Some (openV l)).fst.snd.rule))),(.r (.li (Ty.tree) ((F_spec_l3Some (openV l)).fst.snd.kids)))])]),[])):=by kernel_rfl
theorem e_spec_DrawTreeOk (l:List Int) (hl:Fit TB l):∃q:Gram×GTree,evFn (cxOf Γ59 Tryd.f6.ntmps [] [] [] []) Tryd.f6 true [ofD TB l] []=some (.tup [ofD TG q.1,ofD .tree q.2],[])∧(szG 40 q.1=true∧tOkW q.2=true):=by
 obtain⟨r,h1,h2⟩:Ok (evFn (cxOf Γ59 Tryd.f6.ntmps [] [] [] []) Tryd.f6 true [ofD TB l] []) (fun r=>∃(v:Gram×GTree),r=(.tup [ofD TG v.1,ofD .tree v.2],[])∧(szG 40 v.1=true∧tOkW v.2=true)):=by
  rw[y_spec_DrawTreeOk];have h1:rdAt (openV l) 800000000=true:=openV_at l;have h2:=p_spec_l3Some (openV l) (openV_fit hl) h1;exact Ok.ret ⟨(F_spec_l3Some (openV l)).1,rfl,h2.1⟩
 obtain⟨v,h2,h3⟩:=h2;exact⟨v,by rw[h1,h2],h3⟩
def F_spec_DrawTreeOk (l:List Int):Gram×GTree:=oneOf (fun q:Gram×GTree=>evFn (cxOf Γ59 Tryd.f6.ntmps [] [] [] []) Tryd.f6 true [ofD TB l] []=some (.tup [ofD TG q.1,ofD .tree q.2],[])∧(szG 40 q.1=true∧tOkW q.2=true))
theorem p_spec_DrawTreeOk (l:List Int) (hl:Fit TB l):szG 40 (F_spec_DrawTreeOk l).1=true∧tOkW (F_spec_DrawTreeOk l).2=true:=(oneOf_spec (e_spec_DrawTreeOk l hl)).2
theorem s_spec_DrawTreeOk (l:List Int) (hl:Fit TB l):Sat Tryd.prog 6 [ofD TB l] [] (.tup [ofD TG (F_spec_DrawTreeOk l).1,ofD .tree (F_spec_DrawTreeOk l).2]) [] :=
 fn_sound (cx:=cxOf Γ59 Tryd.f6.ntmps [] [] [] []) Tryd.func6 rfl ttOk Γ59ok mixed (fun _ _=>LoopsOk.no fun _=>rfl) (ro:=true) (oneOf_spec (e_spec_DrawTreeOk l hl)).1
def c_spec_DrawTreeOk:Con:=conT [TB] fun(l:List Int)=>(none, .tup [ofD TG (F_spec_DrawTreeOk l).1,ofD .tree (F_spec_DrawTreeOk l).2])
theorem k_spec_DrawTreeOk:ConOk Tryd.prog 6 c_spec_DrawTreeOk:=conT_ok Tryd.call6 fun l hl _=>s_spec_DrawTreeOk l hl
def Γ60:GL:=(6,c_spec_DrawTreeOk)::Γ59
theorem Γ60ok:GO Γ60 := .cons k_spec_DrawTreeOk Γ59ok
def gW (s:Sh) (pre:s.V→Bool) (P:s.V→Cont→Option Fin) (g:St→Cont→Option Fin):St→Cont→Option Fin:=fun st K=>match s.p st with
 |some v=>need (pre v) (P v K)
 |none=>g st K
theorem gW_ok {s:Sh} {pre:s.V→Bool} {P:s.V→Cont→Option Fin} {g f:St→Cont→Option Fin} {head:St→St} (h2:∀st K r,g st K=some r→∃N,iter f head N st K=some r)
  (h:∀v K,pre v=true→(∀R:St→Option Fin,f (s.mk v) (onward head R K)=P v K)∨∃st',g st' K=P v K∧∀R:St→Option Fin,f (s.mk v) (onward head R K)=R st'):∀st K r,gW s pre P g st K=some r→∃N,iter f head N st K=some r:=by
 intro st K r hr;unfold gW at hr
 split at hr
 ·rename_i v hv;rw[Sh.p_some hv];obtain⟨h3,h4⟩:=need_some.1 hr;rcases h v K h3 with h5 | ⟨st',h5,h6⟩
  ·exact ⟨1,by rw[iter_succ,h5];exact h4⟩
  ·obtain ⟨N,hN⟩:=h2 st' K r (h5.trans h4);exact⟨N+1,by rw[iter_succ,h6];exact hN⟩
 ·exact h2 st K r hr
def kid9:Nat→GTree→Bool
 |0,_=>false
 |n+1,t=>Nat.ble (length t.sign) 8&&(Nat.ble t.kids.length 9&&List.all t.kids (kid9 n))
theorem kid9_iff {n:Nat} {t:GTree}:kid9 (n+1) t=true↔length t.sign≤8∧t.kids.length≤9∧∀k∈t.kids,kid9 n k=true:=by
 show(Nat.ble (length t.sign) 8&&(Nat.ble t.kids.length 9&&List.all t.kids (kid9 n)))=true↔_;rw[andd,andd,ble_iff,ble_iff,all_eq_true]
theorem kid9_up:∀ {n:Nat} {t:GTree},kid9 n t=true→kid9 (n+1) t=true
 |0,_,h=>by cases h
 |n+1,t,h=>by
  obtain⟨h1,h2,h3⟩:=kid9_iff.1 h;exact kid9_iff.2 ⟨h1,h2,fun k hk=>kid9_up (h3 k hk)⟩
theorem kid9_le {n m:Nat} {t:GTree} (hm:n≤m) (h:kid9 n t=true):kid9 m t=true:=by
 obtain⟨k,rfl⟩:=Nat.exists_eq_add_of_le hm;clear hm
 induction k with
 |zero=>exact h
 |succ k ih=>exact kid9_up ih
theorem tOkP_kid9:∀ {n:Nat} {t:GTree},tOkP n t=true→kid9 n t=true
 |0,_,h=>by cases h
 |n+1,t,h=>by
  obtain⟨h1,h2⟩:=tOkP_kids h;unfold smT at h1;rw[andd,andd,andd,ble_iff,ble_iff]at h1;exact kid9_iff.2 ⟨h1.1,by have:=h1.2.2.2;omega,fun k hk=>tOkP_kid9 (all_eq_true.1 h2 k hk)⟩
theorem yld9_len:∀ {n:Nat} {t:GTree},kid9 n t=true→((yldP n t).length:Int)≤pw n
 |0,_,h=>by cases h
 |n+1,t,h=>by
  obtain⟨_,h2,h3⟩:=kid9_iff.1 h;have hp:=pw_pos n;rw[pw_succ];unfold yldP
  cases hs:smallS t.sign
  ·have h5:=flat_len (f:=yldP n) (m:=10 ^ n) (l:=t.kids) fun k hk=>(by have:=yld9_len (h3 k hk);unfold pw at this;omega);have h4:=Nat.mul_le_mul_right (10 ^ n) h2;rw[cond_false];unfold pw;omega
  ·obtain ⟨c,e,_⟩:=smallS_one hs;rw[cond_true,e];simp only[length_cons,List.length_nil];omega
theorem ks_at {ks:List GTree} {i:Int} (h0:0≤i) (h1:i<(ks.length:Int)):ks.drop i.toNat=ks.getD i.toNat tz::ks.drop (i+1).toNat:=by
 have hn:i.toNat<ks.length:=by omega
 rw[drop_eq_getElem_cons hn,show (i+1).toNat=i.toNat+1 by omega,zG,zE hn];rfl
theorem pw12 {n:Nat} (h:n≤12):pw n≤1000000000000:=by
 have:10 ^ n≤10 ^ 12:=Nat.pow_le_pow_right (by omega) h;unfold pw;omega
theorem yld_small:∀ {n:Nat} {t:GTree} {c:UInt8},c∈yldP n t→small c=true
 |0,_,_,h=>by cases h
 |n+1,t,c,h=>by
  have h:c∈(bif smallS t.sign then t.sign else t.kids.flatMap (yldP n)):=h
  cases hs:smallS t.sign
  ·rw[hs]at h;obtain⟨k,_,hk⟩:=List.mem_flatMap.1 h;exact yld_small hk
  ·rw[hs]at h;obtain⟨d,e,hd⟩:=smallS_one hs;rw[cond_true,e]at h;rw[mem_singleton.1 h];exact hd
theorem kid9_dep:∀ {n:Nat} {t:GTree},kid9 n t=true→depB n t=true
 |0,_,h=>by cases h
 |n+1,t,h=>by
  obtain⟨_,_,h3⟩:=kid9_iff.1 h;exact all_eq_true.2 fun k hk=>kid9_dep (h3 k hk)
theorem tOkW_kid9 {t:GTree} (h:tOkW t=true):kid9 12 t=true:=by
 obtain⟨h1,_,_,h4,h5⟩:=tOkW_iff.1 h;exact kid9_le (n:=10) (by omega) (kid9_iff.2 ⟨h1,h4,fun k hk=>tOkP_kid9 (n:=9) (all_eq_true.1 h5 k hk)⟩)
abbrev sbO (i j:Nat):Obj := .box 70 [.slf i, .own j]
abbrev sbN:Obj := .box 70 [.r (.v (.pointer none)), .r (.v (.slice none 0 0))]
abbrev bsO (l:List Int):Obj := .lis 5 (.int .u8) l
def iyPre (n:Nat) (x:GTree) (l:List Int):Bool:=kid9 n x&&(Nat.ble n 12&&decide ((l.length:Int)+pw n≤1000000000000))
theorem iyPre_iff {n:Nat} {x:GTree} {l:List Int}:iyPre n x l=true↔kid9 n x=true∧n≤12∧(l.length:Int)+pw n≤1000000000000:=by
 unfold iyPre;rw[andd,andd,ble_iff,dec_iff]
def conIY (n:Nat):Con:=⟨false,fun ds os=>match ds,os with
 | [d, .one (.ptr 0 0)],[.box t [.slf 0, .own 1],o]=>match asD .tree d,exLis 5 (.int .u8) (some o),Nat.beq t 70 with
  |some (x:GTree),some (l:List Int),true=>some (some (iyPre n x l), .tup [],[(0,some (sbO 0 1000)),(1000,some (bsO (l++intL (yldP n x)))),(1,none)])
  |_,_,_=>none
 |_,_=>none⟩
theorem conIY_ok {n:Nat} (he:∀(x:GTree) (l:List Int),iyPre n x l=true→Sat Tryd.prog 33 [ofD .tree x, .one (.ptr 0 0)] [sbO 0 1,bsO l] (.tup []) [(0,some (sbO 0 1000)),(1000,some (bsO (l++intL (yldP n x)))),(1,none)]):ConOk Tryd.prog 33 (conIY n):=by
 refine⟨Tryd.call33,fun ds os c x objs hc hok => ?_⟩;unfold conIY at hc;dsimp only at hc
 split at hc
 ·rename_i d t o
  split at hc
  ·rename_i x l e1 e2 e3
   cases hc
   have e2:=Option.some.inj (exLis_some e2);subst e2;have e3:=zB e3;subst e3;intro w F β args H hds
   cases hds with | cons h1 h2 =>
   exact he x l (pre_of hok) w F β _ H (.cons (asD_sound e1 h1 _ β) h2)
  ·cases hc
 ·cases hc
theorem intL_len {s:Str}:(intL s).length=s.length:=by unfold intL;rw[List.length_map]
theorem intL_app {a b:Str}:intL (a++b)=intL a++intL b:=by unfold intL;rw[List.map_append]
theorem sat_boxS {P:Program} {f:FuncId} {ds:List D} {os:List Obj} {t u:TypeId} {e:Ty} {l:List (Den e)} (hos:os.length≤2) (S:Sat P f ds os (.tup []) [(0,some (.box t [.slf 0, .own 1])),(1,some (.lis u e l))]) :
  Sat P f ds os (.tup []) [(0,some (.box t [.slf 0, .own 1000])),(1000,some (.lis u e l)),(1,none)]:=by
 intro w F β args H hds;refine(S w F β args H hds).mono ?_;rintro ex w' ⟨v,F',β',r1,r2,r3,r4,r5,r6⟩;have h0:look [(0,some (Obj.box t [.slf 0, .own 1])),(1,some (Obj.lis u e l))] 0=some (some (.box t [.slf 0, .own 1])):=rfl;have h1:look [(0,some (Obj.box t [.slf 0, .own 1])),(1,some (Obj.lis u e l))] 1=some (some (.lis u e l)):=rfl;obtain⟨b,us,q1,q2,q3⟩:=r2.obj 0 _ h0;obtain⟨H1,_⟩:=r2.kill 1;rw[setB_self]at H1;have hs1:setH (look [(0,some (Obj.box t [.slf 0, .own 1])),(1,some (Obj.lis u e l))]) 1 none 1000=none:=rfl;have hlook:∀j o',setH (look [(0,some (Obj.box t [.slf 0, .own 1])),(1,some (Obj.lis u e l))]) 1 none j=some (some o')→j=0:=by
  intro j o' hj
  match j with
  |0=>rfl
  |1=>cases hj
  |j+2=>cases hj
 have T:=H1.turn (w':=w') (F':=F') 1000 (some (.lis u e l)) (β' 1) rfl rfl rfl (Nat.le_refl _) (fun b=>Blk (β' 1) b)
  (fun b hb=>⟨r2.notF 1 _ b h1 hb,fun j o' _ hj hbj=>by
   have e0:=hlook j o' hj;subst e0;exact absurd (r2.apart 0 1 _ _ b h0 h1 hbj hb) (by omega),r2.fromO 1 _ b h1 hb⟩)
  (fun _ _ _=>rfl) (fun _ hf=>hf) (fun _ hf => .inl hf) (fun q0 _ hh=>by rw[hs1]at hh;cases hh)
  (fun _ ob hob=>by
   cases hob
   refine⟨RepO.leaf.2 ?_,fun b hb => .inl hb⟩;have:=RepO.leaf.1 (r2.obj 1 _ h1)
   simpa [setB]using this)
 obtain⟨H2,_⟩:=T;have hlook2:∀j o',setH (setH (look [(0,some (Obj.box t [.slf 0, .own 1])),(1,some (Obj.lis u e l))]) 1 none) 1000 (some (.lis u e l)) j=some (some o')→j=0∨j=1000:=by
  intro j o' hj
  by_cases e0:j=1000
  ·exact .inr e0
  ·refine .inl (hlook j o' ?_)
   simpa [setH,e0]using hj
 have T2:=H2.turn (w':=w') (F':=F') 0 (some (.box t [.slf 0, .own 1000])) (β' 0) rfl rfl rfl (Nat.le_refl _) (fun b=>Blk (β' 0) b)
  (fun b hb=>⟨r2.notF 0 _ b h0 hb,fun j o' hj0 hj hbj=>by
   rcases hlook2 j o' hj with e0 | e0
   ·exact hj0 e0
   ·subst e0;have hbj:Blk (β' 1) b:=by simpa [setB]using hbj
    exact absurd (r2.apart 0 1 _ _ b h0 h1 hb hbj) (by omega),r2.fromO 0 _ b h0 hb⟩)
  (fun _ _ _=>rfl) (fun _ hf=>hf) (fun _ hf => .inl hf) (fun q0 o hh _=>⟨by
   have:some (some (Obj.box t [.slf 0, .own 1]))=some q0:=hh;exact⟨_,(Option.some.inj this).symm⟩,by simp[setB]⟩)
  (fun _ ob hob=>by
   cases hob
   refine⟨⟨b,us,by simp[setB,q1],q2, ?_⟩,fun b hb => .inl hb⟩
   generalize us.toList=ul at q3
   cases q3 with | cons g1 g2=>cases g2 with | cons g2 g3 =>
   cases g3
   refine .cons ⟨g1.1,⟨_,rfl⟩,fun o _=>by simpa [setB]using g1.2.2 _ h0⟩ (.cons ⟨g2.1,⟨some (.lis u e l),by simp[setH]⟩,fun o _ => ?_⟩ .nil);have:=g2.2.2 _ h1
   simpa [setB]using this)
 obtain⟨H3,_⟩:=T2;have hcomm:setH (setH (setH (look [(0,some (Obj.box t [.slf 0, .own 1])),(1,some (Obj.lis u e l))]) 1 none) 1000 (some (.lis u e l))) 0 (some (.box t [.slf 0, .own 1000]))=look [(0,some (Obj.box t [.slf 0, .own 1000])),(1000,some (Obj.lis u e l)),(1,none)]:=by
  funext j
  match j with
  |0=>rfl
  |1=>rfl
  |j+2 =>
   by_cases hj:j+2=1000
   ·rw[hj];rfl
   ·have e2:Nat.beq 1000 (j+2)=false:=by cases h:Nat.beq 1000 (j+2)with | false=>rfl | true=>exact absurd (zB h).symm hj
    simp only[setH,look,e2,hj,if_false];rfl
 rw[hcomm]at H3;refine⟨v,F',_,r1,H3,fun i hi => ?_,fun i o hi ho => ?_,fun _ _ _=>by simp, ?_⟩
 ·match i with
  |0=>exact ⟨_,rfl⟩
  |1=>exact ⟨_,rfl⟩
  |i+2=>omega
 ·match i with
  |0 =>
   have:=r4 0 _ hi h0
   simpa [setB]using this
  |1=>cases ho
  |i+2=>omega
 ·obtain ⟨us2,hv,hall⟩:=r6;refine⟨us2,hv, ?_⟩
  generalize us2.toList=ul at hall
  cases hall
  exact .nil
structure LevYI where
 n:Nat
 h:ConOk Tryd.prog 33 (conIY n)
noncomputable section
variable [Inhabited LevYI]
abbrev lvYI:Nat:=(default:LevYI).n
def c_impl_yieldR:Con:=conIY lvYI
theorem k_impl_yieldR:ConOk Tryd.prog 33 c_impl_yieldR:=(default:LevYI).h
def Γ61:GL:=(33,c_impl_yieldR)::Γ60
theorem Γ61ok:GO Γ61 := .cons k_impl_yieldR Γ60ok
def cb_iy:Cx:=cxOf Γ61 Tryd.f33.ntmps [(4,[1,14,15,16])] [(0,[]),(1,[1,14,15,16]),(1000000,[])] [] []
theorem x_iyB (ks:List GTree) (n i:Int) (l:List Int) (R:St→Option Fin) (K:Cont):evC (cb_iy.withLoops (look [])) (loopOf Tryd.f33 0) ⟨[(1, .d (.one (.ptr 0 0))),(14, .d (ofD TTL ks)),(15,vI n),(16,vI i)],[(0,some (sbO 0 500000)),(500000,some (bsO l))]⟩ (onward (headAt (cb_iy.withLoops (look [])) 4) R K)=(
branch (decide (i<n)) (
 need (inb i ks.length) <|
 need (iyPre lvYI (GTree.node (GTree.sign (ks.getD i.toNat tz)) (GTree.rule (ks.getD i.toNat tz)) (GTree.kids (ks.getD i.toNat tz))) l) <| R (.mk [(1,(.d (.one (.ptr 0 0)))),(14,(.d (.one (.r (.li (Ty.tree) ks))))),(15,vI n),(16,vI (W64 (i+1)))] [(0,(.some (.box 70 [(.slf 0),(.own 500000)]))),(500000,(.some (.lis 5 (Ty.int IntKind.u8) (l.append (intL (yldP lvYI (GTree.node (GTree.sign (ks.getD i.toNat tz)) (GTree.rule (ks.getD i.toNat tz)) (GTree.kids (ks.getD i.toNat tz)))))))))])) ( K (.exit 0) (.mk [] [(0,(.some (.box 70 [(.slf 0),(.own 500000)]))),(500000,(.some (.lis 5 (Ty.int IntKind.u8) l)))]))):=by kernel_rfl
abbrev iyKs (l:List GTree):Bool:=Nat.ble l.length 9&&List.all l (kid9 lvYI)
def cx0_iy:Cx:=(cb_iy).withLoops (look [])
def sh_iy:Sh:=([(1, .ptr 0 0),(14, .d TTL),(15, .d TI64),(16, .d TI64)],[(0, .mix 70 [.slf 0, .own 500000]),(500000, .lis 5 (.int .u8))])
abbrev st_iy (ks:List GTree) (n i:Int) (l:List (Int)):St:=⟨[(1, .d (.one (.ptr 0 0))),(14, .d (ofD TTL ks)),(15,vI n),(16,vI i)],[(0,some (.box 70 ([.slf 0]++[.own 500000]))),(500000,some (.lis 5 (.int .u8) l))]⟩
def pre_iy (ks:List GTree) (n i:Int) (l:List (Int)):Bool:=decide (0≤i)&&(decide (n=(ks.length:Int))&&(iyKs ks&&(Nat.ble lvYI 11&&decide ((length l:Int)+(10-i)*pw lvYI≤1000000000000))))
def res_iy (ks:List GTree) (_n i:Int) (l:List (Int)) (K:Cont):Option Fin:=K (.exit 0) ⟨[],[(0,some (sbO 0 500000)),(500000,some (bsO (l++intL ((ks.drop i.toNat).flatMap (yldP lvYI)))))]⟩
def mu_iy (ks:List GTree) (_n i:Int) (_l:List (Int)):Nat:=ks.length-i.toNat
theorem r_iy (ks:List GTree) (n i:Int) (l:List (Int)) (K:Cont) (hI:pre_iy ks n i l=true):(∀R:St→Option Fin,evC cx0_iy (loopOf Tryd.f33 0) (st_iy ks n i l) (onward (headAt cx0_iy 4) R K)=res_iy ks n i l K) ∨
  (∃(ks':List GTree) (n' i':Int) (l':List (Int)),pre_iy ks' n' i' l'=true∧mu_iy ks' n' i' l'<mu_iy ks n i l∧res_iy ks' n' i' l' K=res_iy ks n i l K∧∀R:St→Option Fin,evC cx0_iy (loopOf Tryd.f33 0) (st_iy ks n i l) (onward (headAt cx0_iy 4) R K)=R (st_iy ks' n' i' l')):=by
 have hx:=fun R=>x_iyB ks n i l R K;rw[tEta (ks.getD i.toNat tz)]at hx;simp only[pre_iy]at hI;rw[andd,andd,andd,andd,andd,dec_iff,dec_iff,ble_iff,ble_iff,dec_iff]at hI;obtain⟨h0,rfl,⟨h1,h2⟩,h3,h4⟩:=hI;have hp:=pw_pos lvYI
 by_cases hi:i<(ks.length:Int)
 ·have hn:i.toNat<ks.length:=by omega
  have hk:ks.getD i.toNat tz∈ks:=by rw[zG,zE hn];exact List.getElem_mem hn
  have hkid:=all_eq_true.1 h2 _ hk;have hlen:=yld9_len hkid;have hm:1*pw lvYI≤(10-i)*pw lvYI:=Int.mul_le_mul_of_nonneg_right (by omega) (by omega);have hm2:(10-(i+1))*pw lvYI=(10-i)*pw lvYI-pw lvYI:=by rw[show 10-(i+1)=(10-i)-1 by omega,Int.sub_mul,Int.one_mul]
  have k1:iyPre lvYI (ks.getD i.toNat tz) l=true:=iyPre_iff.2 ⟨hkid,by omega,by omega⟩;have w:W64 (i+1)=i+1:=wrap_small (by omega) (by omega);rw[zT hi,inb_ok h0 hi,k1,w]at hx;have hg:(ks.drop i.toNat).flatMap (yldP lvYI)=yldP lvYI (ks.getD i.toNat tz)++(ks.drop (i+1).toNat).flatMap (yldP lvYI):=by
   rw[drop_eq_getElem_cons hn,List.flatMap_cons,show (i+1).toNat=i.toNat+1 by omega,zG,zE hn];rfl
  right;refine⟨ks,(ks.length:Int),i+1,l++intL (yldP lvYI (ks.getD i.toNat tz)), ?_, ?_, ?_,fun R=>hx R⟩
  ·simp only[pre_iy];rw[andd,andd,andd,andd,andd,dec_iff,dec_iff,ble_iff,ble_iff,dec_iff,length_append,intL_len,hm2];exact⟨by omega,trivial,⟨h1,h2⟩,h3,by omega⟩
  ·simp only[mu_iy];omega
  ·simp only[res_iy,hg,intL_app,append_assoc]
 ·left;intro R;refine(hx R).trans ?_;rw[zF hi];have e:ks.drop i.toNat=[]:=drop_eq_nil_of_le (by omega);simp only[res_iy,e,List.flatMap_nil];rw[show l++intL []=l from List.append_nil l];rfl
def g_iy:St→Cont→Option Fin:=gP sh_iy (fun v=>match v with | ((ks,n,i,()),((),l,()))=>pre_iy ks n i l) (fun v K=>match v with | ((ks,n,i,()),((),l,()))=>res_iy ks n i l K)
theorem l_iy {L:LpL} (n:Nat) (h1:L.drop n=[]) (h2:idsFree (L.take n) (loopOf Tryd.f33 0)=true):LoopsTo g_iy (cb_iy) (loopOf Tryd.f33 0) 4 L :=
 with_drop h1 h2 (gP_ok (fun v=>match v with | ((ks,n,i,()),((),l,()))=>mu_iy ks n i l) fun v K hI=>by
  obtain⟨⟨ks,n,i,⟨⟩⟩,⟨⟨⟩,l,⟨⟩⟩⟩:=v;exact(r_iy ks n i l K hI).imp id fun⟨ks',n',i',l',h⟩=>⟨((ks',n',i',()),((),l',())),h⟩)
theorem x_iyA (ks:List GTree) (n i:Int) (l:List Int) (R:St→Option Fin) (K:Cont):evC (cb_iy.withLoops (look [])) (loopOf Tryd.f33 0) ⟨[(1, .d (.one (.ptr 0 0))),(14, .d (ofD TTL ks)),(15,vI n),(16,vI i)],[(0,some (sbO 0 1)),(1,some (bsO l))]⟩ (onward (headAt (cb_iy.withLoops (look [])) 4) R K)=(
branch (decide (i<n)) (
 need (inb i ks.length) <|
 need (iyPre lvYI (GTree.node (GTree.sign (ks.getD i.toNat tz)) (GTree.rule (ks.getD i.toNat tz)) (GTree.kids (ks.getD i.toNat tz))) l) <| R (.mk [(1,(.d (.one (.ptr 0 0)))),(14,(.d (.one (.r (.li (Ty.tree) ks))))),(15,vI n),(16,vI (W64 (i+1)))] [(0,(.some (.box 70 [(.slf 0),(.own 500000)]))),(500000,(.some (.lis 5 (Ty.int IntKind.u8) (l.append (intL (yldP lvYI (GTree.node (GTree.sign (ks.getD i.toNat tz)) (GTree.rule (ks.getD i.toNat tz)) (GTree.kids (ks.getD i.toNat tz)))))))))])) ( K (.exit 0) (.mk [] [(0,(.some (.box 70 [(.slf 0),(.own 1)]))),(1,(.some (.lis 5 (Ty.int IntKind.u8) l)))]))):=by kernel_rfl
def sh_iyA:Sh:=([(1, .ptr 0 0),(14, .d TTL),(15, .d TI64),(16, .d TI64)],[(0, .mix 70 [.slf 0, .own 1]),(1, .lis 5 (.int .u8))])
def pre_iyA (ks:List GTree) (n i:Int) (l:List Int):Bool:=decide (i=0)&&pre_iy ks n i l
def res_iyA (ks:List GTree) (n i:Int) (l:List Int) (K:Cont):Option Fin:=branch (decide (i<n)) (res_iy ks n i l K) (K (.exit 0) ⟨[],[(0,some (sbO 0 1)),(1,some (bsO l))]⟩)
def g_iyA:St→Cont→Option Fin:=gW sh_iyA (fun v=>match v with | ((ks,n,i,()),((),l,()))=>pre_iyA ks n i l) (fun v K=>match v with | ((ks,n,i,()),((),l,()))=>res_iyA ks n i l K) g_iy
def cx_iyA:Cx:=cb_iy.withLoops (look [(4,g_iyA)])
theorem y_iy (t:GTree) (l:List Int):evFn cx_iyA Tryd.f33 false [ofD .tree t, .one (.ptr 0 0)] [sbO 0 1,bsO l]=(
branch (smallS t.sign) (
 need ((l.length+t.sign.length).ble 140737488355328) <| some ((.tup []),[(0,(.some (.box 70 [(.slf 0),(.own 1000)]))),(1000,(.some (.lis 5 (Ty.int IntKind.u8) (l.append (intL t.sign))))),(1,(.none))])) (
 need (pre_iyA t.kids ((t.kids.length:Int)) 0 l) <|
 branch (decide (0<(t.kids.length:Int))) ( some ((.tup []),[(0,(.some (.box 70 [(.slf 0),(.own 1000)]))),(1000,(.some (.lis 5 (Ty.int IntKind.u8) (l.append (intL (List.flatMap (yldP lvYI) t.kids)))))),(1,(.none))])) ( some ((.tup []),[(0,(.some (.box 70 [(.slf 0),(.own 1)]))),(1,(.some (.lis 5 (Ty.int IntKind.u8) l)))])))):=by kernel_rfl
theorem iy_next {ks:List GTree} {n i:Int} {l:List Int} {K:Cont} (hI:pre_iy ks n i l=true) (hi:i<n):inb i ks.length=true∧iyPre lvYI (ks.getD i.toNat tz) l=true∧W64 (i+1)=i+1 ∧
  pre_iy ks n (i+1) (l++intL (yldP lvYI (ks.getD i.toNat tz)))=true∧res_iy ks n (i+1) (l++intL (yldP lvYI (ks.getD i.toNat tz))) K=res_iy ks n i l K:=by
 simp only[pre_iy]at hI;rw[andd,andd,andd,andd,andd,dec_iff,dec_iff,ble_iff,ble_iff,dec_iff]at hI;obtain⟨h0,rfl,⟨h1,h2⟩,h3,h4⟩:=hI;have hp:=pw_pos lvYI;have hn:i.toNat<ks.length:=by omega
 have hk:ks.getD i.toNat tz∈ks:=by rw[zG,zE hn];exact List.getElem_mem hn
 have hkid:=all_eq_true.1 h2 _ hk;have hlen:=yld9_len hkid;have hm:1*pw lvYI≤(10-i)*pw lvYI:=Int.mul_le_mul_of_nonneg_right (by omega) (by omega);have hm2:(10-(i+1))*pw lvYI=(10-i)*pw lvYI-pw lvYI:=by rw[show 10-(i+1)=(10-i)-1 by omega,Int.sub_mul,Int.one_mul]
 have hg:(ks.drop i.toNat).flatMap (yldP lvYI)=yldP lvYI (ks.getD i.toNat tz)++(ks.drop (i+1).toNat).flatMap (yldP lvYI):=by
  rw[drop_eq_getElem_cons hn,List.flatMap_cons,show (i+1).toNat=i.toNat+1 by omega,zG,zE hn];rfl
 refine⟨inb_ok h0 hi,iyPre_iff.2 ⟨hkid,by omega,by omega⟩,wrap_small (by omega) (by omega), ?_, ?_⟩
 ·simp only[pre_iy];rw[andd,andd,andd,andd,andd,dec_iff,dec_iff,ble_iff,ble_iff,dec_iff,length_append,intL_len,hm2];exact⟨by omega,trivial,⟨h1,h2⟩,h3,by omega⟩
 ·simp only[res_iy,hg,intL_app,append_assoc]
theorem iyA_step (ks:List GTree) (n i:Int) (l:List Int) (K:Cont) (hI:(decide (i=0)&&pre_iy ks n i l)=true) :
  (∀R:St→Option Fin,evC (cb_iy.withLoops (look [])) (loopOf Tryd.f33 0) ⟨[(1, .d (.one (.ptr 0 0))),(14, .d (ofD TTL ks)),(15,vI n),(16,vI i)],[(0,some (sbO 0 1)),(1,some (bsO l))]⟩ (onward (headAt (cb_iy.withLoops (look [])) 4) R K)=res_iyA ks n i l K) ∨
  ∃st',g_iy st' K=res_iyA ks n i l K∧∀R:St→Option Fin,evC (cb_iy.withLoops (look [])) (loopOf Tryd.f33 0) ⟨[(1, .d (.one (.ptr 0 0))),(14, .d (ofD TTL ks)),(15,vI n),(16,vI i)],[(0,some (sbO 0 1)),(1,some (bsO l))]⟩ (onward (headAt (cb_iy.withLoops (look [])) 4) R K)=R st':=by
 have hx:=fun R=>x_iyA ks n i l R K;rw[tEta (ks.getD i.toNat tz)]at hx;obtain⟨h0,h1⟩:=andd.1 hI;unfold res_iyA
 by_cases hi:i<n
 ·obtain ⟨k1,k2,k3,k4,k5⟩:=iy_next (K:=K) h1 hi;rw[zT hi,k1,k2,k3]at hx;right;refine⟨st_iy ks n (i+1) (l++intL (yldP lvYI (ks.getD i.toNat tz))), ?_,fun R=>hx R⟩;show need (pre_iy ks n (i+1) (l++intL (yldP lvYI (ks.getD i.toNat tz)))) (res_iy ks n (i+1) (l++intL (yldP lvYI (ks.getD i.toNat tz))) K)=_;rw[k4,k5,zT hi];rfl
 ·left;intro R;refine(hx R).trans ?_;rw[zF hi];rfl
theorem l_iyA:LoopsTo g_iyA cb_iy (loopOf Tryd.f33 0) 4 [(4,g_iyA)]:=with_drop (m:=[]) (n:=1) rfl (by kernel_rfl) (gW_ok (l_iy (L:=[]) 0 rfl (by kernel_rfl)) fun v K hI=>by
 obtain⟨⟨ks,n,i,⟨⟩⟩,⟨⟨⟩,l,⟨⟩⟩⟩:=v;exact iyA_step ks n i l K hI)
theorem iy_up:ConOk Tryd.prog 33 (conIY (lvYI+1)):=conIY_ok fun x l hp=>by
 obtain⟨h1,h2,h3⟩:=iyPre_iff.1 hp;obtain⟨g1,g2,g3⟩:=kid9_iff.1 h1;have snd:∀ {r:T} {objs:Heap},evFn cx_iyA Tryd.f33 false [ofD .tree x, .one (.ptr 0 0)] [sbO 0 1,bsO l]=some (r,objs)→Sat Tryd.prog 33 [ofD .tree x, .one (.ptr 0 0)] [sbO 0 1,bsO l] r objs:=fun he =>
  fn_sound (cx:=cx_iyA) Tryd.func33 rfl ttOk Γ61ok mixed (fun c hc=>LoopsOk.all (l:=[(4,loopOf Tryd.f33 0)]) (by cases hc;kernel_rfl) ⟨atLoop rfl l_iyA,trivial⟩) (ro:=false) he
 have y:=y_iy x l;have hp0:=pw_pos lvYI;rw[pw_succ]at h3
 cases hs:smallS x.sign
 ·have kp:pre_iyA x.kids (x.kids.length:Int) 0 l=true:=by
   simp only[pre_iyA,pre_iy,andd,dec_iff,ble_iff];exact⟨trivial,by omega,trivial,⟨g2,all_eq_true.2 g3⟩,by omega,by omega⟩
  have e:yldP (lvYI+1) x=x.kids.flatMap (yldP lvYI):=by
   show(bif smallS x.sign then x.sign else x.kids.flatMap (yldP lvYI))=_;rw[hs];rfl
  rw[hs,kp]at y;rw[e]
  by_cases hk:(0:Int)<(x.kids.length:Int)
  ·rw[zT hk]at y;exact snd y
  ·have hk0:x.kids=[]:=List.eq_nil_of_length_eq_zero (by omega);rw[zF hk]at y;rw[hk0,show l++intL (List.flatMap (yldP lvYI) [])=l from List.append_nil l];exact sat_boxS (Nat.le_refl _) (snd y)
 ·have e:yldP (lvYI+1) x=x.sign:=by
   show(bif smallS x.sign then x.sign else x.kids.flatMap (yldP lvYI))=_;rw[hs];rfl
  rw[hs,Nat.ble_eq_true_of_le (by omega:l.length+x.sign.length≤140737488355328)]at y;rw[e];exact snd y
end
theorem iy_all:∀n,ConOk Tryd.prog 33 (conIY n)
 |0=>conIY_ok fun x l hp=>by cases (iyPre_iff.1 hp).1
 |n+1=>@iy_up ⟨⟨n,iy_all n⟩⟩
def iePre (n:Nat) (x:GTree):Bool:=kid9 n x&&(Nat.ble n 12&&Nat.beq (yldP n x).length 0)
theorem iePre_iff {n:Nat} {x:GTree}:iePre n x=true↔kid9 n x=true∧n≤12∧yldP n x=[]:=by
 unfold iePre;rw[andd,andd,ble_iff];exact⟨fun h=>⟨h.1,h.2.1,List.eq_nil_of_length_eq_zero (zB h.2.2)⟩,fun h=>⟨h.1,h.2.1,by rw[h.2.2];rfl⟩⟩
def conIE (n:Nat):Con:=⟨false,fun ds os=>match ds,os with
 | [d, .one (.ptr 0 0)],[.box t [.r (.v (.pointer none)), .r (.v (.slice none 0 0))]]=>match asD .tree d,Nat.beq t 70 with
  |some (x:GTree),true=>some (some (iePre n x), .tup [],[(0,some sbN)])
  |_,_=>none
 |_,_=>none⟩
theorem conIE_ok {n:Nat} (he:∀(x:GTree),iePre n x=true→Sat Tryd.prog 33 [ofD .tree x, .one (.ptr 0 0)] [sbN] (.tup []) [(0,some sbN)]):ConOk Tryd.prog 33 (conIE n):=by
 refine⟨Tryd.call33,fun ds os c x objs hc hok => ?_⟩;unfold conIE at hc;dsimp only at hc
 split at hc
 ·rename_i d t
  split at hc
  ·rename_i x e1 e3
   cases hc
   have e3:=zB e3;subst e3;intro w F β args H hds
   cases hds with | cons h1 h2 =>
   exact he x (pre_of hok) w F β _ H (.cons (asD_sound e1 h1 _ β) h2)
  ·cases hc
 ·cases hc
structure LevYE where
 n:Nat
 h:ConOk Tryd.prog 33 (conIE n)
noncomputable section
variable [Inhabited LevYE]
abbrev lvYE:Nat:=(default:LevYE).n
def c_impl_yieldS:Con:=conIE lvYE
theorem k_impl_yieldS:ConOk Tryd.prog 33 c_impl_yieldS:=(default:LevYE).h
def Γ62:GL:=(33,c_impl_yieldS)::Γ60
theorem Γ62ok:GO Γ62 := .cons k_impl_yieldS Γ60ok
def cb_ie:Cx:=cxOf Γ62 Tryd.f33.ntmps [(4,[1,14,15,16])] [(0,[]),(1,[1,14,15,16]),(1000000,[])] [] []
theorem x_ie (ks:List GTree) (n i:Int) (R:St→Option Fin) (K:Cont):evC (cb_ie.withLoops (look [])) (loopOf Tryd.f33 0) ⟨[(1, .d (.one (.ptr 0 0))),(14, .d (ofD TTL ks)),(15,vI n),(16,vI i)],[(0,some sbN)]⟩ (onward (headAt (cb_ie.withLoops (look [])) 4) R K)=(
branch (decide (i<n)) (
 need (inb i ks.length) <|
 need (iePre lvYE (GTree.node (GTree.sign (ks.getD i.toNat tz)) (GTree.rule (ks.getD i.toNat tz)) (GTree.kids (ks.getD i.toNat tz)))) <| R (.mk [(1,(.d (.one (.ptr 0 0)))),(14,(.d (.one (.r (.li (Ty.tree) ks))))),(15,vI n),(16,vI (W64 (i+1)))] [(0,(.some (.box 70 [(.r (.v (Value.pointer none))),(.r (.v (Value.slice none 0 0)))])))])) ( K (.exit 0) (.mk [] [(0,(.some (.box 70 [(.r (.v (Value.pointer none))),(.r (.v (Value.slice none 0 0)))])))]))):=by kernel_rfl
def ieKs (ks:List GTree):Bool:=Nat.ble ks.length 9&&List.all ks (iePre lvYE)
def cx0_ie:Cx:=(cb_ie).withLoops (look [])
def sh_ie:Sh:=([(1, .ptr 0 0),(14, .d TTL),(15, .d TI64),(16, .d TI64)],[(0, .mix 70 [.nlp, .nil])])
abbrev st_ie (ks:List GTree) (n i:Int):St:=⟨[(1, .d (.one (.ptr 0 0))),(14, .d (ofD TTL ks)),(15,vI n),(16,vI i)],[(0,some (.box 70 ([.r (.v (.pointer none))]++[.r (.v (.slice none 0 0))])))]⟩
def pre_ie (ks:List GTree) (n i:Int):Bool:=decide (0≤i)&&(decide (n=(ks.length:Int))&&ieKs ks)
def res_ie (_ks:List GTree) (_n _i:Int) (K:Cont):Option Fin:=K (.exit 0) ⟨[],[(0,some sbN)]⟩
def mu_ie (ks:List GTree) (_n i:Int):Nat:=ks.length-i.toNat
theorem r_ie (ks:List GTree) (n i:Int) (K:Cont) (hI:pre_ie ks n i=true):(∀R:St→Option Fin,evC cx0_ie (loopOf Tryd.f33 0) (st_ie ks n i) (onward (headAt cx0_ie 4) R K)=res_ie ks n i K) ∨
  (∃(ks':List GTree) (n' i':Int),pre_ie ks' n' i'=true∧mu_ie ks' n' i'<mu_ie ks n i∧res_ie ks' n' i' K=res_ie ks n i K∧∀R:St→Option Fin,evC cx0_ie (loopOf Tryd.f33 0) (st_ie ks n i) (onward (headAt cx0_ie 4) R K)=R (st_ie ks' n' i')):=by
 have hx:=fun R=>x_ie ks n i R K;rw[tEta (ks.getD i.toNat tz)]at hx;simp only[pre_ie,ieKs]at hI;rw[andd,andd,andd,dec_iff,dec_iff,ble_iff]at hI;obtain⟨h0,rfl,h1,h2⟩:=hI
 by_cases hi:i<(ks.length:Int)
 ·have hn:i.toNat<ks.length:=by omega
  have hk:ks.getD i.toNat tz∈ks:=by rw[zG,zE hn];exact List.getElem_mem hn
  have w:W64 (i+1)=i+1:=wrap_small (by omega) (by omega);rw[zT hi,inb_ok h0 hi,all_eq_true.1 h2 _ hk,w]at hx;right;refine⟨ks,(ks.length:Int),i+1, ?_, ?_, ?_,fun R=>hx R⟩
  ·simp only[pre_ie,ieKs];rw[andd,andd,andd,dec_iff,dec_iff,ble_iff];exact⟨by omega,trivial,h1,h2⟩
  ·simp only[mu_ie];omega
  ·simp only[res_ie]
 ·left;intro R;refine(hx R).trans ?_;rw[zF hi];rfl
def g_ie:St→Cont→Option Fin:=gP sh_ie (fun v=>match v with | ((ks,n,i,()),((),()))=>pre_ie ks n i) (fun v K=>match v with | ((ks,n,i,()),((),()))=>res_ie ks n i K)
def L_ie:LpL:=(4,g_ie)::[]
def cx_ie:Cx:=(cb_ie).withLoops (look L_ie)
theorem l_ie {L:LpL} (n:Nat) (h1:L.drop n=[]) (h2:idsFree (L.take n) (loopOf Tryd.f33 0)=true):LoopsTo g_ie (cb_ie) (loopOf Tryd.f33 0) 4 L :=
 with_drop h1 h2 (gP_ok (fun v=>match v with | ((ks,n,i,()),((),()))=>mu_ie ks n i) fun v K hI=>by
  obtain⟨⟨ks,n,i,⟨⟩⟩,⟨⟨⟩,⟨⟩⟩⟩:=v;exact(r_ie ks n i K hI).imp id fun⟨ks',n',i',h⟩=>⟨((ks',n',i',()),((),())),h⟩)
theorem y_ie (t:GTree):evFn cx_ie Tryd.f33 false [ofD .tree t, .one (.ptr 0 0)] [sbN]=(
branch (smallS t.sign) ( none) (
 need (pre_ie t.kids ((t.kids.length:Int)) 0) <| some ((.tup []),[(0,(.some (.box 70 [(.r (.v (Value.pointer none))),(.r (.v (Value.slice none 0 0)))])))]))):=by kernel_rfl
theorem ie_up:ConOk Tryd.prog 33 (conIE (lvYE+1)):=conIE_ok fun x hp=>by
 obtain⟨h1,h2,h3⟩:=iePre_iff.1 hp;obtain⟨g1,g2,g3⟩:=kid9_iff.1 h1;refine fn_sound (cx:=cx_ie) Tryd.func33 rfl ttOk Γ62ok mixed (fun c hc=>LoopsOk.all (l:=[(4,loopOf Tryd.f33 0)]) (by cases hc;kernel_rfl) ⟨atLoop rfl (l_ie 1 rfl (by kernel_rfl)),trivial⟩) (ro:=false) ?_;refine(y_ie x).trans ?_;have e:yldP (lvYE+1) x=bif smallS x.sign then x.sign else x.kids.flatMap (yldP lvYE):=rfl;rw[e]at h3
 cases hs:smallS x.sign
 ·rw[hs,cond_false]at h3;have hall:∀k∈x.kids,yldP lvYE k=[]:=fun k hk=>List.flatMap_eq_nil_iff.1 h3 k hk;have kp:pre_ie x.kids (x.kids.length:Int) 0=true:=by
   simp only[pre_ie,ieKs,andd,dec_iff,ble_iff];exact⟨by omega,trivial,g2,all_eq_true.2 fun k hk=>iePre_iff.2 ⟨g3 k hk,by omega,hall k hk⟩⟩
  rw[kp];rfl
 ·obtain ⟨c,e,_⟩:=smallS_one hs;rw[hs,cond_true,e]at h3
  cases h3
end
theorem ie_all:∀n,ConOk Tryd.prog 33 (conIE n)
 |0=>conIE_ok fun x hp=>by cases (iePre_iff.1 hp).1
 |n+1=>@ie_up ⟨⟨n,ie_all n⟩⟩
def c_impl_yieldE:Con:=conIE 12
theorem k_impl_yieldE:ConOk Tryd.prog 33 c_impl_yieldE:=ie_all 12
def Γ63:GL:=(33,c_impl_yieldE)::Γ60
theorem Γ63ok:GO Γ63 := .cons k_impl_yieldE Γ60ok
theorem y_tyE (t:GTree):evFn (cxOf Γ63 Tryd.f8.ntmps [] [] [] []) Tryd.f8 true [ofD .tree t] []=(
need (iePre 12 (GTree.node t.sign t.rule t.kids)) <| some ((vS []),[])):=by kernel_rfl
theorem s_tyE (t:GTree) (h:iePre 12 t=true):Sat Tryd.prog 8 [ofD .tree t] [] (.d (ofD .str [])) [] :=
 fn_sound (cx:=cxOf Γ63 Tryd.f8.ntmps [] [] [] []) Tryd.func8 rfl ttOk Γ63ok mixed (fun _ _=>LoopsOk.no fun _=>rfl) (ro:=true) (by
 rw[y_tyE,tEta,h];rfl)
theorem sat_fresh {P:Program} {f:FuncId} {ds:List D} {m:List Int} {x:T} (hx:∀(w:World) (F:Nat→Prop) (h h':HF) (β:Nat→Value) (v:Value),RepX #[] w F h β x v→RepX #[] w F h' β x v) (S:Sat P f ds [sbO 0 1,bsO []] x [(0,some (sbO 0 1000)),(1000,some (bsO m)),(1,none)]):Sat P f ds [sbN] x [(0,some (sbO 0 1000)),(1000,some (bsO m))]:=by
 intro w F β args H hds;have h0:hOf [sbN] 0=some (some sbN):=rfl;obtain⟨b,us,q1,q2,q3⟩:=H.obj 0 _ h0;have hOwn1:∀j o,setH (hOf [sbN]) 1 (some (bsO [])) j=some (some o)→j=0∨j=1:=by
  intro j o hj
  match j with
  |0=>exact .inl rfl
  |1=>exact .inr rfl
  |j+2=>cases hj
 obtain⟨H1,P1⟩:=H.turn (w':=w) (F':=F) 1 (some (bsO [])) (.slice none 0 0) rfl rfl rfl (Nat.le_refl _) (fun _=>False) (fun _ h=>h.elim) (fun _ _ _=>rfl) (fun _ hf=>hf) (fun _ hf => .inl hf) (fun _ _ hh=>by cases hh) (fun _ ob hob=>by
  cases hob
  exact⟨.inl ⟨none,by simp[setB],rfl⟩,fun b hb=>by simp[blk]at hb⟩)
 obtain⟨H2,P2⟩:=H1.turn (w':=w) (F':=F) 0 (some (sbO 0 1)) (β 0) rfl rfl rfl (Nat.le_refl _) (fun b=>Blk (β 0) b)
  (fun b hb=>⟨H.notF 0 _ b h0 hb,fun j o' hj0 hj hbj=>by
   rcases hOwn1 j o' hj with e0 | e0
   ·exact hj0 e0
   ·subst e0;simp[setB,blk]at hbj,H.fromO 0 _ b h0 hb⟩)
  (fun _ _ _=>rfl) (fun _ hf=>hf) (fun _ hf => .inl hf) (fun q0 o hh _=>⟨by
   have:some (some sbN)=some q0:=hh;exact⟨_,(Option.some.inj this).symm⟩,by simp[setB]⟩)
  (fun _ ob hob=>by
   cases hob
   refine⟨⟨b,us,by simp[setB,q1],q2, ?_⟩,fun b hb => .inl hb⟩
   generalize us.toList=ul at q3
   cases q3 with | cons g1 g2=>cases g2 with | cons g2 g3 =>
   cases g3
   obtain⟨rfl,_⟩:=g1;obtain⟨rfl,_⟩:=g2;exact .cons ⟨rfl,⟨_,rfl⟩,fun _ _ => .inl rfl⟩ (.cons ⟨rfl,⟨_,rfl⟩,fun _ _=>by simp[setB]⟩ .nil))
 have hh:setH (setH (hOf [sbN]) 1 (some (bsO []))) 0 (some (sbO 0 1))=hOf [sbO 0 1,bsO []]:=by
  funext j
  match j with
  |0=>rfl
  |1=>rfl
  |j+2=>rfl
 have hds2:=hds.mono fun _ _ h=>P2.repD (P1.repD h);rw[hh]at H2 hds2;have hb2:setB (setB β 1 (.slice none 0 0)) 0 (β 0) 0=β 0:=by simp[setB]
 have hOwn:Own (hOf [sbN]) β=Own (hOf [sbO 0 1,bsO []]) (setB (setB β 1 (.slice none 0 0)) 0 (β 0)):=by
  funext b
  apply propext
  constructor
  ·rintro ⟨i,o,h1,h2⟩
   match i with
   |0=>exact ⟨0,_,rfl,by rw[hb2];exact h2⟩
   |i+1=>cases h1
  ·rintro ⟨i,o,h1,h2⟩
   match i with
   |0=>exact ⟨0,_,rfl,by rw[hb2]at h2;exact h2⟩
   |1=>simp[setB,blk]at h2
   |i+2=>cases h1
 rw[hOwn]at H2;refine(S w F _ args H2 hds2).mono ?_;rintro e w' ⟨v,F',β',r1,r2,r3,r4,r5,r6⟩;rw[← hOwn]at r2;have hsub:∀i o,look [(0,some (sbO 0 1000)),(1000,some (bsO m))] i=some (some o)→look [(0,some (sbO 0 1000)),(1000,some (bsO m)),(1,none)] i=some (some o)∧(i=0∧o=sbO 0 1000∨i=1000∧o=bsO m):=by
  intro i o hi;simp only[look]at hi ⊢
  cases e1:Nat.beq 0 i
  ·rw[e1]at hi
   cases e2:Nat.beq 1000 i
   ·rw[e2]at hi;cases hi
   ·rw[e2]at hi
    cases hi
    exact⟨rfl, .inr ⟨(zB e2).symm,rfl⟩⟩
  ·rw[e1]at hi
   cases hi
   exact⟨rfl, .inl ⟨(zB e1).symm,rfl⟩⟩
 have hI:Inv w (Own (hOf [sbN]) β) F w' F' (look [(0,some (sbO 0 1000)),(1000,some (bsO m))]) β':=by
  refine⟨fun i o hi => ?_,fun i j o o' b hi hj=>r2.apart i j o o' b (hsub _ _ hi).1 (hsub _ _ hj).1,fun i o b hi=>r2.notF i o b (hsub _ _ hi).1,r2.low,r2.os,r2.tape,r2.output,r2.size,r2.kept,fun i o b hi=>r2.fromO i o b (hsub _ _ hi).1,r2.fromF,r2.inF⟩;obtain⟨h1,h2 | h2⟩:=hsub i o hi
  ·obtain ⟨rfl,rfl⟩:=h2;obtain⟨b,us,a1,a2,a3⟩:=r2.obj 0 _ h1;refine⟨b,us,a1,a2, ?_⟩
   generalize us.toList=ul at a3
   cases a3 with | cons g1 g2=>cases g2 with | cons g2 g3 =>
   cases g3
   exact .cons ⟨g1.1,⟨_,rfl⟩,fun o _=>g1.2.2 _ rfl⟩ (.cons ⟨g2.1,⟨_,rfl⟩,fun o _=>g2.2.2 _ rfl⟩ .nil)
  ·obtain ⟨rfl,rfl⟩:=h2;exact RepO.leaf.2 (RepO.leaf.1 (r2.obj 1000 _ h1))
 refine⟨v,F',β',r1,hI,fun i hi => ?_,fun i o hi ho => ?_,r5,hx _ _ _ _ _ _ r6⟩
 ·match i with
  |0=>exact ⟨_,rfl⟩
  |i+1=>simp at hi
 ·match i with
  |0=>exact (r4 0 _ (by simp) rfl).trans hb2
  |i+1=>simp at hi
theorem tup0_any (w:World) (F:Nat→Prop) (h h':HF) (β:Nat→Value) (v:Value) (r6:RepX #[] w F h β (.tup []) v):RepX #[] w F h' β (.tup []) v:=by
 obtain⟨us2,hv,hall⟩:=r6;refine⟨us2,hv, ?_⟩
 generalize us2.toList=ul at hall
 cases hall
 exact .nil
theorem byteL_intL {s:Str}:byteL (intL s)=s:=by
 unfold byteL intL;rw[List.map_map];exact(List.map_congr_left fun b _=>(by show UInt8.ofNat ((b.toNat:Int)).toNat=id b;rw[Int.toNat_natCast];exact UInt8.ofNat_toNat)).trans (List.map_id s)
def c_impl_yield:Con:=⟨false,fun ds os=>match ds,os with
 | [d, .one (.ptr 0 0)],[.box t [.r (.v (.pointer none)), .r (.v (.slice none 0 0))]]=>match asD .tree d,Nat.beq t 70 with
  |some (x:GTree),true=>some (some (iyPre 12 x []), .tup [],[(0,some (sbO 0 1000)),(1000,some (bsO (intL (yldP 12 x))))])
  |_,_=>none
 |_,_=>none⟩
theorem s_iy (x:GTree) (l:List Int) (h:iyPre 12 x l=true):Sat Tryd.prog 33 [ofD .tree x, .one (.ptr 0 0)] [sbO 0 1,bsO l] (.tup []) [(0,some (sbO 0 1000)),(1000,some (bsO (l++intL (yldP 12 x)))),(1,none)] :=
 (iy_all 12).2 [ofD .tree x, .one (.ptr 0 0)] [sbO 0 1,bsO l] (some (iyPre 12 x l)) _ _ (by
  show(match asD .tree (ofD .tree x),exLis 5 (.int .u8) (some (bsO l)),Nat.beq 70 70 with
   |some (x:GTree),some (l:List Int),true=>some (some (iyPre 12 x l),T.tup [],[(0,some (sbO 0 1000)),(1000,some (bsO (l++intL (yldP 12 x)))),(1,none)])
   |_,_,_=>none)=_
  cases x;rfl) (.inr (by rw[h]))
theorem k_impl_yield:ConOk Tryd.prog 33 c_impl_yield:=by
 refine⟨Tryd.call33,fun ds os c x objs hc hok => ?_⟩;unfold c_impl_yield at hc;dsimp only at hc
 split at hc
 ·rename_i d t
  split at hc
  ·rename_i x e1 e3
   cases hc
   have e3:=zB e3;subst e3;intro w F β args H hds
   cases hds with | cons h1 h2 =>
   exact sat_fresh tup0_any (s_iy x [] (pre_of hok)) w F β _ H (.cons (asD_sound e1 h1 _ β) h2)
  ·cases hc
 ·cases hc
def Γ64:GL:=(33,c_impl_yield)::Γ60
theorem Γ64ok:GO Γ64 := .cons k_impl_yield Γ60ok
theorem y_tyF (t:GTree):evFn (cxOf Γ64 Tryd.f8.ntmps [] [] [] []) Tryd.f8 true [ofD .tree t] []=(
need (iyPre 12 (GTree.node t.sign t.rule t.kids) []) <|
need (Nat.blt 0 (intL (yldP 12 (GTree.node t.sign t.rule t.kids))).length) <| some ((vS (byteL (intL (yldP 12 (GTree.node t.sign t.rule t.kids))))),[])):=by kernel_rfl
theorem s_tyF (t:GTree) (h:iyPre 12 t []=true) (h0:yldP 12 t≠[]):Sat Tryd.prog 8 [ofD .tree t] [] (.d (ofD .str (yldP 12 t))) [] :=
 fn_sound (cx:=cxOf Γ64 Tryd.f8.ntmps [] [] [] []) Tryd.func8 rfl ttOk Γ64ok mixed (fun _ _=>LoopsOk.no fun _=>rfl) (ro:=true) (by
 have h1:Nat.blt 0 (intL (yldP 12 t)).length=true:=by rw[intL_len];exact Nat.ble_eq_true_of_le (List.length_pos_iff.2 h0)
 rw[y_tyF,tEta,h,h1,byteL_intL];rfl)
def c_impl_TreeYield:Con:=conT [.tree] fun(t:GTree)=>(some (kid9 12 t), .d (ofD .str (yldP 12 t)))
theorem k_impl_TreeYield:ConOk Tryd.prog 8 c_impl_TreeYield:=conT_ok Tryd.call8 fun(t:GTree) _ hqq=>by
 have h:=pre_of hqq
 by_cases h0:yldP 12 t=[]
 ·rw[h0];exact s_tyE t (iePre_iff.2 ⟨h,Nat.le_refl _,h0⟩)
 ·exact s_tyF t (iyPre_iff.2 ⟨h,Nat.le_refl _,by rw[show pw 12=1000000000000 from rfl];simp⟩) h0
def Γ65:GL:=(8,c_impl_TreeYield)::Γ64
theorem Γ65ok:GO Γ65 := .cons k_impl_TreeYield Γ64ok
structure StepOk {σ V K:Type} (I:σ→Prop) (G:V→Prop) (has:σ→K→Bool) (ks:V→List K) (step:V→σ×Bool→σ×Bool):Prop where
 inv:∀v p,G v→I p.1→I (step v p).1
 mono:∀v p x,G v→I p.1→has p.1 x=true→has (step v p).1 x=true
 new:∀v p,G v→I p.1→(step v p).2=true→p.2=true∨∃x∈ks v,has p.1 x=false∧has (step v p).1 x=true
 quiet:∀v p,G v→I p.1→(step v p).2=false→p.2=false∧step v p=p
section
variable {σ V K:Type} {I:σ→Prop} {G:V→Prop} {has:σ→K→Bool} {ks:V→List K} {step:V→σ×Bool→σ×Bool}
end
section
variable {σ V K:Type} {I:σ→Prop} {G:V→Prop} {has:σ→K→Bool} {ks:V→List K} {step:V→σ×Bool→σ×Bool} {vs:List V}
end
theorem areSm_iff {s:Str} {n:Int}:areSm s n=true↔(s.length:Int)≤n∧s.all small=true:=by
 unfold areSm;rw[b2,andd,dec_iff]
theorem both_iff {g:Gram} {s:Str} (h:both2 g s=true):okG g=true∧s.length≤8∧s.all small=true:=by
 unfold both2 at h;rw[b2,andd,areSm_iff]at h;exact⟨h.1,by omega,h.2.2⟩
abbrev TSt:Ty := .struct (.pair TI64 TI64)
abbrev TStL:Ty := .list TSt
abbrev Stp:Type:=Int×Int
theorem stBytes:Tryd.t87.bytes=16:=by kernel_rfl
theorem st_fit0 {n:Nat} (h:n≤1000000000000):fits n Tryd.t87.bytes=true:=by
 rw[stBytes];simp only[fits];exact zT (by omega)
theorem st_fits {n:Nat} (h:n≤1000000000000):fits (n+1) Tryd.t87.bytes=true:=by
 rw[stBytes];simp only[fits];exact zT (by omega)
def stV:Nat→GTree→List Stp
 |0,_=>[]
 |n+1,t=>bif smallS t.sign then [(1,0)] else t.kids.flatMap (stV n)++[(2,t.rule)]
theorem flatS_len {f:GTree→List Stp} {m:Nat}:∀ {l:List GTree},(∀t∈l,(f t).length≤m)→(l.flatMap f).length≤l.length*m
 | [],_=>Nat.zero_le _
 |t::l,h=>by
  have h1:=h t mem_cons_self;have h2:=flatS_len (l:=l) fun t ht=>h t (mem_cons_of_mem _ ht);rw[List.flatMap_cons,length_append,length_cons,Nat.add_mul];omega
theorem st_len:∀ {n:Nat} {t:GTree},kid9 n t=true→((stV n t).length:Int)≤pw n
 |0,_,h=>by cases h
 |n+1,t,h=>by
  obtain⟨_,h2,h3⟩:=kid9_iff.1 h;have hp:=pw_pos n;rw[pw_succ];show((bif smallS t.sign then [((1:Int),(0:Int))] else t.kids.flatMap (stV n)++[(2,t.rule)]).length:Int)≤_
  cases smallS t.sign
  ·have h5:=flatS_len (f:=stV n) (m:=10 ^ n) (l:=t.kids) fun k hk=>(by have:=st_len (h3 k hk);unfold pw at this;omega);have h4:=Nat.mul_le_mul_right (10 ^ n) h2;rw[cond_false,length_append,length_singleton];unfold pw at hp ⊢;omega
  ·rw[cond_true,length_singleton];omega
def sbPre (n:Nat) (x:GTree) (l:List Stp):Bool:=kid9 n x&&(Nat.ble n 12&&decide ((l.length:Int)+pw n≤1000000000000))
theorem sbPre_iff {n:Nat} {x:GTree} {l:List Stp}:sbPre n x l=true↔kid9 n x=true∧n≤12∧(l.length:Int)+pw n≤1000000000000:=by
 unfold sbPre;rw[andd,andd,ble_iff,dec_iff]
def conSb (n:Nat):Con:=⟨false,fun ds os=>match ds,os with
 | [d, .one (.own 0)],[o]=>match asD .tree d,exLis 87 TSt (some o)with
  |some (x:GTree),some (l:List Stp)=>some (some (sbPre n x l), .d (.one (.own 1000)),[(1000,some (.lis 87 TSt (l++stV n x))),(0,none)])
  |_,_=>none
 |_,_=>none⟩
theorem conSb_ok {n:Nat} (he:∀(x:GTree) (l:List Stp),sbPre n x l=true→Sat Tryd.prog 43 [ofD .tree x, .one (.own 0)] [.lis 87 TSt l] (.d (.one (.own 1000))) [(1000,some (.lis 87 TSt (l++stV n x))),(0,none)]):ConOk Tryd.prog 43 (conSb n):=by
 refine⟨Tryd.call43,fun ds os c x objs hc hok => ?_⟩;unfold conSb at hc;dsimp only at hc
 split at hc
 ·rename_i d o
  split at hc
  ·rename_i x l e1 e3
   cases hc
   have e3:=Option.some.inj (exLis_some e3);subst e3;intro w F β args H hds
   cases hds with | cons h1 h2 =>
   exact he x l (pre_of hok) w F β _ H (.cons (asD_sound e1 h1 _ β) h2)
  ·cases hc
 ·cases hc
structure LevSb where
 n:Nat
 h:ConOk Tryd.prog 43 (conSb n)
noncomputable section
variable [Inhabited LevSb]
abbrev lvSb:Nat:=(default:LevSb).n
def c_impl_stepsBelowR:Con:=conSb lvSb
theorem k_impl_stepsBelowR:ConOk Tryd.prog 43 c_impl_stepsBelowR:=(default:LevSb).h
def Γ66:GL:=(43,c_impl_stepsBelowR)::Γ65
theorem Γ66ok:GO Γ66 := .cons k_impl_stepsBelowR Γ65ok
def cb_sb:Cx:=cxOf Γ66 Tryd.f43.ntmps [(4,[1,2,15,16,17])] [(0,[1,2]),(1,[1,2,15,16,17]),(1000000,[4])] [(4,[(1,87,TSt)])] []
theorem x_sbB (t:GTree) (ks:List GTree) (n i:Int) (l:List Stp) (R:St→Option Fin) (K:Cont):evC (cb_sb.withLoops (look [])) (loopOf Tryd.f43 0) ⟨[(1, ko0),(2, kp1),(15, .d (ofD TTL ks)),(16,vI n),(17,vI i)],[(500000,some (.lis 87 TSt l)),(500001,some (boxD 28 .tree t))]⟩ (onward (headAt (cb_sb.withLoops (look [])) 4) R K)=(
branch (decide (i<n)) (
 need (inb i ks.length) <|
 need (sbPre lvSb (GTree.node (GTree.sign (ks.getD i.toNat tz)) (GTree.rule (ks.getD i.toNat tz)) (GTree.kids (ks.getD i.toNat tz))) l) <| R (.mk [(1,ko0),(2,kp1),(15,(.d (.one (.r (.li (Ty.tree) ks))))),(16,vI n),(17,vI (W64 (i+1)))] [(500000,(.some (.lis 87 TSt (l.append (stV lvSb (GTree.node (GTree.sign (ks.getD i.toNat tz)) (GTree.rule (ks.getD i.toNat tz)) (GTree.kids (ks.getD i.toNat tz)))))))),(500001,(.some (.box 28 [(.r (.v (Value.string (mk t.sign)))),(.r (.v (Value.int IntKind.i64 t.rule))),(.r (.li (Ty.tree) (t.kids)))])))])) ( K (.exit 0) (.mk [(1,ko0),(2,kp1)] [(500000,some (.lis 87 TSt l)),(500001,(.some (.box 28 [(.r (.v (Value.string (mk t.sign)))),(.r (.v (Value.int IntKind.i64 t.rule))),(.r (.li (Ty.tree) (t.kids)))])))]))):=by kernel_rfl
theorem x_sbA (t:GTree) (ks:List GTree) (n i:Int) (l:List Stp) (R:St→Option Fin) (K:Cont):evC (cb_sb.withLoops (look [])) (loopOf Tryd.f43 0) ⟨[(1, .d (.one (.own 0))),(2, kp0),(15, .d (ofD TTL ks)),(16,vI n),(17,vI i)],[(0,some (.lis 87 TSt l)),(500000,some (boxD 28 .tree t))]⟩ (onward (headAt (cb_sb.withLoops (look [])) 4) R K)=(
branch (decide (i<n)) (
 need (inb i ks.length) <|
 need (sbPre lvSb (GTree.node (GTree.sign (ks.getD i.toNat tz)) (GTree.rule (ks.getD i.toNat tz)) (GTree.kids (ks.getD i.toNat tz))) l) <| R (.mk [(1,ko0),(2,kp1),(15,(.d (.one (.r (.li (Ty.tree) ks))))),(16,vI n),(17,vI (W64 (i+1)))] [(500000,(.some (.lis 87 TSt (l.append (stV lvSb (GTree.node (GTree.sign (ks.getD i.toNat tz)) (GTree.rule (ks.getD i.toNat tz)) (GTree.kids (ks.getD i.toNat tz)))))))),(500001,(.some (.box 28 [(.r (.v (Value.string (mk t.sign)))),(.r (.v (Value.int IntKind.i64 t.rule))),(.r (.li (Ty.tree) (t.kids)))])))])) ( K (.exit 0) (.mk [(1,(.d (.one (.own 0)))),(2,kp0)] [(0,some (.lis 87 TSt l)),(500000,(.some (.box 28 [(.r (.v (Value.string (mk t.sign)))),(.r (.v (Value.int IntKind.i64 t.rule))),(.r (.li (Ty.tree) (t.kids)))])))]))):=by kernel_rfl
def cx0_sb:Cx:=(cb_sb).withLoops (look [])
def sh_sb:Sh:=([(1, .own 500000),(2, .ptr 500001 0),(15, .d TTL),(16, .d TI64),(17, .d TI64)],[(500000, .lis 87 TSt),(500001, .box 28 .tree)])
abbrev st_sb (ks:List GTree) (n i:Int) (l:List (Stp)) (t:GTree):St:=⟨[(1, ko0),(2, kp1),(15, .d (ofD TTL ks)),(16,vI n),(17,vI i)],[(500000,some (.lis 87 TSt l)),(500001,some (boxD 28 .tree t))]⟩
def pre_sb (ks:List GTree) (n i:Int) (l:List (Stp)) (_t:GTree):Bool:=decide (0≤i)&&(decide (n=(ks.length:Int))&&(Nat.ble ks.length 9&&(List.all ks (kid9 lvSb)&&(Nat.ble lvSb 11&&decide ((length l:Int)+(9-i)*pw lvSb≤1000000000000)))))
def res_sb (ks:List GTree) (_n i:Int) (l:List (Stp)) (t:GTree) (K:Cont):Option Fin:=K (.exit 0) ⟨[(1, ko0),(2, kp1)],[(500000,some (.lis 87 TSt (l++(ks.drop i.toNat).flatMap (stV lvSb)))),(500001,some (boxD 28 .tree t))]⟩
def mu_sb (ks:List GTree) (_n i:Int) (_l:List (Stp)) (_t:GTree):Nat:=ks.length-i.toNat
theorem r_sb (ks:List GTree) (n i:Int) (l:List (Stp)) (t:GTree) (K:Cont) (hI:pre_sb ks n i l t=true):(∀R:St→Option Fin,evC cx0_sb (loopOf Tryd.f43 0) (st_sb ks n i l t) (onward (headAt cx0_sb 4) R K)=res_sb ks n i l t K) ∨
  (∃(ks':List GTree) (n' i':Int) (l':List (Stp)) (t':GTree),pre_sb ks' n' i' l' t'=true∧mu_sb ks' n' i' l' t'<mu_sb ks n i l t∧res_sb ks' n' i' l' t' K=res_sb ks n i l t K∧∀R:St→Option Fin,evC cx0_sb (loopOf Tryd.f43 0) (st_sb ks n i l t) (onward (headAt cx0_sb 4) R K)=R (st_sb ks' n' i' l' t')):=by
 have hx:=fun R=>x_sbB t ks n i l R K;rw[tEta (ks.getD i.toNat tz)]at hx;simp only[pre_sb,andd,dec_iff,ble_iff]at hI;obtain⟨h0,rfl,h1,h2,h3,h4⟩:=hI;have hp:=pw_pos lvSb
 by_cases hi:i<(ks.length:Int)
 ·have hn:i.toNat<ks.length:=by omega
  have hk:ks.getD i.toNat tz∈ks:=by rw[zG,zE hn];exact List.getElem_mem hn
  have hkid:=all_eq_true.1 h2 _ hk;have hg:=ks_at h0 hi
  generalize ks.getD i.toNat tz=k at hx hg hkid
  have hlen:=st_len hkid;have hm:1*pw lvSb≤(9-i)*pw lvSb:=Int.mul_le_mul_of_nonneg_right (by omega) (by omega);have hm2:(9-(i+1))*pw lvSb=(9-i)*pw lvSb-pw lvSb:=by rw[show 9-(i+1)=(9-i)-1 by omega,Int.sub_mul,Int.one_mul]
  have k1:sbPre lvSb k l=true:=sbPre_iff.2 ⟨hkid,by omega,by omega⟩;have w:W64 (i+1)=i+1:=wrap_small (by omega) (by omega);rw[zT hi,inb_ok h0 hi,k1,w]at hx;right;refine⟨ks,(ks.length:Int),i+1,l++stV lvSb k,t, ?_, ?_, ?_,fun R=>hx R⟩
  ·simp only[pre_sb,andd,dec_iff,ble_iff,length_append,hm2];exact⟨by omega,trivial,h1,h2,h3,by omega⟩
  ·simp only[mu_sb];omega
  ·simp only[res_sb,hg,List.flatMap_cons,append_assoc]
 ·left;intro R;refine(hx R).trans ?_;rw[zF hi];have e:ks.drop i.toNat=[]:=drop_eq_nil_of_le (by omega);simp only[res_sb,e,List.flatMap_nil,List.append_nil];rfl
def g_sb:St→Cont→Option Fin:=gP sh_sb (fun v=>match v with | ((ks,n,i,()),(l,t,()))=>pre_sb ks n i l t) (fun v K=>match v with | ((ks,n,i,()),(l,t,()))=>res_sb ks n i l t K)
theorem l_sb {L:LpL} (n:Nat) (h1:L.drop n=[]) (h2:idsFree (L.take n) (loopOf Tryd.f43 0)=true):LoopsTo g_sb (cb_sb) (loopOf Tryd.f43 0) 4 L :=
 with_drop h1 h2 (gP_ok (fun v=>match v with | ((ks,n,i,()),(l,t,()))=>mu_sb ks n i l t) fun v K hI=>by
  obtain⟨⟨ks,n,i,⟨⟩⟩,⟨l,t,⟨⟩⟩⟩:=v;exact(r_sb ks n i l t K hI).imp id fun⟨ks',n',i',l',t',h⟩=>⟨((ks',n',i',()),(l',t',())),h⟩)
theorem sb_next {t:GTree} {ks:List GTree} {n i:Int} {l:List Stp} {K:Cont} (hI:pre_sb ks n i l t=true) (hi:i<n):inb i ks.length=true∧sbPre lvSb (ks.getD i.toNat tz) l=true∧W64 (i+1)=i+1 ∧
  pre_sb ks n (i+1) (l++stV lvSb (ks.getD i.toNat tz)) t=true∧res_sb ks n (i+1) (l++stV lvSb (ks.getD i.toNat tz)) t K=res_sb ks n i l t K:=by
 simp only[pre_sb,andd,dec_iff,ble_iff]at hI;obtain⟨h0,rfl,h1,h2,h3,h4⟩:=hI;have hp:=pw_pos lvSb;have hn:i.toNat<ks.length:=by omega
 have hk:ks.getD i.toNat tz∈ks:=by rw[zG,zE hn];exact List.getElem_mem hn
 have hkid:=all_eq_true.1 h2 _ hk;have hg:=ks_at h0 hi
 generalize ks.getD i.toNat tz=k at hg hkid
 have hlen:=st_len hkid;have hm:1*pw lvSb≤(9-i)*pw lvSb:=Int.mul_le_mul_of_nonneg_right (by omega) (by omega);have hm2:(9-(i+1))*pw lvSb=(9-i)*pw lvSb-pw lvSb:=by rw[show 9-(i+1)=(9-i)-1 by omega,Int.sub_mul,Int.one_mul]
 refine⟨inb_ok h0 hi,sbPre_iff.2 ⟨hkid,by omega,by omega⟩,wrap_small (by omega) (by omega), ?_, ?_⟩
 ·simp only[pre_sb,andd,dec_iff,ble_iff,length_append,hm2];exact⟨by omega,trivial,h1,h2,h3,by omega⟩
 ·simp only[res_sb,hg,List.flatMap_cons,append_assoc]
def sh_sbA:Sh:=([(1, .own 0),(2, .ptr 500000 0),(15, .d TTL),(16, .d TI64),(17, .d TI64)],[(0, .lis 87 TSt),(500000, .box 28 .tree)])
def pre_sbA (t:GTree) (ks:List GTree) (n i:Int) (l:List Stp):Bool:=decide (i=0)&&pre_sb ks n i l t
def res_sbA (t:GTree) (ks:List GTree) (n i:Int) (l:List Stp) (K:Cont):Option Fin:=branch (decide (i<n)) (res_sb ks n i l t K) (K (.exit 0) ⟨[(1, .d (.one (.own 0))),(2, kp0)],[(0,some (.lis 87 TSt l)),(500000,some (boxD 28 .tree t))]⟩)
def g_sbA:St→Cont→Option Fin:=gW sh_sbA (fun v=>match v with | ((ks,n,i,()),(l,t,()))=>pre_sbA t ks n i l) (fun v K=>match v with | ((ks,n,i,()),(l,t,()))=>res_sbA t ks n i l K) g_sb
def cx_sbA:Cx:=cb_sb.withLoops (look [(4,g_sbA)])
theorem sbA_step (t:GTree) (ks:List GTree) (n i:Int) (l:List Stp) (K:Cont) (hI:(decide (i=0)&&pre_sb ks n i l t)=true) :
  (∀R:St→Option Fin,evC (cb_sb.withLoops (look [])) (loopOf Tryd.f43 0) ⟨[(1, .d (.one (.own 0))),(2, kp0),(15, .d (ofD TTL ks)),(16,vI n),(17,vI i)],[(0,some (.lis 87 TSt l)),(500000,some (boxD 28 .tree t))]⟩ (onward (headAt (cb_sb.withLoops (look [])) 4) R K)=res_sbA t ks n i l K) ∨
  ∃st',g_sb st' K=res_sbA t ks n i l K∧∀R:St→Option Fin,evC (cb_sb.withLoops (look [])) (loopOf Tryd.f43 0) ⟨[(1, .d (.one (.own 0))),(2, kp0),(15, .d (ofD TTL ks)),(16,vI n),(17,vI i)],[(0,some (.lis 87 TSt l)),(500000,some (boxD 28 .tree t))]⟩ (onward (headAt (cb_sb.withLoops (look [])) 4) R K)=R st':=by
 have hx:=fun R=>x_sbA t ks n i l R K;rw[tEta (ks.getD i.toNat tz)]at hx;obtain⟨h0,h1⟩:=andd.1 hI;unfold res_sbA
 by_cases hi:i<n
 ·obtain ⟨k1,k2,k3,k4,k5⟩:=sb_next (K:=K) h1 hi;rw[zT hi,k1,k2,k3]at hx;right;refine⟨st_sb ks n (i+1) (l++stV lvSb (ks.getD i.toNat tz)) t, ?_,fun R=>hx R⟩;show need (pre_sb ks n (i+1) (l++stV lvSb (ks.getD i.toNat tz)) t) (res_sb ks n (i+1) (l++stV lvSb (ks.getD i.toNat tz)) t K)=_;rw[k4,k5,zT hi];rfl
 ·left;intro R;refine(hx R).trans ?_;rw[zF hi];rfl
theorem l_sbA:LoopsTo g_sbA cb_sb (loopOf Tryd.f43 0) 4 [(4,g_sbA)]:=with_drop (m:=[]) (n:=1) rfl (by kernel_rfl) (gW_ok (l_sb (L:=[]) 0 rfl (by kernel_rfl)) fun v K hI=>by
 obtain⟨⟨ks,n,i,⟨⟩⟩,⟨l,t,⟨⟩⟩⟩:=v;exact sbA_step t ks n i l K hI)
abbrev sR:List Stp:=[(1,0)]
abbrev sD (r:Int):List Stp:=[(2,r)]
abbrev sE:List Stp:=[(3,0)]
abbrev lsO (l:List Stp):Obj := .lis 87 TSt l
theorem y_sb (t:GTree) (l:List Stp):evFn cx_sbA Tryd.f43 false [ofD .tree t, .one (.own 0)] [.lis 87 TSt l] =
  branch (smallS t.sign) (need (fits (l.length+1) Tryd.t87.bytes) (some (.d (.one (.own 1000)),[(1000,some (lsO (l++sR))),(0,none)]))) (
   need (pre_sbA (GTree.node t.sign t.rule t.kids) t.kids (t.kids.length:Int) 0 l) (branch (decide (0<(t.kids.length:Int)))
    (need (fits ((l++t.kids.flatMap (stV lvSb)).length+1) Tryd.t87.bytes) (some (.d (.one (.own 1000)),[(1000,some (lsO ((l++t.kids.flatMap (stV lvSb))++sD t.rule))),(0,none)])))
    (need (fits (l.length+1) Tryd.t87.bytes) (some (.d (.one (.own 1000)),[(1000,some (lsO (l++sD t.rule))),(0,none)]))))):=by kernel_rfl
theorem y_sbN (t:GTree):evFn cx_sbA Tryd.f43 false [ofD .tree t, .one (.r (.v (.slice none 0 0)))] [] =
  branch (smallS t.sign) (some (.d (.one (.own 1000)),[(1000,some (lsO sR))])) (
   need (pre_sb t.kids (t.kids.length:Int) 0 [] (GTree.node t.sign t.rule t.kids)) (
    need (fits ((t.kids.flatMap (stV lvSb)).length+1) Tryd.t87.bytes) (some (.d (.one (.own 1000)),[(1000,some (lsO (t.kids.flatMap (stV lvSb)++sD t.rule)))])))):=by kernel_rfl
theorem sb_pre {x:GTree} {l:List Stp} (hp:sbPre (lvSb+1) x l=true):pre_sb x.kids (x.kids.length:Int) 0 l x=true∧l.length≤1000000000000∧(l++x.kids.flatMap (stV lvSb)).length≤1000000000000:=by
 obtain⟨h1,h2,h3⟩:=sbPre_iff.1 hp;obtain⟨g1,g2,g3⟩:=kid9_iff.1 h1;have hp0:=pw_pos lvSb;rw[pw_succ]at h3;refine⟨?_,by omega, ?_⟩
 ·simp only[pre_sb,andd,dec_iff,ble_iff];exact⟨by omega,trivial,g2,all_eq_true.2 g3,by omega,by omega⟩
 ·have h5:=flatS_len (f:=stV lvSb) (m:=10 ^ lvSb) (l:=x.kids) fun k hk=>(by have:=st_len (g3 k hk);unfold pw at this;omega);have h4:=Nat.mul_le_mul_right (10 ^ lvSb) g2;rw[length_append];unfold pw at h3;omega
theorem sb_up:ConOk Tryd.prog 43 (conSb (lvSb+1)):=conSb_ok fun x l hp=>by
 obtain⟨k1,k2,k3⟩:=sb_pre hp;have kA:pre_sbA x x.kids (x.kids.length:Int) 0 l=true:=by unfold pre_sbA;rw[k1];rfl
 have snd:∀ {r:T} {objs:Heap},evFn cx_sbA Tryd.f43 false [ofD .tree x, .one (.own 0)] [.lis 87 TSt l]=some (r,objs)→Sat Tryd.prog 43 [ofD .tree x, .one (.own 0)] [.lis 87 TSt l] r objs:=fun he =>
  fn_sound (cx:=cx_sbA) Tryd.func43 rfl ttOk Γ66ok mixed (fun c hc=>LoopsOk.all (l:=[(4,loopOf Tryd.f43 0)]) (by cases hc;kernel_rfl) ⟨atLoop rfl l_sbA,trivial⟩) (ro:=false) he
 have y:=y_sb x l;rw[tEta,kA,st_fits k2,st_fits k3]at y;have e:stV (lvSb+1) x=bif smallS x.sign then sR else x.kids.flatMap (stV lvSb)++sD x.rule:=rfl;rw[e]
 cases hb:smallS x.sign
 ·rw[hb]at y
  by_cases hk:(0:Int)<(x.kids.length:Int)
  ·rw[zT hk,append_assoc]at y;exact snd y
  ·have hk0:x.kids=[]:=List.eq_nil_of_length_eq_zero (by omega);rw[zF hk]at y;rw[hk0];exact snd y
 ·rw[hb]at y;exact snd y
theorem sb_upN {x:GTree} (hp:sbPre (lvSb+1) x []=true):Sat Tryd.prog 43 [ofD .tree x, .one (.r (.v (.slice none 0 0)))] [] (.d (.one (.own 1000))) [(1000,some (lsO (stV (lvSb+1) x)))]:=by
 obtain⟨k1,k2,k3⟩:=sb_pre hp;rw[List.nil_append]at k3;have snd:∀ {r:T} {objs:Heap},evFn cx_sbA Tryd.f43 false [ofD .tree x, .one (.r (.v (.slice none 0 0)))] []=some (r,objs)→Sat Tryd.prog 43 [ofD .tree x, .one (.r (.v (.slice none 0 0)))] [] r objs:=fun he =>
  fn_sound (cx:=cx_sbA) Tryd.func43 rfl ttOk Γ66ok mixed (fun c hc=>LoopsOk.all (l:=[(4,loopOf Tryd.f43 0)]) (by cases hc;kernel_rfl) ⟨atLoop rfl l_sbA,trivial⟩) (ro:=false) he
 have y:=y_sbN x;rw[tEta,k1,st_fits k3]at y;have e:stV (lvSb+1) x=bif smallS x.sign then sR else x.kids.flatMap (stV lvSb)++sD x.rule:=rfl;rw[e]
 cases hb:smallS x.sign
 ·rw[hb]at y;exact snd y
 ·rw[hb]at y;exact snd y
end
theorem sb_all:∀n,ConOk Tryd.prog 43 (conSb n)
 |0=>conSb_ok fun x l hp=>by cases (sbPre_iff.1 hp).1
 |n+1=>@sb_up ⟨⟨n,sb_all n⟩⟩
def c_impl_stepsBelow:Con:=⟨false,fun ds os=>match ds,os with
 | [d, .one (.r (.v (.slice none 0 0)))],[]=>match asD .tree d with
  |some (x:GTree)=>some (some (sbPre 12 x []), .d (.one (.own 1000)),[(1000,some (lsO (stV 12 x)))])
  |_=>none
 |_,_=>none⟩
theorem k_impl_stepsBelow:ConOk Tryd.prog 43 c_impl_stepsBelow:=by
 refine⟨Tryd.call43,fun ds os c x objs hc hok => ?_⟩;unfold c_impl_stepsBelow at hc;dsimp only at hc
 split at hc
 ·rename_i d
  split at hc
  ·rename_i x e1
   cases hc
   intro w F β args H hds
   cases hds with | cons h1 h2 =>
   exact @sb_upN ⟨⟨11,sb_all 11⟩⟩ x (pre_of hok) w F β _ H (.cons (asD_sound e1 h1 _ β) h2)
  ·cases hc
 ·cases hc
def Γ67:GL:=(43,c_impl_stepsBelow)::Γ65
theorem Γ67ok:GO Γ67 := .cons k_impl_stepsBelow Γ65ok
theorem y_impl_StepsOf (g:Gram) (t:GTree):evFn ((cxOf Γ67 Tryd.f13.ntmps [] [] [] []).parted [1]) Tryd.f13 true [ofD TG g,ofD .tree t] [] =
  branch (decide ((!okT g (GTree.node t.sign t.rule t.kids))=false)) (
   branch (bif false then true else !decide (t.sign=g.1)) (some (.d (ofD TStL []),[])) (
    need (sbPre 12 (GTree.node t.sign t.rule t.kids) []) (need (fits ((stV 12 (GTree.node t.sign t.rule t.kids)).length+1) Tryd.t87.bytes) (some (.d (ofD TStL (stV 12 (GTree.node t.sign t.rule t.kids)++sE)),[]))))) (some (.d (ofD TStL []),[])):=by kernel_rfl
def soV (f:GTree→List Stp) (g:Gram) (t:GTree):List Stp:=bif okT g t&&decide (t.sign=g.1)then f t++sE else []
theorem st_len12 {t:GTree} (h:kid9 12 t=true):(stV 12 t).length≤1000000000000:=by
 have:=st_len h;rw[show pw 12=1000000000000 from rfl]at this;omega
theorem s_impl_StepsOf (g:Gram) (_hg:Fit TG g) (t:GTree) (_ht:Fit .tree t) (hpre:(kid9 12 t)=true):Sat Tryd.prog 13 [ofD TG g,ofD .tree t] [] (.d (ofD TStL (soV (stV 12) g t))) [] :=
 fn_sound (cx:=((cxOf Γ67 Tryd.f13.ntmps [] [] [] []).parted [1])) Tryd.func13 rfl ttOk Γ67ok mixed (fun _ _=>LoopsOk.no fun _=>rfl) (ro:=true) (by
  rw[y_impl_StepsOf,tEta,st_fits (st_len12 hpre),show sbPre 12 t []=true from sbPre_iff.2 ⟨hpre,Nat.le_refl _,by rw[show pw 12=1000000000000 from rfl];simp⟩];unfold soV
  cases okT g t
  ·rfl
  ·cases decide (t.sign=g.1)<;>rfl)
def c_impl_StepsOf:Con:=conT [TG, .tree] fun(g:Gram) (t:GTree)=>(some (kid9 12 t), .d (ofD TStL (soV (stV 12) g t)))
theorem k_impl_StepsOf:ConOk Tryd.prog 13 c_impl_StepsOf:=conT_ok Tryd.call13 fun g hg t ht hqq=>s_impl_StepsOf g hg t ht (pre_of hqq)
def Γ68:GL:=(13,c_impl_StepsOf)::Γ67
theorem Γ68ok:GO Γ68 := .cons k_impl_StepsOf Γ67ok
def l7V:Nat→GTree→List Stp
 |0,_=>[]
 |n+1,t=>bif decide (t.rule<0)then [(1,0)] else t.kids.flatMap (l7V n)++[(2,t.rule)]
theorem l7_len:∀ {n:Nat} {t:GTree},kid9 n t=true→((l7V n t).length:Int)≤pw n
 |0,_,h=>by cases h
 |n+1,t,h=>by
  obtain⟨_,h2,h3⟩:=kid9_iff.1 h;have hp:=pw_pos n;rw[pw_succ];show((bif decide (t.rule<0)then [((1:Int),(0:Int))] else t.kids.flatMap (l7V n)++[(2,t.rule)]).length:Int)≤_
  cases decide (t.rule<0)
  ·have h5:=flatS_len (f:=l7V n) (m:=10 ^ n) (l:=t.kids) fun k hk=>(by have:=l7_len (h3 k hk);unfold pw at this;omega);have h4:=Nat.mul_le_mul_right (10 ^ n) h2;rw[cond_false,length_append,length_singleton];unfold pw at hp ⊢;omega
  ·rw[cond_true,length_singleton];omega
def con7 (n:Nat):Con:=conT [.tree] fun(t:GTree)=>(some (kid9 n t&&Nat.ble n 12), .d (ofD TStL (l7V n t)))
structure Lev7 where
 n:Nat
 h:ConOk Tryd.prog 46 (con7 n)
noncomputable section
variable [Inhabited Lev7]
abbrev lv7:Nat:=(default:Lev7).n
def c_spec_l7OfR:Con:=con7 lv7
theorem k_spec_l7OfR:ConOk Tryd.prog 46 c_spec_l7OfR:=(default:Lev7).h
def Γ69:GL:=(46,c_spec_l7OfR)::Γ68
theorem Γ69ok:GO Γ69 := .cons k_spec_l7OfR Γ68ok
def cb_l7:Cx:=cxOf Γ69 Tryd.f46.ntmps [(5,[1,3,4])] [(0,[1,3]),(1,[1,3,4]),(1000000,[2])] [] []
theorem x_l7 (t:GTree) (i:Int) (l:List Stp) (R:St→Option Fin) (K:Cont):evC (cb_l7.withLoops (look [])) (loopOf Tryd.f46 0) ⟨[(1, kp0),(3, ko1),(4,vI i)],[(500000,some (boxD 28 .tree t)),(500001,some (.lis 87 TSt l))]⟩ (onward (headAt (cb_l7.withLoops (look [])) 5) R K)=(
branch (decide (i<(t.kids.length:Int))) (
 need (inb i t.kids.length) <|
 need (kid9 lv7 (GTree.node (GTree.sign (t.kids.getD i.toNat tz)) (GTree.rule (t.kids.getD i.toNat tz)) (GTree.kids (t.kids.getD i.toNat tz)))&&lv7.ble 12) <|
 need (fits (l.length+(l7V lv7 (GTree.node (GTree.sign (t.kids.getD i.toNat tz)) (GTree.rule (t.kids.getD i.toNat tz)) (GTree.kids (t.kids.getD i.toNat tz)))).length) Tryd.t87.bytes) <| R (.mk [(1,kp0),(3,ko1),(4,vI (W64 (i+1)))] [(500000,(.some (.box 28 [(.r (.v (Value.string (mk t.sign)))),(.r (.v (Value.int IntKind.i64 t.rule))),(.r (.li (Ty.tree) (t.kids)))]))),(500001,(.some (.lis 87 ty87 (l.append (l7V lv7 (GTree.node (GTree.sign (t.kids.getD i.toNat tz)) (GTree.rule (t.kids.getD i.toNat tz)) (GTree.kids (t.kids.getD i.toNat tz))))))))])) ( K (.exit 0) (.mk [(1,kp0),(3,ko1)] [(500000,(.some (.box 28 [(.r (.v (Value.string (mk t.sign)))),(.r (.v (Value.int IntKind.i64 t.rule))),(.r (.li (Ty.tree) (t.kids)))]))),(500001,some (.lis 87 TSt l))]))):=by kernel_rfl
def cx0_l7:Cx:=(cb_l7).withLoops (look [])
def sh_l7:Sh:=([(1, .ptr 500000 0),(3, .own 500001),(4, .d TI64)],[(500000, .box 28 .tree),(500001, .lis 87 TSt)])
abbrev st_l7 (i:Int) (t:GTree) (l:List (Stp)):St:=⟨[(1, kp0),(3, ko1),(4,vI i)],[(500000,some (boxD 28 .tree t)),(500001,some (.lis 87 TSt l))]⟩
def pre_l7 (i:Int) (t:GTree) (l:List (Stp)):Bool:=decide (0≤i)&&(Nat.ble t.kids.length 9&&(List.all t.kids (kid9 lv7)&&(Nat.ble lv7 11&&decide ((length l:Int)+(9-i)*pw lv7≤1000000000000))))
def res_l7 (i:Int) (t:GTree) (l:List (Stp)) (K:Cont):Option Fin:=K (.exit 0) ⟨[(1, kp0),(3, ko1)],[(500000,some (boxD 28 .tree t)),(500001,some (.lis 87 TSt (l++(t.kids.drop i.toNat).flatMap (l7V lv7))))]⟩
def mu_l7 (i:Int) (t:GTree) (_l:List (Stp)):Nat:=t.kids.length-i.toNat
theorem r_l7 (i:Int) (t:GTree) (l:List (Stp)) (K:Cont) (hI:pre_l7 i t l=true):(∀R:St→Option Fin,evC cx0_l7 (loopOf Tryd.f46 0) (st_l7 i t l) (onward (headAt cx0_l7 5) R K)=res_l7 i t l K) ∨
  (∃(i':Int) (t':GTree) (l':List (Stp)),pre_l7 i' t' l'=true∧mu_l7 i' t' l'<mu_l7 i t l∧res_l7 i' t' l' K=res_l7 i t l K∧∀R:St→Option Fin,evC cx0_l7 (loopOf Tryd.f46 0) (st_l7 i t l) (onward (headAt cx0_l7 5) R K)=R (st_l7 i' t' l')):=by
 have hx:=fun R=>x_l7 t i l R K;rw[tEta (t.kids.getD i.toNat tz)]at hx;simp only[pre_l7,andd,dec_iff,ble_iff]at hI;obtain⟨h0,h1,h2,h3,h4⟩:=hI;have hp:=pw_pos lv7
 by_cases hi:i<(t.kids.length:Int)
 ·have hn:i.toNat<t.kids.length:=by omega
  have hk:t.kids.getD i.toNat tz∈t.kids:=by rw[zG,zE hn];exact List.getElem_mem hn
  have hkid:=all_eq_true.1 h2 _ hk;have hg:=ks_at h0 hi
  generalize t.kids.getD i.toNat tz=k at hx hg hkid
  have hlen:=l7_len hkid;have hm:1*pw lv7≤(9-i)*pw lv7:=Int.mul_le_mul_of_nonneg_right (by omega) (by omega);have hm2:(9-(i+1))*pw lv7=(9-i)*pw lv7-pw lv7:=by rw[show 9-(i+1)=(9-i)-1 by omega,Int.sub_mul,Int.one_mul]
  have k1:(kid9 lv7 k&&lv7.ble 12)=true:=andd.2 ⟨hkid,ble_iff.2 (by omega)⟩;have k2:fits (l.length+(l7V lv7 k).length) Tryd.t87.bytes=true:=st_fit0 (by omega);have w:W64 (i+1)=i+1:=wrap_small (by omega) (by omega);rw[zT hi,inb_ok h0 hi,k1,k2,w]at hx;right;refine⟨i+1,t,l++l7V lv7 k, ?_, ?_, ?_,fun R=>hx R⟩
  ·simp only[pre_l7,andd,dec_iff,ble_iff,length_append,hm2];exact⟨by omega,h1,h2,h3,by omega⟩
  ·simp only[mu_l7];omega
  ·simp only[res_l7,hg,List.flatMap_cons,append_assoc]
 ·left;intro R;refine(hx R).trans ?_;rw[zF hi];have e:t.kids.drop i.toNat=[]:=drop_eq_nil_of_le (by omega);simp only[res_l7,e,List.flatMap_nil,List.append_nil];rfl
def g_l7:St→Cont→Option Fin:=gP sh_l7 (fun v=>match v with | ((i,()),(t,l,()))=>pre_l7 i t l) (fun v K=>match v with | ((i,()),(t,l,()))=>res_l7 i t l K)
def L_l7:LpL:=(5,g_l7)::[]
def cx_l7:Cx:=(cb_l7).withLoops (look L_l7)
theorem l_l7 {L:LpL} (n:Nat) (h1:L.drop n=[]) (h2:idsFree (L.take n) (loopOf Tryd.f46 0)=true):LoopsTo g_l7 (cb_l7) (loopOf Tryd.f46 0) 5 L :=
 with_drop h1 h2 (gP_ok (fun v=>match v with | ((i,()),(t,l,()))=>mu_l7 i t l) fun v K hI=>by
  obtain⟨⟨i,⟨⟩⟩,⟨t,l,⟨⟩⟩⟩:=v;exact(r_l7 i t l K hI).imp id fun⟨i',t',l',h⟩=>⟨((i',()),(t',l',())),h⟩)
theorem y_l7 (t:GTree):evFn cx_l7 Tryd.f46 true [ofD .tree t] [] =
  branch (decide (t.rule<0)) (some (.d (ofD TStL sR),[])) (need (pre_l7 0 (GTree.node t.sign t.rule t.kids) []) (
   need (fits ((t.kids.flatMap (l7V lv7)).length+1) Tryd.t87.bytes) (some (.d (ofD TStL (t.kids.flatMap (l7V lv7)++sD t.rule)),[])))):=by kernel_rfl
theorem l7_pre {t:GTree} (h1:kid9 (lv7+1) t=true) (h2:lv7+1≤12):pre_l7 0 t []=true∧fits ((t.kids.flatMap (l7V lv7)).length+1) Tryd.t87.bytes=true:=by
 obtain⟨g1,g2,g3⟩:=kid9_iff.1 h1;have hp0:=pw_pos lv7;have hp1:=pw12 (n:=lv7+1) (by omega);rw[pw_succ]at hp1
 constructor
 ·simp only[pre_l7,andd,dec_iff,ble_iff];exact⟨by omega,g2,all_eq_true.2 g3,by omega,by rw[List.length_nil];omega⟩
 ·have h5:=flatS_len (f:=l7V lv7) (m:=10 ^ lv7) (l:=t.kids) fun k hk=>(by have:=l7_len (g3 k hk);unfold pw at this;omega);have h4:=Nat.mul_le_mul_right (10 ^ lv7) g2;unfold pw at hp1;exact st_fits (by omega)
theorem l7_up:ConOk Tryd.prog 46 (con7 (lv7+1)):=conT_ok Tryd.call46 fun(t:GTree) _ hqq=>by
 obtain⟨h1,h2⟩:=andd.1 (pre_of hqq);obtain⟨k1,k2⟩:=l7_pre h1 (ble_iff.1 h2);refine fn_sound (cx:=cx_l7) Tryd.func46 rfl ttOk Γ69ok mixed (fun c hc=>LoopsOk.all (l:=[(5,loopOf Tryd.f46 0)]) (by cases hc;kernel_rfl) ⟨atLoop rfl (l_l7 1 rfl (by kernel_rfl)),trivial⟩) (ro:=true) ?_;refine(y_l7 t).trans ?_;rw[tEta,k1,k2];show branch _ _ _=some (T.d (ofD TStL (bif decide (t.rule<0)then sR else t.kids.flatMap (l7V lv7)++sD t.rule)),[])
 cases decide (t.rule<0)<;>rfl
theorem y_l7N (t:GTree):evFn cx_l7 Tryd.f46 false [ofD .tree t] [] =
  branch (decide (t.rule<0)) (some (.d (.one (.own 1000)),[(1000,some (lsO sR))])) (need (pre_l7 0 (GTree.node t.sign t.rule t.kids) []) (
   need (fits ((t.kids.flatMap (l7V lv7)).length+1) Tryd.t87.bytes) (some (.d (.one (.own 1000)),[(1000,some (lsO (t.kids.flatMap (l7V lv7)++sD t.rule)))])))):=by kernel_rfl
theorem l7_upN {t:GTree} (h1:kid9 (lv7+1) t=true) (h2:lv7+1≤12):Sat Tryd.prog 46 [ofD .tree t] [] (.d (.one (.own 1000))) [(1000,some (lsO (l7V (lv7+1) t)))]:=by
 obtain⟨k1,k2⟩:=l7_pre h1 h2;refine fn_sound (cx:=cx_l7) Tryd.func46 rfl ttOk Γ69ok mixed (fun c hc=>LoopsOk.all (l:=[(5,loopOf Tryd.f46 0)]) (by cases hc;kernel_rfl) ⟨atLoop rfl (l_l7 1 rfl (by kernel_rfl)),trivial⟩) (ro:=false) ?_;refine(y_l7N t).trans ?_;rw[tEta,k1,k2];show branch _ _ _=some (T.d (D.one (.own 1000)),[(1000,some (lsO (bif decide (t.rule<0)then sR else t.kids.flatMap (l7V lv7)++sD t.rule)))])
 cases decide (t.rule<0)<;>rfl
end
theorem l7_all:∀n,ConOk Tryd.prog 46 (con7 n)
 |0=>conT_ok Tryd.call46 fun(t:GTree) _ hqq=>by cases (andd.1 (pre_of hqq)).1
 |n+1=>@l7_up ⟨⟨n,l7_all n⟩⟩
def c_spec_l7Of:Con:=conN [.tree] fun(t:GTree)=>(some (kid9 12 t), .d (.one (.own 1000)),[(1000,some (lsO (l7V 12 t)))])
theorem k_spec_l7Of:ConOk Tryd.prog 46 c_spec_l7Of:=conN_ok Tryd.call46 fun(t:GTree) _ hqq=>@l7_upN ⟨⟨11,l7_all 11⟩⟩ t (pre_of hqq) (Nat.le_refl _)
def Γ70:GL:=(46,c_spec_l7Of)::Γ68
theorem Γ70ok:GO Γ70 := .cons k_spec_l7Of Γ68ok
theorem y_spec_StepsOf (g:Gram) (t:GTree):evFn ((cxOf Γ70 Tryd.f15.ntmps [] [] [] []).parted [1]) Tryd.f15 true [ofD TG g,ofD .tree t] [] =
  branch (decide ((!okT g (GTree.node t.sign t.rule t.kids))=false)) (
   branch (bif false then true else !decide (t.sign=g.1)) (some (.d (ofD TStL []),[])) (
    need (kid9 12 (GTree.node t.sign t.rule t.kids)) (need (fits ((l7V 12 (GTree.node t.sign t.rule t.kids)).length+1) Tryd.t87.bytes) (some (.d (ofD TStL (l7V 12 (GTree.node t.sign t.rule t.kids)++sE)),[]))))) (some (.d (ofD TStL []),[])):=by kernel_rfl
theorem s_spec_StepsOf (g:Gram) (_hg:Fit TG g) (t:GTree) (_ht:Fit .tree t) (hpre:(kid9 12 t)=true):Sat Tryd.prog 15 [ofD TG g,ofD .tree t] [] (.d (ofD TStL (soV (l7V 12) g t))) [] :=
 fn_sound (cx:=((cxOf Γ70 Tryd.f15.ntmps [] [] [] []).parted [1])) Tryd.func15 rfl ttOk Γ70ok mixed (fun _ _=>LoopsOk.no fun _=>rfl) (ro:=true) (by
  have hl:=l7_len hpre;rw[show pw 12=1000000000000 from rfl]at hl;rw[y_spec_StepsOf,tEta,st_fits (by omega),hpre];unfold soV
  cases okT g t
  ·rfl
  ·cases decide (t.sign=g.1)<;>rfl)
def c_spec_StepsOf:Con:=conT [TG, .tree] fun(g:Gram) (t:GTree)=>(some (kid9 12 t), .d (ofD TStL (soV (l7V 12) g t)))
theorem k_spec_StepsOf:ConOk Tryd.prog 15 c_spec_StepsOf:=conT_ok Tryd.call15 fun g hg t ht hqq=>s_spec_StepsOf g hg t ht (pre_of hqq)
def Γ71:GL:=(15,c_spec_StepsOf)::Γ70
theorem Γ71ok:GO Γ71 := .cons k_spec_StepsOf Γ70ok
theorem tupI_any {n:Int} (w:World) (F:Nat→Prop) (h h':HF) (β:Nat→Value) (v:Value) (r6:RepX #[] w F h β (.tup [ofD TI64 n, .one (.r (.v .nilIface))]) v):RepX #[] w F h' β (.tup [ofD TI64 n, .one (.r (.v .nilIface))]) v:=by
 obtain⟨us2,hv,hall⟩:=r6;refine⟨us2,hv, ?_⟩
 generalize us2.toList=ul at hall
 cases hall with | cons g1 g2=>cases g2 with | cons g2 g3 =>
 cases g3
 exact .cons g1 (.cons g2 .nil)
def c_strings_Builder_WriteStringN:Con:=⟨false,fun ds os=>match ds,os with
 | [.one (.ptr 0 0),d],[.box t [.r (.v (.pointer none)), .r (.v (.slice none 0 0))]]=>match asD .str d,Nat.beq t 70 with
  |some (s:Str),true=>some (some (Nat.ble (length s) 1000), .tup [ofD TI64 ((length s:Nat):Int), .one (.r (.v .nilIface))],[(0,some (sbO 0 1000)),(1000,some (bsO (intL s)))])
  |_,_=>none
 |ds,os=>c_strings_Builder_WriteString.f ds os⟩
theorem k_strings_Builder_WriteStringN:ConOk Tryd.prog 44 c_strings_Builder_WriteStringN:=by
 refine⟨Tryd.call44,fun ds os c x objs hc hok => ?_⟩;unfold c_strings_Builder_WriteStringN at hc;dsimp only at hc
 split at hc
 ·rename_i d t
  split at hc
  ·rename_i s e1 e3
   cases hc
   have e3:=zB e3;subst e3;intro w F β args H hds
   cases hds with | cons h1 h2=>cases h2 with | cons h2 h3 =>
   exact sat_fresh tupI_any (s_WS [] s (by have:=ble_iff.1 (pre_of hok);simp;omega)) w F β _ H (.cons h1 (.cons (asD_sound e1 h2 _ β) h3))
  ·cases hc
 ·exact k_strings_Builder_WriteString.2 _ _ c x objs hc hok
def Γ72:GL:=(44,c_strings_Builder_WriteStringN)::Γ71
theorem Γ72ok:GO Γ72 := .cons k_strings_Builder_WriteStringN Γ71ok
def txS (e:Stp):Str:=bif decide (e.1=1)then [114] else bif decide (e.1=3)then [46] else bif decide (e.1=2)&&(decide (0≤e.2)&&decide (e.2<8))then digS e.2 else [63]
def cb_stx:Cx:=(cxOf Γ72 Tryd.f14.ntmps [(3,[3,6,7,8])] [(0,[3]),(1,[3,6,7,8]),(2,[3,6,7,8]),(1000000,[2])] [] []).parted [10]
abbrev z2:Stp:=(0,0)
def stxT (e:Stp) (G:Str→Option Fin):Option Fin:=branch (decide (e.1=1)) (G [114]) (branch (decide (e.1=3)) (G [46]) (branch (decide (decide (e.1=2)=true)) (branch (decide ((bif true then decide (0≤e.2)else false)=true)) (branch (bif true then decide (e.2<8)else false) (need (dig e.2) (G (digS e.2))) (G [63])) (G [63])) (G [63])))
theorem stxT_eq (e:Stp) (G:Str→Option Fin):stxT e G=G (txS e):=by
 unfold stxT txS;rw[dec_t]
 cases decide (e.1=1)
 ·cases decide (e.1=3)
  ·cases decide (e.1=2)
   ·rfl
   ·cases h0:decide (0≤e.2)
    ·rfl
    ·cases h1:decide (e.2<8)
     ·rfl
     ·have hd:dig e.2=true:=by
       have h0:=dec_iff.1 h0;have h1:=dec_iff.1 h1;unfold dig;rw[andd,dec_iff,dec_iff];omega
      rw[hd];rfl
  ·rfl
 ·rfl
theorem txS_len (e:Stp):(txS e).length=1:=by
 unfold txS digS
 cases decide (e.1=1)
 ·cases decide (e.1=3)
  ·cases decide (e.1=2)&&(decide (0≤e.2)&&decide (e.2<8))<;>rfl
  ·rfl
 ·rfl
abbrev envX (ls:List Stp) (n i:Int):List (Nat×T):=[(3, .d (.one (.ptr 500000 0))),(6, .d (ofD TStL ls)),(7,vI n),(8,vI i)]
abbrev hpX (b:List Int):Heap:=[(500000,some (sbO 500000 500001)),(500001,some (bsO b))]
theorem x_stxB (ls:List Stp) (n i:Int) (b:List Int) (R:St→Option Fin) (K:Cont):evC (cb_stx.withLoops (look [])) (loopOf Tryd.f14 0) ⟨envX ls n i,hpX b⟩ (onward (headAt (cb_stx.withLoops (look [])) 3) R K) =
  branch (decide (i<n)) (need (inb i ls.length) (stxT (ls.getD i.toNat z2) fun s=>need ((b.length+s.length).ble 140737488355328) (R ⟨envX ls n (W64 (i+1)),hpX (b++intL s)⟩))) (K (.exit 0) ⟨[(3, kp0)],hpX b⟩):=by kernel_rfl
theorem x_stxA (ls:List Stp) (n i:Int) (R:St→Option Fin) (K:Cont):evC (cb_stx.withLoops (look [])) (loopOf Tryd.f14 0) ⟨envX ls n i,[(500000,some sbN)]⟩ (onward (headAt (cb_stx.withLoops (look [])) 3) R K) =
  branch (decide (i<n)) (need (inb i ls.length) (stxT (ls.getD i.toNat z2) fun s=>need (s.length.ble 1000) (R ⟨envX ls n (W64 (i+1)),hpX (intL s)⟩))) (K (.exit 0) ⟨[(3, kp0)],[(500000,some sbN)]⟩):=by kernel_rfl
theorem ls_at {ls:List Stp} {i:Int} (h0:0≤i) (h1:i<(ls.length:Int)):ls.drop i.toNat=ls.getD i.toNat z2::ls.drop (i+1).toNat:=by
 have hn:i.toNat<ls.length:=by omega
 rw[drop_eq_getElem_cons hn,show (i+1).toNat=i.toNat+1 by omega,zG,zE hn];rfl
def cx0_stx:Cx:=(cb_stx).withLoops (look [])
def sh_stx:Sh:=([(3, .ptr 500000 0),(6, .d TStL),(7, .d TI64),(8, .d TI64)],[(500000, .mix 70 [.slf 500000, .own 500001]),(500001, .lis 5 (.int .u8))])
abbrev st_stx (ls:List Stp) (n i:Int) (b:List (Int)):St:=⟨[(3, kp0),(6, .d (ofD TStL ls)),(7,vI n),(8,vI i)],[(500000,some (.box 70 ([.slf 500000]++[.own 500001]))),(500001,some (.lis 5 (.int .u8) b))]⟩
def pre_stx (ls:List Stp) (n i:Int) (b:List (Int)):Bool:=decide (0≤i)&&(decide (n=(length ls:Int))&&(decide (n≤2000000000000)&&decide ((length b:Int)≤i)))
def res_stx (ls:List Stp) (_n i:Int) (b:List (Int)) (K:Cont):Option Fin:=K (.exit 0) ⟨[(3, kp0)],hpX (b++intL ((List.drop i.toNat ls).flatMap txS))⟩
def mu_stx (ls:List Stp) (_n i:Int) (_b:List (Int)):Nat:=length ls-i.toNat
theorem r_stx (ls:List Stp) (n i:Int) (b:List (Int)) (K:Cont) (hI:pre_stx ls n i b=true):(∀R:St→Option Fin,evC cx0_stx (loopOf Tryd.f14 0) (st_stx ls n i b) (onward (headAt cx0_stx 3) R K)=res_stx ls n i b K) ∨
  (∃(ls':List Stp) (n' i':Int) (b':List (Int)),pre_stx ls' n' i' b'=true∧mu_stx ls' n' i' b'<mu_stx ls n i b∧res_stx ls' n' i' b' K=res_stx ls n i b K∧∀R:St→Option Fin,evC cx0_stx (loopOf Tryd.f14 0) (st_stx ls n i b) (onward (headAt cx0_stx 3) R K)=R (st_stx ls' n' i' b')):=by
 have hx:=fun R=>x_stxB ls n i b R K;simp only[stxT_eq]at hx;simp only[pre_stx,andd,dec_iff]at hI;obtain⟨h0,rfl,h1,h2⟩:=hI
 by_cases hi:i<(length ls:Int)
 ·have hd:=ls_at h0 hi
  generalize ls.getD i.toNat z2=e at hx hd
  have hl:=txS_len e;have w:W64 (i+1)=i+1:=wrap_small (by omega) (by omega);rw[zT hi,inb_ok h0 hi,w,Nat.ble_eq_true_of_le (by omega:b.length+(txS e).length≤140737488355328)]at hx;right;refine⟨ls,(length ls:Int),i+1,b++intL (txS e), ?_, ?_, ?_,fun R=>hx R⟩
  ·simp only[pre_stx,andd,dec_iff,length_append,intL_len];exact⟨by omega,trivial,h1,by omega⟩
  ·simp only[mu_stx];omega
  ·simp only[res_stx,hd,List.flatMap_cons,intL_app,append_assoc]
 ·left;intro R;refine(hx R).trans ?_;rw[zF hi];have e:List.drop i.toNat ls=[]:=drop_eq_nil_of_le (by omega);simp only[res_stx,e,List.flatMap_nil];rw[show b++intL []=b from List.append_nil b];rfl
def g_stx:St→Cont→Option Fin:=gP sh_stx (fun v=>match v with | ((ls,n,i,()),((),b,()))=>pre_stx ls n i b) (fun v K=>match v with | ((ls,n,i,()),((),b,()))=>res_stx ls n i b K)
theorem l_stx {L:LpL} (n:Nat) (h1:L.drop n=[]) (h2:idsFree (L.take n) (loopOf Tryd.f14 0)=true):LoopsTo g_stx (cb_stx) (loopOf Tryd.f14 0) 3 L :=
 with_drop h1 h2 (gP_ok (fun v=>match v with | ((ls,n,i,()),((),b,()))=>mu_stx ls n i b) fun v K hI=>by
  obtain⟨⟨ls,n,i,⟨⟩⟩,⟨⟨⟩,b,⟨⟩⟩⟩:=v;exact(r_stx ls n i b K hI).imp id fun⟨ls',n',i',b',h⟩=>⟨((ls',n',i',()),((),b',())),h⟩)
def sh_stxA:Sh:=([(3, .ptr 500000 0),(6, .d TStL),(7, .d TI64),(8, .d TI64)],[(500000, .mix 70 [.nlp, .nil])])
def pre_stxA (ls:List Stp) (n i:Int):Bool:=decide (i=0)&&(decide (n=(length ls:Int))&&decide (n≤2000000000000))
def res_stxA (ls:List Stp) (n i:Int) (K:Cont):Option Fin:=branch (decide (i<n)) (K (.exit 0) ⟨[(3, kp0)],hpX (intL (ls.flatMap txS))⟩) (K (.exit 0) ⟨[(3, kp0)],[(500000,some sbN)]⟩)
def g_stxA:St→Cont→Option Fin:=gW sh_stxA (fun v=>match v with | ((ls,n,i,()),((),()))=>pre_stxA ls n i) (fun v K=>match v with | ((ls,n,i,()),((),()))=>res_stxA ls n i K) g_stx
def cx_stxA:Cx:=cb_stx.withLoops (look [(3,g_stxA)])
theorem stxA_step (ls:List Stp) (n i:Int) (K:Cont) (hI:pre_stxA ls n i=true) :
  (∀R:St→Option Fin,evC (cb_stx.withLoops (look [])) (loopOf Tryd.f14 0) ⟨envX ls n i,[(500000,some sbN)]⟩ (onward (headAt (cb_stx.withLoops (look [])) 3) R K)=res_stxA ls n i K) ∨
  ∃st',g_stx st' K=res_stxA ls n i K∧∀R:St→Option Fin,evC (cb_stx.withLoops (look [])) (loopOf Tryd.f14 0) ⟨envX ls n i,[(500000,some sbN)]⟩ (onward (headAt (cb_stx.withLoops (look [])) 3) R K)=R st':=by
 have hx:=fun R=>x_stxA ls n i R K;simp only[stxT_eq]at hx;unfold pre_stxA at hI;rw[andd,andd,dec_iff,dec_iff,dec_iff]at hI;obtain⟨rfl,rfl,h1⟩:=hI;unfold res_stxA
 by_cases hi:(0:Int)<(length ls:Int)
 ·have hd:=ls_at (Int.le_refl 0) hi;rw[show List.drop ((0:Int)).toNat ls=ls from rfl]at hd
  generalize ls.getD ((0:Int)).toNat z2=e at hx hd
  have hl:=txS_len e;rw[zT hi,inb_ok (Int.le_refl 0) hi,Nat.ble_eq_true_of_le (by omega:(txS e).length≤1000)]at hx;right;refine⟨st_stx ls (length ls:Int) 1 (intL (txS e)), ?_,fun R=>hx R⟩;have k4:pre_stx ls (length ls:Int) 1 (intL (txS e))=true:=by
   simp only[pre_stx,andd,dec_iff,intL_len];exact⟨by omega,trivial,h1,by omega⟩
  show need (pre_stx ls (length ls:Int) 1 (intL (txS e))) (res_stx ls (length ls:Int) 1 (intL (txS e)) K)=_;have e2:ls.flatMap txS=txS e++(List.drop ((1:Int)).toNat ls).flatMap txS:=by
   conv=>lhs;rw[hd]
   rw[List.flatMap_cons];rfl
  rw[k4,zT hi,e2,intL_app];rfl
 ·left;intro R;refine(hx R).trans ?_;rw[zF hi];rfl
theorem l_stxA:LoopsTo g_stxA cb_stx (loopOf Tryd.f14 0) 3 [(3,g_stxA)]:=with_drop (m:=[]) (n:=1) rfl (by kernel_rfl) (gW_ok (l_stx (L:=[]) 0 rfl (by kernel_rfl)) fun v K hI=>by
 obtain⟨⟨ls,n,i,⟨⟩⟩,⟨⟨⟩,⟨⟩⟩⟩:=v;exact stxA_step ls n i K hI)
theorem y_impl_StepsText (ls:List Stp):evFn cx_stxA Tryd.f14 true [ofD TStL ls] [] =
  need (pre_stxA ls (length ls:Int) 0) (branch (decide (0<(length ls:Int))) (need (Nat.blt 0 (intL (ls.flatMap txS)).length) (some (.d (ofD .str (byteL (intL (ls.flatMap txS)))),[]))) (some (.d (ofD .str []),[]))):=by kernel_rfl
theorem s_impl_StepsText (ls:List Stp) (_hls:Fit TStL ls) (hpre:(decide (length ls≤2000000000000))=true):Sat Tryd.prog 14 [ofD TStL ls] [] (.d (ofD .str (ls.flatMap txS))) [] :=
 fn_sound (cx:=cx_stxA) Tryd.func14 rfl ttOk Γ72ok mixed (fun c hc=>LoopsOk.all (l:=[(3,loopOf Tryd.f14 0)]) (by cases hc;kernel_rfl) ⟨atLoop rfl l_stxA,trivial⟩) (ro:=true) (by
  have hl:=dec_iff.1 hpre;have k1:pre_stxA ls (length ls:Int) 0=true:=by
   unfold pre_stxA;rw[andd,andd,dec_iff,dec_iff,dec_iff];exact⟨rfl,rfl,by omega⟩
  rw[y_impl_StepsText,k1,byteL_intL]
  by_cases hi:(0:Int)<(length ls:Int)
  ·have k2:Nat.blt 0 (intL (ls.flatMap txS)).length=true:=by
    have hd:=ls_at (Int.le_refl 0) hi;rw[show List.drop ((0:Int)).toNat ls=ls from rfl]at hd;rw[hd,List.flatMap_cons,intL_len,length_append,txS_len];exact Nat.ble_eq_true_of_le (by omega)
   rw[zT hi,k2];rfl
  ·have e:ls=[]:=List.eq_nil_of_length_eq_zero (by omega);rw[zF hi,e];rfl)
def c_impl_StepsText:Con:=conT [TStL] fun(ls:List Stp)=>(some (decide (length ls≤2000000000000)), .d (ofD .str (ls.flatMap txS)))
theorem k_impl_StepsText:ConOk Tryd.prog 14 c_impl_StepsText:=conT_ok Tryd.call14 fun ls hls hqq=>s_impl_StepsText ls hls (pre_of hqq)
def Γ73:GL:=(14,c_impl_StepsText)::Γ72
theorem Γ73ok:GO Γ73 := .cons k_impl_StepsText Γ72ok
theorem wpList_append_any {P:Program} {ops:Array Oper} {rest:List Oper} {o:Oper} {a:Act} {Q:Exit→Act→World→Prop} {w w':World} (hgd:o.guard=none) (sl x:Operand) (t:TypeId)
  (ho:o.op = .call { callee := .builtin .append,args:=#[sl,x],argTypes:=#[t,t] }) (v y v':Value) (hs:a.eval sl=v) (hx:a.eval x=y)
  (hr:(Builtin.append_ #[t,t] o.type #[v,y]).run P w = .ok v' w') (h:wpList P ops Q rest (a.put o.dst v') w'):wpList P ops Q (o::rest) a w:=by
 refine wpList_plain hgd fun K hK => ?_;unfold Oper.wp execOp;simp only[ho,resolve,invoke,builtin,Sem.run_bind,Sem.run_pure,Result.andThen_ok,List.map_toArray,List.map_cons,List.map_nil,hs,hx,hr];exact hK _ _ h
set_option maxHeartbeats 1000000 in
set_option maxRecDepth 100000 in
theorem walk_Clone (a:Addr) (n cp:Nat) (w w2:World) (v':Value) (hr:(Builtin.append_ #[26,26] 26 #[.slice (some ⟨w.heap.size,0,none⟩) 0 0, .slice (some a) n cp]).run Tryd.prog (w.alloc (.cells #[] 28)) = .ok v' w2) :
  Calls Tryd.prog 88 #[.slice (some a) n cp] w fun e w'=>e = .returned v'∧w'=w2:=by
 go_enter Tryd.func88,Tryd.ntmps88
 go_wp2
 rw[Lib.run_eql_slice_nil w 26 28 (some a) n cp 0 0 (by kernel_rfl)];simp only[Result.andThen];rw[Oper.upon_value]
 go_wp2_with (refine wpList_append_any rfl _ _ 26 rfl _ _ _ rfl rfl hr ?_)
 go_ret
 exact⟨rfl,rfl⟩
set_option maxHeartbeats 1000000 in
set_option maxRecDepth 100000 in
theorem walk_CloneN (cp:Nat) (w:World):Calls Tryd.prog 88 #[.slice none 0 cp] w fun e w'=>e = .returned (.slice none 0 0)∧w'=w:=by
 go_enter Tryd.func88,Tryd.ntmps88
 go_wp2
 rw[Lib.run_eql_slice_nil w 26 28 none 0 cp 0 0 (by kernel_rfl)];simp only[Result.andThen];rw[Oper.upon_value]
 go_wp2
 go_ret
 exact⟨rfl,rfl⟩
theorem cl_heap {o o':Obj}:setH (hOf [o]) 1000 (some o')=look [(0,some o),(1000,some o')]:=by
 funext j
 match j with
 |0=>rfl
 |j+1 =>
  by_cases hj:j+1=1000
  ·rw[hj];rfl
  ·have e2:Nat.beq 1000 (j+1)=false:=by cases h:Nat.beq 1000 (j+1)with | false=>rfl | true=>exact absurd (zB h).symm hj
   simp only[setH,look,e2,hj,if_false];rfl
theorem drop_cells {l:List GTree} {k i j:Nat}:getL .tree (l.drop k) i j=getL .tree l (k+i) j:=by
 unfold getL;have e:(l.drop k).getD i tz=l.getD (k+i) tz:=by rw[zG,zG,List.getElem?_drop]
 show(cellsR .tree ((l.drop k).getD i tz)).getD j z0=(cellsR .tree (l.getD (k+i) tz)).getD j z0;rw[e]
set_option maxRecDepth 100000 in
theorem s_Clone (l:List GTree) (k:Nat) (hk:k≤l.length) (hl:l.length≤1000):Sat Tryd.prog 88 [.one (.win 0 3 k)] [.lis 28 .tree l] (.d (.one (.own 1000))) [(0,some (.lis 28 .tree l)),(1000,some (.lis 28 .tree (l.drop k)))]:=by
 intro w F β args H hds
 cases hds with | cons g1 g2 =>
 cases g2
 rename_i u;have hi:hOf [.lis 28 .tree l] 0=some (some (.lis 28 .tree l)):=rfl;have hrep:=H.obj 0 _ hi;obtain⟨ad,cc,hu,had⟩:∃(ad:Option Addr) (cc:Nat),u = .slice ad (l.length-k) cc∧(l.length-k=0∨∃b cap cur,ad=some ⟨b,k*3,none⟩∧RowAt w b cur 28∧cur.size=cap*3∧l.length≤cap∧∀k,k<l.length→∀j,j<3→∃y,cur[k*3+j]? = some y∧Ro w F (getL .tree l k j) y):=by
  rcases g1.2.2 _ hi with⟨a,r1,r2,hu⟩ | ⟨b,n,cap,r1,r2,r3,hu⟩
  ·rcases hrep with⟨a',e1,e2⟩ | ⟨b',cap',cur,e1,h3,_⟩
   ·have e2:l.length=0:=e2;exact⟨a,0,by rw[hu,e2,Nat.zero_sub], .inl (by omega)⟩
   ·injection r1.symm.trans e1 with _ _ e
    omega
  ·rcases hrep with⟨a',e1,e2⟩ | ⟨b',cap',cur,e1,h3,h4,h5,h6,h7,h8⟩
   ·injection r1.symm.trans e1 with _ _ e
    omega
   ·injection r1.symm.trans e1 with e1 e2 e3
    injection e1 with e1
    injection e1 with e1
    subst e1 e2 e3;have h5:l.length≤cap:=h5
    by_cases hc:cap=k
    ·exact ⟨some ⟨b,0,none⟩,cap-k,by rw[hu,if_pos hc];rfl, .inl (by omega)⟩
    ·exact ⟨some ⟨b,k*3,none⟩,cap-k,by rw[hu,if_neg hc];rfl, .inr ⟨b,cap,cur,rfl,h4,h7,h5,h8⟩⟩
 subst hu;have hold:∀x,x<w.heap.size→(w.alloc (.cells #[] 28)).heap[x]? = w.heap[x]? := fun x hx=>by first | exact heap_alloc_old w _ x hx | exact heap_alloc_old w _ hx
 obtain⟨news,hnl,hg,hat⟩:∃news:List Value,news.length=(l.length-k)*3∧(∀i,i<l.length-k→∀j,j<3→∃y,news[i*3+j]? = some y∧Ro w F (getL .tree (l.drop k) i j) y) ∧
   (l.length-k=0∨∃b off,ad=some ⟨b,off,none⟩∧CellsAt (w.alloc (.cells #[] 28)) b off news):=by
  rcases had with h0 | ⟨b,cap,cur,ha,h4,h7,h5,h8⟩
  ·exact ⟨[],by rw[h0];rfl,fun i hi=>by omega, .inl h0⟩
  ·have hrow:RowAt (w.alloc (.cells #[] 28)) b cur 28:=h4.mono (hold b h4.lt);have hcl:cur.toList.length=cur.size:=Array.length_toList;have hat:∀j,j<(l.length-k)*3→((cur.toList.drop (k*3)).take ((l.length-k)*3))[j]? = cur[k*3+j]? := fun j hj=>by
    rw[getElem?_take,if_pos hj,List.getElem?_drop,Array.getElem?_toList]
   have hnl:((cur.toList.drop (k*3)).take ((l.length-k)*3)).length=(l.length-k)*3:=by rw[length_take,length_drop];omega
   refine⟨(cur.toList.drop (k*3)).take ((l.length-k)*3),hnl,fun i hi j hj => ?_, .inr ⟨b,k*3,ha,fun j y hj => ?_⟩⟩
   ·obtain ⟨y,y1,y2⟩:=h8 (k+i) (by omega) j hj;refine⟨y, ?_,by rw[drop_cells];exact y2⟩;rw[hat _ (by omega),← y1]
    congr 1
    omega
   ·rw[hrow.cell,← hat j (by rw[← hnl];exact (List.getElem?_eq_some_iff.1 hj).1)];exact hj
 cases ad with
 |none =>
  have h0:l.length-k=0:=by
   rcases had with h0 | ⟨b,cap,cur,ha,_⟩
   ·exact h0
   ·cases ha
  rw[h0];refine(walk_CloneN cc w).mono ?_;rintro e w' ⟨rfl,rfl⟩;obtain⟨H2,_⟩:=H.turn (w':=w') (F':=F) 1000 (some (.lis 28 .tree (l.drop k))) (.slice none 0 0) rfl rfl rfl (Nat.le_refl _) (fun _=>False) (fun _ h=>h.elim) (fun _ _ _=>rfl) (fun _ hf=>hf) (fun _ hf => .inl hf) (fun q0 _ h0=>by cases h0) (fun _ ob hob=>by
   cases hob
   exact⟨.inl ⟨none,by simp[setB],length_drop.trans h0⟩,fun b hb=>by simp[blk]at hb⟩)
  rw[cl_heap]at H2;refine⟨_,F,_,rfl,H2,fun i hi => ?_,fun i o hi ho => ?_,fun _ _ _ hh=>(nomatch hh),⟨rfl,⟨_,rfl⟩,fun o _=>by simp[setB]⟩⟩
  ·match i with
   |0=>exact ⟨_,rfl⟩
   |i+1=>simp at hi
  ·match i with
   |0=>simp[setB]
   |i+1=>simp at hi
 |some ad =>
  obtain⟨v',w2,hrun,q1,q2,q3,q4,q5,q6⟩:=append_core (P:=Tryd.prog) (w:=w.alloc (.cells #[] 28)) (TT:=tt) ttOk (t:=26) (e:=28) rfl rfl rfl (z := .agg #[.string ⟨#[]⟩, .int .i64 0, .slice none 0 0]) (by kernel_rfl) (by kernel_rfl) (by decide) 26 (base:=some ⟨w.heap.size,0,none⟩) (n:=0) (cap:=0) (olds:=[]) rfl (.inl ⟨rfl,rfl⟩) (ad:=some ad) (m:=l.length-k) (c:=cc) (news:=news) hnl (Ro.ones hnl hg)
   hat (by simp only[maxLen];omega) (by
    show fits (0+(l.length-k)) Tryd.t28.bytes=true;rw[treeBytes];exact fits_ok (by omega) (by omega))
  have T:=H.turn (w':=w2) (F':=F) 1000 (some (.lis 28 .tree (l.drop k))) v' (q1.trans rfl) (q2.trans rfl) (q3.trans rfl) (Nat.le_trans (by simp) q4) (fun _=>False) (fun _ h=>h.elim)
   (fun x hx _=>(q5 x (by simp;omega) (fun h0=>by omega)).trans (hold x hx)) (fun _ hf=>hf) (fun _ hf => .inl hf) (fun q0 _ h0=>by cases h0)
   (fun P2 ob hob=>by
    cases hob
    have hlen:(l.drop k).length=l.length-k:=length_drop;rcases q6 with⟨a',rfl,hnm⟩ | ⟨g',cap',cur',rfl,s1,s2,s3,s4,s5,s6,s7⟩
    ·exact ⟨.inl ⟨a',by simp[setB],hlen.trans (by omega)⟩,fun x hx=>by cases a'<;>simp[blk]at hx⟩
    ·rw[Nat.zero_add]at s3 s6;refine⟨.inr ⟨g',cap',cur',by simp only[setB,if_true,Nat.zero_add];exact congrArg (fun n=>Value.slice (some ⟨g',0,none⟩) n cap') hlen.symm,s1,s2,Nat.le_trans (Nat.le_of_eq hlen) s3,s4,s5,fun i hi j hj => ?_⟩,fun x hx => ?_⟩
     ·have hi:i<l.length-k:=Nat.lt_of_lt_of_eq hi hlen;have hj:j<3:=hj;obtain⟨y,y1,y2⟩:=hg i hi j hj;refine⟨y, ?_,Ro.mono P2.blocks P2.sub (Ro.mono (fun _ _=>rfl) (fun _ h=>h) y2)⟩;have e0:cur'.toList[i*3+j]? = news[i*3+j]? := by
       have s6:cur'.toList.take ((l.length-k)*3)=[]++news:=s6;rw[← List.nil_append news,← s6,getElem?_take,if_pos (by omega)]
      show cur'[i*3+j]? = some y;rw[← Array.getElem?_toList,e0];exact y1
     ·have:x=g':=by simp[blk]at hx;exact hx.2.symm
      subst this;rcases s7 with rfl | ⟨_,s8⟩
      ·exact .inr (by simp)
      ·omega)
  obtain⟨H2,_⟩:=T;rw[cl_heap]at H2;refine(walk_Clone ad (l.length-k) cc w w2 v' hrun).mono ?_;rintro e w' ⟨rfl,rfl⟩;refine⟨_,F,_,rfl,H2,fun i hi => ?_,fun i o hi ho => ?_,fun _ _ _ hh=>(nomatch hh),⟨?_,⟨_,rfl⟩,fun o _=>by simp[setB]⟩⟩
  ·match i with
   |0=>exact ⟨_,rfl⟩
   |i+1=>simp at hi
  ·match i with
   |0=>simp[setB]
   |i+1=>simp at hi
  ·rcases q6 with⟨a',rfl,_⟩ | ⟨g',cap',cur',rfl,_⟩<;>rfl
def c_slices_Clone_impl_Tree_impl_Tree:Con:=⟨false,fun ds os=>match ds,os with
 | [.one (.win 0 3 k)],[o]=>match exLis 28 .tree (some o)with
  |some (l:List GTree)=>some (some (Nat.ble k l.length&&Nat.ble l.length 1000), .d (.one (.own 1000)),[(0,some (.lis 28 .tree l)),(1000,some (.lis 28 .tree (l.drop k)))])
  |none=>none
 |_,_=>none⟩
theorem k_slices_Clone_impl_Tree_impl_Tree:ConOk Tryd.prog 88 c_slices_Clone_impl_Tree_impl_Tree:=by
 refine⟨Tryd.call88,fun ds os c x objs hc hok => ?_⟩;unfold c_slices_Clone_impl_Tree_impl_Tree at hc;dsimp only at hc
 split at hc
 ·rename_i k o
  split at hc
  ·rename_i l e1
   cases hc
   have e1:=Option.some.inj (exLis_some e1);subst e1;obtain⟨h1,h2⟩:=andd.1 (pre_of hok);exact s_Clone l k (ble_iff.1 h1) (ble_iff.1 h2)
  ·cases hc
 ·cases hc
def Γ74:GL:=(88,c_slices_Clone_impl_Tree_impl_Tree)::Γ73
theorem Γ74ok:GO Γ74 := .cons k_slices_Clone_impl_Tree_impl_Tree Γ73ok
def cb_stt:Cx:=cxOf Γ74 Tryd.f47.ntmps [(17,[1,2,3,6,8,9,11,12,13,14,18,19,20,88,89,90]),(4,[1,2,3,6,8,9,18,19,20])] [(0,[6]),(1,[1,2,3,6,8,9,18,19,20]),(2,[1,2,3,6,8,9,18,19,20]),(3,[1,2,3,6,8,9,11,12,13,14,18,19,20]),(4,[1,2,3,6,8,9,11,12,13,14,18,19,20,88,89,90]),(1000000,[6,7])] [] []
abbrev treeC (s:Str) (r:Int):Option Obj:=some (.box 28 [.r (.v (.string (mk s))), .r (.v (.int .i64 r)), .r (.v (.slice none 0 0))])
theorem x_impl_stepsTree_1 (s:Str) (ls us:List Stp) (a f n i m k:Int) (g:Gram) (z:Str) (q:Int) (tl:List GTree) (e:Stp) (r:Rule) (ks:List GTree) (R:St→Option Fin) (K:Cont):evC (cb_stt.withLoops (look [])) (loopOf Tryd.f47 1) ⟨[(1,vS s),(2, .d (ofD TStL ls)),(3, kp0),(6, kp1),(8, ko2),(9,vI a),(11, .d (.one (.ptr 500003 0))),(12, .d (.one (.ptr 500004 0))),(13,vI f),(14, .d (.one (.own 500005))),(18, .d (ofD TStL us)),(19,vI n),(20,vI i),(88, .d (.one (.own 500005))),(89,vI m),(90,vI k)],[(500000,some (boxD 25 TG g)),(500001,treeC z q),(500002,some (.lis 28 .tree tl)),(500003,some (boxD 87 TSt e)),(500004,some (boxD 127 TRu r)),(500005,some (.lis 28 .tree ks))]⟩ (onward (headAt (cb_stt.withLoops (look [])) 17) R K)=(
branch (decide (k<m)) (
 need (inb k ks.length) <|
 need (inr k (W64 (k+1)) (length r.snd)) <|
 branch (!decide ((GTree.sign (ks.getD k.toNat tz))=(List.take ((W64 (k+1)).toNat-k.toNat) (List.drop k.toNat r.snd)))) ( K (.ret) (.mk [(6,kp0),(7,vB false)] [(500000,(.some (.box 28 [(.r (.v (Value.string (mk [])))),(.r (.v (Value.int IntKind.i64 0))),(.r (.v (Value.slice none 0 0)))])))])) ( R (.mk [(1,vS s),(2,(.d (.one (.r (.li TSt ls))))),(3,kp0),(6,kp1),(8,ko2),(9,vI a),(11,(.d (.one (.ptr 500003 0)))),(12,(.d (.one (.ptr 500004 0)))),(13,vI f),(14,(.d (.one (.own 500005)))),(18,(.d (.one (.r (.li TSt us))))),(19,vI n),(20,vI i),(88,(.d (.one (.own 500005)))),(89,vI m),(90,vI (W64 (k+1)))] [(500000,some (boxD 25 TG g)),(500001,(.some (.box 28 [(.r (.v (Value.string (mk z)))),(.r (.v (Value.int IntKind.i64 q))),(.r (.v (Value.slice none 0 0)))]))),(500002,(.some (.lis 28 (Ty.tree) tl))),(500003,(.some (.box 87 [(.r (.v (Value.int IntKind.i64 e.fst))),(.r (.v (Value.int IntKind.i64 e.snd)))]))),(500004,(.some (.box 127 [(.r (.v (Value.string (mk r.fst)))),(.r (.v (Value.string (mk r.snd))))]))),(500005,(.some (.lis 28 (Ty.tree) ks)))]))) ( K (.exit 3) (.mk [(1,vS s),(2,(.d (.one (.r (.li TSt ls))))),(3,kp0),(6,kp1),(8,ko2),(9,vI a),(11,(.d (.one (.ptr 500003 0)))),(12,(.d (.one (.ptr 500004 0)))),(13,vI f),(14,(.d (.one (.own 500005)))),(18,(.d (.one (.r (.li TSt us))))),(19,vI n),(20,vI i)] [(500000,some (boxD 25 TG g)),(500001,(.some (.box 28 [(.r (.v (Value.string (mk z)))),(.r (.v (Value.int IntKind.i64 q))),(.r (.v (Value.slice none 0 0)))]))),(500002,(.some (.lis 28 (Ty.tree) tl))),(500003,(.some (.box 87 [(.r (.v (Value.int IntKind.i64 e.fst))),(.r (.v (Value.int IntKind.i64 e.snd)))]))),(500004,(.some (.box 127 [(.r (.v (Value.string (mk r.fst)))),(.r (.v (Value.string (mk r.snd))))]))),(500005,(.some (.lis 28 (Ty.tree) ks)))]))):=by kernel_rfl
abbrev yesT:GTree→Bool:=fun _=>true
def cx0_sti:Cx:=(cb_stt).withLoops (look [])
def sh_sti:Sh:=([(1, .d .str),(2, .d TStL),(3, .ptr 500000 0),(6, .ptr 500001 0),(8, .own 500002),(9, .d TI64),(11, .ptr 500003 0),(12, .ptr 500004 0),(13, .d TI64),(14, .own 500005),(18, .d TStL),(19, .d TI64),(20, .d TI64),(88, .own 500005),(89, .d TI64),(90, .d TI64)],[(500000, .box 25 TG),(500001, .mix 28 [.d .str, .d TI64, .nil]),(500002, .lis 28 .tree),(500003, .box 87 TSt),(500004, .box 127 TRu),(500005, .lis 28 .tree)])
abbrev st_sti (s:Str) (ls:List Stp) (a f:Int) (us:List Stp) (n i m k:Int) (g:Gram) (z:Str) (q:Int) (tl:List (GTree)) (e:Stp) (r:Rule) (ks:List (GTree)):St:=⟨[(1,vS s),(2, .d (ofD TStL ls)),(3, kp0),(6, kp1),(8, ko2),(9,vI a),(11, .d (.one (.ptr 500003 0))),(12, .d (.one (.ptr 500004 0))),(13,vI f),(14, .d (.one (.own 500005))),(18, .d (ofD TStL us)),(19,vI n),(20,vI i),(88, .d (.one (.own 500005))),(89,vI m),(90,vI k)],[(500000,some (boxD 25 TG g)),(500001,some (.box 28 ((cellsR .str z).map C.r++(cellsR TI64 q).map C.r++[.r (.v (.slice none 0 0))]))),(500002,some (.lis 28 .tree tl)),(500003,some (boxD 87 TSt e)),(500004,some (boxD 127 TRu r)),(500005,some (.lis 28 .tree ks))]⟩
def pre_sti (_s:Str) (_ls:List Stp) (_a _f:Int) (_us:List Stp) (_n _i m k:Int) (_g:Gram) (_z:Str) (_q:Int) (_tl:List (GTree)) (_e:Stp) (r:Rule) (ks:List (GTree)):Bool:=decide (0≤k)&&(decide (m=(length ks:Int))&&(decide (length ks=length r.2)&&decide (m≤1000)))
def res_sti (s:Str) (ls:List Stp) (a f:Int) (us:List Stp) (n i _m k:Int) (g:Gram) (z:Str) (q:Int) (tl:List (GTree)) (e:Stp) (r:Rule) (ks:List (GTree)) (K:Cont):Option Fin:=branch (kidsL yesT (List.drop k.toNat ks) (List.drop k.toNat r.2)) (K (.exit 3) ⟨[(1,vS s),(2, .d (ofD TStL ls)),(3, kp0),(6, kp1),(8, ko2),(9,vI a),(11, .d (.one (.ptr 500003 0))),(12, .d (.one (.ptr 500004 0))),(13,vI f),(14, .d (.one (.own 500005))),(18, .d (ofD TStL us)),(19,vI n),(20,vI i)],[(500000,some (boxD 25 TG g)),(500001,treeC z q),(500002,some (.lis 28 .tree tl)),(500003,some (boxD 87 TSt e)),(500004,some (boxD 127 TRu r)),(500005,some (.lis 28 .tree ks))]⟩) (K .ret ⟨[(6, kp0),(7,vB false)],[(500000,treeC [] 0)]⟩)
def mu_sti (_s:Str) (_ls:List Stp) (_a _f:Int) (_us:List Stp) (_n _i _m k:Int) (_g:Gram) (_z:Str) (_q:Int) (_tl:List (GTree)) (_e:Stp) (_r:Rule) (ks:List (GTree)):Nat:=length ks-k.toNat
theorem r_sti (s:Str) (ls:List Stp) (a f:Int) (us:List Stp) (n i m k:Int) (g:Gram) (z:Str) (q:Int) (tl:List (GTree)) (e:Stp) (r:Rule) (ks:List (GTree)) (K:Cont) (hI:pre_sti s ls a f us n i m k g z q tl e r ks=true):(∀R:St→Option Fin,evC cx0_sti (loopOf Tryd.f47 1) (st_sti s ls a f us n i m k g z q tl e r ks) (onward (headAt cx0_sti 17) R K)=res_sti s ls a f us n i m k g z q tl e r ks K) ∨
  (∃(s':Str) (ls':List Stp) (a' f':Int) (us':List Stp) (n' i' m' k':Int) (g':Gram) (z':Str) (q':Int) (tl':List (GTree)) (e':Stp) (r':Rule) (ks':List (GTree)),pre_sti s' ls' a' f' us' n' i' m' k' g' z' q' tl' e' r' ks'=true∧mu_sti s' ls' a' f' us' n' i' m' k' g' z' q' tl' e' r' ks'<mu_sti s ls a f us n i m k g z q tl e r ks∧res_sti s' ls' a' f' us' n' i' m' k' g' z' q' tl' e' r' ks' K=res_sti s ls a f us n i m k g z q tl e r ks K∧∀R:St→Option Fin,evC cx0_sti (loopOf Tryd.f47 1) (st_sti s ls a f us n i m k g z q tl e r ks) (onward (headAt cx0_sti 17) R K)=R (st_sti s' ls' a' f' us' n' i' m' k' g' z' q' tl' e' r' ks')):=by
 have hx:=fun R=>x_impl_stepsTree_1 s ls us a f n i m k g z q tl e r ks R K;simp only[pre_sti,andd,dec_iff]at hI;obtain⟨h0,rfl,h1,h2⟩:=hI
 by_cases hi:k<(length ks:Int)
 ·have hg:=kidsL_at (f:=yesT) (t := .node [] 0 ks) (s:=r.2) h0 hi h1;have w:W64 (k+1)=k+1:=wrap_small (by omega) (by omega);have n4:k<(length r.2:Int):=by omega
  have hsl:List.take ((k+1).toNat-k.toNat) (List.drop k.toNat r.2)=[getD r.2 k.toNat 0]:=slice_one (s:=r.2) h0 n4;have k1:inr k (k+1) (length r.2)=true:=inr_iff.2 ⟨h0,by omega,by omega⟩;rw[zT hi,inb_ok h0 hi,w,k1,hsl]at hx;have hg:kidsL yesT (List.drop k.toNat ks) (List.drop k.toNat r.2)=(decide ((GTree.sign (getD ks k.toNat tz))=[getD r.2 k.toNat 0])&&(true&&kidsL yesT (List.drop (k+1).toNat ks) (List.drop (k+1).toNat r.2))):=hg
  cases hc:decide ((GTree.sign (getD ks k.toNat tz))=[getD r.2 k.toNat 0])
  ·left;intro R;refine(hx R).trans ?_;rw[hc]at hg ⊢;simp only[res_sti,hg];rfl
  ·right;refine⟨s,ls,a,f,us,n,i,(length ks:Int),k+1,g,z,q,tl,e,r,ks, ?_, ?_, ?_,fun R=>(hx R).trans ?_⟩
   ·simp only[pre_sti,andd,dec_iff];exact⟨by omega,trivial,h1,h2⟩
   ·simp only[mu_sti];omega
   ·rw[hc]at hg;simp only[res_sti,hg];rfl
   ·rw[hc];rfl
 ·left;intro R;refine(hx R).trans ?_;rw[zF hi];have e:List.drop k.toNat ks=[]:=drop_eq_nil_of_le (by omega);simp only[res_sti,e];rfl
def g_sti:St→Cont→Option Fin:=gP sh_sti (fun v=>match v with | ((s,ls,a,f,us,n,i,m,k,()),(g,(z,q,()),tl,e,r,ks,()))=>pre_sti s ls a f us n i m k g z q tl e r ks) (fun v K=>match v with | ((s,ls,a,f,us,n,i,m,k,()),(g,(z,q,()),tl,e,r,ks,()))=>res_sti s ls a f us n i m k g z q tl e r ks K)
def L_sti:LpL:=(17,g_sti)::[]
theorem l_sti {L:LpL} (n:Nat) (h1:L.drop n=[]) (h2:idsFree (L.take n) (loopOf Tryd.f47 1)=true):LoopsTo g_sti (cb_stt) (loopOf Tryd.f47 1) 17 L :=
 with_drop h1 h2 (gP_ok (fun v=>match v with | ((s,ls,a,f,us,n,i,m,k,()),(g,(z,q,()),tl,e,r,ks,()))=>mu_sti s ls a f us n i m k g z q tl e r ks) fun v K hI=>by
  obtain⟨⟨s,ls,a,f,us,n,i,m,k,⟨⟩⟩,⟨g,⟨z,q,⟨⟩⟩,tl,e,r,ks,⟨⟩⟩⟩:=v;exact(r_sti s ls a f us n i m k g z q tl e r ks K hI).imp id fun⟨s',ls',a',f',us',n',i',m',k',g',z',q',tl',e',r',ks',h⟩=>⟨((s',ls',a',f',us',n',i',m',k',()),(g',(z',q',()),tl',e',r',ks',())),h⟩)
def c1T (e:Stp) (a:Int) (s:Str):Bool:=bif bif decide (e.1=1)then decide (e.2=0)else false then decide (a<(s.length:Int))else false
def c2T (e:Stp) (g:Gram):Bool:=bif bif decide (e.1=2)then decide (0≤e.2)else false then decide (e.2<(length g.2:Int))else false
def c4T (e:Stp) (last:Bool) (a:Int) (s:Str) (tl:List GTree):Bool:=bif bif bif bif decide (e.1=3)then decide (e.2=0)else false then last else false then decide (a=(s.length:Int))else false then decide ((tl.length:Int)=1)else false
abbrev envS (s:Str) (ls us:List Stp) (a n i:Int):List (Nat×T):=[(1,vS s),(2, .d (ofD TStL ls)),(3, .d (.one (.ptr 500000 0))),(6, .d (.one (.ptr 500001 0))),(8, .d (.one (.own 500002))),(9,vI a),(18, .d (ofD TStL us)),(19,vI n),(20,vI i)]
abbrev hpS (g:Gram) (z:Str) (q:Int) (tl:List GTree):Heap:=[(500000,some (boxD 25 TG g)),(500001,treeC z q),(500002,some (.lis 28 .tree tl))]
abbrev noS:St:=⟨[(6, .d (.one (.ptr 500000 0))),(7,vB false)],[(500000,treeC [] 0)]⟩
abbrev yesS (t:GTree):St:=⟨[(6, .d (.one (.ptr 500000 0))),(7,vB true)],[(500000,some (boxD 28 .tree t))]⟩
def sttD (s:Str) (ls us:List Stp) (a n i:Int) (g:Gram) (z:Str) (q:Int) (tl:List GTree) (R:St→Option Fin) (K:Cont) (e:Stp) (r:Rule) (f:Int):Option Fin :=
 need (inb e.2 (length g.2)) (branch (decide (f<0)) (K .ret noS) (need (inr f (tl.length:Int) tl.length) (need (f.toNat.ble tl.length&&tl.length.ble 1000) (
  need (pre_sti s ls a f us n i ((tl.drop f.toNat).length:Int) 0 g z q tl e r (tl.drop f.toNat)) (branch (kidsL yesT (tl.drop f.toNat) r.2) (
   need (inr 0 f tl.length) (need (fits ((tl.take f.toNat).length+1) Tryd.t28.bytes) (R ⟨envS s ls us a n (W64 (i+1)),hpS g z q (tl.take f.toNat++[GTree.node r.1 e.2 (tl.drop f.toNat)])⟩))) (K .ret noS))))))
def sttE (ls:List Stp) (s:Str) (a i:Int) (g:Gram) (tl:List GTree) (K:Cont) (e:Stp):Option Fin :=
 need (bif decide (c4T e (decide (i=W64 ((ls.length:Int)-1))) a s tl=true)then inb 0 tl.length else true) (branch (bif c4T e (decide (i=W64 ((ls.length:Int)-1))) a s tl then decide ((tl.getD 0 tz).sign=g.1)else false) (need (inb 0 tl.length) (K .ret (yesS (GTree.node (tl.getD 0 tz).sign (tl.getD 0 tz).rule (tl.getD 0 tz).kids)))) (K .ret noS))
def sttT (s:Str) (ls us:List Stp) (a n i:Int) (g:Gram) (z:Str) (q:Int) (tl:List GTree) (R:St→Option Fin) (K:Cont) (e:Stp):Option Fin :=
 branch (c1T e a s) (need (inr a (W64 (a+1)) s.length) (need (fits (tl.length+1) Tryd.t28.bytes) (R ⟨envS s ls us (W64 (a+1)) n (W64 (i+1)),hpS g z q (tl++[GTree.node (List.take ((W64 (a+1)).toNat-a.toNat) (List.drop a.toNat s)) (-1) []])⟩)))
  (branch (c2T e g) (sttD s ls us a n i g z q tl R K e (getD g.2 e.2.toNat d0) (W64 ((tl.length:Int)-(length (getD g.2 e.2.toNat d0).2:Int)))) (sttE ls s a i g tl K e))
theorem x_stt (s:Str) (ls us:List Stp) (a n i:Int) (g:Gram) (z:Str) (q:Int) (tl:List GTree) (R:St→Option Fin) (K:Cont):evC (cb_stt.withLoops (look L_sti)) (loopOf Tryd.f47 0) ⟨envS s ls us a n i,hpS g z q tl⟩ (onward (headAt (cb_stt.withLoops (look L_sti)) 4) R K) =
  branch (decide (i<n)) (need (inb i us.length) (sttT s ls us a n i g z q tl R K (us.getD i.toNat z2))) (K (.exit 0) ⟨[(6, kp0)],[(500000,treeC z q)]⟩):=by kernel_rfl
def goT (g:Gram) (s:Str):List Stp→List GTree→Int→Option GTree
 | [],_,_=>none
 |e::us,tl,a =>
  bif c1T e a s then goT g s us (tl++[GTree.node [s.getD a.toNat 0] (-1) []]) (a+1)
  else bif c2T e g then(bif Nat.ble (length (getD g.2 e.2.toNat d0).2) tl.length&&kidsL yesT (tl.drop (tl.length-length (getD g.2 e.2.toNat d0).2)) (getD g.2 e.2.toNat d0).2
   then goT g s us (tl.take (tl.length-length (getD g.2 e.2.toNat d0).2)++[GTree.node (getD g.2 e.2.toNat d0).1 e.2 (tl.drop (tl.length-length (getD g.2 e.2.toNat d0).2))]) a else none)
  else bif (bif c4T e us.isEmpty a s tl then decide ((tl.getD 0 tz).sign=g.1)else false)then some (tl.getD 0 tz)else none
theorem goT_cons {g:Gram} {s:Str} {e:Stp} {us:List Stp} {tl:List GTree} {a:Int}:goT g s (e::us) tl a =
  bif c1T e a s then goT g s us (tl++[GTree.node [s.getD a.toNat 0] (-1) []]) (a+1)
  else bif c2T e g then(bif Nat.ble (length (getD g.2 e.2.toNat d0).2) tl.length&&kidsL yesT (tl.drop (tl.length-length (getD g.2 e.2.toNat d0).2)) (getD g.2 e.2.toNat d0).2
   then goT g s us (tl.take (tl.length-length (getD g.2 e.2.toNat d0).2)++[GTree.node (getD g.2 e.2.toNat d0).1 e.2 (tl.drop (tl.length-length (getD g.2 e.2.toNat d0).2))]) a else none)
  else bif (bif c4T e us.isEmpty a s tl then decide ((tl.getD 0 tz).sign=g.1)else false)then some (tl.getD 0 tz)else none:=rfl
def isGo (g:Gram) (s:Str) (us:List Stp) (tl:List GTree) (a:Int):Bool:=(goT g s us tl a).isSome
def cx0_stt:Cx:=(cb_stt).withLoops (look L_sti)
def sh_stt:Sh:=([(1, .d .str),(2, .d TStL),(3, .ptr 500000 0),(6, .ptr 500001 0),(8, .own 500002),(9, .d TI64),(18, .d TStL),(19, .d TI64),(20, .d TI64)],[(500000, .box 25 TG),(500001, .mix 28 [.d .str, .d TI64, .nil]),(500002, .lis 28 .tree)])
abbrev st_stt (s:Str) (ls:List Stp) (a:Int) (us:List Stp) (n i:Int) (g:Gram) (z:Str) (q:Int) (tl:List (GTree)):St:=⟨[(1,vS s),(2, .d (ofD TStL ls)),(3, kp0),(6, kp1),(8, ko2),(9,vI a),(18, .d (ofD TStL us)),(19,vI n),(20,vI i)],[(500000,some (boxD 25 TG g)),(500001,some (.box 28 ((cellsR .str z).map C.r++(cellsR TI64 q).map C.r++[.r (.v (.slice none 0 0))]))),(500002,some (.lis 28 .tree tl))]⟩
def pre_stt (s:Str) (ls:List Stp) (a:Int) (us:List Stp) (n i:Int) (g:Gram) (_z:Str) (_q:Int) (tl:List (GTree)):Bool:=decide (0≤i)&&(decide (us=ls)&&(decide (n=(length ls:Int))&&(decide (n≤1000)&&(decide (0≤a)&&(decide ((length s:Int)≤1000)&&(decide ((length tl:Int)≤i)&&isGo g s (List.drop i.toNat us) tl a))))))
def res_stt (s:Str) (_ls:List Stp) (a:Int) (us:List Stp) (_n i:Int) (g:Gram) (_z:Str) (_q:Int) (tl:List (GTree)) (K:Cont):Option Fin:=K .ret (yesS ((goT g s (List.drop i.toNat us) tl a).getD tz))
def mu_stt (_s:Str) (_ls:List Stp) (_a:Int) (us:List Stp) (_n i:Int) (_g:Gram) (_z:Str) (_q:Int) (_tl:List (GTree)):Nat:=length us-i.toNat
theorem r_stt (s:Str) (ls:List Stp) (a:Int) (us:List Stp) (n i:Int) (g:Gram) (z:Str) (q:Int) (tl:List (GTree)) (K:Cont) (hI:pre_stt s ls a us n i g z q tl=true):(∀R:St→Option Fin,evC cx0_stt (loopOf Tryd.f47 0) (st_stt s ls a us n i g z q tl) (onward (headAt cx0_stt 4) R K)=res_stt s ls a us n i g z q tl K) ∨
  (∃(s':Str) (ls':List Stp) (a':Int) (us':List Stp) (n' i':Int) (g':Gram) (z':Str) (q':Int) (tl':List (GTree)),pre_stt s' ls' a' us' n' i' g' z' q' tl'=true∧mu_stt s' ls' a' us' n' i' g' z' q' tl'<mu_stt s ls a us n i g z q tl∧res_stt s' ls' a' us' n' i' g' z' q' tl' K=res_stt s ls a us n i g z q tl K∧∀R:St→Option Fin,evC cx0_stt (loopOf Tryd.f47 0) (st_stt s ls a us n i g z q tl) (onward (headAt cx0_stt 4) R K)=R (st_stt s' ls' a' us' n' i' g' z' q' tl')):=by
 have hx:=fun R=>x_stt s ls us a n i g z q tl R K;simp only[pre_stt,andd,dec_iff]at hI;obtain⟨h0,rfl,rfl,h1,h2,h3,h4,h5⟩:=hI;unfold isGo at h5
 by_cases hi:i<(length us:Int)
 ·have hd:=ls_at h0 hi;have hlast:decide (i=W64 ((length us:Int)-1))=(List.drop (i+1).toNat us).isEmpty:=by
   have w:W64 ((length us:Int)-1)=(length us:Int)-1:=wrap_small (by omega) (by omega);rw[w]
   by_cases hl:i=(length us:Int)-1
   ·rw[zT hl,drop_eq_nil_of_le (by omega)];rfl
   ·rw[zF hl];have hn:(i+1).toNat<length us:=by omega
    rw[drop_eq_getElem_cons hn];rfl
  have w1:W64 (i+1)=i+1:=wrap_small (by omega) (by omega);rw[zT hi,inb_ok h0 hi]at hx;have hres:∀(tl':List GTree) (a':Int),goT g s (List.drop i.toNat us) tl a=goT g s (List.drop (i+1).toNat us) tl' a'→res_stt s us a us (length us:Int) i g z q tl K=res_stt s us a' us (length us:Int) (i+1) g z q tl' K:=fun tl' a' he=>by
   simp only[res_stt,he]
  rw[hd]at h5
  generalize us.getD i.toNat z2=e at hx h5 hd
  unfold sttT at hx;rw[goT_cons]at h5;have hgo:goT g s (List.drop i.toNat us) tl a=goT g s (e::List.drop (i+1).toNat us) tl a:=by rw[hd]
  cases c1:c1T e a s
  ·rw[c1,cond_false]at h5;simp only[c1,branch_true,branch_false]at hx
   cases c2:c2T e g
   ·rw[c2,cond_false]at h5;simp only[c2,branch_false]at hx;unfold sttE at hx;rw[hlast]at hx
    cases c3:(bif c4T e (List.drop (i+1).toNat us).isEmpty a s tl then decide ((tl.getD 0 tz).sign=g.1)else false)
    ·rw[c3]at h5;cases h5
    ·left;intro R;refine(hx R).trans ?_;have c4:c4T e (List.drop (i+1).toNat us).isEmpty a s tl=true:=by
      cases h:c4T e (List.drop (i+1).toNat us).isEmpty a s tl
      ·rw[h]at c3;cases c3
      ·rfl
     have hl1:(tl.length:Int)=1:=by
      have:=c4;unfold c4T at this;rw[b2,andd]at this;exact dec_iff.1 this.2
     rw[c3,c4,inb_ok (Int.le_refl 0) (by omega),tEta];simp only[res_stt,hgo];rw[goT_cons,c1,c2,c3];rfl
   ·rw[c2,cond_true]at h5;simp only[c2,branch_true]at hx;have hc2:=c2;unfold c2T at hc2;rw[b2,andd,b2,andd,dec_iff,dec_iff,dec_iff]at hc2;obtain⟨⟨_,p1⟩,p2⟩:=hc2;have hgo2:goT g s (e::List.drop (i+1).toNat us) tl a=(bif Nat.ble (length (getD g.2 e.2.toNat d0).2) tl.length&&kidsL yesT (tl.drop (tl.length-length (getD g.2 e.2.toNat d0).2)) (getD g.2 e.2.toNat d0).2
      then goT g s (List.drop (i+1).toNat us) (tl.take (tl.length-length (getD g.2 e.2.toNat d0).2)++[GTree.node (getD g.2 e.2.toNat d0).1 e.2 (tl.drop (tl.length-length (getD g.2 e.2.toNat d0).2))]) a else none):=by
     rw[goT_cons,c1,c2];rfl
    generalize getD g.2 e.2.toNat d0=r at hx h5 hgo2
    cases c5:Nat.ble (length r.2) tl.length&&kidsL yesT (tl.drop (tl.length-length r.2)) r.2
    ·rw[c5]at h5;cases h5
    ·rw[c5,cond_true]at h5 hgo2;obtain⟨c6,c7⟩:=andd.1 c5;have c6:=ble_iff.1 c6;have w2:W64 ((tl.length:Int)-(length r.2:Int))=(tl.length:Int)-(length r.2:Int):=wrap_small (by omega) (by omega);have e2:((tl.length:Int)-(length r.2:Int)).toNat=tl.length-length r.2:=by omega
     have kp:pre_sti s us a ((tl.length:Int)-(length r.2:Int)) us (length us:Int) i ((tl.drop (tl.length-length r.2)).length:Int) 0 g z q tl e r (tl.drop (tl.length-length r.2))=true:=by
      have hl:(tl.drop (tl.length-length r.2)).length=length r.2:=by rw[length_drop];omega
      simp only[pre_sti,andd,dec_iff];exact⟨Int.le_refl 0,trivial,hl,by omega⟩
     have hfit:fits ((tl.take (tl.length-length r.2)).length+1) Tryd.t28.bytes=true:=by
      rw[treeBytes];exact fits_ok (by rw[length_take];omega) (by omega)
     unfold sttD at hx;rw[w2,e2,w1,inb_ok p1 p2,zF (by omega:¬((tl.length:Int)-(length r.2:Int)<0)),inr_iff.2 (by omega:0≤(tl.length:Int)-(length r.2:Int)∧(tl.length:Int)-(length r.2:Int)≤(tl.length:Int)∧(tl.length:Int)≤(tl.length:Int)),andd.2 ⟨ble_iff.2 (by omega:tl.length-length r.2≤tl.length),ble_iff.2 (by omega:tl.length≤1000)⟩,kp,c7,inr_iff.2 (by omega:0≤(0:Int)∧(0:Int)≤(tl.length:Int)-(length r.2:Int)∧(tl.length:Int)-(length r.2:Int)≤(tl.length:Int)),hfit]at hx;right;refine⟨s,us,a,us,(length us:Int),i+1,g,z,q,tl.take (tl.length-length r.2)++[GTree.node r.1 e.2 (tl.drop (tl.length-length r.2))], ?_, ?_,(hres _ _ (hgo.trans hgo2)).symm,fun R=>hx R⟩
     ·simp only[pre_stt,andd,dec_iff];refine⟨by omega,trivial,trivial,h1,h2,h3, ?_,h5⟩;rw[length_append,length_take,length_singleton];omega
     ·simp only[mu_stt];omega
  ·rw[c1,cond_true]at h5;have hc1:=c1;unfold c1T at hc1;rw[b2,andd,dec_iff]at hc1;have w2:W64 (a+1)=a+1:=wrap_small (by omega) (by omega);have hsl:List.take ((a+1).toNat-a.toNat) (List.drop a.toNat s)=[s.getD a.toNat 0]:=slice_one (s:=s) h2 hc1.2;have hfit:fits (tl.length+1) Tryd.t28.bytes=true:=by
    rw[treeBytes];exact fits_ok (by omega) (by omega)
   simp only[c1,branch_true]at hx;rw[w1,w2,inr_iff.2 (by omega:0≤a∧a≤a+1∧a+1≤(s.length:Int)),hfit,hsl]at hx;have hgo2:goT g s (e::List.drop (i+1).toNat us) tl a=goT g s (List.drop (i+1).toNat us) (tl++[GTree.node [s.getD a.toNat 0] (-1) []]) (a+1):=by
    rw[goT_cons,c1];rfl
   right;refine⟨s,us,a+1,us,(length us:Int),i+1,g,z,q,tl++[GTree.node [s.getD a.toNat 0] (-1) []], ?_, ?_,(hres _ _ (hgo.trans hgo2)).symm,fun R=>hx R⟩
   ·simp only[pre_stt,andd,dec_iff];refine⟨by omega,trivial,trivial,h1,by omega,h3, ?_,h5⟩;rw[length_append,length_singleton];omega
   ·simp only[mu_stt];omega
 ·rw[drop_eq_nil_of_le (by omega)]at h5
  cases h5
def g_stt:St→Cont→Option Fin:=gP sh_stt (fun v=>match v with | ((s,ls,a,us,n,i,()),(g,(z,q,()),tl,()))=>pre_stt s ls a us n i g z q tl) (fun v K=>match v with | ((s,ls,a,us,n,i,()),(g,(z,q,()),tl,()))=>res_stt s ls a us n i g z q tl K)
def L_stt:LpL:=(4,g_stt)::L_sti
def cx_stt:Cx:=(cb_stt).withLoops (look L_stt)
theorem l_stt {L:LpL} (n:Nat) (h1:L.drop n=L_sti) (h2:idsFree (L.take n) (loopOf Tryd.f47 0)=true):LoopsTo g_stt (cb_stt) (loopOf Tryd.f47 0) 4 L :=
 with_drop h1 h2 (gP_ok (fun v=>match v with | ((s,ls,a,us,n,i,()),(g,(z,q,()),tl,()))=>mu_stt s ls a us n i g z q tl) fun v K hI=>by
  obtain⟨⟨s,ls,a,us,n,i,⟨⟩⟩,⟨g,⟨z,q,⟨⟩⟩,tl,⟨⟩⟩⟩:=v;exact(r_stt s ls a us n i g z q tl K hI).imp id fun⟨s',ls',a',us',n',i',g',z',q',tl',h⟩=>⟨((s',ls',a',us',n',i',()),(g',(z',q',()),tl',())),h⟩)
theorem y_impl_stepsTree (g:Gram) (s:Str) (ls:List Stp):evFn cx_stt Tryd.f47 true [ofD TG g,ofD .str s,ofD TStL ls] []=(
need (pre_stt s ls 0 ls ((ls.length:Int)) 0 g ([]:Str) 0 []) <| some ((.tup [(.agg [(.r (.v (Value.string (mk ((goT g s ls [] 0).getD tz).sign)))),(.r (.v (Value.int IntKind.i64 ((goT g s ls [] 0).getD tz).rule))),(.r (.li (Ty.tree) (((goT g s ls [] 0).getD tz).kids)))]),(.one (.r (.v (Value.bool true))))]),[])):=by kernel_rfl
theorem s_impl_stepsTree (g:Gram) (_hg:Fit TG g) (s:Str) (_hs:Fit .str s) (ls:List Stp) (_hls:Fit TStL ls) (hpre:(decide (length ls≤1000)&&(decide (length s≤1000)&&isGo g s ls [] 0))=true):Sat Tryd.prog 47 [ofD TG g,ofD .str s,ofD TStL ls] [] (.tup [ofD .tree ((goT g s ls [] 0).getD tz),ofD .bool true]) [] :=
 fn_sound (cx:=cx_stt) Tryd.func47 rfl ttOk Γ74ok mixed (fun c hc=>LoopsOk.all (l:=[(4,loopOf Tryd.f47 0),(17,loopOf Tryd.f47 1)]) (by cases hc;kernel_rfl) ⟨atLoop rfl (l_stt 1 rfl (by kernel_rfl)),atLoop rfl (l_sti 2 rfl (by kernel_rfl)),trivial⟩) (ro:=true) (by
  rw[andd,andd,dec_iff,dec_iff]at hpre;have kp:pre_stt s ls 0 ls (length ls:Int) 0 g ([]:Str) 0 []=true:=by
   simp only[pre_stt,andd,dec_iff];exact⟨Int.le_refl 0,trivial,trivial,by omega,Int.le_refl 0,by omega,Int.le_refl 0,hpre.2.2⟩
  rw[y_impl_stepsTree,kp];rfl)
def c_impl_stepsTree:Con:=conT [TG, .str,TStL] fun(g:Gram) (s:Str) (ls:List Stp)=>(some (decide (length ls≤1000)&&(decide (length s≤1000)&&isGo g s ls [] 0)), .tup [ofD .tree ((goT g s ls [] 0).getD tz),ofD .bool true])
theorem k_impl_stepsTree:ConOk Tryd.prog 47 c_impl_stepsTree:=conT_ok Tryd.call47 fun g hg s hs ls hls hqq=>s_impl_stepsTree g hg s hs ls hls (pre_of hqq)
def Γ75:GL:=(47,c_impl_stepsTree)::Γ74
theorem Γ75ok:GO Γ75 := .cons k_impl_stepsTree Γ74ok
theorem y_impl_StepsTree (g:Gram) (s:Str) (ls:List Stp):evFn (cxOf Γ75 Tryd.f16.ntmps [] [] [] []) Tryd.f16 true [ofD TG g,ofD .str s,ofD TStL ls] []=(
branch (bif !both2 g s then true else decide (201<(ls.length:Int))) ( some ((.tup [(.agg [(.r (.v (Value.string (mk [])))),(.r (.v (Value.int IntKind.i64 0))),(.r (.li ty28 ([])))]),(.one (.r (.v (Value.bool false))))]),[])) (
 need (decide (ls.length≤1000)&&(decide (s.length≤1000)&&isGo g s ls [] 0)) <| some ((.tup [(.agg [(.r (.v (Value.string (mk ((goT g s ls [] 0).getD tz).sign)))),(.r (.v (Value.int IntKind.i64 ((goT g s ls [] 0).getD tz).rule))),(.r (.li (Ty.tree) (((goT g s ls [] 0).getD tz).kids)))]),(.one (.r (.v (Value.bool true))))]),[]))):=by kernel_rfl
theorem s_impl_StepsTree (g:Gram) (_hg:Fit TG g) (s:Str) (_hs:Fit .str s) (ls:List Stp) (_hls:Fit TStL ls) (hpre:(both2 g s&&(decide (length ls≤201)&&isGo g s ls [] 0))=true):Sat Tryd.prog 16 [ofD TG g,ofD .str s,ofD TStL ls] [] (.tup [ofD .tree ((goT g s ls [] 0).getD tz),ofD .bool true]) [] :=
 fn_sound (cx:=(cxOf Γ75 Tryd.f16.ntmps [] [] [] [])) Tryd.func16 rfl ttOk Γ75ok mixed (fun _ _=>LoopsOk.no fun _=>rfl) (ro:=true) (by
  rw[andd,andd,dec_iff]at hpre;obtain⟨h1,h2,h3⟩:=hpre;obtain⟨_,h4,_⟩:=both_iff h1;rw[y_impl_StepsTree,h1,h3,zF (by omega:¬(201:Int)<(length ls:Int)),zT (by omega:length ls≤1000),zT (by omega:length s≤1000)];rfl)
def c_impl_StepsTree:Con:=conT [TG, .str,TStL] fun(g:Gram) (s:Str) (ls:List Stp)=>(some (both2 g s&&(decide (length ls≤201)&&isGo g s ls [] 0)), .tup [ofD .tree ((goT g s ls [] 0).getD tz),ofD .bool true])
theorem k_impl_StepsTree:ConOk Tryd.prog 16 c_impl_StepsTree:=conT_ok Tryd.call16 fun g hg s hs ls hls hqq=>s_impl_StepsTree g hg s hs ls hls (pre_of hqq)
def Γ76:GL:=(16,c_impl_StepsTree)::Γ75
theorem Γ76ok:GO Γ76 := .cons k_impl_StepsTree Γ75ok
def szT:Nat→GTree→Nat
 |0,_=>0
 |n+1,t=>1+sumT (szT n) t.kids
theorem sz_le:∀ {n:Nat} {t:GTree},kid9 n t=true→((szT n t:Nat):Int)≤pw n
 |0,_,h=>by cases h
 |n+1,t,h=>by
  obtain⟨_,h2,h3⟩:=kid9_iff.1 h;have hp:=pw_pos n;rw[pw_succ];have h5:=sum_le (f:=szT n) (m:=10 ^ n) (l:=t.kids) fun k hk=>(by have:=sz_le (h3 k hk);unfold pw at this;omega);have h4:=Nat.mul_le_mul_right (10 ^ n) h2;show((1+sumT (szT n) t.kids:Nat):Int)≤_;unfold pw at hp ⊢;omega
def conSz (n:Nat):Con:=conT [.tree] fun(t:GTree)=>(some (kid9 n t&&Nat.ble n 12), .d (ofD TI64 ((szT n t:Nat):Int)))
structure LevSz where
 n:Nat
 h:ConOk Tryd.prog 18 (conSz n)
noncomputable section
variable [Inhabited LevSz]
abbrev lvSz:Nat:=(default:LevSz).n
def c_impl_TreeSizeR:Con:=conSz lvSz
theorem k_impl_TreeSizeR:ConOk Tryd.prog 18 c_impl_TreeSizeR:=(default:LevSz).h
def Γ77:GL:=(18,c_impl_TreeSizeR)::Γ76
theorem Γ77ok:GO Γ77 := .cons k_impl_TreeSizeR Γ76ok
def cb_tsz:Cx:=cxOf Γ77 Tryd.f18.ntmps [(3,[3,7,8,9])] [(0,[3]),(1,[3,7,8,9]),(1000000,[2])] [] []
abbrev st_tsz (z:Int) (ks:List GTree) (n i:Int):St:=⟨[(3,vI z),(7, .d (ofD TTL ks)),(8,vI n),(9,vI i)],[]⟩
theorem x_impl_TreeSize (ks:List GTree) (z n i:Int) (R:St→Option Fin) (K:Cont):evC (cb_tsz.withLoops (look [])) (loopOf Tryd.f18 0) (st_tsz z ks n i) (onward (headAt (cb_tsz.withLoops (look [])) 3) R K)=(
branch (decide (i<n)) (
 need (inb i ks.length) <|
 need (kid9 lvSz (GTree.node (GTree.sign (ks.getD i.toNat tz)) (GTree.rule (ks.getD i.toNat tz)) (GTree.kids (ks.getD i.toNat tz)))&&lvSz.ble 12) <| R (st_tsz (W64 (z+(szT lvSz (GTree.node (GTree.sign (ks.getD i.toNat tz)) (GTree.rule (ks.getD i.toNat tz)) (GTree.kids (ks.getD i.toNat tz))):Int))) ks n (W64 (i+1)))) ( K (.exit 0) (.mk [(3,vI z)] []))):=by kernel_rfl
def cx0_tsz:Cx:=(cb_tsz).withLoops (look [])
def sh_tsz:Sh:=([(3, .d TI64),(7, .d TTL),(8, .d TI64),(9, .d TI64)],[])
def pre_tsz (z:Int) (ks:List GTree) (n i:Int):Bool:=decide (0≤i)&&(decide (n=(ks.length:Int))&&(Nat.ble ks.length 9&&(List.all ks (kid9 lvSz)&&(Nat.ble lvSz 11&&(decide (0≤z)&&decide (z+(9-i)*pw lvSz≤1000000000000))))))
def res_tsz (z:Int) (ks:List GTree) (_n i:Int) (K:Cont):Option Fin:=K (.exit 0) ⟨[(3,vI (z+((sumT (szT lvSz) (ks.drop i.toNat):Nat):Int)))],[]⟩
def mu_tsz (_z:Int) (ks:List GTree) (_n i:Int):Nat:=ks.length-i.toNat
theorem r_tsz (z:Int) (ks:List GTree) (n i:Int) (K:Cont) (hI:pre_tsz z ks n i=true):(∀R:St→Option Fin,evC cx0_tsz (loopOf Tryd.f18 0) (st_tsz z ks n i) (onward (headAt cx0_tsz 3) R K)=res_tsz z ks n i K) ∨
  (∃(z':Int) (ks':List GTree) (n' i':Int),pre_tsz z' ks' n' i'=true∧mu_tsz z' ks' n' i'<mu_tsz z ks n i∧res_tsz z' ks' n' i' K=res_tsz z ks n i K∧∀R:St→Option Fin,evC cx0_tsz (loopOf Tryd.f18 0) (st_tsz z ks n i) (onward (headAt cx0_tsz 3) R K)=R (st_tsz z' ks' n' i')):=by
 have hx:=fun R=>x_impl_TreeSize ks z n i R K;rw[tEta (ks.getD i.toNat tz)]at hx;simp only[pre_tsz,andd,dec_iff,ble_iff]at hI;obtain⟨h0,rfl,h1,h2,h3,h4,h5⟩:=hI;have hp:=pw_pos lvSz
 by_cases hi:i<(ks.length:Int)
 ·have hn:i.toNat<ks.length:=by omega
  have hk:ks.getD i.toNat tz∈ks:=by rw[zG,zE hn];exact List.getElem_mem hn
  have hkid:=all_eq_true.1 h2 _ hk;have hg:=ks_at h0 hi
  generalize ks.getD i.toNat tz=k at hx hg hkid
  have hlen:=sz_le hkid;have hm:1*pw lvSz≤(9-i)*pw lvSz:=Int.mul_le_mul_of_nonneg_right (by omega) (by omega);have hm2:(9-(i+1))*pw lvSz=(9-i)*pw lvSz-pw lvSz:=by rw[show 9-(i+1)=(9-i)-1 by omega,Int.sub_mul,Int.one_mul]
  have k1:(kid9 lvSz k&&lvSz.ble 12)=true:=andd.2 ⟨hkid,ble_iff.2 (by omega)⟩;have w:W64 (i+1)=i+1:=wrap_small (by omega) (by omega);have w2:W64 (z+((szT lvSz k:Nat):Int))=z+((szT lvSz k:Nat):Int):=wrap_small (by omega) (by omega);rw[zT hi,inb_ok h0 hi,k1,w,w2]at hx;right;refine⟨z+((szT lvSz k:Nat):Int),ks,(ks.length:Int),i+1, ?_, ?_, ?_,fun R=>hx R⟩
  ·simp only[pre_tsz,andd,dec_iff,ble_iff,hm2];exact⟨by omega,trivial,h1,h2,h3,by omega,by omega⟩
  ·simp only[mu_tsz];omega
  ·have e:sumT (szT lvSz) (ks.drop i.toNat)=szT lvSz k+sumT (szT lvSz) (ks.drop (i+1).toNat):=by rw[hg];rfl
   simp only[res_tsz,e];rw[show z+((szT lvSz k:Nat):Int)+((sumT (szT lvSz) (ks.drop (i+1).toNat):Nat):Int)=z+((szT lvSz k+sumT (szT lvSz) (ks.drop (i+1).toNat):Nat):Int)by omega]
 ·left;intro R;refine(hx R).trans ?_;rw[zF hi];have e:ks.drop i.toNat=[]:=drop_eq_nil_of_le (by omega);simp only[res_tsz,e];rw[show z+((sumT (szT lvSz) []:Nat):Int)=z from Int.add_zero z];rfl
def g_tsz:St→Cont→Option Fin:=gP sh_tsz (fun v=>match v with | ((z,ks,n,i,()),())=>pre_tsz z ks n i) (fun v K=>match v with | ((z,ks,n,i,()),())=>res_tsz z ks n i K)
def L_tsz:LpL:=(3,g_tsz)::[]
def cx_tsz:Cx:=(cb_tsz).withLoops (look L_tsz)
theorem l_tsz {L:LpL} (n:Nat) (h1:L.drop n=[]) (h2:idsFree (L.take n) (loopOf Tryd.f18 0)=true):LoopsTo g_tsz (cb_tsz) (loopOf Tryd.f18 0) 3 L :=
 with_drop h1 h2 (gP_ok (fun v=>match v with | ((z,ks,n,i,()),())=>mu_tsz z ks n i) fun v K hI=>by
  obtain⟨⟨z,ks,n,i,⟨⟩⟩,⟨⟩⟩:=v;exact(r_tsz z ks n i K hI).imp id fun⟨z',ks',n',i',h⟩=>⟨((z',ks',n',i',()),()),h⟩)
theorem y_tsz (t:GTree):evFn cx_tsz Tryd.f18 true [ofD .tree t] []=(
need (pre_tsz 1 t.kids ((t.kids.length:Int)) 0) <| some ((vI (1+(sumT (szT lvSz) t.kids:Int))),[])):=by kernel_rfl
theorem tsz_up:ConOk Tryd.prog 18 (conSz (lvSz+1)):=conT_ok Tryd.call18 fun(t:GTree) _ hqq=>by
 obtain⟨h1,h2⟩:=andd.1 (pre_of hqq);have h2:=ble_iff.1 h2;obtain⟨g1,g2,g3⟩:=kid9_iff.1 h1;have hp0:=pw_pos lvSz;have hp1:=pw12 (n:=lvSz+1) (by omega);rw[pw_succ]at hp1;have k1:pre_tsz 1 t.kids (t.kids.length:Int) 0=true:=by
  simp only[pre_tsz,andd,dec_iff,ble_iff];exact⟨by omega,trivial,g2,all_eq_true.2 g3,by omega,by omega,by omega⟩
 refine fn_sound (cx:=cx_tsz) Tryd.func18 rfl ttOk Γ77ok mixed (fun c hc=>LoopsOk.all (l:=[(3,loopOf Tryd.f18 0)]) (by cases hc;kernel_rfl) ⟨atLoop rfl (l_tsz 1 rfl (by kernel_rfl)),trivial⟩) (ro:=true) ?_;refine(y_tsz t).trans ?_;rw[k1];show some (vI (1+((sumT (szT lvSz) t.kids:Nat):Int)),[])=some (vI ((1+sumT (szT lvSz) t.kids:Nat):Int),[]);rw[show ((1+sumT (szT lvSz) t.kids:Nat):Int)=1+((sumT (szT lvSz) t.kids:Nat):Int)by omega]
end
theorem tsz_all:∀n,ConOk Tryd.prog 18 (conSz n)
 |0=>conT_ok Tryd.call18 fun(t:GTree) _ hqq=>by cases (andd.1 (pre_of hqq)).1
 |n+1=>@tsz_up ⟨⟨n,tsz_all n⟩⟩
def c_impl_TreeSize:Con:=conSz 12
theorem k_impl_TreeSize:ConOk Tryd.prog 18 c_impl_TreeSize:=tsz_all 12
def Γ78:GL:=(18,c_impl_TreeSize)::Γ76
theorem Γ78ok:GO Γ78 := .cons k_impl_TreeSize Γ76ok
theorem kidsL_yes {f:GTree→Bool}:∀ {ks:List GTree} {r:Str},kidsL f ks r=true→kidsL yesT ks r=true
 | [],_,_=>rfl
 |k::ks,[],h=>by cases h
 |k::ks,c::r,h=>by
  have h:(decide (k.sign=[c])&&(f k&&kidsL f ks r))=true:=h;rw[andd,andd]at h;show(decide (k.sign=[c])&&(true&&kidsL yesT ks r))=true;rw[andd,andd];exact⟨h.1,rfl,kidsL_yes h.2.2⟩
theorem go_kids {g:Gram} {s:Str} {f:GTree→Bool} {m:Nat} (IH:∀(k:GTree) (pre post:Str) (us:List Stp) (tl:List GTree),f k=true→kid9 m k=true→s=pre++(yldP m k++post)→goT g s (stV m k++us) tl (pre.length:Int)=goT g s us (tl++[k]) ((pre.length:Int)+((yldP m k).length:Int))) :
  ∀ {ks:List GTree} {pre post:Str} {us:List Stp} {tl:List GTree},(∀k∈ks,f k=true)→(∀k∈ks,kid9 m k=true)→s=pre++(ks.flatMap (yldP m)++post)→goT g s (ks.flatMap (stV m)++us) tl (pre.length:Int)=goT g s us (tl++ks) ((pre.length:Int)+((ks.flatMap (yldP m)).length:Int))
 | [],pre,_,us,tl,_,_,_=>by
  show goT g s us tl (pre.length:Int)=goT g s us (tl++[]) ((pre.length:Int)+((0:Nat):Int));rw[List.append_nil,show (pre.length:Int)+((0:Nat):Int)=(pre.length:Int)by omega]
 |k::ks,pre,post,us,tl,h,h9,hs=>by
  rw[List.flatMap_cons,append_assoc]at hs;rw[List.flatMap_cons,List.flatMap_cons,append_assoc,IH k pre (ks.flatMap (yldP m)++post) (ks.flatMap (stV m)++us) tl (h k mem_cons_self) (h9 k mem_cons_self) hs];have e4:(pre.length:Int)+((yldP m k).length:Int)=((pre++yldP m k).length:Int):=by rw[length_append];omega
  rw[e4,go_kids IH (ks:=ks) (pre:=pre++yldP m k) (post:=post) (us:=us) (tl:=tl++[k]) (fun x hx=>h x (mem_cons_of_mem _ hx)) (fun x hx=>h9 x (mem_cons_of_mem _ hx)) (by rw[append_assoc];exact hs)];have e5:((pre++yldP m k).length:Int)+((ks.flatMap (yldP m)).length:Int)=(pre.length:Int)+((yldP m k++ks.flatMap (yldP m)).length:Int):=by rw[length_append,length_append];omega
  rw[e5,append_assoc];rfl
theorem kidsL_each2 {f:GTree→Bool}:∀ {ks:List GTree} {r:Str},kidsL f ks r=true→∀k∈ks,f k=true
 | [],_,_,_,h=>by cases h
 |k::ks,[],h,_,_=>by cases h
 |k::ks,c::r,h,x,hx=>by
  have h:(decide (k.sign=[c])&&(f k&&kidsL f ks r))=true:=h;rw[andd,andd]at h;rcases List.mem_cons.1 hx with rfl | hx
  ·exact h.2.1
  ·exact kidsL_each2 h.2.2 x hx
theorem go_tree {g:Gram} {s:Str}:∀ {d m:Nat} {t:GTree} {pre post:Str} {us:List Stp} {tl:List GTree},shapeT g d t=true→kid9 m t=true→s=pre++(yldP m t++post)→goT g s (stV m t++us) tl (pre.length:Int)=goT g s us (tl++[t]) ((pre.length:Int)+((yldP m t).length:Int))
 |0,_,_,_,_,_,_,h,_,_=>by cases h
 |d+1,0,_,_,_,_,_,_,h,_=>by cases h
 |d+1,m+1,t,pre,post,us,tl,h,h9,hs=>by
  obtain⟨_,_,h3⟩:=kid9_iff.1 h9;have h:(bif smallS t.sign then leafOk t else bif nodeOk g t then kidsL (shapeT g d) t.kids (rgt g t.rule)else false)=true:=h;have hy:yldP (m+1) t=bif smallS t.sign then t.sign else t.kids.flatMap (yldP m):=rfl;have hst:stV (m+1) t=bif smallS t.sign then sR else t.kids.flatMap (stV m)++sD t.rule:=rfl
  cases hsm:smallS t.sign
  ·rw[hsm,cond_false]at h hy hst
   cases hn:nodeOk g t
   ·rw[hn]at h;cases h
   ·rw[hn,cond_true]at h;obtain⟨n1,n2,n3⟩:=node_iff hn;have hi:=inb_iff.1 n1;rw[hy]at hs ⊢;rw[hst,append_assoc,go_kids (g:=g) (s:=s) (f:=shapeT g d) (m:=m) (fun k pre post us tl a b c=>go_tree a b c) (kidsL_each2 h) h3 hs];have hlen:(tl++t.kids).length-length (getD g.2 t.rule.toNat d0).2=tl.length:=by
     have n3:t.kids.length=length (getD g.2 t.rule.toNat d0).2:=n3;rw[length_append];omega
    have c1:c1T (2,t.rule) ((pre.length:Int)+((t.kids.flatMap (yldP m)).length:Int)) s=false:=rfl;have c2:c2T (2,t.rule) g=true:=by
     unfold c2T;rw[zT hi.1,zT hi.2];rfl
    show goT g s ((2,t.rule)::us) (tl++t.kids) _=_;rw[goT_cons,c1,c2];show(bif Nat.ble (length (getD g.2 t.rule.toNat d0).2) (tl++t.kids).length&&kidsL yesT ((tl++t.kids).drop ((tl++t.kids).length-length (getD g.2 t.rule.toNat d0).2)) (getD g.2 t.rule.toNat d0).2
     then goT g s us ((tl++t.kids).take ((tl++t.kids).length-length (getD g.2 t.rule.toNat d0).2)++[GTree.node (getD g.2 t.rule.toNat d0).1 t.rule ((tl++t.kids).drop ((tl++t.kids).length-length (getD g.2 t.rule.toNat d0).2))]) ((pre.length:Int)+((t.kids.flatMap (yldP m)).length:Int))else none)=_
    rw[hlen,List.drop_left,List.take_left,n2,tEta,andd.2 ⟨ble_iff.2 (by rw[length_append];have n3:t.kids.length=length (getD g.2 t.rule.toNat d0).2:=n3;omega),kidsL_yes h⟩];rfl
  ·rw[hsm,cond_true]at h hy hst;obtain⟨c,e,_⟩:=smallS_one hsm;unfold leafOk at h;rw[andd,dec_iff]at h;have hk:t.kids=[]:=List.length_eq_zero_iff.1 (zB h.2);rw[hy,e]at hs ⊢;rw[hst];have hlen:(pre.length:Int)<(s.length:Int):=by rw[hs];simp only[length_append,length_cons,List.length_nil];omega
   have c1:c1T (1,0) (pre.length:Int) s=true:=by
    unfold c1T;rw[zT hlen];rfl
   show goT g s ((1,0)::us) tl (pre.length:Int)=_;rw[goT_cons,c1,cond_true];have hc:s.getD ((pre.length:Int)).toNat 0=c:=by
    rw[hs,show ((pre.length:Int)).toNat=pre.length by omega,zG,getElem?_append_right (Nat.le_refl _),Nat.sub_self];rfl
   have ht:GTree.node [c] (-1) []=t:=by
    conv=>rhs;rw[← tEta t,e,h.1,hk]
   rw[hc,ht];show _=goT g s us (tl++[t]) ((pre.length:Int)+((1:Nat):Int));rfl
theorem go_all {g:Gram} {t:GTree} {d m:Nat} (h:shapeT g d t=true) (h9:kid9 m t=true) (hs:t.sign=g.1):goT g (yldP m t) (stV m t++sE) [] 0=some t:=by
 have h1:=go_tree (g:=g) (s:=yldP m t) (pre:=[]) (post:=[]) (us:=sE) (tl:=[]) h h9 (by simp);rw[show ((([]:Str).length:Nat):Int)=0 from rfl]at h1;rw[h1];show goT g (yldP m t) ((3,0)::[]) [t] (0+((yldP m t).length:Int))=_;rw[goT_cons,Int.zero_add];have c1:c1T (3,0) ((yldP m t).length:Int) (yldP m t)=false:=rfl;have c2:c2T (3,0) g=false:=rfl;have c4:(bif c4T (3,0) (List.isEmpty ([]:List Stp)) ((yldP m t).length:Int) (yldP m t) [t] then decide ((getD [t] 0 tz).sign=g.1)else false)=true:=by
  unfold c4T;rw[zT (rfl:((yldP m t).length:Int)=((yldP m t).length:Int))];show decide (t.sign=g.1)=true;exact zT hs
 rw[c1,c2,c4];rfl
theorem st_many {g:Gram}:∀ {d m:Nat} {t:GTree},shapeT g d t=true→kid9 m t=true→(stV m t).length=manyT d t∧(stV m t).length=szT m t∧l7V m t=stV m t
 |0,_,_,h,_=>by cases h
 |d+1,0,_,_,h=>by cases h
 |d+1,m+1,t,h,h9=>by
  obtain⟨_,_,h3⟩:=kid9_iff.1 h9;have h:(bif smallS t.sign then leafOk t else bif nodeOk g t then kidsL (shapeT g d) t.kids (rgt g t.rule)else false)=true:=h;show(bif smallS t.sign then sR else t.kids.flatMap (stV m)++sD t.rule).length=1+sumT (manyT d) t.kids∧(bif smallS t.sign then sR else t.kids.flatMap (stV m)++sD t.rule).length=1+sumT (szT m) t.kids∧(bif decide (t.rule<0)then sR else t.kids.flatMap (l7V m)++sD t.rule)=(bif smallS t.sign then sR else t.kids.flatMap (stV m)++sD t.rule)
  cases hsm:smallS t.sign
  ·rw[hsm,cond_false]at h
   cases hn:nodeOk g t
   ·rw[hn]at h;cases h
   ·rw[hn,cond_true]at h;obtain⟨n1,_,_⟩:=node_iff hn;have hi:=inb_iff.1 n1;have hk:=kidsL_each2 h;rw[zF (by omega:¬t.rule<0)];have main:∀ {ks:List GTree},(∀k∈ks,shapeT g d k=true)→(∀k∈ks,kid9 m k=true)→(ks.flatMap (stV m)).length=sumT (manyT d) ks∧(ks.flatMap (stV m)).length=sumT (szT m) ks∧ks.flatMap (l7V m)=ks.flatMap (stV m):=by
     intro ks
     induction ks with
     |nil=>exact fun _ _=>⟨rfl,rfl,rfl⟩
     |cons k ks ih =>
      intro a b;obtain⟨i1,i2,i3⟩:=ih (fun x hx=>a x (mem_cons_of_mem _ hx)) (fun x hx=>b x (mem_cons_of_mem _ hx));obtain⟨j1,j2,j3⟩:=st_many (a k mem_cons_self) (b k mem_cons_self);refine⟨?_, ?_, ?_⟩
      ·rw[List.flatMap_cons,length_append,i1,j1];rfl
      ·rw[List.flatMap_cons,length_append,i2,j2];rfl
      ·rw[List.flatMap_cons,List.flatMap_cons,i3,j3]
    obtain⟨m1,m2,m3⟩:=main hk h3;refine⟨?_, ?_, ?_⟩
    ·show (t.kids.flatMap (stV m)++sD t.rule).length=_;rw[length_append,m1];show sumT (manyT d) t.kids+1=_;omega
    ·show (t.kids.flatMap (stV m)++sD t.rule).length=_;rw[length_append,m2];show sumT (szT m) t.kids+1=_;omega
    ·show t.kids.flatMap (l7V m)++sD t.rule=_;rw[m3];rfl
  ·rw[hsm,cond_true]at h;unfold leafOk at h;rw[andd,dec_iff]at h;have hk:t.kids=[]:=List.length_eq_zero_iff.1 (zB h.2);rw[hk,zT (by omega:t.rule<0)];exact⟨rfl,rfl,rfl⟩
theorem y_spec_DrawStepsOf (l:List Int):evFn (cxOf Γ78 Tryd.f12.ntmps [] [] [] []) Tryd.f12 true [ofD TB l] []=(
some ((.tup [(.agg [(.r (.v (Value.string (mk (F_spec_DrawTreeOk l).fst.fst)))),(.r (.li TRu ((F_spec_DrawTreeOk l).fst.snd)))]),(.agg [(.r (.v (Value.string (mk (F_spec_DrawTreeOk l).snd.sign)))),(.r (.v (Value.int IntKind.i64 (F_spec_DrawTreeOk l).snd.rule))),(.r (.li (Ty.tree) ((F_spec_DrawTreeOk l).snd.kids)))])]),[])):=by kernel_rfl
theorem s_spec_DrawStepsOf (l:List Int) (_hl:Fit TB l):Sat Tryd.prog 12 [ofD TB l] [] (.tup [ofD TG (F_spec_DrawTreeOk l).1,ofD .tree (F_spec_DrawTreeOk l).2]) [] :=
 fn_sound (cx:=cxOf Γ78 Tryd.f12.ntmps [] [] [] []) Tryd.func12 rfl ttOk Γ78ok mixed (fun _ _=>LoopsOk.no fun _=>rfl) (ro:=true) (by
  rw[y_spec_DrawStepsOf];rfl)
def c_spec_DrawStepsOf:Con:=conT [TB] fun(l:List Int)=>(none, .tup [ofD TG (F_spec_DrawTreeOk l).1,ofD .tree (F_spec_DrawTreeOk l).2])
theorem k_spec_DrawStepsOf:ConOk Tryd.prog 12 c_spec_DrawStepsOf:=conT_ok Tryd.call12 fun l hl _=>s_spec_DrawStepsOf l hl
def Γ79:GL:=(12,c_spec_DrawStepsOf)::Γ78
theorem Γ79ok:GO Γ79 := .cons k_spec_DrawStepsOf Γ78ok
theorem y_laws_FnStepsOf (l:List Int):evFn ((cxOf Γ79 Tryd.f4.ntmps [] [] [] []).parted [8,9,11]) Tryd.f4 true [ofD TB l] []=(
branch (decide (1048576<(l.length:Int))) ( some ((vB true),[])) (
 need (kid9 12 (GTree.node (F_spec_DrawTreeOk l).snd.sign (F_spec_DrawTreeOk l).snd.rule (F_spec_DrawTreeOk l).snd.kids)) <|
 need (decide ((soV (stV 12) (F_spec_DrawTreeOk l).fst (GTree.node (F_spec_DrawTreeOk l).snd.sign (F_spec_DrawTreeOk l).snd.rule (F_spec_DrawTreeOk l).snd.kids)).length≤2000000000000)) <|
 need (kid9 12 (GTree.node (F_spec_DrawTreeOk l).snd.sign (F_spec_DrawTreeOk l).snd.rule (F_spec_DrawTreeOk l).snd.kids)) <|
 need (decide ((soV (l7V 12) (F_spec_DrawTreeOk l).fst (GTree.node (F_spec_DrawTreeOk l).snd.sign (F_spec_DrawTreeOk l).snd.rule (F_spec_DrawTreeOk l).snd.kids)).length≤2000000000000)) <|
 branch (!decide ((List.flatMap txS (soV (stV 12) (F_spec_DrawTreeOk l).fst (GTree.node (F_spec_DrawTreeOk l).snd.sign (F_spec_DrawTreeOk l).snd.rule (F_spec_DrawTreeOk l).snd.kids)))=(List.flatMap txS (soV (l7V 12) (F_spec_DrawTreeOk l).fst (GTree.node (F_spec_DrawTreeOk l).snd.sign (F_spec_DrawTreeOk l).snd.rule (F_spec_DrawTreeOk l).snd.kids))))) ( some ((vB false),[])) (
 need (kid9 12 (GTree.node (F_spec_DrawTreeOk l).snd.sign (F_spec_DrawTreeOk l).snd.rule (F_spec_DrawTreeOk l).snd.kids)) <|
 branch (decide (decide (((soV (stV 12) (F_spec_DrawTreeOk l).fst (GTree.node (F_spec_DrawTreeOk l).snd.sign (F_spec_DrawTreeOk l).snd.rule (F_spec_DrawTreeOk l).snd.kids)).length:Int)=0)=false)) (
  branch (bif false then true else decide (8<(length (yldP 12 (GTree.node (F_spec_DrawTreeOk l).snd.sign (F_spec_DrawTreeOk l).snd.rule (F_spec_DrawTreeOk l).snd.kids)):Int))) (
  branch (decide (decide (0<((soV (stV 12) (F_spec_DrawTreeOk l).fst (GTree.node (F_spec_DrawTreeOk l).snd.sign (F_spec_DrawTreeOk l).snd.rule (F_spec_DrawTreeOk l).snd.kids)).length:Int))=false)) (
   branch (decide ((bif false then true else !okT (F_spec_DrawTreeOk l).fst (GTree.node (F_spec_DrawTreeOk l).snd.sign (F_spec_DrawTreeOk l).snd.rule (F_spec_DrawTreeOk l).snd.kids))=false)) ( some ((vB (bif false then true else !decide ((F_spec_DrawTreeOk l).snd.sign=(F_spec_DrawTreeOk l).fst.fst))),[])) ( some ((vB true),[]))) ( some ((vB true),[]))) (
  need (both2 (F_spec_DrawTreeOk l).fst (yldP 12 (GTree.node (F_spec_DrawTreeOk l).snd.sign (F_spec_DrawTreeOk l).snd.rule (F_spec_DrawTreeOk l).snd.kids))&&(decide ((soV (stV 12) (F_spec_DrawTreeOk l).fst (GTree.node (F_spec_DrawTreeOk l).snd.sign (F_spec_DrawTreeOk l).snd.rule (F_spec_DrawTreeOk l).snd.kids)).length≤201)&&isGo (F_spec_DrawTreeOk l).fst (yldP 12 (GTree.node (F_spec_DrawTreeOk l).snd.sign (F_spec_DrawTreeOk l).snd.rule (F_spec_DrawTreeOk l).snd.kids)) (soV (stV 12) (F_spec_DrawTreeOk l).fst (GTree.node (F_spec_DrawTreeOk l).snd.sign (F_spec_DrawTreeOk l).snd.rule (F_spec_DrawTreeOk l).snd.kids)) [] 0)) <|
  need (depB 40 (GTree.node ((goT (F_spec_DrawTreeOk l).fst (yldP 12 (GTree.node (F_spec_DrawTreeOk l).snd.sign (F_spec_DrawTreeOk l).snd.rule (F_spec_DrawTreeOk l).snd.kids)) (soV (stV 12) (F_spec_DrawTreeOk l).fst (GTree.node (F_spec_DrawTreeOk l).snd.sign (F_spec_DrawTreeOk l).snd.rule (F_spec_DrawTreeOk l).snd.kids)) [] 0).getD tz).sign ((goT (F_spec_DrawTreeOk l).fst (yldP 12 (GTree.node (F_spec_DrawTreeOk l).snd.sign (F_spec_DrawTreeOk l).snd.rule (F_spec_DrawTreeOk l).snd.kids)) (soV (stV 12) (F_spec_DrawTreeOk l).fst (GTree.node (F_spec_DrawTreeOk l).snd.sign (F_spec_DrawTreeOk l).snd.rule (F_spec_DrawTreeOk l).snd.kids)) [] 0).getD tz).rule ((goT (F_spec_DrawTreeOk l).fst (yldP 12 (GTree.node (F_spec_DrawTreeOk l).snd.sign (F_spec_DrawTreeOk l).snd.rule (F_spec_DrawTreeOk l).snd.kids)) (soV (stV 12) (F_spec_DrawTreeOk l).fst (GTree.node (F_spec_DrawTreeOk l).snd.sign (F_spec_DrawTreeOk l).snd.rule (F_spec_DrawTreeOk l).snd.kids)) [] 0).getD tz).kids)) <|
  branch (decide ((bif true then eqT 40 (GTree.node ((goT (F_spec_DrawTreeOk l).fst (yldP 12 (GTree.node (F_spec_DrawTreeOk l).snd.sign (F_spec_DrawTreeOk l).snd.rule (F_spec_DrawTreeOk l).snd.kids)) (soV (stV 12) (F_spec_DrawTreeOk l).fst (GTree.node (F_spec_DrawTreeOk l).snd.sign (F_spec_DrawTreeOk l).snd.rule (F_spec_DrawTreeOk l).snd.kids)) [] 0).getD tz).sign ((goT (F_spec_DrawTreeOk l).fst (yldP 12 (GTree.node (F_spec_DrawTreeOk l).snd.sign (F_spec_DrawTreeOk l).snd.rule (F_spec_DrawTreeOk l).snd.kids)) (soV (stV 12) (F_spec_DrawTreeOk l).fst (GTree.node (F_spec_DrawTreeOk l).snd.sign (F_spec_DrawTreeOk l).snd.rule (F_spec_DrawTreeOk l).snd.kids)) [] 0).getD tz).rule ((goT (F_spec_DrawTreeOk l).fst (yldP 12 (GTree.node (F_spec_DrawTreeOk l).snd.sign (F_spec_DrawTreeOk l).snd.rule (F_spec_DrawTreeOk l).snd.kids)) (soV (stV 12) (F_spec_DrawTreeOk l).fst (GTree.node (F_spec_DrawTreeOk l).snd.sign (F_spec_DrawTreeOk l).snd.rule (F_spec_DrawTreeOk l).snd.kids)) [] 0).getD tz).kids) (GTree.node (F_spec_DrawTreeOk l).snd.sign (F_spec_DrawTreeOk l).snd.rule (F_spec_DrawTreeOk l).snd.kids)else false)=true)) (
   need (kid9 12 (GTree.node (F_spec_DrawTreeOk l).snd.sign (F_spec_DrawTreeOk l).snd.rule (F_spec_DrawTreeOk l).snd.kids)&&Nat.ble 12 12) <| some ((vB (bif true then decide (((soV (stV 12) (F_spec_DrawTreeOk l).fst (GTree.node (F_spec_DrawTreeOk l).snd.sign (F_spec_DrawTreeOk l).snd.rule (F_spec_DrawTreeOk l).snd.kids)).length:Int)=W64 ((szT 12 (GTree.node (F_spec_DrawTreeOk l).snd.sign (F_spec_DrawTreeOk l).snd.rule (F_spec_DrawTreeOk l).snd.kids):Int)+1))else false)),[])) ( some ((vB false),[])))) (
  branch (decide (decide (0<((soV (stV 12) (F_spec_DrawTreeOk l).fst (GTree.node (F_spec_DrawTreeOk l).snd.sign (F_spec_DrawTreeOk l).snd.rule (F_spec_DrawTreeOk l).snd.kids)).length:Int))=false)) (
  branch (decide ((bif false then true else !okT (F_spec_DrawTreeOk l).fst (GTree.node (F_spec_DrawTreeOk l).snd.sign (F_spec_DrawTreeOk l).snd.rule (F_spec_DrawTreeOk l).snd.kids))=false)) ( some ((vB (bif false then true else !decide ((F_spec_DrawTreeOk l).snd.sign=(F_spec_DrawTreeOk l).fst.fst))),[])) ( some ((vB true),[]))) ( some ((vB true),[])))))):=by kernel_rfl
theorem s_laws_FnStepsOf (l:List Int) (hl:Fit TB l):Sat Tryd.prog 4 [ofD TB l] [] (.d (ofD .bool true)) [] :=
 fn_sound (cx:=((cxOf Γ79 Tryd.f4.ntmps [] [] [] []).parted [8,9,11])) Tryd.func4 rfl ttOk Γ79ok mixed (fun _ _=>LoopsOk.no fun _=>rfl) (ro:=true) (by
  rw[y_laws_FnStepsOf];obtain⟨_,ht⟩:=p_spec_DrawTreeOk l hl
  generalize F_spec_DrawTreeOk l=v at ht
  obtain⟨g,t⟩:=v;have ht:tOkW t=true:=ht;have h9:=tOkW_kid9 ht;simp only[tEta];rw[h9];have hsh:okT g t=true→shapeT g 20 t=true∧manyT 20 t≤60:=fun h=>by
   unfold okT at h;rw[andd,andd,ble_iff]at h;exact h.2
  have hso:soV (l7V 12) g t=soV (stV 12) g t:=by
   unfold soV
   cases hok:okT g t
   ·rw[Bool.false_and,cond_false,cond_false]
   ·rw[(st_many (hsh hok).1 h9).2.2]
  rw[hso]
  generalize decide (1048576<(length l:Int))=b0
  cases b0
  case true=>rfl
  case false =>
  cases hc:(okT g t&&decide (t.sign=g.1))
  ·have e:soV (stV 12) g t=[]:=by unfold soV;rw[hc];rfl
   rw[e]
   cases hok:okT g t
   ·rfl
   ·rw[hok,Bool.true_and]at hc;rw[hc];rfl
  ·obtain ⟨hok,hsg⟩:=andd.1 hc;have e:soV (stV 12) g t=stV 12 t++sE:=by unfold soV;rw[hc];rfl
   obtain⟨h1,h2⟩:=hsh hok;obtain⟨m1,m2,_⟩:=st_many h1 h9;have hlen:(stV 12 t++sE).length=szT 12 t+1:=by rw[length_append,m2];rfl
   have hle:szT 12 t≤60:=by omega
   have hgo:=go_all h1 h9 (dec_iff.1 hsg);have his:isGo g (yldP 12 t) (stV 12 t++sE) [] 0=true:=by unfold isGo;rw[hgo];rfl
   have hd:depB 40 t=true:=kid9_dep (kid9_le (by omega) h9);have hq:eqT 40 t t=true:=eqT_self hd;rw[e,his,hgo,hlen,zT (by omega:szT 12 t+1≤2000000000000),zT (rfl:List.flatMap txS (stV 12 t++sE)=List.flatMap txS (stV 12 t++sE)),zF (by omega:¬((szT 12 t+1:Nat):Int)=0),zT (by omega:(0:Int)<((szT 12 t+1:Nat):Int))];have hle2:szT 12 t+1≤201:=by omega
   have w:W64 (((szT 12 t:Nat):Int)+1)=((szT 12 t:Nat):Int)+1:=wrap_small (by omega) (by omega);have w3:((szT 12 t+1:Nat):Int)=((szT 12 t:Nat):Int)+1:=by omega
   have hb:¬(8:Int)<((yldP 12 t).length:Int)→both2 g (yldP 12 t)=true:=fun h8=>by
    unfold okT at hok;rw[andd]at hok;unfold both2;rw[b2,andd,areSm_iff];exact⟨hok.1,by omega,all_eq_true.2 fun c hc=>yld_small hc⟩
   rw[w,w3,zT hle2,zT (rfl:((szT 12 t:Nat):Int)+1=((szT 12 t:Nat):Int)+1),Option.getD_some,hd,hq]
   generalize yldP 12 t=y at hb
   clear hgo his
   by_cases h8:(8:Int)<(y.length:Int)
   ·rw[zT h8];rfl
   ·rw[zF h8,hb h8];rfl)
end
end Go.Proofs.YtkhhclpkljikkaaDoor.Ev
