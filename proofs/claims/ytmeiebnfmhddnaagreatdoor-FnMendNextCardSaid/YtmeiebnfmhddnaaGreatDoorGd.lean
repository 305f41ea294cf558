/-
  The reader of draws.
-/
import Derived.Test.YtmeiebnfmhddnaaGreatDoorGc
namespace Go.Proofs.YtmeiebnfmhddnaaGreatDoor.Ev
open Go
noncomputable section
abbrev TB:Ty := .list (.int .u8)
abbrev Rd:Type:=List Int×Int
def mixM (l:List Int) (p:Int):Int :=
 W64 (W64 (W64 (W64 (W64 (l.getD (p.tmod (l.length:Int)).toNat 0)*131)+W64 (W64 (l.getD ((W64 (W64 (p*7)+3)).tmod (l.length:Int)).toNat 0)*1117))+W64 (p*29))+W64 (W64 (p.tdiv (l.length:Int))*53))
def mixV (l:List Int) (p:Int):Int:=W64 (((BitVec.ofInt 64 (mixM l p)) ^^^ (BitVec.ofInt 64 (W64 ((mixM l p).tdiv 64)))).toNat:Int)
def pickV (x:Rd) (n:Int):Int :=
 bif (bif decide (n<1)then true else decide ((x.1.length:Int)=0))then 0 else
 bif decide (x.2<(x.1.length:Int))then(W64 (x.1.getD x.2.toNat 0)).tmod n else(mixV x.1 x.2).tmod n
def rdGo (x:Rd) (k:Int):Rd:=(x.1,x.2+k)
def rdOk (x:Rd):Bool:=decide (0≤x.2)&&decide (x.2≤10000001000000)
theorem rem_range {m n:Int} (h0:0≤m) (h1:1≤n):0≤m.tmod n∧m.tmod n<n:=⟨Int.tmod_nonneg _ h0,Int.tmod_lt_of_pos _ (by omega)⟩
theorem mixV_nonneg {l:List Int} {p:Int} (hl:∀b∈l,0≤b∧b≤255) (h0:0≤p) (h1:p≤10000001000000) (hn:l≠[]):0≤mixV l p:=by
 have hlen:1≤(l.length:Int):=by cases l with | nil=>exact absurd rfl hn | cons a l=>simp;omega
 have hb:∀i:Nat,0≤l.getD i 0∧l.getD i 0≤255:=fun i=>by
  rw[List.getD_eq_getElem?_getD]
  cases h:l[i]? with
  |none=>simp
  |some b=>simpa using hl b (List.mem_of_getElem? h)
 have b1:=hb (p.tmod (l.length:Int)).toNat
 have b2:=hb ((W64 (W64 (p*7)+3)).tmod (l.length:Int)).toNat
 have hd:0≤p.tdiv (l.length:Int)∧p.tdiv (l.length:Int)≤p:=by
  constructor
  ·exact Int.tdiv_nonneg h0 (by omega)
  ·rw[Int.tdiv_eq_ediv_of_nonneg h0];exact Int.ediv_le_self _ h0
 have hm:0≤mixM l p∧mixM l p≤10000000000000000:=by
  unfold mixM
  generalize l.getD (p.tmod (l.length:Int)).toNat 0=c1 at b1 ⊢
  generalize l.getD ((W64 (W64 (p*7)+3)).tmod (l.length:Int)).toNat 0=c2 at b2 ⊢
  generalize p.tdiv (l.length:Int)=d at hd ⊢
  simp only[W64]
  rw[wrap_small (n:=c1) (by omega) (by omega),wrap_small (n:=c2) (by omega) (by omega),wrap_small (n:=d) (by omega) (by omega),
   wrap_small (n:=c1*131) (by omega) (by omega),wrap_small (n:=c2*1117) (by omega) (by omega),wrap_small (n:=p*29) (by omega) (by omega),wrap_small (n:=d*53) (by omega) (by omega),
   wrap_small (n:=c1*131+c2*1117) (by omega) (by omega),wrap_small (n:=c1*131+c2*1117+p*29) (by omega) (by omega),wrap_small (n:=c1*131+c2*1117+p*29+d*53) (by omega) (by omega)]
  omega
 unfold mixV
 generalize mixM l p=m at hm ⊢
 have hq:0≤m.tdiv 64∧m.tdiv 64≤m:=⟨Int.tdiv_nonneg hm.1 (by omega),by rw[Int.tdiv_eq_ediv_of_nonneg hm.1];exact Int.ediv_le_self _ hm.1⟩
 simp only[W64]
 rw[wrap_small (n:=m.tdiv 64) (by omega) (by omega)]
 generalize m.tdiv 64=q at hq ⊢
 have hx:(BitVec.ofInt 64 m ^^^ BitVec.ofInt 64 q).toNat<2 ^ 63:=by
  rw[BitVec.toNat_xor]
  apply Nat.xor_lt_two_pow
  ·rw[BitVec.toNat_ofInt];omega
  ·rw[BitVec.toNat_ofInt];omega
 rw[wrap_small (by omega) (by omega)]
 omega
theorem byteFit {l:List Int} (h:Fit TB l):∀b∈l,0≤b∧b≤255:=fun b hb=>by
 have:IntKind.u8.wrap b=b:=h.2 b hb
 rw[IntKind.wrap_u8]at this
 omega
def BY (x:Rd):Prop:=∀b∈x.1,0≤b∧b≤255
def byB (x:Rd):Bool:=x.1.all fun b=>decide (0≤b∧b≤255)
theorem byB_iff {x:Rd}:byB x=true↔BY x:=by unfold byB BY;rw[List.all_eq_true];exact ⟨fun h b hb=>of_decide_eq_true (h b hb),fun h b hb=>decide_eq_true (h b hb)⟩
theorem pickV_range {x:Rd} {n:Int} (hx:BY x) (hk:rdOk x=true) (hn:1≤n):0≤pickV x n∧pickV x n<n:=by
 simp only[rdOk,Bool.and_eq_true,decide_eq_true_eq]at hk
 unfold pickV
 rw[decide_eq_false (by omega:¬n<1),cond_false]
 by_cases h:(x.1.length:Int)=0
 ·rw[decide_eq_true h,cond_true];omega
 ·rw[decide_eq_false h,cond_false]
  by_cases h2:x.2<(x.1.length:Int)
  ·rw[decide_eq_true h2,cond_true]
   have hlt:x.2.toNat<x.1.length:=by omega
   have:=hx x.1[x.2.toNat] (List.getElem_mem hlt)
   rw[List.getD_eq_getElem?_getD,List.getElem?_eq_getElem hlt]
   simp only[Option.getD_some,W64]
   rw[wrap_small (by omega) (by omega)]
   exact rem_range this.1 hn
  ·rw[decide_eq_false h2,cond_false]
   exact rem_range (mixV_nonneg hx hk.1 hk.2 (fun e=>by rw[e]at h;exact h rfl)) hn
abbrev TR:Ty:=ty120
theorem y_pick (x:Rd) (n:Int):evFn (cxOf Γ10 Tryz.f66.ntmps [] [] [] []) Tryz.f66 false [.one (.ptr 0 0),ofD (.int .i64) n] [boxD 120 TR x] =
  branch (bif decide (n<1)then true else decide ((x.1.length:Int)=0)) (some (.d (ofD TI64 (0:Int)),[(0,some (boxD 120 TR ((x.1,W64 (x.2+1)):Rd)))]))
  (branch (decide (W64 (W64 (x.2+1)-1)<(x.1.length:Int)))
   (need (inb (W64 (W64 (x.2+1)-1)) x.1.length) <| need (!decide (n=0)) <| some (.d (ofD TI64 ((W64 (x.1.getD (W64 (W64 (x.2+1)-1)).toNat 0)).tmod n)),[(0,some (boxD 120 TR ((x.1,W64 (x.2+1)):Rd)))]))
   (need (!decide ((x.1.length:Int)=0)) <| need (inb ((W64 (W64 (x.2+1)-1)).tmod (x.1.length:Int)) x.1.length) <| need (!decide ((x.1.length:Int)=0)) <|
    need (inb ((W64 (W64 (W64 (W64 (x.2+1)-1)*7)+3)).tmod (x.1.length:Int)) x.1.length) <| need (!decide ((x.1.length:Int)=0)) <| need (!decide ((64:Int)=0)) <| need (!decide (n=0)) <|
    some (.d (ofD TI64 ((mixV x.1 (W64 (W64 (x.2+1)-1))).tmod n)),[(0,some (boxD 120 TR ((x.1,W64 (x.2+1)):Rd)))]))):=by kernel_rfl
theorem s_pick (x:Rd) (n:Int) (hk:rdOk x=true):Sat Tryz.prog 66 [.one (.ptr 0 0),ofD (.int .i64) n] [boxD 120 TR x] (.d (ofD TI64 (pickV x n))) [(0,some (boxD 120 TR (rdGo x 1)))] :=
 fn_sound (cx:=cxOf Γ10 Tryz.f66.ntmps [] [] [] []) Tryz.func66 rfl ttOk Γ10ok mixed (fun c hc=>LoopsOk.nil (by cases hc;kernel_rfl)) (ro:=false) (by
  simp only[rdOk,Bool.and_eq_true,decide_eq_true_eq]at hk
  have e1:W64 (W64 (x.2+1)-1)=x.2:=by
   simp only[W64]
   rw[wrap_small (n:=x.2+1) (by omega) (by omega),wrap_small (by omega) (by omega)];omega
  have e2:W64 (W64 (x.2*7)+3)=x.2*7+3:=by
   simp only[W64]
   rw[wrap_small (n:=x.2*7) (by omega) (by omega),wrap_small (by omega) (by omega)]
  have e3:W64 (x.2+1)=x.2+1:=wrap_small (by omega) (by omega)
  rw[y_pick,e1,e2,e3]
  unfold pickV
  cases hc:(bif decide (n<1)then true else decide ((x.1.length:Int)=0))
  ·have hn:¬n<1∧¬(x.1.length:Int)=0:=by
    constructor
    ·intro h;rw[decide_eq_true h]at hc;cases hc
    ·intro h;rw[decide_eq_true h]at hc;cases hd:decide (n<1)<;>rw[hd]at hc<;>cases hc
   rw[branch_false,cond_false]
   have hlen:1≤(x.1.length:Int):=by omega
   by_cases h2:x.2<(x.1.length:Int)
   ·rw[decide_eq_true h2,branch_true,cond_true,inb_ok hk.1 h2,decide_eq_false (by omega:¬n=0)]
    rfl
   ·have r1:=rem_range (m:=x.2) hk.1 hlen
    have r2:=rem_range (m:=x.2*7+3) (by omega) hlen
    rw[decide_eq_false h2,branch_false,cond_false,decide_eq_false hn.2,inb_ok r1.1 r1.2,inb_ok r2.1 r2.2,decide_eq_false (by omega:¬n=0)]
    rfl
  ·rfl)
def c_spec_l17Rd_pick:Con:=conB 120 TR [TI64] fun x n=>(some (rdOk x), .d (ofD TI64 (pickV x n)),(rdGo x 1))
theorem k_spec_l17Rd_pick:ConOk Tryz.prog 66 c_spec_l17Rd_pick:=conB_ok Tryz.call66 fun x _ n _ h=>s_pick x n (by
 rcases h with h | h
 ·cases h
 ·exact Option.some.inj h)
def Γ11:GL:=(66,c_spec_l17Rd_pick)::Γ10
theorem Γ11ok:GO Γ11 := .cons k_spec_l17Rd_pick Γ10ok
abbrev TIS:Ty := .list (.int .i64)
def rdAt (x:Rd) (k:Int):Bool:=decide (0≤x.2)&&decide (x.2≤k)
def Adv (x x':Rd) (c:Int):Prop:=x'.1=x.1∧x.2≤x'.2∧x'.2≤x.2+c
theorem rdAt_iff {x:Rd} {k:Int}:rdAt x k=true↔0≤x.2∧x.2≤k:=by unfold rdAt;rw[Bool.and_eq_true,decide_eq_true_eq,decide_eq_true_eq]
theorem rdOk_iff {x:Rd}:rdOk x=true↔0≤x.2∧x.2≤10000001000000:=rdAt_iff
theorem Adv.ok {x x':Rd} {c k:Int} (h:Adv x x' c) (hk:rdAt x k=true) (hc:k+c≤10000001000000):rdOk x'=true:=by
 have:=rdAt_iff.1 hk
 obtain⟨_,h1,h2⟩:=h
 exact rdOk_iff.2 ⟨by omega,by omega⟩
theorem Adv.at {x x':Rd} {c k k':Int} (h:Adv x x' c) (hk:rdAt x k=true) (hc:k+c≤k'):rdAt x' k'=true:=by
 have:=rdAt_iff.1 hk
 obtain⟨_,h1,h2⟩:=h
 exact rdAt_iff.2 ⟨by omega,by omega⟩
theorem Adv.refl (x:Rd):Adv x x 0:=⟨rfl,by omega,by omega⟩
theorem Adv.one (x:Rd):Adv x (rdGo x 1) 1:=⟨rfl,by simp only[rdGo];omega,by simp only[rdGo];omega⟩
theorem Adv.trans {x y z:Rd} {c d:Int} (h:Adv x y c) (g:Adv y z d):Adv x z (c+d):=⟨g.1.trans h.1,Int.le_trans h.2.1 g.2.1,by have:=h.2.2;have:=g.2.2;omega⟩
theorem Adv.le {x y:Rd} {c d:Int} (h:Adv x y c) (hc:c≤d):Adv x y d:=⟨h.1,h.2.1,by have:=h.2.2;omega⟩
theorem Adv.fit {x y:Rd} {c k:Int} (h:Adv x y c) (hx:Fit (.pair TB TI64) x) (hk:rdAt x k=true) (hc:k+c≤10000001000000):Fit (.pair TB TI64) y:=by
 have:=rdAt_iff.1 hk
 obtain⟨h0,h1,h2⟩:=h
 exact⟨by rw[h0];exact hx.1,wrap_small (by omega) (by omega)⟩
def numV (x:Rd) (l:List Int):Int:=l.getD (pickV x l.length).toNat 0
theorem y_num (x:Rd) (l:List Int):evFn (cxOf Γ11 Tryz.f69.ntmps [] [] [] []) Tryz.f69 false [.one (.ptr 0 0), .one (.own 1)] [boxD 120 TR x, .lis 3 TI64 l] =
 need (rdOk x) (need (inb (pickV x l.length) l.length) (some (vI (numV x l),[(0,some (boxD 120 TR (rdGo x 1))),(1,some (.lis 3 TI64 l))]))):=by kernel_rfl
theorem s_num (x:Rd) (l:List Int) (hx:Fit TR x) (hk:rdOk x=true) (hl:0<l.length):Sat Tryz.prog 69 [.one (.ptr 0 0), .one (.own 1)] [boxD 120 TR x, .lis 3 TI64 l] (vI (numV x l)) [(0,some (boxD 120 TR (rdGo x 1))),(1,some (.lis 3 TI64 l))] :=
 fn_sound (cx:=cxOf Γ11 Tryz.f69.ntmps [] [] [] []) Tryz.func69 rfl ttOk Γ11ok mixed (fun c hc=>LoopsOk.nil (by cases hc;kernel_rfl)) (ro:=false) (by
  have r:=pickV_range (n:=l.length) (byteFit hx.1) hk (by omega)
  rw[y_num,hk,inb_ok r.1 r.2];rfl)
def c_spec_l17Rd_num:Con:=⟨false,fun ds os=>match ds,os with
 | [.one (.ptr 0 0), .one (.own 1)],[b,o]=>match exBox 120 TR (some b),exLis 3 TI64 (some o)with
  |some x,some l=>some (some (rdOk x&&Nat.blt 0 (List.length l)),vI (numV x l),[(0,some (boxD 120 TR (rdGo x 1))),(1,some (.lis 3 TI64 l))])
  |_,_=>none
 |_,_=>none⟩
theorem box_fit {P:Program} {f:FuncId} {t:TypeId} {s:Ty} {x:Den s} {ds:List D} {os:List Obj} {r:T} {objs:Heap} (h:Fit s x→Sat P f ds (boxD t s x::os) r objs):Sat P f ds (boxD t s x::os) r objs:=by
 intro w F β args H hds
 have h0:hOf (boxD t s x::os) 0=some (some (boxD t s x)):=by rw[hOf_eq];rfl
 exact h (cells_fit (H.obj 0 _ h0)) w F β args H hds
theorem k_spec_l17Rd_num:ConOk Tryz.prog 69 c_spec_l17Rd_num:=by
 refine⟨Tryz.call69,fun ds os c x objs hc hok => ?_⟩
 unfold c_spec_l17Rd_num at hc
 dsimp only at hc
 split at hc
 ·split at hc
  ·rename_i x l e1 e2
   cases hc
   have e1:=Option.some.inj (exBox_some e1)
   have e2:=Option.some.inj (exLis_some e2)
   subst e1;subst e2
   have hb:=pre_of hok
   rw[Bool.and_eq_true,Nat.blt_eq]at hb
   exact box_fit fun hx=>s_num x l hx hb.1 hb.2
  ·cases hc
 ·cases hc
def Γ12:GL:=(69,c_spec_l17Rd_num)::Γ11
theorem Γ12ok:GO Γ12 := .cons k_spec_l17Rd_num Γ11ok
def ofV (x:Rd) (l:List Str):Str:=l.getD (pickV x l.length).toNat []
theorem y_of (x:Rd) (l:List Str):evFn (cxOf Γ12 Tryz.f110.ntmps [] [] [] []) Tryz.f110 false [.one (.ptr 0 0), .one (.own 1)] [boxD 120 TR x, .lis 9 .str l] =
 need (rdOk x) (need (inb (pickV x l.length) l.length) (some (vS (ofV x l),[(0,some (boxD 120 TR (rdGo x 1))),(1,some (.lis 9 .str l))]))):=by kernel_rfl
theorem s_of (x:Rd) (l:List Str) (hx:Fit TR x) (hk:rdOk x=true) (hl:0<l.length):Sat Tryz.prog 110 [.one (.ptr 0 0), .one (.own 1)] [boxD 120 TR x, .lis 9 .str l] (vS (ofV x l)) [(0,some (boxD 120 TR (rdGo x 1))),(1,some (.lis 9 .str l))] :=
 fn_sound (cx:=cxOf Γ12 Tryz.f110.ntmps [] [] [] []) Tryz.func110 rfl ttOk Γ12ok mixed (fun c hc=>LoopsOk.nil (by cases hc;kernel_rfl)) (ro:=false) (by
  have r:=pickV_range (n:=l.length) (byteFit hx.1) hk (by omega)
  rw[y_of,hk,inb_ok r.1 r.2];rfl)
def c_spec_l17Rd_of:Con:=⟨false,fun ds os=>match ds,os with
 | [.one (.ptr 0 0), .one (.own 1)],[b,o]=>match exBox 120 TR (some b),exLis 9 .str (some o)with
  |some x,some l=>some (some (rdOk x&&Nat.blt 0 (List.length l)),vS (ofV x l),[(0,some (boxD 120 TR (rdGo x 1))),(1,some (.lis 9 .str l))])
  |_,_=>none
 |_,_=>none⟩
theorem k_spec_l17Rd_of:ConOk Tryz.prog 110 c_spec_l17Rd_of:=by
 refine⟨Tryz.call110,fun ds os c x objs hc hok => ?_⟩
 unfold c_spec_l17Rd_of at hc
 dsimp only at hc
 split at hc
 ·split at hc
  ·rename_i x l e1 e2
   cases hc
   have e1:=Option.some.inj (exBox_some e1)
   have e2:=Option.some.inj (exLis_some e2)
   subst e1;subst e2
   have hb:=pre_of hok
   rw[Bool.and_eq_true,Nat.blt_eq]at hb
   exact box_fit fun hx=>s_of x l hx hb.1 hb.2
  ·cases hc
 ·cases hc
def Γ13:GL:=(110,c_spec_l17Rd_of)::Γ12
theorem Γ13ok:GO Γ13 := .cons k_spec_l17Rd_of Γ12ok
abbrev vP (i:Nat):T := .d (.one (.ptr i 0))
abbrev bR (x:Rd):Option Obj:=some (boxD 120 TR x)
theorem ofV_len {x:Rd} {l:List Str} {k:Nat} (h:∀s∈l,s.length≤k):(ofV x l).length≤k:=by
 unfold ofV
 rw[List.getD_eq_getElem?_getD]
 cases hq:l[(pickV x l.length).toNat]? with
 |none=>simp
 |some s=>exact h s (List.mem_of_getElem? hq)
def fitR (x:Rd):Bool:=byB x&&Nat.ble x.1.length 9223372036854775807
theorem fitR_fit {x:Rd} {k:Int} (h:fitR x=true) (hk:rdAt x k=true) (h1:k≤10000001000000):Fit TR x:=by
 unfold fitR at h
 rw[Bool.and_eq_true,byB_iff,Nat.ble_eq]at h
 have:=rdAt_iff.1 hk
 refine⟨⟨h.2,fun (b:Int) hb => ?_⟩,wrap_small (by omega) (by omega)⟩
 have:=h.1 b hb
 show IntKind.u8.wrap b=b
 rw[IntKind.wrap_u8];omega
theorem fit_fitR {x:Rd} (h:Fit TR x):fitR x=true:=by
 unfold fitR
 rw[Bool.and_eq_true,byB_iff,Nat.ble_eq]
 exact⟨fun b hb=>byteFit h.1 b hb,h.1.1⟩
theorem fitR_adv {x x':Rd} {c:Int} (h:Adv x x' c):fitR x'=fitR x:=by unfold fitR byB;rw[h.1]
def openV (l:List Int):Rd:=(l.take 2000,0)
theorem y_spec_l17Open (l:List Int):evFn (cxOf Γ13 Tryz.f63.ntmps [] [] [] []) Tryz.f63 false [ofD TB l] []=branch (decide (2000<(l.length:Int))) (need (inr 0 2000 l.length) (some (vP 1000,[(1000,bR (l.take 2000,0))]))) (some (vP 1000,[(1000,bR (l,0))])):=by kernel_rfl
theorem s_spec_l17Open (l:List Int) (_hl:Fit TB l):Sat Tryz.prog 63 [ofD TB l] [] (vP 1000) ([(1000,bR (openV l))]) :=
 fn_sound (cx:=cxOf Γ13 Tryz.f63.ntmps [] [] [] []) Tryz.func63 rfl ttOk Γ13ok mixed (fun _ _=>LoopsOk.no fun _=>rfl) (ro:=false) (by
  rw[y_spec_l17Open];unfold openV
  by_cases h:2000<(l.length:Int)
  ·rw[decide_eq_true h,show inr 0 2000 l.length=true from decide_eq_true ⟨by omega,by omega,by omega⟩];rfl
  ·rw[decide_eq_false h,List.take_of_length_le (by omega)];rfl)
def c_spec_l17Open:Con:=conN [TB] fun(l:List Int)=>(none,vP 1000,[(1000,bR (openV l))])
theorem k_spec_l17Open:ConOk Tryz.prog 63 c_spec_l17Open:=conN_ok Tryz.call63 fun l hl _=>s_spec_l17Open l hl
def Γ14:GL:=(63,c_spec_l17Open)::Γ13
theorem Γ14ok:GO Γ14 := .cons k_spec_l17Open Γ13ok
theorem openV_by {l:List Int} (h:Fit TB l):byB (openV l)=true:=byB_iff.2 fun b hb=>byteFit h b (List.mem_of_mem_take hb)
theorem openV_at (l:List Int):rdAt (openV l) 0=true:=rfl
def l4abc:List Str:=[[97],[98],[97],[99],[98],[100]]
def cx0_l4Text:Cx:=cxOf Γ14 Tryz.f128.ntmps [(3,[0,1,5,6])] [(0,[5]),(1,[0,1,5,6]),(1000000,[4])] [] []
def sh_l4Text:Sh:=([(0, .ptr 0 0),(1, .d TI64),(5, .d .str),(6, .d TI64)],[(0, .box 120 TR)])
abbrev st_l4Text (n:Int) (s:Str) (i:Int) (x:Den TR):St:=⟨[(0, .d (.one (.ptr 0 0))),(1,vI n),(5,vS s),(6,vI i)],[(0,some (boxD 120 TR x))]⟩
def V_l4Text (n:Int) (s:Str) (i:Int) (x:Den TR):sh_l4Text.V:=((n,s,i,()),(x,()))
def out_l4Text (o:Str×Rd):St:=⟨[(5,vS o.1)],[(0,bR o.2)]⟩
def inv_l4Text (n:Int) (s:Str) (i:Int) (x:Den TR):Bool:=rdAt x (10000000999000+i)&&(decide (0≤i∧n≤1000∧i≤1000)&&decide (s.length≤i.toNat))
def post_l4Text (n:Int) (s:Str) (i:Int) (x:Den TR) (o:Str×Rd):Prop:=o.1.length≤s.length+(n-i).toNat∧Adv x o.2 ((n-i).toNat:Int)
def mu_l4Text (n:Int) (_s:Str) (i:Int) (_x:Den TR):Nat:=(n-i).toNat
theorem r_l4Text (n:Int) (s:Str) (i:Int) (x:Den TR) (hI:inv_l4Text n s i x=true):(∃o:Str×Rd,post_l4Text n s i x o∧∀(R:St→Option Fin) (K:Cont),evC cx0_l4Text (loopOf Tryz.f128 0) (st_l4Text n s i x) (onward (headAt cx0_l4Text 3) R K)=K (.exit 0) (out_l4Text o)) ∨
  (∃(n':Int) (s':Str) (i':Int) (x':Den TR),inv_l4Text n' s' i' x'=true∧mu_l4Text n' s' i' x'<mu_l4Text n s i x∧(∀o,post_l4Text n' s' i' x' o→post_l4Text n s i x o)∧∀(R:St→Option Fin) (K:Cont),evC cx0_l4Text (loopOf Tryz.f128 0) (st_l4Text n s i x) (onward (headAt cx0_l4Text 3) R K)=R (st_l4Text n' s' i' x')):=by
 have hx:∀(R:St→Option Fin) (K:Cont),evC cx0_l4Text (loopOf Tryz.f128 0) ⟨[(0,vP 0),(1,vI n),(5,vS s),(6,vI i)],[(0,bR x)]⟩ (onward (headAt cx0_l4Text 3) R K) =
  branch (decide (i<n)) (need (rdOk x&&Nat.blt 0 l4abc.length) (need (decide (s.length+(ofV x l4abc).length≤9223372036854775807)) (R ⟨[(0,vP 0),(1,vI n),(5,vS (s++ofV x l4abc)),(6,vI (W64 (i+1)))],[(0,bR (rdGo x 1))]⟩)))
   (K (.exit 0) ⟨[(5,vS s)],[(0,bR x)]⟩):=fun R K=>by kernel_rfl
 simp only[inv_l4Text,Bool.and_eq_true,decide_eq_true_eq]at hI
 obtain⟨h1,⟨h2,h3,h4⟩,h5⟩:=hI
 have hr:=rdAt_iff.1 h1
 by_cases hi:i<n
 ·right
  have e:W64 (i+1)=i+1:=wrap_small (by omega) (by omega)
  have ho:(ofV x l4abc).length≤1:=ofV_len (by decide)
  refine⟨n,s++ofV x l4abc,i+1,rdGo x 1, ?_, ?_, ?_, ?_⟩
  ·simp only[inv_l4Text,Bool.and_eq_true,decide_eq_true_eq,List.length_append]
   exact⟨(Adv.one x).at h1 (by omega),by omega,by omega⟩
  ·simp only[mu_l4Text];omega
  ·rintro o ⟨g1,g2⟩
   rw[List.length_append]at g1
   exact⟨by omega,((Adv.one x).trans g2).le (by omega)⟩
  ·intro R K
   refine(hx R K).trans ?_
   rw[decide_eq_true hi,branch_true,rdOk_iff.2 ⟨hr.1,by omega⟩,decide_eq_true (by omega:s.length+(ofV x l4abc).length≤9223372036854775807),e]
   rfl
 ·left
  refine⟨(s,x),⟨by show s.length≤s.length+_;omega,(Adv.refl x).le (by omega)⟩,fun R K => ?_⟩
  refine(hx R K).trans ?_
  rw[decide_eq_false hi];rfl
def I_l4Text:sh_l4Text.V→Bool:=fun v=>match v with | ((n,s,i,()),(x,()))=>inv_l4Text n s i x
def P_l4Text:sh_l4Text.V→Str×Rd→Prop:=fun v o=>match v with | ((n,s,i,()),(x,()))=>post_l4Text n s i x o
def M_l4Text:sh_l4Text.V→Nat:=fun v=>match v with | ((n,s,i,()),(x,()))=>mu_l4Text n s i x
theorem a_l4Text:∀v:sh_l4Text.V,I_l4Text v=true→∃o,P_l4Text v o∧∀K r,K (.exit 0) (out_l4Text o)=some r→∃N,iter (evC cx0_l4Text (loopOf Tryz.f128 0)) (headAt cx0_l4Text 3) N (sh_l4Text.mk v) K=some r :=
 loop_any (fun v=>I_l4Text v=true) P_l4Text (.exit 0) M_l4Text fun v hI=>by
  obtain⟨⟨(n:Int),(s:Str),(i:Int),⟨⟩⟩,⟨(x:Den TR),⟨⟩⟩⟩:=v
  rcases r_l4Text n s i x hI with⟨o,h1,h2⟩ | ⟨n',s',i',x',h1,h2,h3,h4⟩
  ·exact .inl ⟨o,h1,h2⟩
  ·exact .inr ⟨V_l4Text n' s' i' x',h1,h2,h3,h4⟩
def g_l4Text:St→Cont→Option Fin:=gEnd sh_l4Text I_l4Text out_l4Text (evC cx0_l4Text (loopOf Tryz.f128 0)) (headAt cx0_l4Text 3) P_l4Text (.exit 0)
def E_l4Text (n:Int) (s:Str) (i:Int) (x:Den TR):Str×Rd:=endOf sh_l4Text.mk out_l4Text (evC cx0_l4Text (loopOf Tryz.f128 0)) (headAt cx0_l4Text 3) P_l4Text (.exit 0) (V_l4Text n s i x)
theorem q_l4Text (n:Int) (s:Str) (i:Int) (x:Den TR) (hI:inv_l4Text n s i x=true):post_l4Text n s i x (E_l4Text n s i x):=(endOf_spec (a_l4Text (V_l4Text n s i x) hI)).1
def cx_l4Text:Cx:=cx0_l4Text.withLoops (look [(3,g_l4Text)])
theorem l_l4Text:∀st K r,g_l4Text st K=some r→∃N,iter (evC cx_l4Text (loopOf Tryz.f128 0)) (headAt cx_l4Text 3) N st K=some r:=with_ok (by kernel_rfl) (gEnd_ok a_l4Text)
theorem y_spec_l4Text (x:Rd) (n:Int):evFn cx_l4Text Tryz.f128 true [.one (.ptr 0 0),ofD TI64 n] [boxD 120 TR x]=need (inv_l4Text n [] 0 x) (some (.d (ofD .str (E_l4Text n [] 0 x).1),[(0,bR (E_l4Text n [] 0 x).2)])):=by kernel_rfl
theorem e_spec_l4Text (x:Rd) (n:Int) (_hx:Fit TR x) (_hn:Fit TI64 n) (hpre:(rdAt x 10000000999000&&decide (n≤1000))=true):∃q:(Str)×Rd,evFn (cx_l4Text) Tryz.f128 true [.one (.ptr 0 0),ofD TI64 n] [boxD 120 TR x]=some (.d (ofD .str q.1),[(0,some (boxD 120 TR q.2))])∧(List.length q.1≤n.toNat∧Adv x q.2 (n.toNat:Int)):=by
 obtain⟨r,h1,h2⟩:Ok (evFn (cx_l4Text) Tryz.f128 true [.one (.ptr 0 0),ofD TI64 n] [boxD 120 TR x]) (fun r=>∃(v:Str) (x':Rd),r=(.d (ofD .str v),[(0,some (boxD 120 TR x'))])∧(List.length v≤n.toNat∧Adv x x' (n.toNat:Int))):=by
  rw[Bool.and_eq_true,decide_eq_true_eq]at hpre
  have hi:inv_l4Text n [] 0 x=true:=by
   simp only[inv_l4Text,Bool.and_eq_true,decide_eq_true_eq]
   exact⟨by simpa using hpre.1,⟨by omega,hpre.2,by omega⟩,by simp⟩
  have hp:=q_l4Text n [] 0 x hi
  rw[y_spec_l4Text,hi]
  refine Ok.ret ⟨_,_,rfl, ?_⟩
  unfold post_l4Text at hp
  simpa using hp
 obtain⟨v,x',h2,h3⟩:=h2
 exact⟨(v,x'),by rw[h1,h2],h3⟩
def F_spec_l4Text (x:Rd) (n:Int):(Str)×Rd:=oneOf (fun q:(Str)×Rd=>evFn (cx_l4Text) Tryz.f128 true [.one (.ptr 0 0),ofD TI64 n] [boxD 120 TR x]=some (.d (ofD .str q.1),[(0,some (boxD 120 TR q.2))])∧(List.length q.1≤n.toNat∧Adv x q.2 (n.toNat:Int)))
theorem p_spec_l4Text (x:Rd) (n:Int) (hx:Fit TR x) (hn:Fit TI64 n) (hpre:(rdAt x 10000000999000&&decide (n≤1000))=true):List.length (F_spec_l4Text x n).1≤n.toNat∧Adv x (F_spec_l4Text x n).2 (n.toNat:Int):=(oneOf_spec (e_spec_l4Text x n hx hn hpre)).2
theorem s_spec_l4Text (x:Rd) (n:Int) (hx:Fit TR x) (hn:Fit TI64 n) (hpre:(rdAt x 10000000999000&&decide (n≤1000))=true):Sat Tryz.prog 128 [.one (.ptr 0 0),ofD TI64 n] [boxD 120 TR x] (.d (ofD .str (F_spec_l4Text x n).1)) [(0,some (boxD 120 TR (F_spec_l4Text x n).2))] :=
 fn_sound (cx:=cx_l4Text) Tryz.func128 rfl ttOk Γ14ok mixed (fun c hc=>LoopsOk.one (b:=loopOf Tryz.f128 0) (id:=3) (g:=g_l4Text) (by cases hc;kernel_rfl) rfl l_l4Text) (ro:=true) (oneOf_spec (e_spec_l4Text x n hx hn hpre)).1
def c_spec_l4Text:Con:=conB 120 TR [TI64] fun(x:Rd) (n:Int)=>(some (rdAt x 10000000999000&&decide (n≤1000)), .d (ofD .str (F_spec_l4Text x n).1),(F_spec_l4Text x n).2)
theorem k_spec_l4Text:ConOk Tryz.prog 128 c_spec_l4Text:=conB_ok Tryz.call128 fun x hx n hn hqq=>s_spec_l4Text x n hx hn (pre_of hqq)
def Γ15:GL:=(128,c_spec_l4Text)::Γ14
theorem Γ15ok:GO Γ15 := .cons k_spec_l4Text Γ14ok
abbrev go2 (x:Rd):Rd:=rdGo (rdGo x 1) 1
theorem Adv.two (x:Rd):Adv x (go2 x) 2:=(Adv.one x).trans (Adv.one _)
theorem ok1 {x:Rd} {k:Int} (h:rdAt x k=true) (hk:k≤10000001000000):rdOk x=true:=(Adv.refl x).ok h (by omega)
end
end Go.Proofs.YtmeiebnfmhddnaaGreatDoor.Ev
