/-
  Edits of a text, of both sides.
-/
import Derived.Test.YtmeiebnfmhddnaaGreatDoorHq
namespace Go.Proofs.YtmeiebnfmhddnaaGreatDoor.Ev
open Go
noncomputable section
abbrev TE:Ty:=ty35
abbrev Edit:Type:=Int×Int×Str
abbrev ed0:Edit:=(0,0,[])
def longOk (s:Str):Bool:=s.all small&&Nat.ble s.length 20
def edit1 (t:Str) (e:Edit):Str:=t.take e.2.1.toNat++(e.2.2++t.drop e.2.1.toNat)
def edit2 (t:Str) (e:Edit):Str:=t.take e.2.1.toNat++(e.2.2++t.drop (e.2.1.toNat+1))
def signAt (t:Str) (i:Int):Str:=(t.drop i.toNat).take 1
def editOk (t:Str) (e:Edit):Bool :=
 bif decide (e.1=1)then decide (0≤e.2.1)&&(decide (e.2.1≤(t.length:Int))&&smallS e.2.2)else
 bif decide (e.1=2)then decide (0≤e.2.1)&&(decide (e.2.1<(t.length:Int))&&decide (e.2.2=[]))else
 bif decide (e.1=3)then decide (0≤e.2.1)&&(decide (e.2.1<(t.length:Int))&&(smallS e.2.2 && !decide (signAt t e.2.1=e.2.2)))else false
def doE (t:Str) (e:Edit):Str:=bif decide (e.1=1)then edit1 t e else edit2 t e
def EdDo (t:Str) (e:Edit):Str×Bool:=bif longOk t&&(editOk t e&&longOk (doE t e))then(doE t e,true)else([],false)
theorem EdDo_true {t:Str} {e:Edit} (h:(EdDo t e).2=true):longOk t=true∧editOk t e=true∧longOk (doE t e)=true∧(EdDo t e).1=doE t e:=by
 unfold EdDo at h ⊢
 cases hb:longOk t&&(editOk t e&&longOk (doE t e))
 ·rw[hb]at h;cases h
 ·simp only[Bool.and_eq_true]at hb
  exact⟨hb.1,hb.2.1,hb.2.2,rfl⟩
theorem EdDo_mk {t:Str} {e:Edit} (h1:longOk t=true) (h2:editOk t e=true) (h3:longOk (doE t e)=true):EdDo t e=(doE t e,true):=by
 unfold EdDo;rw[h1,h2,h3];rfl
theorem longOk_iff {s:Str}:longOk s=true↔(∀c∈s,small c=true)∧s.length≤20:=by
 unfold longOk
 rw[Bool.and_eq_true,List.all_eq_true,Nat.ble_eq]
def G_l8Long (s:Str) (i:Int) (K:Cont):Option Fin:=need (decide (0≤i)&&Nat.ble s.length 9223372036854775807)
 (branch ((s.drop i.toNat).all small) (K (.exit 0) ⟨[(0,vS s)],[]⟩) (K .ret ⟨[(2,vB false)],[]⟩))
def g_l8Long:St→Cont→Option Fin:=orc ([(0, .d .str),(3, .d TI64)],[]) fun v=>G_l8Long v.1.1 v.1.2.1
def cx_l8Long:Cx:=cxOf Γ83 Tryz.f137.ntmps [(2,[0,3])] [(0,[0]),(1,[0,3]),(1000000,[2])] [] [(2,g_l8Long)]
theorem x_spec_l8Long (s:Str) (i:Int) (R:St→Option Fin) (K:Cont):evC cx_l8Long (loopOf Tryz.f137 0) ⟨[(0,vS s),(3,vI i)],[]⟩ (onward (headAt cx_l8Long 2) R K) =
 branch (decide (i<(s.length:Int))) (need (inb i s.length) (branch (!smallI (byteAt s i)) (K .ret ⟨[(2,vB false)],[]⟩) (R ⟨[(0,vS s),(3,vI (W64 (i+1)))],[]⟩))) (K (.exit 0) ⟨[(0,vS s)],[]⟩):=by kernel_rfl
theorem l_spec_l8Long:∀st K r,g_l8Long st K=some r→∃N,iter (evC cx_l8Long (loopOf Tryz.f137 0)) (headAt cx_l8Long 2) N st K=some r:=by
 refine orc_ok (loop_rule (fun v=>List.length v.1.1-Int.toNat v.1.2.1) ?_)
 rintro⟨⟨(s:Str),(i:Int),⟨⟩⟩,⟨⟩⟩ K r hg R hR
 refine(x_spec_l8Long s i R K).trans ?_
 replace hg:G_l8Long s i K=some r:=hg
 replace hR:∀(s':Str) (i':Int),s'.length-i'.toNat<s.length-i.toNat→G_l8Long s' i' K=some r→R ⟨[(0,vS s'),(3,vI i')],[]⟩=some r:=fun s' i'=>hR ((s',i',()),())
 unfold G_l8Long at hg hR
 obtain⟨hp,hg⟩:=need_some.1 hg
 simp only[Bool.and_eq_true,decide_eq_true_eq]at hp
 obtain⟨h0,h1⟩:=hp
 have h1:List.length s≤9223372036854775807:=Nat.le_of_ble_eq_true h1
 by_cases hi:i<(s.length:Int)
 ·have hn:i.toNat<s.length:=by omega
  rw[decide_eq_true hi,branch_true,inb_ok h0 hi,byteAt_get h0 hn,smallI_nat]
  simp only[need,branch_true]
  rw[List.drop_eq_getElem_cons hn,List.all_cons]at hg
  cases hc:small s[i.toNat]
  ·rw[hc]at hg;exact hg
  ·rw[hc,Bool.true_and]at hg
   have e:W64 (i+1)=i+1:=wrap_small (by omega) (by omega)
   rw[Bool.not_true,branch_false,e]
   refine hR s (i+1) (by omega) (need_some.2 ⟨?_, ?_⟩)
   ·simp only[Bool.and_eq_true,decide_eq_true_eq]
    exact⟨by omega,Nat.ble_eq_true_of_le h1⟩
   ·rw[show (i+1).toNat=i.toNat+1 by omega]
    exact hg
 ·rw[decide_eq_false hi,branch_false]
  rw[List.drop_eq_nil_of_le (by omega)]at hg
  exact hg
theorem y_spec_l8Long (s:Str):evFn cx_l8Long Tryz.f137 true [ofD .str s] []=need (true&&Nat.ble s.length 9223372036854775807) (branch (s.all small) (some (vB (decide ((s.length:Int)≤20)),[])) (some (vB false,[]))):=by kernel_rfl
theorem s_spec_l8Long (s:Str) (hs:Fit .str s):Sat Tryz.prog 137 [ofD .str s] [] (.d (ofD .bool (longOk s))) [] :=
 fn_sound (cx:=cx_l8Long) Tryz.func137 rfl ttOk Γ83ok mixed (fun c hc=>LoopsOk.one (b:=loopOf Tryz.f137 0) (id:=2) (g:=g_l8Long) (by cases hc;kernel_rfl) rfl l_spec_l8Long) (ro:=true) (by
  rw[y_spec_l8Long,Nat.ble_eq_true_of_le (show s.length≤9223372036854775807 from hs)]
  unfold longOk
  have:decide ((s.length:Int)≤20)=Nat.ble s.length 20:=by
   by_cases h:s.length≤20
   ·rw[Nat.ble_eq_true_of_le h,decide_eq_true (by omega)]
   ·rw[decide_eq_false (by omega)]
    cases hb:Nat.ble s.length 20
    ·rfl
    ·exact absurd (Nat.le_of_ble_eq_true hb) h
  rw[this]
  cases s.all small<;>rfl)
def c_spec_l8Long:Con:=conT [.str] fun(s:Str)=>(none, .d (ofD .bool (longOk s)))
theorem k_spec_l8Long:ConOk Tryz.prog 137 c_spec_l8Long:=conT_ok Tryz.call137 fun s hs _=>s_spec_l8Long s hs
def Γ84:GL:=(137,c_spec_l8Long)::Γ83
theorem Γ84ok:GO Γ84 := .cons k_spec_l8Long Γ83ok
theorem and3 (x y z:Bool):(bif (bif x then y else false)then z else false)=(x&&(y&&z)):=by cases x<;>cases y<;>cases z<;>rfl
theorem and2 (x y:Bool):(bif x then y else false)=(x&&y):=by cases x<;>rfl
theorem y_spec_l8Edit (s:Str) (e:Edit):evFn (cxOf Γ84 Tryz.f138.ntmps [] [(0,[]),(1000000,[4])] [] []) Tryz.f138 true [ofD .str s,ofD TE e] [] =
branch (decide (e.1=1)) (some (vB (bif bif decide (0≤e.2.1)then decide (e.2.1≤(s.length:Int))else false then smallS e.2.2 else false),[])) (
 branch (decide (e.1=2)) (some (vB (bif bif decide (0≤e.2.1)then decide (e.2.1<(s.length:Int))else false then decide (e.2.2=[])else false),[])) (
 branch (decide (e.1=3)) (
  need (bif decide ((bif bif decide (0≤e.2.1)then decide (e.2.1<(s.length:Int))else false then smallS e.2.2 else false)=true)then inr e.2.1 (W64 (e.2.1+1)) s.length else true) (
  some (vB (bif bif bif decide (0≤e.2.1)then decide (e.2.1<(s.length:Int))else false then smallS e.2.2 else false then !decide ((s.drop e.2.1.toNat).take ((W64 (e.2.1+1)).toNat-e.2.1.toNat)=e.2.2)else false),[])))
  (some (vB false,[])))):=by kernel_rfl
theorem s_spec_l8Edit (s:Str) (hs:Fit .str s) (e:Edit) (_he:Fit TE e):Sat Tryz.prog 138 [ofD .str s,ofD TE e] [] (.d (ofD .bool (editOk s e))) [] :=
 fn_sound (cx:=cxOf Γ84 Tryz.f138.ntmps [] [(0,[]),(1000000,[4])] [] []) Tryz.func138 rfl ttOk Γ84ok mixed (fun _ _=>LoopsOk.no fun _=>rfl) (ro:=true) (by
  rw[y_spec_l8Edit]
  obtain⟨k,a,g⟩:=e
  have hs:s.length≤9223372036854775807:=hs
  unfold editOk
  by_cases k1:k=1
  ·rw[decide_eq_true k1,and3];rfl
  rw[decide_eq_false k1,branch_false,cond_false]
  by_cases k2:k=2
  ·rw[decide_eq_true k2,and3];rfl
  rw[decide_eq_false k2,branch_false,cond_false]
  by_cases k3:k=3
  ·rw[decide_eq_true k3,and3,branch_true,cond_true]
   by_cases h0:0≤a
   ·by_cases h1:a<(s.length:Int)
    ·have e1:W64 (a+1)=a+1:=wrap_small (by omega) (by omega)
     have e2:inr a (a+1) s.length=true:=decide_eq_true ⟨h0,by omega,by omega⟩
     have e3:(a+1).toNat-a.toNat=1:=by omega
     rw[decide_eq_true h0,decide_eq_true h1,e1,e2,e3]
     cases smallS g<;>rfl
    ·rw[decide_eq_true h0,decide_eq_false h1];rfl
   ·rw[decide_eq_false h0];rfl
  ·rw[decide_eq_false k3];rfl)
def c_spec_l8Edit:Con:=conT [.str,TE] fun(s:Str) (e:Edit)=>(none, .d (ofD .bool (editOk s e)))
theorem k_spec_l8Edit:ConOk Tryz.prog 138 c_spec_l8Edit:=conT_ok Tryz.call138 fun s hs e he _=>s_spec_l8Edit s hs e he
def Γ85:GL:=(138,c_spec_l8Edit)::Γ84
theorem Γ85ok:GO Γ85 := .cons k_spec_l8Edit Γ84ok
theorem y_spec_l8Do (s:Str) (e:Edit):evFn (cxOf Γ85 Tryz.f57.ntmps [] [] [] []) Tryz.f57 true [ofD .str s,ofD TE e] [] =
branch (decide (e.1=1)) (
 need (inr 0 e.2.1 s.length) (need (decide ((s.take e.2.1.toNat).length+e.2.2.length≤9223372036854775807)) (need (inr e.2.1 (s.length:Int) s.length)
  (need (decide ((s.take e.2.1.toNat++e.2.2).length+((s.drop e.2.1.toNat).take (s.length-e.2.1.toNat)).length≤9223372036854775807)) (some (vS ((s.take e.2.1.toNat++e.2.2)++(s.drop e.2.1.toNat).take (s.length-e.2.1.toNat)),[]))))))
 (need (inr 0 e.2.1 s.length) (need (decide ((s.take e.2.1.toNat).length+e.2.2.length≤9223372036854775807)) (need (inr (W64 (e.2.1+1)) (s.length:Int) s.length)
  (need (decide ((s.take e.2.1.toNat++e.2.2).length+((s.drop (W64 (e.2.1+1)).toNat).take (s.length-(W64 (e.2.1+1)).toNat)).length≤9223372036854775807)) (some (vS ((s.take e.2.1.toNat++e.2.2)++(s.drop (W64 (e.2.1+1)).toNat).take (s.length-(W64 (e.2.1+1)).toNat)),[])))))):=by kernel_rfl
theorem editOk_range {s:Str} {e:Edit} (h:editOk s e=true):0≤e.2.1∧e.2.1≤(s.length:Int)∧(e.1≠1→e.2.1<(s.length:Int))∧e.2.2.length≤1:=by
 obtain⟨k,a,g⟩:=e
 unfold editOk at h
 by_cases k1:k=1
 ·rw[decide_eq_true k1,cond_true]at h
  simp only[Bool.and_eq_true,decide_eq_true_eq]at h
  obtain⟨c,h3,_⟩:=smallS_one h.2.2
  exact⟨h.1,h.2.1,fun h'=>absurd k1 h',by rw[h3];simp⟩
 rw[decide_eq_false k1,cond_false]at h
 by_cases k2:k=2
 ·rw[decide_eq_true k2,cond_true]at h
  simp only[Bool.and_eq_true,decide_eq_true_eq]at h
  exact⟨h.1,Int.le_of_lt h.2.1,fun _=>h.2.1,by rw[h.2.2];simp⟩
 rw[decide_eq_false k2,cond_false]at h
 by_cases k3:k=3
 ·rw[decide_eq_true k3,cond_true]at h
  simp only[Bool.and_eq_true,decide_eq_true_eq]at h
  obtain⟨c,h3,_⟩:=smallS_one h.2.2.1
  exact⟨h.1,Int.le_of_lt h.2.1,fun _=>h.2.1,by rw[h3];simp⟩
 ·rw[decide_eq_false k3]at h;cases h
theorem take_all {s:Str} {n:Nat}:(s.drop n).take (s.length-n)=s.drop n:=List.take_of_length_le (by simp)
theorem s_spec_l8Do (s:Str) (_hs:Fit .str s) (e:Edit) (_he:Fit TE e) (hpre:(longOk s&&editOk s e)=true):Sat Tryz.prog 57 [ofD .str s,ofD TE e] [] (.d (ofD .str (doE s e))) [] :=
 fn_sound (cx:=cxOf Γ85 Tryz.f57.ntmps [] [] [] []) Tryz.func57 rfl ttOk Γ85ok mixed (fun _ _=>LoopsOk.no fun _=>rfl) (ro:=true) (by
  rw[y_spec_l8Do]
  rw[Bool.and_eq_true]at hpre
  obtain⟨h1,h2⟩:=hpre
  have hl:=(longOk_iff.1 h1).2
  obtain⟨k,a,g⟩:=e
  obtain⟨r1,r2,r3,r4⟩:0≤a∧a≤(s.length:Int)∧(k≠1→a<(s.length:Int))∧g.length≤1:=editOk_range h2
  have i1:inr 0 a s.length=true:=decide_eq_true ⟨by omega,r1,r2⟩
  have n1:(s.take a.toNat).length+g.length≤9223372036854775807:=by rw[List.length_take];omega
  unfold doE
  by_cases k1:k=1
  ·have i2:inr a (s.length:Int) s.length=true:=decide_eq_true ⟨r1,r2,by omega⟩
   have n2:(s.take a.toNat++g).length+(s.drop a.toNat).length≤9223372036854775807:=by rw[List.length_append,List.length_take,List.length_drop];omega
   rw[decide_eq_true k1,branch_true,cond_true,i1,decide_eq_true n1,i2,take_all,decide_eq_true n2,List.append_assoc]
   rfl
  ·have:=r3 k1
   have e1:W64 (a+1)=a+1:=wrap_small (by omega) (by omega)
   have i2:inr (a+1) (s.length:Int) s.length=true:=decide_eq_true ⟨by omega,by omega,by omega⟩
   have n2:(s.take a.toNat++g).length+(s.drop (a+1).toNat).length≤9223372036854775807:=by rw[List.length_append,List.length_take,List.length_drop];omega
   rw[decide_eq_false k1,branch_false,cond_false,e1,i1,decide_eq_true n1,i2,take_all,decide_eq_true n2,List.append_assoc]
   show some (vS (s.take a.toNat++(g++s.drop (a+1).toNat)),[])=some (vS (s.take a.toNat++(g++s.drop (a.toNat+1))),[])
   rw[show (a+1).toNat=a.toNat+1 by omega])
def c_spec_l8Do:Con:=conT [.str,TE] fun(s:Str) (e:Edit)=>(some (longOk s&&editOk s e), .d (ofD .str (doE s e)))
theorem k_spec_l8Do:ConOk Tryz.prog 57 c_spec_l8Do:=conT_ok Tryz.call57 fun s hs e he hqq=>s_spec_l8Do s hs e he (pre_of hqq)
def Γ86:GL:=(57,c_spec_l8Do)::Γ85
theorem Γ86ok:GO Γ86 := .cons k_spec_l8Do Γ85ok
def editR (x:Str×Bool):T := .tup [ofD .str x.1,ofD .bool x.2]
theorem y_spec_EditDo (s:Str) (e:Edit):evFn (cxOf Γ86 Tryz.f104.ntmps [] [] [] []) Tryz.f104 true [ofD .str s,ofD TE e] [] =
need (bif decide ((bif !longOk s then true else !editOk s e)=false)then longOk s&&editOk s e else true) (
 branch (bif bif !longOk s then true else !editOk s e then true else !longOk (doE s e)) (some (editR ([],false),[])) (need (longOk s&&editOk s e) (some (editR (doE s e,true),[])))):=by kernel_rfl
theorem s_spec_EditDo (s:Str) (_hs:Fit .str s) (e:Edit) (_he:Fit TE e):Sat Tryz.prog 104 [ofD .str s,ofD TE e] [] (editR (EdDo s e)) [] :=
 fn_sound (cx:=cxOf Γ86 Tryz.f104.ntmps [] [] [] []) Tryz.func104 rfl ttOk Γ86ok mixed (fun _ _=>LoopsOk.no fun _=>rfl) (ro:=true) (by
  rw[y_spec_EditDo]
  unfold EdDo
  cases longOk s
  ·rfl
  ·cases editOk s e
   ·rfl
   ·cases longOk (doE s e)<;>rfl)
def c_spec_EditDo:Con:=conT [.str,TE] fun(s:Str) (e:Edit)=>(none,editR (EdDo s e))
theorem k_spec_EditDo:ConOk Tryz.prog 104 c_spec_EditDo:=conT_ok Tryz.call104 fun s hs e he _=>s_spec_EditDo s hs e he
def Γ87:GL:=(104,c_spec_EditDo)::Γ86
theorem Γ87ok:GO Γ87 := .cons k_spec_EditDo Γ86ok
theorem areSm_20 (s:Str):areSm s 20=longOk s:=by
 unfold areSm longOk
 have:decide ((s.length:Int)≤20)=Nat.ble s.length 20:=by
  by_cases h:s.length≤20
  ·rw[Nat.ble_eq_true_of_le h,decide_eq_true (by omega)]
  ·rw[decide_eq_false (by omega)]
   cases hb:Nat.ble s.length 20
   ·rfl
   ·exact absurd (Nat.le_of_ble_eq_true hb) h
 rw[this,and2,Bool.and_comm]
theorem long_edit1 {s:Str} {a:Int} {c:UInt8} (h:longOk s=true) (hc:small c=true) (ha:a.toNat≤s.length):longOk (s.take a.toNat++([c]++s.drop a.toNat))=decide (s.length<20):=by
 have hl:=longOk_iff.1 h
 have hn:(s.take a.toNat++([c]++s.drop a.toNat)).length=s.length+1:=by simp only[List.length_append,List.length_take,List.length_drop,List.length_singleton];omega
 by_cases g:s.length<20
 ·rw[decide_eq_true g]
  refine longOk_iff.2 ⟨fun x hx => ?_,by omega⟩
  simp only[List.mem_append,List.mem_singleton]at hx
  rcases hx with hx | rfl | hx
  ·exact hl.1 x (List.mem_of_mem_take hx)
  ·exact hc
  ·exact hl.1 x (List.mem_of_mem_drop hx)
 ·rw[decide_eq_false g]
  cases hq:longOk (s.take a.toNat++([c]++s.drop a.toNat))
  ·rfl
  ·have:=(longOk_iff.1 hq).2;omega
theorem long_edit2 {s g:Str} {a:Int} (h:longOk s=true) (hc:∀x∈g,small x=true) (hg:g.length≤1) (ha:a.toNat<s.length):longOk (s.take a.toNat++(g++s.drop (a.toNat+1)))=true:=by
 have hl:=longOk_iff.1 h
 refine longOk_iff.2 ⟨fun x hx => ?_,by simp only[List.length_append,List.length_take,List.length_drop];omega⟩
 simp only[List.mem_append]at hx
 rcases hx with hx | hx | hx
 ·exact hl.1 x (List.mem_of_mem_take hx)
 ·exact hc x hx
 ·exact hl.1 x (List.mem_of_mem_drop hx)
theorem y_impl_EditDo (s:Str) (e:Edit):evFn (cxOf Γ87 Tryz.f21.ntmps [] [(0,[]),(1000000,[4,5])] [] []) Tryz.f21 true [ofD .str s,ofD TE e] [] =
branch (bif bif bif !areSm s 20 then true else decide (e.2.1<0)then true else decide ((s.length:Int)<e.2.1)then true else bif !decide (e.1=1)then decide (e.2.1=(s.length:Int))else false) (some (editR ([],false),[])) (
 branch (bif bif decide (e.1=1)then smallS e.2.2 else false then decide ((s.length:Int)<20)else false) (
 need (inr 0 e.2.1 s.length) (need (decide ((s.take e.2.1.toNat).length+e.2.2.length≤9223372036854775807)) (need (inr e.2.1 (s.length:Int) s.length)
  (need (decide ((s.take e.2.1.toNat++e.2.2).length+((s.drop e.2.1.toNat).take (s.length-e.2.1.toNat)).length≤9223372036854775807)) (
  some (editR ((s.take e.2.1.toNat++e.2.2)++(s.drop e.2.1.toNat).take (s.length-e.2.1.toNat),true),[]))))))
 (branch (bif decide (e.1=2)then decide (e.2.2=[])else false) (
  need (inr 0 e.2.1 s.length) (need (inr (W64 (e.2.1+1)) (s.length:Int) s.length)
  (need (decide ((s.take e.2.1.toNat).length+((s.drop (W64 (e.2.1+1)).toNat).take (s.length-(W64 (e.2.1+1)).toNat)).length≤9223372036854775807)) (
   some (editR (s.take e.2.1.toNat++(s.drop (W64 (e.2.1+1)).toNat).take (s.length-(W64 (e.2.1+1)).toNat),true),[])))))
  (need (bif decide ((bif decide (e.1=3)then smallS e.2.2 else false)=true)then inr e.2.1 (W64 (e.2.1+1)) s.length else true) (
  branch (bif bif decide (e.1=3)then smallS e.2.2 else false then !decide ((s.drop e.2.1.toNat).take ((W64 (e.2.1+1)).toNat-e.2.1.toNat)=e.2.2)else false) (
   need (inr 0 e.2.1 s.length) (need (decide ((s.take e.2.1.toNat).length+e.2.2.length≤9223372036854775807)) (need (inr (W64 (e.2.1+1)) (s.length:Int) s.length)
  (need (decide ((s.take e.2.1.toNat++e.2.2).length+((s.drop (W64 (e.2.1+1)).toNat).take (s.length-(W64 (e.2.1+1)).toNat)).length≤9223372036854775807)) (
  some (editR ((s.take e.2.1.toNat++e.2.2)++(s.drop (W64 (e.2.1+1)).toNat).take (s.length-(W64 (e.2.1+1)).toNat),true),[]))))))
   (some (editR ([],false),[])))))):=by kernel_rfl
theorem s_impl_EditDo (s:Str) (_hs:Fit .str s) (e:Edit) (he:Fit TE e):Sat Tryz.prog 21 [ofD .str s,ofD TE e] [] (editR (EdDo s e)) [] :=
 fn_sound (cx:=cxOf Γ87 Tryz.f21.ntmps [] [(0,[]),(1000000,[4,5])] [] []) Tryz.func21 rfl ttOk Γ87ok mixed (fun _ _=>LoopsOk.no fun _=>rfl) (ro:=true) (by
  rw[y_impl_EditDo,areSm_20]
  obtain⟨k,a,g⟩:=e
  cases hlo:longOk s
  ·have:EdDo s (k,a,g)=([],false):=by unfold EdDo;rw[hlo];rfl
   rw[this];rfl
  have hl:=(longOk_iff.1 hlo).2
  have bad:editOk s (k,a,g)=false→EdDo s (k,a,g)=([],false):=fun h=>by unfold EdDo;rw[h,hlo];rfl
  dsimp only
  by_cases ha:a<0
  ·rw[decide_eq_true ha,bad (by unfold editOk;simp only;rw[decide_eq_false (by omega:¬ 0≤a)];cases decide (k=1)<;>cases decide (k=2)<;>cases decide (k=3)<;>rfl)];rfl
  rw[decide_eq_false ha]
  by_cases hb:(s.length:Int)<a
  ·rw[decide_eq_true hb,bad (by unfold editOk;simp only;rw[decide_eq_false (by omega:¬a≤(s.length:Int)),decide_eq_false (by omega:¬a<(s.length:Int))];cases decide (0≤a)<;>cases decide (k=1)<;>cases decide (k=2)<;>cases decide (k=3)<;>rfl)];rfl
  rw[decide_eq_false hb]
  have i1:inr 0 a s.length=true:=decide_eq_true ⟨by omega,by omega,by omega⟩
  have l0:(s.take a.toNat).length≤20:=by rw[List.length_take];omega
  by_cases k1:k=1
  ·subst k1
   have i2:inr a (s.length:Int) s.length=true:=decide_eq_true ⟨by omega,by omega,by omega⟩
   cases hg:smallS g
   ·rw[bad (by unfold editOk;simp only;rw[hg];cases decide (0≤a)<;>cases decide (a≤(s.length:Int))<;>rfl)];rfl
   ·obtain ⟨c,rfl,hc⟩:=smallS_one hg
    have he:=long_edit1 (a:=a) hlo hc (by omega)
    have ho:editOk s (1,a,[c])=true:=by
     unfold editOk;simp only;rw[hg,decide_eq_true (by omega:0≤a),decide_eq_true (by omega:a≤(s.length:Int))];rfl
    by_cases hn:s.length<20
    ·have:EdDo s (1,a,[c])=(s.take a.toNat++([c]++s.drop a.toNat),true):=EdDo_mk hlo ho (he.trans (decide_eq_true hn))
     rw[this]
     have n1:(s.take a.toNat).length+[c].length≤9223372036854775807:=by simp only[List.length_singleton];omega
     have n2:(s.take a.toNat++[c]).length+(s.drop a.toNat).length≤9223372036854775807:=by simp only[List.length_append,List.length_singleton,List.length_drop];omega
     rw[decide_eq_true (by omega:(s.length:Int)<20),i1,decide_eq_true n1,i2,take_all,decide_eq_true n2,List.append_assoc]
     rfl
    ·have:EdDo s (1,a,[c])=([],false):=by
      unfold EdDo
      rw[show longOk (doE s (1,a,[c]))=false from he.trans (decide_eq_false hn),hlo,ho];rfl
     rw[this,decide_eq_false (by omega:¬(s.length:Int)<20)]
     rfl
  ·rw[decide_eq_false k1]
   by_cases hq:a=(s.length:Int)
   ·rw[decide_eq_true hq,bad (by unfold editOk;simp only;rw[decide_eq_false k1,decide_eq_false (by omega:¬a<(s.length:Int))];cases decide (0≤a)<;>cases decide (k=2)<;>cases decide (k=3)<;>rfl)];rfl
   ·have hlt:a<(s.length:Int):=by omega
    have e1:W64 (a+1)=a+1:=wrap_small (by omega) (by omega)
    have e4:(a+1).toNat=a.toNat+1:=by omega
    have i2:inr (a+1) (s.length:Int) s.length=true:=decide_eq_true ⟨by omega,by omega,by omega⟩
    have i3:inr a (a+1) s.length=true:=decide_eq_true ⟨by omega,by omega,by omega⟩
    have l1:(s.drop (a.toNat+1)).length≤20:=by rw[List.length_drop];omega
    rw[decide_eq_false hq,e1,e4,i1,i2,i3,take_all (n:=a.toNat+1)]
    by_cases k2:k=2
    ·subst k2
     by_cases hg:g=[]
     ·subst hg
      have he:longOk (doE s (2,a,[]))=true:=long_edit2 (g:=[]) (a:=a) hlo (fun x hx=>by cases hx) (by simp) (by omega)
      have ho:editOk s (2,a,[])=true:=by unfold editOk;simp only;rw[decide_eq_true (by omega:0≤a),decide_eq_true hlt];rfl
      rw[EdDo_mk hlo ho he,decide_eq_true (by omega:(s.take a.toNat).length+(s.drop (a.toNat+1)).length≤9223372036854775807)]
      rfl
     ·rw[bad (by unfold editOk;simp only;rw[decide_eq_false hg];cases decide (0≤a)<;>cases decide (a<(s.length:Int))<;>rfl),decide_eq_false hg]
      rfl
    ·rw[decide_eq_false k2]
     by_cases k3:k=3
     ·subst k3
      cases hg:smallS g
      ·rw[bad (by unfold editOk;simp only;rw[hg];cases decide (0≤a)<;>cases decide (a<(s.length:Int))<;>rfl)];rfl
      ·obtain ⟨c,rfl,hc⟩:=smallS_one hg
       have e5:(s.drop a.toNat).take (a.toNat+1-a.toNat)=signAt s a:=by rw[show a.toNat+1-a.toNat=1 by omega];rfl
       rw[e5]
       by_cases hsg:signAt s a=[c]
       ·rw[bad (by unfold editOk;simp only;rw[decide_eq_true hsg];cases decide (0≤a)<;>cases decide (a<(s.length:Int))<;>cases smallS [c]<;>rfl),decide_eq_true hsg];rfl
       ·have he:longOk (doE s (3,a,[c]))=true:=long_edit2 (g:=[c]) (a:=a) hlo (fun x hx=>by rw[List.mem_singleton.1 hx];exact hc) (by simp) (by omega)
        have ho:editOk s (3,a,[c])=true:=by unfold editOk;simp only;rw[decide_eq_true (by omega:0≤a),decide_eq_true hlt,hg,decide_eq_false hsg];rfl
        have n1:(s.take a.toNat).length+[c].length≤9223372036854775807:=by simp only[List.length_singleton];omega
        have n2:(s.take a.toNat++[c]).length+(s.drop (a.toNat+1)).length≤9223372036854775807:=by simp only[List.length_append,List.length_singleton];omega
        rw[EdDo_mk hlo ho he,decide_eq_false hsg,decide_eq_true n1,decide_eq_true n2,List.append_assoc (s.take a.toNat) [c] (s.drop (a.toNat+1))]
        rfl
     ·rw[bad (by unfold editOk;simp only;rw[decide_eq_false k1,decide_eq_false k2,decide_eq_false k3];rfl),decide_eq_false k3];rfl)
def c_impl_EditDo:Con:=conT [.str,TE] fun(s:Str) (e:Edit)=>(none,editR (EdDo s e))
theorem k_impl_EditDo:ConOk Tryz.prog 21 c_impl_EditDo:=conT_ok Tryz.call21 fun s hs e he _=>s_impl_EditDo s hs e he
def Γ88:GL:=(21,c_impl_EditDo)::Γ87
theorem Γ88ok:GO Γ88 := .cons k_impl_EditDo Γ87ok
end
end Go.Proofs.YtmeiebnfmhddnaaGreatDoor.Ev
