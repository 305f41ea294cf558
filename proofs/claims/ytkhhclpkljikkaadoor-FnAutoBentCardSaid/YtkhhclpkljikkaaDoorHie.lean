/-
  Walks: draws.
-/
import Derived.Test.YtkhhclpkljikkaaDoorHic
namespace Go.Proofs.YtkhhclpkljikkaaDoor.Ev
open Go
open List (length length_append length_cons length_singleton length_replicate length_set length_take length_drop mem_cons_of_mem mem_cons_self getD replicate mem_append_left mem_append_right all_eq_true drop_eq_getElem_cons drop_eq_nil_of_le append_assoc mem_singleton getElem?_append_left getElem?_append_right getElem?_eq_none getElem?_take mem_append)
noncomputable section
abbrev zO:Option Obj:=some (.box 49 [.r (.v (.int .i64 0)), .r (.v (.slice none 0 0)), .r (.v (.slice none 0 0))])
abbrev aO (b:Int) (i j:Nat):Option Obj:=some (.box 49 [.r (.v (.int .i64 b)), .own i, .dsl j []])
abbrev esO (l:List Bool):Option Obj:=some (.lis 4 .bool l)
abbrev gsO (l:List (List Int)):Option Obj:=some (.deep [98,3] TIS l)
abbrev rwO (l:List Int):Option Obj:=some (.lis 3 TI64 l)
abbrev lit4:List Int:=[-1,-1,-1,-1]
def fitB (n:Nat):Bool:=fits n Tryd.t4.bytes
def fitG (n:Nat):Bool:=fits n Tryd.t98.bytes
def fitI (n:Nat):Bool:=fits n Tryd.t3.bytes
theorem fitB_ok {n:Nat} (h:n≤100000):fitB n=true:=by
 have e:Tryd.t4.bytes=1:=by kernel_rfl
 unfold fitB;rw[e];exact fits_ok h (by omega)
theorem fitG_ok {n:Nat} (h:n≤100000):fitG n=true:=by
 have e:Tryd.t98.bytes=24:=by kernel_rfl
 unfold fitG;rw[e];exact fits_ok h (by omega)
theorem fitI_ok {n:Nat} (h:n≤100000):fitI n=true:=by
 have e:Tryd.t3.bytes=8:=by kernel_rfl
 unfold fitI;rw[e];exact fits_ok h (by omega)
def rowS (s:Str) (i:Int):List Int:=bif decide (i<(s.length:Int))then lit4.set (W64 (IntKind.u8.wrap (byteAt s i-97))).toNat (W64 (i+1))else lit4
def aofE (s:Str):Nat→Int→List Bool→List Bool
 |0,_,es=>es
 |m+1,i,es=>aofE s m (i+1) (es++[decide (i=(s.length:Int))])
def aofG (s:Str):Nat→Int→List (List Int)→List (List Int)
 |0,_,gs=>gs
 |m+1,i,gs=>aofG s m (i+1) (gs++[rowS s i])
def cb_aof:Cx:=cxOf Γ55 Tryd.f89.ntmps [(5,[0,2,4,5])] [(0,[2,4]),(1,[0,2,4,5]),(1000000,[2,3])] [(5,[(200004,4, .bool),(100000000*(3+1)+300004,98,TIS)])] []
abbrev envF (s:Str) (i:Int):List (Nat×T):=[(0,vS s),(2, .d (.one (.ptr 500000 0))),(4, .d (.one (.ptr 500001 0))),(5,vI i)]
abbrev hpF (b:Int) (es:List Bool) (gs:List (List Int)):Heap:=[(500000,zO),(500001,aO b 500002 500003),(500002,esO es),(500003,gsO gs)]
theorem x_aof (s:Str) (b i:Int) (es:List Bool) (gs:List (List Int)) (R:St→Option Fin) (K:Cont):evC (cb_aof.withLoops (look [])) (loopOf Tryd.f89 0) ⟨envF s i,hpF b es gs⟩ (onward (headAt (cb_aof.withLoops (look [])) 5) R K) =
  branch (decide (i≤(s.length:Int))) (branch (decide (i<(s.length:Int)))
   (need (inb i s.length) (need (inb (W64 (IntKind.u8.wrap (byteAt s i-97))) 4) (need (fitB (es.length+1)) (need (fitG (gs.length+1)) (R ⟨envF s (W64 (i+1)),hpF b (es++[decide (i=(s.length:Int))]) (gs++[lit4.set (W64 (IntKind.u8.wrap (byteAt s i-97))).toNat (W64 (i+1))])⟩)))))
   (need (fitB (es.length+1)) (need (fitG (gs.length+1)) (R ⟨envF s (W64 (i+1)),hpF b (es++[decide (i=(s.length:Int))]) (gs++[lit4])⟩)))) (K (.exit 0) ⟨[(2, kp0),(4, kp1)],hpF b es gs⟩):=by kernel_rfl
def cx0_aof:Cx:=(cb_aof).withLoops (look [])
def sh_aof:Sh:=([(0, .d .str),(2, .ptr 500000 0),(4, .ptr 500001 0),(5, .d TI64)],[(500000, .mix 49 [.d TI64, .nil, .nil]),(500001, .mix 49 [.d TI64, .own 500002, .deep 500003]),(500002, .lis 4 .bool),(500003, .deep [98,3] TIS)])
abbrev st_aof (s:Str) (i b0 b:Int) (es:List (Bool)) (gs:List (List Int)):St:=⟨[(0,vS s),(2, kp0),(4, kp1),(5,vI i)],[(500000,some (.box 49 ((cellsR TI64 b0).map C.r++[.r (.v (.slice none 0 0))]++[.r (.v (.slice none 0 0))]))),(500001,some (.box 49 ((cellsR TI64 b).map C.r++[.own 500002]++[.dsl 500003 []]))),(500002,some (.lis 4 .bool es)),(500003,some (.deep [98,3] TIS gs))]⟩
def pre_aof (s:Str) (i b0 _b:Int) (es:List (Bool)) (gs:List (List Int)):Bool:=decide (0≤i)&&(decide (i≤(s.length:Int)+1)&&(decide ((s.length:Int)≤5)&&(List.all s small&&(decide ((length es:Int)≤i)&&(decide ((length gs:Int)≤i)&&decide (b0=0))))))
def res_aof (s:Str) (i _b0 b:Int) (es:List (Bool)) (gs:List (List Int)) (K:Cont):Option Fin:=K (.exit 0) ⟨[(2, kp0),(4, kp1)],hpF b (aofE s ((s.length:Int)+1-i).toNat i es) (aofG s ((s.length:Int)+1-i).toNat i gs)⟩
def mu_aof (s:Str) (i _b0 _b:Int) (_es:List (Bool)) (_gs:List (List Int)):Nat:=((s.length:Int)+1-i).toNat
theorem r_aof (s:Str) (i b0 b:Int) (es:List (Bool)) (gs:List (List Int)) (K:Cont) (hI:pre_aof s i b0 b es gs=true):(∀R:St→Option Fin,evC cx0_aof (loopOf Tryd.f89 0) (st_aof s i b0 b es gs) (onward (headAt cx0_aof 5) R K)=res_aof s i b0 b es gs K) ∨
  (∃(s':Str) (i' b0' b':Int) (es':List (Bool)) (gs':List (List Int)),pre_aof s' i' b0' b' es' gs'=true∧mu_aof s' i' b0' b' es' gs'<mu_aof s i b0 b es gs∧res_aof s' i' b0' b' es' gs' K=res_aof s i b0 b es gs K∧∀R:St→Option Fin,evC cx0_aof (loopOf Tryd.f89 0) (st_aof s i b0 b es gs) (onward (headAt cx0_aof 5) R K)=R (st_aof s' i' b0' b' es' gs')):=by
 have hx:=fun R=>x_aof s b i es gs R K;simp only[pre_aof,andd,dec_iff]at hI;obtain⟨h0,h1,h2,h3,h4,h5,rfl⟩:=hI
 by_cases hi:i≤(s.length:Int)
 ·have w:W64 (i+1)=i+1:=wrap_small (by omega) (by omega);obtain⟨m,hm⟩:∃m,((s.length:Int)+1-i).toNat=m+1:=⟨((s.length:Int)-i).toNat,by omega⟩;have hm2:((s.length:Int)+1-(i+1)).toNat=m:=by omega
  have f1:=fitB_ok (n:=es.length+1) (by omega);have f2:=fitG_ok (n:=gs.length+1) (by omega);have hR:∀R:St→Option Fin,evC (cb_aof.withLoops (look [])) (loopOf Tryd.f89 0) ⟨envF s i,hpF b es gs⟩ (onward (headAt (cb_aof.withLoops (look [])) 5) R K)=R ⟨envF s (i+1),hpF b (es++[decide (i=(s.length:Int))]) (gs++[rowS s i])⟩:=fun R=>by
   refine(hx R).trans ?_;unfold rowS;rw[zT hi,f1,f2,w]
   by_cases hl:i<(s.length:Int)
   ·have hn:i.toNat<s.length:=by omega
    have hb:=byteAt_get h0 hn;have hs:=all_eq_true.1 h3 s[i.toNat] (List.getElem_mem hn);unfold small at hs;rw[andd,ble_iff,ble_iff]at hs;have w2:IntKind.u8.wrap (byteAt s i-97)=byteAt s i-97:=by rw[IntKind.wrap_u8,hb];omega
    have w3:W64 (byteAt s i-97)=byteAt s i-97:=wrap_small (by omega) (by omega);rw[zT hl,inb_ok h0 hl,w2,w3,inb_ok (n:=4) (by omega:0≤byteAt s i-97) (by omega)];rfl
   ·rw[zF hl];rfl
  right;refine⟨s,i+1,0,b,es++[decide (i=(s.length:Int))],gs++[rowS s i], ?_, ?_, ?_,hR⟩
  ·simp only[pre_aof,andd,dec_iff,length_append,length_singleton];exact⟨by omega,by omega,h2,h3,by omega,by omega,trivial⟩
  ·simp only[mu_aof];omega
  ·simp only[res_aof,hm,hm2];rfl
 ·left;intro R;refine(hx R).trans ?_;rw[zF hi];have hm:((s.length:Int)+1-i).toNat=0:=by omega
  simp only[res_aof,hm];rfl
def g_aof:St→Cont→Option Fin:=gP sh_aof (fun v=>match v with | ((s,i,()),((b0,()),(b,()),es,gs,()))=>pre_aof s i b0 b es gs) (fun v K=>match v with | ((s,i,()),((b0,()),(b,()),es,gs,()))=>res_aof s i b0 b es gs K)
def L_aof:LpL:=(5,g_aof)::[]
def cx_aof:Cx:=(cb_aof).withLoops (look L_aof)
theorem l_aof {L:LpL} (n:Nat) (h1:L.drop n=[]) (h2:idsFree (L.take n) (loopOf Tryd.f89 0)=true):LoopsTo g_aof (cb_aof) (loopOf Tryd.f89 0) 5 L :=
 with_drop h1 h2 (gP_ok (fun v=>match v with | ((s,i,()),((b0,()),(b,()),es,gs,()))=>mu_aof s i b0 b es gs) fun v K hI=>by
  obtain⟨⟨s,i,⟨⟩⟩,⟨⟨b0,⟨⟩⟩,⟨b,⟨⟩⟩,es,gs,⟨⟩⟩⟩:=v;exact(r_aof s i b0 b es gs K hI).imp id fun⟨s',i',b0',b',es',gs',h⟩=>⟨((s',i',()),((b0',()),(b',()),es',gs',())),h⟩)
theorem y_spec_AutoOf (s:Str):evFn cx_aof Tryd.f89 true [ofD .str s] []=(
branch (bif !areSm s 8 then true else decide (6≤(s.length:Int))) ( some ((.tup [(.agg [(.r (.v (Value.int IntKind.i64 0))),(.r (.li ty4 ([]))),(.r (.li ty98 ([])))]),(.one (.r (.v (Value.bool false))))]),[])) (
 need (pre_aof s 0 0 0 [] []) <| some ((.tup [(.agg [(.r (.v (Value.int IntKind.i64 0))),(.r (.li (Ty.bool) (aofE s ((s.length:Int)+1-0).toNat 0 []))),(.r (.li TIS (aofG s ((s.length:Int)+1-0).toNat 0 [])))]),(.one (.r (.v (Value.bool true))))]),[]))):=by kernel_rfl
def badT (s:Str):Bool:=bif !areSm s 8 then true else decide (6≤(s.length:Int))
def aofV (s:Str):Auto×Bool:=bif badT s then(zA,false)else((0,aofE s ((s.length:Int)+1-0).toNat 0 [],aofG s ((s.length:Int)+1-0).toNat 0 []),true)
theorem s_spec_AutoOf (s:Str) (_hs:Fit .str s):Sat Tryd.prog 89 [ofD .str s] [] (.tup [ofD TA (aofV s).1,ofD .bool (aofV s).2]) [] :=
 fn_sound (cx:=cx_aof) Tryd.func89 rfl ttOk Γ55ok mixed (fun c hc=>LoopsOk.all (l:=[(5,loopOf Tryd.f89 0)]) (by cases hc;kernel_rfl) ⟨atLoop rfl (l_aof 1 rfl (by kernel_rfl)),trivial⟩) (ro:=true) (by
  rw[y_spec_AutoOf];unfold aofV;change branch (badT s) _ _=_
  cases hb:badT s
  ·unfold badT at hb;rw[b3,Bool.or_eq_false_iff,Bool.not_eq_false',decide_eq_false_iff_not]at hb;obtain⟨h1,h2⟩:=hb;unfold areSm at h1;rw[b2,andd,dec_iff]at h1;have kp:pre_aof s 0 0 0 [] []=true:=by
    simp only[pre_aof,andd,dec_iff];exact⟨Int.le_refl 0,by omega,by omega,h1.2,Int.le_refl 0,Int.le_refl 0,trivial⟩
   rw[kp];rfl
  ·rfl)
def c_spec_AutoOf:Con:=conT [.str] fun(s:Str)=>(none, .tup [ofD TA (aofV s).1,ofD .bool (aofV s).2])
theorem k_spec_AutoOf:ConOk Tryd.prog 89 c_spec_AutoOf:=conT_ok Tryd.call89 fun s hs _=>s_spec_AutoOf s hs
def Γ56:GL:=(89,c_spec_AutoOf)::Γ55
theorem Γ56ok:GO Γ56 := .cons k_spec_AutoOf Γ55ok
def prR (n:Int):Nat→Rd→List Int→List Int
 |0,_,row=>row
 |m+1,x,row=>prR n m (rdGo x 1) (row++[W64 (pickV x (W64 (n+1))-1)])
def prX:Nat→Rd→Rd
 |0,x=>x
 |m+1,x=>prX m (rdGo x 1)
theorem prR_len {n:Int}:∀ {m:Nat} {x:Rd} {row:List Int},(prR n m x row).length=row.length+m
 |0,_,_=>rfl
 |m+1,x,row=>by
  unfold prR;rw[prR_len,length_append,length_singleton];omega
theorem prX_adv:∀ {m:Nat} {x:Rd},Adv x (prX m x) (m:Int)
 |0,x=>Adv.refl x
 |m+1,x=>by
  have h:=(Adv.one x).trans (prX_adv (m:=m) (x:=rdGo x 1));exact h.le (by omega)
def cb_l13a:Cx:=cxOf Γ56 Tryd.f92.ntmps [(9,[0,2,3,4,5,6,7]),(4,[0,2,3,4,5])] [(0,[2,4]),(1,[0,2,3,4,5]),(2,[0,2,3,4,5,6]),(3,[0,2,3,4,5,6,7]),(1000000,[2])] [(4,[(200004,4, .bool),(100000000*(3+1)+300004,98,TIS)])] []
abbrev envW (n i:Int):List (Nat×T):=[(0,vP 0),(2, .d (.one (.ptr 500000 0))),(3,vI n),(4, .d (.one (.ptr 500001 0))),(5,vI i)]
abbrev hpW (x:Rd) (b:Int) (es:List Bool) (gs:List (List Int)):Heap:=[(0,bR x),(500000,zO),(500001,aO b 500002 500003),(500002,esO es),(500003,gsO gs)]
abbrev hpR (x:Rd) (b:Int) (row:List Int) (es:List Bool) (gs:List (List Int)):Heap:=[(0,bR x),(500000,zO),(500001,aO b 500003 500004),(500002,rwO row),(500003,esO es),(500004,gsO gs)]
theorem x_law (x:Rd) (n b i k:Int) (es:List Bool) (gs:List (List Int)) (row:List Int) (R:St→Option Fin) (K:Cont):evC (cb_l13a.withLoops (look [])) (loopOf Tryd.f92 1) ⟨envW n i++[(6, ko2),(7,vI k)],hpR x b row es gs⟩ (onward (headAt (cb_l13a.withLoops (look [])) 9) R K) =
  branch (decide (k<4)) (need (rdOk x) (need (fitI (row.length+1)) (R ⟨envW n i++[(6, ko2),(7,vI (W64 (k+1)))],hpR (rdGo x 1) b (row++[W64 (pickV x (W64 (n+1))-1)]) es gs⟩))) (K (.exit 2) ⟨envW n i++[(6, ko2)],hpR x b row es gs⟩):=by kernel_rfl
def cx0_law:Cx:=(cb_l13a).withLoops (look [])
def sh_law:Sh:=([(0, .ptr 0 0),(2, .ptr 500000 0),(3, .d TI64),(4, .ptr 500001 0),(5, .d TI64),(6, .own 500002),(7, .d TI64)],[(0, .box 125 TR),(500000, .mix 49 [.d TI64, .nil, .nil]),(500001, .mix 49 [.d TI64, .own 500003, .deep 500004]),(500002, .lis 3 TI64),(500003, .lis 4 .bool),(500004, .deep [98,3] TIS)])
abbrev st_law (n i k:Int) (x:Den TR) (b0 b:Int) (row:List (Int)) (es:List (Bool)) (gs:List (List Int)):St:=⟨[(0, .d (.one (.ptr 0 0))),(2, kp0),(3,vI n),(4, kp1),(5,vI i),(6, ko2),(7,vI k)],[(0,some (boxD 125 TR x)),(500000,some (.box 49 ((cellsR TI64 b0).map C.r++[.r (.v (.slice none 0 0))]++[.r (.v (.slice none 0 0))]))),(500001,some (.box 49 ((cellsR TI64 b).map C.r++[.own 500003]++[.dsl 500004 []]))),(500002,some (.lis 3 TI64 row)),(500003,some (.lis 4 .bool es)),(500004,some (.deep [98,3] TIS gs))]⟩
def pre_law (_n _i k:Int) (x:Den TR) (b0 _b:Int) (row:List (Int)) (_es:List (Bool)) (_gs:List (List Int)):Bool:=decide (0≤k)&&(decide (k≤4)&&(rdAt x (10000000990000+k)&&(decide ((length row:Int)≤k)&&decide (b0=0))))
def res_law (n i k:Int) (x:Den TR) (_b0 b:Int) (row:List (Int)) (es:List (Bool)) (gs:List (List Int)) (K:Cont):Option Fin:=K (.exit 2) ⟨envW n i++[(6, ko2)],hpR (prX (4-k).toNat x) b (prR n (4-k).toNat x row) es gs⟩
def mu_law (_n _i k:Int) (_x:Den TR) (_b0 _b:Int) (_row:List (Int)) (_es:List (Bool)) (_gs:List (List Int)):Nat:=(4-k).toNat
theorem r_law (n i k:Int) (x:Den TR) (b0 b:Int) (row:List (Int)) (es:List (Bool)) (gs:List (List Int)) (K:Cont) (hI:pre_law n i k x b0 b row es gs=true):(∀R:St→Option Fin,evC cx0_law (loopOf Tryd.f92 1) (st_law n i k x b0 b row es gs) (onward (headAt cx0_law 9) R K)=res_law n i k x b0 b row es gs K) ∨
  (∃(n' i' k':Int) (x':Den TR) (b0' b':Int) (row':List (Int)) (es':List (Bool)) (gs':List (List Int)),pre_law n' i' k' x' b0' b' row' es' gs'=true∧mu_law n' i' k' x' b0' b' row' es' gs'<mu_law n i k x b0 b row es gs∧res_law n' i' k' x' b0' b' row' es' gs' K=res_law n i k x b0 b row es gs K∧∀R:St→Option Fin,evC cx0_law (loopOf Tryd.f92 1) (st_law n i k x b0 b row es gs) (onward (headAt cx0_law 9) R K)=R (st_law n' i' k' x' b0' b' row' es' gs')):=by
 have hx:=fun R=>x_law x n b i k es gs row R K;simp only[pre_law,andd,dec_iff]at hI;obtain⟨h0,h1,h2,h4,rfl⟩:=hI
 by_cases hk:k<4
 ·have w:W64 (k+1)=k+1:=wrap_small (by omega) (by omega);obtain⟨m,hm⟩:∃m,(4-k).toNat=m+1:=⟨(3-k).toNat,by omega⟩;have hm2:(4-(k+1)).toNat=m:=by omega
  have k0:rdOk x=true:=ok1 h2 (by omega);have h3:rdAt (rdGo x 1) (10000000990000+(k+1))=true:=(Adv.one x).at h2 (by omega);have f1:=fitI_ok (n:=row.length+1) (by omega);rw[zT hk,w,k0,f1]at hx;right;refine⟨n,i,k+1,rdGo x 1,0,b,row++[W64 (pickV x (W64 (n+1))-1)],es,gs, ?_, ?_, ?_,fun R=>hx R⟩
  ·simp only[pre_law,andd,dec_iff,length_append,length_singleton];exact⟨by omega,by omega,h3,by omega,trivial⟩
  ·simp only[mu_law];omega
  ·simp only[res_law,hm,hm2];rfl
 ·left;intro R;refine(hx R).trans ?_;rw[zF hk];have hm:(4-k).toNat=0:=by omega
  simp only[res_law,hm];rfl
def g_law:St→Cont→Option Fin:=gP sh_law (fun v=>match v with | ((n,i,k,()),(x,(b0,()),(b,()),row,es,gs,()))=>pre_law n i k x b0 b row es gs) (fun v K=>match v with | ((n,i,k,()),(x,(b0,()),(b,()),row,es,gs,()))=>res_law n i k x b0 b row es gs K)
def L_law:LpL:=(9,g_law)::[]
theorem l_law {L:LpL} (n:Nat) (h1:L.drop n=[]) (h2:idsFree (L.take n) (loopOf Tryd.f92 1)=true):LoopsTo g_law (cb_l13a) (loopOf Tryd.f92 1) 9 L :=
 with_drop h1 h2 (gP_ok (fun v=>match v with | ((n,i,k,()),(x,(b0,()),(b,()),row,es,gs,()))=>mu_law n i k x b0 b row es gs) fun v K hI=>by
  obtain⟨⟨n,i,k,⟨⟩⟩,⟨x,⟨b0,⟨⟩⟩,⟨b,⟨⟩⟩,row,es,gs,⟨⟩⟩⟩:=v;exact(r_law n i k x b0 b row es gs K hI).imp id fun⟨n',i',k',x',b0',b',row',es',gs',h⟩=>⟨((n',i',k',()),(x',(b0',()),(b',()),row',es',gs',())),h⟩)
def laX:Nat→Rd→Rd
 |0,x=>x
 |m+1,x=>laX m (prX 4 (rdGo x 1))
def laE:Nat→Rd→List Bool→List Bool
 |0,_,es=>es
 |m+1,x,es=>laE m (prX 4 (rdGo x 1)) (es++[decide (pickV x 3=0)])
def laG (n:Int):Nat→Rd→List (List Int)→List (List Int)
 |0,_,gs=>gs
 |m+1,x,gs=>laG n m (prX 4 (rdGo x 1)) (gs++[prR n 4 (rdGo x 1) []])
theorem la_adv {x:Rd}:Adv x (prX 4 (rdGo x 1)) 5:=((Adv.one x).trans (prX_adv (m:=4) (x:=rdGo x 1))).le (by omega)
theorem laX_adv:∀ {m:Nat} {x:Rd},Adv x (laX m x) (5*(m:Int))
 |0,x=>(Adv.refl x).le (by omega)
 |m+1,x=>(la_adv.trans (laX_adv (m:=m))).le (by omega)
theorem laE_len:∀ {m:Nat} {x:Rd} {es:List Bool},(laE m x es).length=es.length+m
 |0,_,_=>rfl
 |m+1,x,es=>by
  unfold laE;rw[laE_len,length_append,length_singleton];omega
theorem laG_ok {n:Int}:∀ {m:Nat} {x:Rd} {gs:List (List Int)},List.all gs (fun r=>Nat.beq r.length 4)=true→(laG n m x gs).length=gs.length+m∧List.all (laG n m x gs) (fun r=>Nat.beq r.length 4)=true
 |0,_,_,h=>⟨rfl,h⟩
 |m+1,x,gs,h=>by
  have h2:List.all (gs++[prR n 4 (rdGo x 1) []]) (fun r=>Nat.beq r.length 4)=true:=by
   rw[List.all_append,h,List.all_cons,List.all_nil,prR_len];rfl
  obtain⟨h3,h4⟩:=laG_ok (n:=n) (m:=m) (x:=prX 4 (rdGo x 1)) h2;unfold laG;rw[h3,length_append,length_singleton];exact⟨by omega,h4⟩
theorem x_la (x:Rd) (n b i:Int) (es:List Bool) (gs:List (List Int)) (R:St→Option Fin) (K:Cont):evC (cb_l13a.withLoops (look L_law)) (loopOf Tryd.f92 0) ⟨envW n i,hpW x b es gs⟩ (onward (headAt (cb_l13a.withLoops (look L_law)) 4) R K) =
  branch (decide (i<n)) (need (rdOk x) (need (fitB (es.length+1)) (need (pre_law n i 0 (rdGo x 1) 0 b [] (es++[decide (pickV x 3=0)]) gs) (need (fitG (gs.length+1)) (R ⟨envW n (W64 (i+1)),hpW (prX 4 (rdGo x 1)) b (es++[decide (pickV x 3=0)]) (gs++[prR n 4 (rdGo x 1) []])⟩)))))
   (K (.exit 0) ⟨[(2, kp0),(4, kp1)],[(500000,zO),(500001,aO b 500002 500003),(0,bR x),(500002,esO es),(500003,gsO gs)]⟩):=by kernel_rfl
def cx0_la:Cx:=(cb_l13a).withLoops (look L_law)
def sh_la:Sh:=([(0, .ptr 0 0),(2, .ptr 500000 0),(3, .d TI64),(4, .ptr 500001 0),(5, .d TI64)],[(0, .box 125 TR),(500000, .mix 49 [.d TI64, .nil, .nil]),(500001, .mix 49 [.d TI64, .own 500002, .deep 500003]),(500002, .lis 4 .bool),(500003, .deep [98,3] TIS)])
abbrev st_la (n i:Int) (x:Den TR) (b0 b:Int) (es:List (Bool)) (gs:List (List Int)):St:=⟨[(0, .d (.one (.ptr 0 0))),(2, kp0),(3,vI n),(4, kp1),(5,vI i)],[(0,some (boxD 125 TR x)),(500000,some (.box 49 ((cellsR TI64 b0).map C.r++[.r (.v (.slice none 0 0))]++[.r (.v (.slice none 0 0))]))),(500001,some (.box 49 ((cellsR TI64 b).map C.r++[.own 500002]++[.dsl 500003 []]))),(500002,some (.lis 4 .bool es)),(500003,some (.deep [98,3] TIS gs))]⟩
def pre_la (n i:Int) (x:Den TR) (b0 _b:Int) (es:List (Bool)) (gs:List (List Int)):Bool:=decide (0≤i)&&(decide (i≤n)&&(decide (n≤6)&&(rdAt x (10000000900500+5*i)&&(decide ((length es:Int)≤i)&&(decide ((length gs:Int)≤i)&&decide (b0=0))))))
def res_la (n i:Int) (x:Den TR) (_b0 b:Int) (es:List (Bool)) (gs:List (List Int)) (K:Cont):Option Fin:=K (.exit 0) ⟨[(2, kp0),(4, kp1)],[(500000,zO),(500001,aO b 500002 500003),(0,bR (laX (n-i).toNat x)),(500002,esO (laE (n-i).toNat x es)),(500003,gsO (laG n (n-i).toNat x gs))]⟩
def mu_la (n i:Int) (_x:Den TR) (_b0 _b:Int) (_es:List (Bool)) (_gs:List (List Int)):Nat:=(n-i).toNat
theorem r_la (n i:Int) (x:Den TR) (b0 b:Int) (es:List (Bool)) (gs:List (List Int)) (K:Cont) (hI:pre_la n i x b0 b es gs=true):(∀R:St→Option Fin,evC cx0_la (loopOf Tryd.f92 0) (st_la n i x b0 b es gs) (onward (headAt cx0_la 4) R K)=res_la n i x b0 b es gs K) ∨
  (∃(n' i':Int) (x':Den TR) (b0' b':Int) (es':List (Bool)) (gs':List (List Int)),pre_la n' i' x' b0' b' es' gs'=true∧mu_la n' i' x' b0' b' es' gs'<mu_la n i x b0 b es gs∧res_la n' i' x' b0' b' es' gs' K=res_la n i x b0 b es gs K∧∀R:St→Option Fin,evC cx0_la (loopOf Tryd.f92 0) (st_la n i x b0 b es gs) (onward (headAt cx0_la 4) R K)=R (st_la n' i' x' b0' b' es' gs')):=by
 have hx:=fun R=>x_la x n b i es gs R K;simp only[pre_la,andd,dec_iff]at hI;obtain⟨h0,h1,h2,h3,h4,h5,rfl⟩:=hI
 by_cases hi:i<n
 ·have w:W64 (i+1)=i+1:=wrap_small (by omega) (by omega);obtain⟨m,hm⟩:∃m,(n-i).toNat=m+1:=⟨(n-i-1).toNat,by omega⟩;have hm2:(n-(i+1)).toNat=m:=by omega
  have k0:rdOk x=true:=ok1 h3 (by omega);have k1:rdAt (rdGo x 1) (10000000990000+0)=true:=(Adv.one x).at h3 (by omega);have k2:rdAt (prX 4 (rdGo x 1)) (10000000900500+5*(i+1))=true:=la_adv.at h3 (by omega);have f1:=fitB_ok (n:=es.length+1) (by omega);have f2:=fitG_ok (n:=gs.length+1) (by omega);have kp:pre_law n i 0 (rdGo x 1) 0 b [] (es++[decide (pickV x 3=0)]) gs=true:=by
   simp only[pre_law,andd,dec_iff];exact⟨Int.le_refl 0,by omega,k1,Int.le_refl 0,trivial⟩
  rw[zT hi,w,k0,f1,kp,f2]at hx;right;refine⟨n,i+1,prX 4 (rdGo x 1),0,b,es++[decide (pickV x 3=0)],gs++[prR n 4 (rdGo x 1) []], ?_, ?_, ?_,fun R=>hx R⟩
  ·simp only[pre_la,andd,dec_iff,length_append,length_singleton];exact⟨by omega,by omega,h2,k2,by omega,by omega,trivial⟩
  ·simp only[mu_la];omega
  ·simp only[res_la,hm,hm2];rfl
 ·left;intro R;refine(hx R).trans ?_;rw[zF hi];have hm:(n-i).toNat=0:=by omega
  simp only[res_la,hm];rfl
def g_la:St→Cont→Option Fin:=gP sh_la (fun v=>match v with | ((n,i,()),(x,(b0,()),(b,()),es,gs,()))=>pre_la n i x b0 b es gs) (fun v K=>match v with | ((n,i,()),(x,(b0,()),(b,()),es,gs,()))=>res_la n i x b0 b es gs K)
def L_la:LpL:=(4,g_la)::L_law
def cx_la:Cx:=(cb_l13a).withLoops (look L_la)
theorem l_la {L:LpL} (n:Nat) (h1:L.drop n=L_law) (h2:idsFree (L.take n) (loopOf Tryd.f92 0)=true):LoopsTo g_la (cb_l13a) (loopOf Tryd.f92 0) 4 L :=
 with_drop h1 h2 (gP_ok (fun v=>match v with | ((n,i,()),(x,(b0,()),(b,()),es,gs,()))=>mu_la n i x b0 b es gs) fun v K hI=>by
  obtain⟨⟨n,i,⟨⟩⟩,⟨x,⟨b0,⟨⟩⟩,⟨b,⟨⟩⟩,es,gs,⟨⟩⟩⟩:=v;exact(r_la n i x b0 b es gs K hI).imp id fun⟨n',i',x',b0',b',es',gs',h⟩=>⟨((n',i',()),(x',(b0',()),(b',()),es',gs',())),h⟩)
def goodA (a:Auto):Bool:=Nat.ble a.2.1.length 6&&(Nat.ble 1 a.2.2.length&&(Nat.ble a.2.2.length 6&&List.all a.2.2 (fun r=>Nat.beq r.length 4)))
theorem goodA_iff {a:Auto}:goodA a=true↔a.2.1.length≤6∧1≤a.2.2.length∧a.2.2.length≤6∧List.all a.2.2 (fun r=>Nat.beq r.length 4)=true:=by
 unfold goodA;rw[andd,andd,andd,ble_iff,ble_iff,ble_iff]
abbrev nW:List Int:=[2,3,1,4,2,6]
theorem y_spec_l13Auto (x:Rd) :evFn cx_la Tryd.f92 true [.one (.ptr 0 0)] [boxD 125 TR x]=(
need (rdOk x&&Nat.blt 0 [2,3,1,4,2,6].length) <|
need (rdOk (rdGo x 1)) <|
need (pre_la (numV x [2,3,1,4,2,6]) 0 (rdGo (rdGo x 1) 1) 0 (pickV (rdGo x 1) (numV x [2,3,1,4,2,6])) [] []) <| some ((.d (.agg [(.r (.v (Value.int IntKind.i64 (pickV (rdGo x 1) (numV x [2,3,1,4,2,6]))))),(.r (.li (Ty.bool) (laE (numV x [2,3,1,4,2,6]-0).toNat (rdGo (rdGo x 1) 1) []))),(.r (.li TIS (laG (numV x [2,3,1,4,2,6]) (numV x [2,3,1,4,2,6]-0).toNat (rdGo (rdGo x 1) 1) [])))])),[(0,(bR (laX (numV x [2,3,1,4,2,6]-0).toNat (rdGo (rdGo x 1) 1))))])):=by kernel_rfl
theorem e_spec_l13Auto (x:Rd)  (hx:Fit TR x)  (hpre:(rdAt x 10000000900400)=true):∃q:(Auto)×Rd,evFn (cx_la) Tryd.f92 true [.one (.ptr 0 0)] [boxD 125 TR x]=some (.d (ofD TA q.1),[(0,some (boxD 125 TR q.2))])∧(goodA q.1=true∧Adv x q.2 100):=by
 obtain⟨r,h1,h2⟩:Ok (evFn (cx_la) Tryd.f92 true [.one (.ptr 0 0)] [boxD 125 TR x]) (fun r=>∃(v:Auto) (x':Rd),r=(.d (ofD TA v),[(0,some (boxD 125 TR x'))])∧(goodA v=true∧Adv x x' 100)):=by
  have f0:=fit_fitR hx;have hb:BY x:=byB_iff.1 (andd.1 f0).1;have k0:rdOk x=true:=ok1 hpre (by omega);have hn:=numV_le (x:=x) (l:=nW) (a:=1) (b:=6) (by decide) hb k0 (by decide);rw[y_spec_l13Auto];change Ok (need _ (need _ (need (pre_la (numV x nW) 0 (rdGo (rdGo x 1) 1) 0 (pickV (rdGo x 1) (numV x nW)) [] []) (some (T.d (ofD TA ((pickV (rdGo x 1) (numV x nW),laE (numV x nW-0).toNat (rdGo (rdGo x 1) 1) [],laG (numV x nW) (numV x nW-0).toNat (rdGo (rdGo x 1) 1) []):Auto)),[(0,bR (laX (numV x nW-0).toNat (rdGo (rdGo x 1) 1)))]))))) _
  generalize numV x nW=n at hn
  have k1:rdOk (rdGo x 1)=true:=(Adv.one x).ok hpre (by omega);have a2:Adv x (rdGo (rdGo x 1) 1) 2:=(Adv.one x).trans (Adv.one _);have k2:rdAt (rdGo (rdGo x 1) 1) (10000000900500+5*0)=true:=a2.at hpre (by omega);have kp:pre_la n 0 (rdGo (rdGo x 1) 1) 0 (pickV (rdGo x 1) n) [] []=true:=by
   simp only[pre_la,andd,dec_iff];exact⟨Int.le_refl 0,by omega,by omega,k2,Int.le_refl 0,Int.le_refl 0,trivial⟩
  obtain⟨g1,g2⟩:=laG_ok (n:=n) (m:=(n-0).toNat) (x:=rdGo (rdGo x 1) 1) (gs:=[]) rfl;have e1:=laE_len (m:=(n-0).toNat) (x:=rdGo (rdGo x 1) 1) (es:=[]);rw[List.length_nil]at g1 e1;have a3:=a2.trans (laX_adv (m:=(n-0).toNat) (x:=rdGo (rdGo x 1) 1));exact Ok.need (andd.2 ⟨k0,rfl⟩) (Ok.need k1 (Ok.need kp (Ok.ret ⟨_,_,rfl,goodA_iff.2 ⟨by show(laE (n-0).toNat (rdGo (rdGo x 1) 1) []).length≤6;omega,by show 1≤(laG n (n-0).toNat (rdGo (rdGo x 1) 1) []).length;omega,by show(laG n (n-0).toNat (rdGo (rdGo x 1) 1) []).length≤6;omega,g2⟩,a3.le (by omega)⟩)))
 obtain⟨v,x',h2,h3⟩:=h2;exact⟨(v,x'),by rw[h1,h2],h3⟩
def F_spec_l13Auto (x:Rd) :(Auto)×Rd:=oneOf (fun q:(Auto)×Rd=>evFn (cx_la) Tryd.f92 true [.one (.ptr 0 0)] [boxD 125 TR x]=some (.d (ofD TA q.1),[(0,some (boxD 125 TR q.2))])∧(goodA q.1=true∧Adv x q.2 100))
theorem p_spec_l13Auto (x:Rd)  (hx:Fit TR x)  (hpre:(rdAt x 10000000900400)=true):goodA (F_spec_l13Auto x ).1=true∧Adv x (F_spec_l13Auto x ).2 100:=(oneOf_spec (e_spec_l13Auto x  hx  hpre)).2
theorem s_spec_l13Auto (x:Rd)  (hx:Fit TR x)  (hpre:(rdAt x 10000000900400)=true):Sat Tryd.prog 92 [.one (.ptr 0 0)] [boxD 125 TR x] (.d (ofD TA (F_spec_l13Auto x ).1)) [(0,some (boxD 125 TR (F_spec_l13Auto x ).2))] :=
 fn_sound (cx:=cx_la) Tryd.func92 rfl ttOk Γ56ok mixed (fun c hc=>LoopsOk.all (l:=[(4,loopOf Tryd.f92 0),(9,loopOf Tryd.f92 1)]) (by cases hc;kernel_rfl) ⟨atLoop rfl (l_la 1 rfl (by kernel_rfl)),atLoop rfl (l_law 2 rfl (by kernel_rfl)),trivial⟩) (ro:=true) (oneOf_spec (e_spec_l13Auto x  hx  hpre)).1
def c_spec_l13Auto:Con:=conB 125 TR [] fun(x:Rd) =>(some (rdAt x 10000000900400), .d (ofD TA (F_spec_l13Auto x ).1),(F_spec_l13Auto x ).2)
theorem k_spec_l13Auto:ConOk Tryd.prog 92 c_spec_l13Auto:=conB_ok Tryd.call92 fun x hx  hqq=>s_spec_l13Auto x  hx  (pre_of hqq)
def Γ57:GL:=(92,c_spec_l13Auto)::Γ56
theorem Γ57ok:GO Γ57 := .cons k_spec_l13Auto Γ56ok
def cb_l13c:Cx:=cxOf Γ57 Tryd.f113.ntmps [(3,[1,2,3,4])] [(0,[2,3]),(1,[1,2,3,4]),(1000000,[2])] [(3,[(100000000*(3+1)+300003,98,TIS)])] []
abbrev envC (i:Int):List (Nat×T):=[(1, .d (.one (.ptr 500000 0))),(2, .d (.one (.ptr 500001 0))),(3, .d (.one (.ptr 500002 0))),(4,vI i)]
abbrev hpC (a:Auto) (b:Int) (es:List Bool) (gs:List (List Int)):Heap:=[(500000,some (boxD 49 TA a)),(500001,zO),(500002,aO b 500003 500004),(500003,esO es),(500004,gsO gs)]
theorem x_lc (a:Auto) (b i:Int) (es:List Bool) (gs:List (List Int)) (R:St→Option Fin) (K:Cont):evC (cb_l13c.withLoops (look [])) (loopOf Tryd.f113 0) ⟨envC i,hpC a b es gs⟩ (onward (headAt (cb_l13c.withLoops (look [])) 3) R K) =
  branch (decide (i<(length a.2.2:Int))) (need (inb i (length a.2.2)) (need (fitI (0+(rowI a i).length)) (need (fitG (gs.length+1)) (R ⟨envC (W64 (i+1)),hpC a b es (gs++[rowI a i])⟩))))
   (K (.exit 0) ⟨[(2, kp0),(3, kp1)],[(500000,zO),(500001,aO b 500002 500003),(500002,esO es),(500003,gsO gs)]⟩):=by kernel_rfl
def cx0_lc:Cx:=(cb_l13c).withLoops (look [])
def sh_lc:Sh:=([(1, .ptr 500000 0),(2, .ptr 500001 0),(3, .ptr 500002 0),(4, .d TI64)],[(500000, .box 49 TA),(500001, .mix 49 [.d TI64, .nil, .nil]),(500002, .mix 49 [.d TI64, .own 500003, .deep 500004]),(500003, .lis 4 .bool),(500004, .deep [98,3] TIS)])
abbrev st_lc (i:Int) (a:Auto) (b0 b:Int) (es:List (Bool)) (gs:List (List Int)):St:=⟨[(1, kp0),(2, kp1),(3, .d (.one (.ptr 500002 0))),(4,vI i)],[(500000,some (boxD 49 TA a)),(500001,some (.box 49 ((cellsR TI64 b0).map C.r++[.r (.v (.slice none 0 0))]++[.r (.v (.slice none 0 0))]))),(500002,some (.box 49 ((cellsR TI64 b).map C.r++[.own 500003]++[.dsl 500004 []]))),(500003,some (.lis 4 .bool es)),(500004,some (.deep [98,3] TIS gs))]⟩
def pre_lc (i:Int) (a:Auto) (b0 _b:Int) (_es:List (Bool)) (gs:List (List Int)):Bool:=decide (0≤i)&&(goodA a&&(decide ((length gs:Int)≤i)&&decide (b0=0)))
def res_lc (i:Int) (a:Auto) (_b0 b:Int) (es:List (Bool)) (gs:List (List Int)) (K:Cont):Option Fin:=K (.exit 0) ⟨[(2, kp0),(3, kp1)],[(500000,zO),(500001,aO b 500002 500003),(500002,esO es),(500003,gsO (gs++List.drop i.toNat a.2.2))]⟩
def mu_lc (i:Int) (a:Auto) (_b0 _b:Int) (_es:List (Bool)) (_gs:List (List Int)):Nat:=length a.2.2-i.toNat
theorem r_lc (i:Int) (a:Auto) (b0 b:Int) (es:List (Bool)) (gs:List (List Int)) (K:Cont) (hI:pre_lc i a b0 b es gs=true):(∀R:St→Option Fin,evC cx0_lc (loopOf Tryd.f113 0) (st_lc i a b0 b es gs) (onward (headAt cx0_lc 3) R K)=res_lc i a b0 b es gs K) ∨
  (∃(i':Int) (a':Auto) (b0' b':Int) (es':List (Bool)) (gs':List (List Int)),pre_lc i' a' b0' b' es' gs'=true∧mu_lc i' a' b0' b' es' gs'<mu_lc i a b0 b es gs∧res_lc i' a' b0' b' es' gs' K=res_lc i a b0 b es gs K∧∀R:St→Option Fin,evC cx0_lc (loopOf Tryd.f113 0) (st_lc i a b0 b es gs) (onward (headAt cx0_lc 3) R K)=R (st_lc i' a' b0' b' es' gs')):=by
 have hx:=fun R=>x_lc a b i es gs R K;simp only[pre_lc,andd,dec_iff]at hI;obtain⟨h0,h1,h2,rfl⟩:=hI;obtain⟨g1,g2,g3,g4⟩:=goodA_iff.1 h1
 by_cases hi:i<(length a.2.2:Int)
 ·have hn:i.toNat<length a.2.2:=by omega
  have w:W64 (i+1)=i+1:=wrap_small (by omega) (by omega);have hd:List.drop i.toNat a.2.2=rowI a i::List.drop (i+1).toNat a.2.2:=by
   rw[drop_eq_getElem_cons hn,show (i+1).toNat=i.toNat+1 by omega];show _=getD a.2.2 i.toNat row0::_;rw[zG,zE hn];rfl
  have hr:(rowI a i).length=4:=by
   have:rowI a i∈a.2.2:=by
    show getD a.2.2 i.toNat row0∈_;rw[zG,zE hn];exact List.getElem_mem hn
   exact zB (all_eq_true.1 g4 _ this)
  have f1:=fitI_ok (n:=0+(rowI a i).length) (by omega);have f2:=fitG_ok (n:=gs.length+1) (by omega);rw[zT hi,inb_ok h0 hi,w,f1,f2]at hx;right;refine⟨i+1,a,0,b,es,gs++[rowI a i], ?_, ?_, ?_,fun R=>hx R⟩
  ·simp only[pre_lc,andd,dec_iff,length_append,length_singleton];exact⟨by omega,h1,by omega,trivial⟩
  ·simp only[mu_lc];omega
  ·simp only[res_lc,hd,append_assoc,List.singleton_append]
 ·left;intro R;refine(hx R).trans ?_;rw[zF hi];have e:List.drop i.toNat a.2.2=[]:=drop_eq_nil_of_le (by omega);simp only[res_lc,e,List.append_nil];rfl
def g_lc:St→Cont→Option Fin:=gP sh_lc (fun v=>match v with | ((i,()),(a,(b0,()),(b,()),es,gs,()))=>pre_lc i a b0 b es gs) (fun v K=>match v with | ((i,()),(a,(b0,()),(b,()),es,gs,()))=>res_lc i a b0 b es gs K)
def L_lc:LpL:=(3,g_lc)::[]
def cx_lc:Cx:=(cb_l13c).withLoops (look L_lc)
theorem l_lc {L:LpL} (n:Nat) (h1:L.drop n=[]) (h2:idsFree (L.take n) (loopOf Tryd.f113 0)=true):LoopsTo g_lc (cb_l13c) (loopOf Tryd.f113 0) 3 L :=
 with_drop h1 h2 (gP_ok (fun v=>match v with | ((i,()),(a,(b0,()),(b,()),es,gs,()))=>mu_lc i a b0 b es gs) fun v K hI=>by
  obtain⟨⟨i,⟨⟩⟩,⟨a,⟨b0,⟨⟩⟩,⟨b,⟨⟩⟩,es,gs,⟨⟩⟩⟩:=v;exact(r_lc i a b0 b es gs K hI).imp id fun⟨i',a',b0',b',es',gs',h⟩=>⟨((i',()),(a',(b0',()),(b',()),es',gs',())),h⟩)
theorem y_lcD (a:Auto):evFn cx_lc Tryd.f113 false [ofD TA a] []=(
need (fits (([]:List Unit).length+length a.snd.fst) Tryd.t4.bytes) <|
need (pre_lc 0 a 0 a.fst a.snd.fst []) <| some ((.d (.agg [(.r (.v (Value.int IntKind.i64 a.fst))),(.own 1000),(.dsl 1001 ([]))])),[(1000,(.some (.lis 4 (Ty.bool) a.snd.fst))),(1001,(.some (.deep ([98,3]) TIS (a.snd.snd))))])):=by kernel_rfl
theorem y_lcT (a:Auto):evFn cx_lc Tryd.f113 true [ofD TA a] []=(
need (fits (([]:List Unit).length+length a.snd.fst) Tryd.t4.bytes) <|
need (pre_lc 0 a 0 a.fst a.snd.fst []) <| some ((.d (.agg [(.r (.v (Value.int IntKind.i64 a.fst))),(.r (.li (Ty.bool) a.snd.fst)),(.r (.li TIS (a.snd.snd)))])),[])):=by kernel_rfl
theorem sat_half {P:Program} {f:FuncId} {ds:List D} {x:R} {A:Obj} {t:TypeId} {ts:List TypeId} {e:Ty} {l:List (List (Den e))}
  (S:Sat P f ds [] (.d (.agg [.r x, .own 1000, .dsl 1001 []])) [(1000,some A),(1001,some (.deep (t::ts) (.list e) l))]) :
  Sat P f ds [] (.d (.agg [.r x, .own 1000, .own 1002])) [(1000,some A),(1002,some (.lis t (.list e) l)),(1001,none)]:=by
 intro w F β args H hds;refine(S w F β args H hds).mono ?_;rintro ex w' ⟨v,F',β',r1,r2,r3,r4,r5,r6⟩;have h1:look [(1000,some A),(1001,some (Obj.deep (t::ts) (.list e) l))] 1001=some (some (.deep (t::ts) (.list e) l)):=rfl;obtain⟨_,hD,hInj⟩:=r2.obj 1001 _ h1;obtain⟨t',ts',us,ad,cap,e1,e2,e3,e4,e5,e6,e7,e8⟩:=hD
 injection e1 with e1 e1'
 subst e1 e1';have e5:l.length≤cap:=e5;have hhd:hd (β' 1001) = .slice ad l.length cap:=by
  rw[e2];show us.getD 0 (.bool false)=_;rw[Array.getD_eq_getD_getElem?,e4];rfl
 have hsub:∀k s,us[k+1]? = some s→∀b,Blk s b→∃p u,skAt (k::p) (β' 1001)=some u∧blk u=some b:=fun k s hs b ⟨p,u,h3,h4⟩=>⟨p,u,by rw[e2];simp only[skAt,hs];exact h3,h4⟩;have hblkT:∀b,Blk (.slice ad l.length cap) b→Blk (β' 1001) b:=fun b hb=>⟨[],_,by simp only[skAt,hhd],(Blk_iff rfl).1 hb⟩;have T1:=r2.turn (w':=w') (F':=fun b=>F' b∨∃k s,us[k+1]? = some s∧Blk s b) 1001 none (β' 1001) rfl rfl rfl (Nat.le_refl _) (fun b=>Blk (β' 1001) b)
  (fun b hb=>⟨r2.notF 1001 _ b h1 hb,fun j o' hj hj' hb'=>hj (r2.apart j 1001 o' _ b hj' h1 hb' hb),r2.fromO 1001 _ b h1 hb⟩)
  (fun _ _ _=>rfl) (fun _ hf => .inl hf) (fun b hb=>hb.elim .inl fun⟨k,s,hs,hb⟩=>by
   obtain⟨p,u,h3,h4⟩:=hsub k s hs b hb;exact .inr ⟨⟨_,u,h3,h4⟩,rfl,blk_lt (r2.obj 1001 _ h1) ⟨_,u,h3,h4⟩⟩) (fun _ _ _ h=>by cases h) (fun _ _ h=>by cases h)
 obtain⟨H1,P1⟩:=T1;rw[setB_self]at H1 P1;have T2:=H1.turn (w':=w') (F':=fun b=>F' b∨∃k s,us[k+1]? = some s∧Blk s b) 1002 (some (.lis t (.list e) l)) (.slice ad l.length cap) rfl rfl rfl (Nat.le_refl _) (fun b=>Blk (.slice ad l.length cap) b)
  (fun b hb=>by
   have hb1:=hblkT b hb;refine⟨fun hF => ?_,fun j o' _ hj' hb' => ?_,r2.fromO 1001 _ b h1 hb1⟩
   ·rcases hF with hF | ⟨k,s,hs,hbs⟩
    ·exact r2.notF 1001 _ b h1 hb1 hF
    ·obtain ⟨p,u,h3,h4⟩:=hsub k s hs b hbs;have:=hInj [] (k::p) _ u b (by simp only[skAt,hhd]) h3 ((Blk_iff rfl).1 hb) h4
     cases this
   ·simp only[setH]at hj'
    split at hj'
    ·cases hj'
    ·rename_i hne;exact hne (r2.apart j 1001 o' _ b hj' h1 hb' hb1))
  (fun _ _ _=>rfl) (fun _ hf=>hf) (fun _ hf => .inl hf) (fun q0 _ hh=>by
   have:setH (look [(1000,some A),(1001,some (Obj.deep (t::ts) (.list e) l))]) 1001 none 1002=none:=rfl;rw[this]at hh;cases hh)
  (fun _ ob hob=>by
   cases hob
   refine⟨?_,fun b hb => .inl hb⟩;rcases e7 with hc | ⟨b,cur,a1,a2,a3,a4,a5⟩
   ·have hl:l.length=0:=by omega
    exact .inl ⟨ad,by simp only[setB,if_true];rw[hl,hc],hl⟩
   ·refine .inr ⟨b,cap,cur,by simp only[setB,if_true];rw[a1];rfl,a2,a3,e5,e6,a4.trans (Nat.mul_one cap).symm,fun k hk j hj => ?_⟩;have hj0:j=0:=by have:j<1:=hj;omega
    subst hj0;have hk:k<l.length:=hk;obtain⟨s,s1,s2⟩:=a5 k hk;obtain⟨s',s1',s3⟩:=e8 k hk;rw[s1]at s1'
    cases s1'
    refine⟨hd s,by show cur[k*1+0]? = _;rw[Nat.mul_one,Nat.add_zero];exact s2, ?_⟩;exact DeepAt.ro (fun _ h => .inl h) s3 fun b hb => .inr ⟨k,s,s1,hb⟩)
 obtain⟨H2,P2⟩:=T2;have hh:setH (setH (look [(1000,some A),(1001,some (Obj.deep (t::ts) (.list e) l))]) 1001 none) 1002 (some (.lis t (.list e) l))=look [(1000,some A),(1002,some (.lis t (.list e) l)),(1001,none)]:=by
  funext j
  simp only[setH,look]
  by_cases j2:j=1002
  ·subst j2;rfl
  ·by_cases j1:j=1001
   ·subst j1;rfl
   ·have n2:Nat.beq 1002 j=false:=by cases h:Nat.beq 1002 j with | false=>rfl | true=>exact absurd (zB h).symm j2
    have n1:Nat.beq 1001 j=false:=by cases h:Nat.beq 1001 j with | false=>rfl | true=>exact absurd (zB h).symm j1
    rw[if_neg j2,if_neg j1,n1,n2];rfl
 obtain⟨us2,hv,hall⟩:=r6;refine⟨v,_,_,r1,by rw[← hh];exact H2,fun i hi=>absurd hi (Nat.not_lt_zero _),fun i o hi=>absurd hi (Nat.not_lt_zero _),fun _ _ _ hh=>(nomatch hh),⟨us2,hv, ?_⟩⟩;rw[← hh]
 generalize us2.toList=ul at hall
 cases hall with | cons g1 g2=>cases g2 with | cons g2 g3=>cases g3 with | cons g3 g4 =>
 cases g4
 refine .cons (P2.repC (P1.repC g1)) (.cons (P2.repC (P1.repC g2)) (.cons ⟨g3.1,⟨_,rfl⟩,fun o _ => ?_⟩ .nil));have:=g3.2.2 _ h1;simp only[skAt,hhd]at this;simp only[setB,if_true];exact(Option.some.inj this).symm
theorem lc_pre {a:Auto} (h:goodA a=true):fits (0+a.2.1.length) Tryd.t4.bytes=true∧pre_lc 0 a 0 a.1 a.2.1 []=true:=by
 obtain⟨g1,_⟩:=goodA_iff.1 h;refine⟨fitB_ok (n:=0+a.2.1.length) (by omega), ?_⟩;simp only[pre_lc,andd,dec_iff];exact⟨Int.le_refl 0,h,Int.le_refl 0,trivial⟩
abbrev cpD (a:Auto):T := .d (.agg [.r (.v (.int .i64 a.1)), .own 1000, .dsl 1001 []])
abbrev cpL (a:Auto):T := .d (.agg [.r (.v (.int .i64 a.1)), .own 1000, .own 1002])
theorem s_lcD (a:Auto) (h:goodA a=true):Sat Tryd.prog 113 [ofD TA a] [] (cpD a) [(1000,esO a.2.1),(1001,gsO a.2.2)] :=
 fn_sound (cx:=cx_lc) Tryd.func113 rfl ttOk Γ57ok mixed (fun c hc=>LoopsOk.all (l:=[(3,loopOf Tryd.f113 0)]) (by cases hc;kernel_rfl) ⟨atLoop rfl (l_lc 1 rfl (by kernel_rfl)),trivial⟩) (ro:=false) (by
  obtain⟨k1,k2⟩:=lc_pre h;refine(y_lcD a).trans ?_;show need (fits (0+a.2.1.length) Tryd.t4.bytes) (need (pre_lc 0 a 0 a.1 a.2.1 []) _)=_;rw[k1,k2];rfl)
theorem s_lcT (a:Auto) (h:goodA a=true):Sat Tryd.prog 113 [ofD TA a] [] (.d (ofD TA a)) [] :=
 fn_sound (cx:=cx_lc) Tryd.func113 rfl ttOk Γ57ok mixed (fun c hc=>LoopsOk.all (l:=[(3,loopOf Tryd.f113 0)]) (by cases hc;kernel_rfl) ⟨atLoop rfl (l_lc 1 rfl (by kernel_rfl)),trivial⟩) (ro:=true) (by
  obtain⟨k1,k2⟩:=lc_pre h;refine(y_lcT a).trans ?_;show need (fits (0+a.2.1.length) Tryd.t4.bytes) (need (pre_lc 0 a 0 a.1 a.2.1 []) _)=_;rw[k1,k2];rfl)
def c_spec_l13CopyD:Con:=conN [TA] fun(a:Auto)=>(some (goodA a),cpD a,[(1000,esO a.2.1),(1001,gsO a.2.2)])
theorem k_spec_l13CopyD:ConOk Tryd.prog 113 c_spec_l13CopyD:=conN_ok Tryd.call113 fun(a:Auto) _ hqq=>s_lcD a (pre_of hqq)
def Γ58:GL:=(113,c_spec_l13CopyD)::Γ57
theorem Γ58ok:GO Γ58 := .cons k_spec_l13CopyD Γ57ok
def cx_lbD:Cx:=cxOf Γ58 Tryd.f91.ntmps [] [(0,[4,5]),(1000000,[4])] [] []
theorem y_lbD (x:Rd) (a:Auto):evFn cx_lbD Tryd.f91 true [.one (.ptr 0 0),ofD TA a] [boxD 125 TR x]=(
need (goodA a) <|
need (rdOk x) <|
branch (decide (pickV x 50=0)) (
 need (rdOk (rdGo x 1)&&Nat.blt 0 [Int.neg 1,9,0].length) <| some ((.d (.agg [(.r (.v (Value.int IntKind.i64 (numV (rdGo x 1) [Int.neg 1,9,0])))),(.r (.li (Ty.bool) (a.snd.fst))),(.r (.li TIS (a.snd.snd)))])),[(0,(bR (rdGo (rdGo x 1) 1)))])) (
 branch (decide (pickV x 50=1)) (
 need (fits (a.snd.fst.length+[true].length) Tryd.t4.bytes) <| some ((.d (.agg [(.r (.v (Value.int IntKind.i64 a.fst))),(.r (.li ty4 (a.snd.fst.append [true]))),(.r (.li TIS (a.snd.snd)))])),[(0,(bR (rdGo x 1)))])) (
 branch (decide (pickV x 50=2)) (
  need (inb 0 a.snd.snd.length) <| none) (
  branch (decide (pickV x 50=3)) (
  need (inb 0 a.snd.snd.length) <|
  need (rdOk (rdGo x 1)) <|
  need (rdOk (rdGo (rdGo x 1) 1)&&Nat.blt 0 [Int.neg 2,9,0,Int.neg 1].length) <|
  need (inb (pickV (rdGo x 1) 4) (a.snd.snd.getD ((0:Int).toNat) []).length) <| some ((.d (.agg [(.r (.v (Value.int IntKind.i64 a.fst))),(.r (.li (Ty.bool) (a.snd.fst))),(.r (.li TIS (a.snd.snd.set ((0:Int).toNat) ((a.snd.snd.getD ((0:Int).toNat) []).set (pickV (rdGo x 1) 4).toNat (numV (rdGo (rdGo x 1) 1) [Int.neg 2,9,0,Int.neg 1])))))])),[(0,(bR (rdGo (rdGo (rdGo x 1) 1) 1)))])) (
  branch (decide (pickV x 50=4)) ( none) ( some ((.d (.agg [(.r (.v (Value.int IntKind.i64 a.fst))),(.r (.li (Ty.bool) (a.snd.fst))),(.r (.li TIS (a.snd.snd)))])),[(0,(bR (rdGo x 1)))]))))))):=by kernel_rfl
theorem sndD {x:Rd} {a:Auto} {r:Fin} (h:evFn cx_lbD Tryd.f91 true [.one (.ptr 0 0),ofD TA a] [boxD 125 TR x]=some r):Sat Tryd.prog 91 [.one (.ptr 0 0),ofD TA a] [boxD 125 TR x] r.1 r.2 :=
 fn_sound (cx:=cx_lbD) Tryd.func91 rfl ttOk Γ58ok mixed (fun _ _=>LoopsOk.no fun _=>rfl) (ro:=true) h
def c_spec_l13CopyL:Con:=conN [TA] fun(a:Auto)=>(some (goodA a),cpL a,[(1000,esO a.2.1),(1002,some (.lis 98 TIS a.2.2)),(1001,none)])
theorem k_spec_l13CopyL:ConOk Tryd.prog 113 c_spec_l13CopyL:=conN_ok Tryd.call113 fun(a:Auto) _ hqq=>sat_half (s_lcD a (pre_of hqq))
def Γ59:GL:=(113,c_spec_l13CopyL)::Γ57
theorem Γ59ok:GO Γ59 := .cons k_spec_l13CopyL Γ57ok
def cx_lbL:Cx:=cxOf Γ59 Tryd.f91.ntmps [] [(0,[4,5]),(1000000,[4])] [] []
theorem y_lbL (x:Rd) (a:Auto):evFn cx_lbL Tryd.f91 true [.one (.ptr 0 0),ofD TA a] [boxD 125 TR x]=(
need (goodA a) <|
need (rdOk x) <|
branch (decide (pickV x 50=0)) (
 need (rdOk (rdGo x 1)&&Nat.blt 0 [Int.neg 1,9,0].length) <| some ((.d (.agg [(.r (.v (Value.int IntKind.i64 (numV (rdGo x 1) [Int.neg 1,9,0])))),(.r (.li (Ty.bool) (a.snd.fst))),(.r (.li TIS (a.snd.snd)))])),[(0,(bR (rdGo (rdGo x 1) 1)))])) (
 branch (decide (pickV x 50=1)) (
 need (fits (a.snd.fst.length+[true].length) Tryd.t4.bytes) <| some ((.d (.agg [(.r (.v (Value.int IntKind.i64 a.fst))),(.r (.li ty4 (a.snd.fst.append [true]))),(.r (.li TIS (a.snd.snd)))])),[(0,(bR (rdGo x 1)))])) (
 branch (decide (pickV x 50=2)) (
  need (inb 0 a.snd.snd.length) <|
  need (inr 1 ((length (a.snd.snd.getD ((0:Int).toNat) (dflt TIS)):Int)) (length (a.snd.snd.getD ((0:Int).toNat) (dflt TIS)))) <|
  need (inb 0 a.snd.snd.length) <| some ((.d (.agg [(.r (.v (Value.int IntKind.i64 a.fst))),(.r (.li (Ty.bool) (a.snd.fst))),(.r (.li TIS (a.snd.snd.set ((0:Int).toNat) (List.take (((length (a.snd.snd.getD ((0:Int).toNat) (dflt TIS)):Int)).toNat-Int.toNat 1) (List.drop (Int.toNat 1) (a.snd.snd.getD ((0:Int).toNat) (dflt TIS)))))))])),[(0,(bR (rdGo x 1)))])) (
  branch (decide (pickV x 50=3)) (
  need (inb 0 a.snd.snd.length) <|
  need (rdOk (rdGo x 1)) <|
  need (rdOk (rdGo (rdGo x 1) 1)&&Nat.blt 0 [Int.neg 2,9,0,Int.neg 1].length) <|
  need (inb (pickV (rdGo x 1) 4) (length (a.snd.snd.getD ((0:Int).toNat) (dflt TIS)))) <| none) (
  branch (decide (pickV x 50=4)) (
   need (inr 1 ((a.snd.snd.length:Int)) a.snd.snd.length) <| none) ( some ((.d (.agg [(.r (.v (Value.int IntKind.i64 a.fst))),(.r (.li (Ty.bool) (a.snd.fst))),(.r (.li TIS (a.snd.snd)))])),[(0,(bR (rdGo x 1)))]))))))):=by kernel_rfl
theorem sndL {x:Rd} {a:Auto} {r:Fin} (h:evFn cx_lbL Tryd.f91 true [.one (.ptr 0 0),ofD TA a] [boxD 125 TR x]=some r):Sat Tryd.prog 91 [.one (.ptr 0 0),ofD TA a] [boxD 125 TR x] r.1 r.2 :=
 fn_sound (cx:=cx_lbL) Tryd.func91 rfl ttOk Γ59ok mixed (fun _ _=>LoopsOk.no fun _=>rfl) (ro:=true) h
def c_spec_l13Copy:Con:=conT [TA] fun(a:Auto)=>(some (goodA a), .d (ofD TA a))
theorem k_spec_l13Copy:ConOk Tryd.prog 113 c_spec_l13Copy:=conT_ok Tryd.call113 fun(a:Auto) _ hqq=>s_lcT a (pre_of hqq)
def Γ60:GL:=(113,c_spec_l13Copy)::Γ57
theorem Γ60ok:GO Γ60 := .cons k_spec_l13Copy Γ57ok
def cx_lbT:Cx:=cxOf Γ60 Tryd.f91.ntmps [] [(0,[4,5]),(1000000,[4])] [] []
theorem y_lbT (x:Rd) (a:Auto):evFn cx_lbT Tryd.f91 true [.one (.ptr 0 0),ofD TA a] [boxD 125 TR x]=(
need (goodA a) <|
need (rdOk x) <|
branch (decide (pickV x 50=0)) (
 need (rdOk (rdGo x 1)&&Nat.blt 0 [Int.neg 1,9,0].length) <| some ((.d (.agg [(.r (.v (Value.int IntKind.i64 (numV (rdGo x 1) [Int.neg 1,9,0])))),(.r (.li (Ty.bool) (a.snd.fst))),(.r (.li TIS (a.snd.snd)))])),[(0,(bR (rdGo (rdGo x 1) 1)))])) (
 branch (decide (pickV x 50=1)) ( none) (
 branch (decide (pickV x 50=2)) (
  need (inb 0 (length a.snd.snd)) <|
  need (inr 1 ((length (getD a.snd.snd ((0:Int).toNat) (dflt TIS)):Int)) (length (getD a.snd.snd ((0:Int).toNat) (dflt TIS)))) <|
  need (inb 0 (length a.snd.snd)) <| none) (
  branch (decide (pickV x 50=3)) (
  need (inb 0 (length a.snd.snd)) <|
  need (rdOk (rdGo x 1)) <|
  need (rdOk (rdGo (rdGo x 1) 1)&&Nat.blt 0 [Int.neg 2,9,0,Int.neg 1].length) <|
  need (inb (pickV (rdGo x 1) 4) (length (getD a.snd.snd ((0:Int).toNat) (dflt TIS)))) <| none) (
  branch (decide (pickV x 50=4)) (
   need (inr 1 ((length a.snd.snd:Int)) (length a.snd.snd)) <| some ((.d (.agg [(.r (.v (Value.int IntKind.i64 a.fst))),(.r (.li (Ty.bool) (a.snd.fst))),(.r (.li ty98 (List.take (((length a.snd.snd:Int)).toNat-Int.toNat 1) (List.drop (Int.toNat 1) a.snd.snd))))])),[(0,(bR (rdGo x 1)))])) ( some ((.d (.agg [(.r (.v (Value.int IntKind.i64 a.fst))),(.r (.li (Ty.bool) (a.snd.fst))),(.r (.li TIS (a.snd.snd)))])),[(0,(bR (rdGo x 1)))]))))))):=by kernel_rfl
theorem sndT {x:Rd} {a:Auto} {r:Fin} (h:evFn cx_lbT Tryd.f91 true [.one (.ptr 0 0),ofD TA a] [boxD 125 TR x]=some r):Sat Tryd.prog 91 [.one (.ptr 0 0),ofD TA a] [boxD 125 TR x] r.1 r.2 :=
 fn_sound (cx:=cx_lbT) Tryd.func91 rfl ttOk Γ60ok mixed (fun _ _=>LoopsOk.no fun _=>rfl) (ro:=true) h
abbrev lbG (x:Rd) (r:Fin):Prop:=∃(v:Auto) (x':Rd),r=(.d (ofD TA v),[(0,some (boxD 125 TR x'))])∧Adv x x' 10
def bentQ (x:Rd) (a:Auto) (q:Auto×Rd):Prop:=Sat Tryd.prog 91 [.one (.ptr 0 0),ofD TA a] [boxD 125 TR x] (.d (ofD TA q.1)) [(0,some (boxD 125 TR q.2))]∧Adv x q.2 10
instance:Nonempty (Auto×Rd):=⟨(zA,[],0)⟩
theorem lb_ex {x:Rd} {a:Auto} (hx:Fit TR x) (hpre:(rdAt x 10000000000900&&goodA a)=true):∃q,bentQ x a q:=by
 have f0:=fit_fitR hx;obtain⟨hr,ha⟩:=andd.1 hpre;have hb:BY x:=byB_iff.1 (andd.1 f0).1;have k0:rdOk x=true:=ok1 hr (by omega);have a1:=Adv.one x;have a2:=Adv.two x;have k1:rdOk (rdGo x 1)=true:=a1.ok hr (by omega);have k2:rdOk (rdGo (rdGo x 1) 1)=true:=a2.ok hr (by omega);obtain⟨g1,g2,g3,g4⟩:=goodA_iff.1 ha;have b0:inb 0 a.2.2.length=true:=inb_ok (by omega) (by omega);have h4:(a.2.2.getD ((0:Int).toNat) []).length=4:=by
  have hm:a.2.2.getD ((0:Int).toNat) []∈a.2.2:=by
   rw[zG,zE (show (0:Int).toNat<a.2.2.length by omega)];exact List.getElem_mem _
  exact zB (all_eq_true.1 g4 _ hm)
 have adv1:Adv x (rdGo x 1) 10:=a1.le (by omega);have adv2:Adv x (rdGo (rdGo x 1) 1) 10:=a2.le (by omega);have adv3:Adv x (rdGo (rdGo (rdGo x 1) 1) 1) 10:=(a2.trans (Adv.one _)).le (by omega)
 by_cases c2:pickV x 50=2
 ·have main:Ok (evFn cx_lbL Tryd.f91 true [.one (.ptr 0 0),ofD TA a] [boxD 125 TR x]) (lbG x):=by
   rw[y_lbL];refine Ok.need ha (Ok.need k0 (Ok.br (fun h=>absurd (of_decide_eq_true h) (by omega)) fun _=>Ok.br (fun h=>absurd (of_decide_eq_true h) (by omega)) fun _=>Ok.br (fun _ => ?_) fun h=>absurd c2 (of_decide_eq_false h)));have h5:inr 1 ((length (a.2.2.getD ((0:Int).toNat) []):Int)) (length (a.2.2.getD ((0:Int).toNat) []))=true:=inr_iff.2 (by rw[h4];omega);exact Ok.need b0 (Ok.need h5 (Ok.need b0 (Ok.ret ⟨((a.1,a.2.1,a.2.2.set ((0:Int).toNat) (List.take (((length (a.2.2.getD ((0:Int).toNat) []):Int)).toNat-Int.toNat 1) (List.drop (Int.toNat 1) (a.2.2.getD ((0:Int).toNat) [])))):Auto),rdGo x 1,rfl,adv1⟩)))
  obtain⟨r,e1,v,x',e2,e3⟩:=main;subst e2;exact⟨(v,x'),sndL e1,e3⟩
 ·by_cases c4:pickV x 50=4
  ·have main:Ok (evFn cx_lbT Tryd.f91 true [.one (.ptr 0 0),ofD TA a] [boxD 125 TR x]) (lbG x):=by
    rw[y_lbT];refine Ok.need ha (Ok.need k0 (Ok.br (fun h=>absurd (of_decide_eq_true h) (by omega)) fun _=>Ok.br (fun h=>absurd (of_decide_eq_true h) (by omega)) fun _=>Ok.br (fun h=>absurd (of_decide_eq_true h) (by omega)) fun _=>Ok.br (fun h=>absurd (of_decide_eq_true h) (by omega)) fun _=>Ok.br (fun _ => ?_) fun h=>absurd c4 (of_decide_eq_false h)));have h5:inr 1 ((length a.2.2:Int)) (length a.2.2)=true:=inr_iff.2 (by omega);exact Ok.need h5 (Ok.ret ⟨((a.1,a.2.1,List.take (((length a.2.2:Int)).toNat-Int.toNat 1) (List.drop (Int.toNat 1) a.2.2)):Auto),rdGo x 1,rfl,adv1⟩)
   obtain⟨r,e1,v,x',e2,e3⟩:=main;subst e2;exact⟨(v,x'),sndT e1,e3⟩
  ·have main:Ok (evFn cx_lbD Tryd.f91 true [.one (.ptr 0 0),ofD TA a] [boxD 125 TR x]) (lbG x):=by
    rw[y_lbD];refine Ok.need ha (Ok.need k0 (Ok.br (fun _ => ?_) fun _=>Ok.br (fun _ => ?_) fun _=>Ok.br (fun h=>absurd (of_decide_eq_true h) c2) fun _=>Ok.br (fun _ => ?_) fun _=>Ok.br (fun h=>absurd (of_decide_eq_true h) c4) fun _ => ?_))
    ·exact Ok.need (andd.2 ⟨k1,rfl⟩) (Ok.ret ⟨((numV (rdGo x 1) [Int.neg 1,9,0],a.2.1,a.2.2):Auto),rdGo (rdGo x 1) 1,rfl,adv2⟩)
    ·exact Ok.need (fitB_ok (n:=a.2.1.length+1) (by omega)) (Ok.ret ⟨((a.1,a.2.1++[true],a.2.2):Auto),rdGo x 1,rfl,adv1⟩)
    ·have hp:=pickV_range (x:=rdGo x 1) (n:=4) (BY_adv a1 hb) k1 (by omega);exact Ok.need b0 (Ok.need k1 (Ok.need (andd.2 ⟨k2,rfl⟩) (Ok.need (inb_ok hp.1 (by rw[h4];omega)) (Ok.ret ⟨((a.1,a.2.1,a.2.2.set ((0:Int).toNat) ((a.2.2.getD ((0:Int).toNat) []).set (pickV (rdGo x 1) 4).toNat (numV (rdGo (rdGo x 1) 1) [Int.neg 2,9,0,Int.neg 1]))):Auto),rdGo (rdGo (rdGo x 1) 1) 1,rfl,adv3⟩))))
    ·exact Ok.ret ⟨((a.1,a.2.1,a.2.2):Auto),rdGo x 1,rfl,adv1⟩
   obtain⟨r,e1,v,x',e2,e3⟩:=main;subst e2;exact⟨(v,x'),sndD e1,e3⟩
def F_bent (x:Rd) (a:Auto):Auto×Rd:=oneOf (bentQ x a)
def c_spec_l13Bent:Con:=conB 125 TR [TA] fun(x:Rd) (a:Auto)=>(some (rdAt x 10000000000900&&goodA a), .d (ofD TA (F_bent x a).1),(F_bent x a).2)
theorem k_spec_l13Bent:ConOk Tryd.prog 91 c_spec_l13Bent:=conB_ok Tryd.call91 fun x hx a _ hqq=>(oneOf_spec (lb_ex hx (pre_of hqq))).1
def Γ61:GL:=(91,c_spec_l13Bent)::Γ60
theorem Γ61ok:GO Γ61 := .cons k_spec_l13Bent Γ60ok
theorem y_spec_l13Some (x:Rd) :evFn ((cxOf Γ61 Tryd.f50.ntmps [] [] [] []).parted [1,2]) Tryd.f50 true [.one (.ptr 0 0)] [boxD 125 TR x]=(
need (rdOk x) <|
branch (decide (pickV x 4=0)) (
 need (rdOk (rdGo x 1)) <|
 need (rdAt (rdGo (rdGo x 1) 1) 10000000999000&&decide (pickV (rdGo x 1) 6≤1000)) <|
 branch ((aofV (F_spec_l4Text (rdGo (rdGo x 1) 1) (pickV (rdGo x 1) 6)).fst).snd) ( some ((.d (.agg [(.r (.v (Value.int IntKind.i64 (aofV (F_spec_l4Text (rdGo (rdGo x 1) 1) (pickV (rdGo x 1) 6)).fst).fst.fst))),(.r (.li (Ty.bool) ((aofV (F_spec_l4Text (rdGo (rdGo x 1) 1) (pickV (rdGo x 1) 6)).fst).fst.snd.fst))),(.r (.li TIS ((aofV (F_spec_l4Text (rdGo (rdGo x 1) 1) (pickV (rdGo x 1) 6)).fst).fst.snd.snd)))])),[(0,(bR (F_spec_l4Text (rdGo (rdGo x 1) 1) (pickV (rdGo x 1) 6)).snd))])) (
 need (rdAt (F_spec_l4Text (rdGo (rdGo x 1) 1) (pickV (rdGo x 1) 6)).snd 10000000900400) <|
 need (rdAt (F_spec_l13Auto (F_spec_l4Text (rdGo (rdGo x 1) 1) (pickV (rdGo x 1) 6)).snd).snd 10000000000900&&goodA (F_spec_l13Auto (F_spec_l4Text (rdGo (rdGo x 1) 1) (pickV (rdGo x 1) 6)).snd).fst) <| some ((.d (.agg [(.r (.v (Value.int IntKind.i64 (F_bent (F_spec_l13Auto (F_spec_l4Text (rdGo (rdGo x 1) 1) (pickV (rdGo x 1) 6)).snd).snd (F_spec_l13Auto (F_spec_l4Text (rdGo (rdGo x 1) 1) (pickV (rdGo x 1) 6)).snd).fst).fst.fst))),(.r (.li (Ty.bool) ((F_bent (F_spec_l13Auto (F_spec_l4Text (rdGo (rdGo x 1) 1) (pickV (rdGo x 1) 6)).snd).snd (F_spec_l13Auto (F_spec_l4Text (rdGo (rdGo x 1) 1) (pickV (rdGo x 1) 6)).snd).fst).fst.snd.fst))),(.r (.li TIS ((F_bent (F_spec_l13Auto (F_spec_l4Text (rdGo (rdGo x 1) 1) (pickV (rdGo x 1) 6)).snd).snd (F_spec_l13Auto (F_spec_l4Text (rdGo (rdGo x 1) 1) (pickV (rdGo x 1) 6)).snd).fst).fst.snd.snd)))])),[(0,(bR (F_bent (F_spec_l13Auto (F_spec_l4Text (rdGo (rdGo x 1) 1) (pickV (rdGo x 1) 6)).snd).snd (F_spec_l13Auto (F_spec_l4Text (rdGo (rdGo x 1) 1) (pickV (rdGo x 1) 6)).snd).fst).snd))]))) (
 need (rdAt (rdGo x 1) 10000000900400) <|
 need (rdAt (F_spec_l13Auto (rdGo x 1)).snd 10000000000900&&goodA (F_spec_l13Auto (rdGo x 1)).fst) <| some ((.d (.agg [(.r (.v (Value.int IntKind.i64 (F_bent (F_spec_l13Auto (rdGo x 1)).snd (F_spec_l13Auto (rdGo x 1)).fst).fst.fst))),(.r (.li (Ty.bool) ((F_bent (F_spec_l13Auto (rdGo x 1)).snd (F_spec_l13Auto (rdGo x 1)).fst).fst.snd.fst))),(.r (.li TIS ((F_bent (F_spec_l13Auto (rdGo x 1)).snd (F_spec_l13Auto (rdGo x 1)).fst).fst.snd.snd)))])),[(0,(bR (F_bent (F_spec_l13Auto (rdGo x 1)).snd (F_spec_l13Auto (rdGo x 1)).fst).snd))]))):=by kernel_rfl
theorem sm_tail {x z:Rd} {c:Int} (hx:Fit TR x) (hp:rdAt x 800000000=true) (ha:Adv x z c) (hc:c≤500) :
  rdAt z 10000000900400=true∧(rdAt (F_spec_l13Auto z).2 10000000000900&&goodA (F_spec_l13Auto z).1)=true∧Adv x (F_bent (F_spec_l13Auto z).2 (F_spec_l13Auto z).1).2 1000:=by
 have k0:rdAt z 10000000900400=true:=ha.at hp (by omega);have hz:Fit TR z:=ha.fit hx hp (by omega);obtain⟨p1,p2⟩:=p_spec_l13Auto z hz k0;have a2:=ha.trans p2;have k1:(rdAt (F_spec_l13Auto z).2 10000000000900&&goodA (F_spec_l13Auto z).1)=true:=andd.2 ⟨a2.at hp (by omega),p1⟩;have hz2:Fit TR (F_spec_l13Auto z).2:=a2.fit hx hp (by omega);have h:=(oneOf_spec (lb_ex hz2 k1)).2;exact⟨k0,k1,(a2.trans h).le (by omega)⟩
theorem e_spec_l13Some (x:Rd)  (hx:Fit TR x)  (hpre:(rdAt x 800000000)=true):∃q:(Auto)×Rd,evFn (((cxOf Γ61 Tryd.f50.ntmps [] [] [] []).parted [1,2])) Tryd.f50 true [.one (.ptr 0 0)] [boxD 125 TR x]=some (.d (ofD TA q.1),[(0,some (boxD 125 TR q.2))])∧(Adv x q.2 1000):=by
 obtain⟨r,h1,h2⟩:Ok (evFn (((cxOf Γ61 Tryd.f50.ntmps [] [] [] []).parted [1,2])) Tryd.f50 true [.one (.ptr 0 0)] [boxD 125 TR x]) (fun r=>∃(v:Auto) (x':Rd),r=(.d (ofD TA v),[(0,some (boxD 125 TR x'))])∧(Adv x x' 1000)):=by
  have f0:=fit_fitR hx;have hb:BY x:=byB_iff.1 (andd.1 f0).1;have k0:rdOk x=true:=ok1 hpre (by omega);have a1:=Adv.one x;have a2:=Adv.two x;have k1:rdOk (rdGo x 1)=true:=a1.ok hpre (by omega);have hpk:=pickV_range (x:=rdGo x 1) (n:=6) (BY_adv a1 hb) k1 (by omega);have hp:(rdAt (rdGo (rdGo x 1) 1) 10000000999000&&decide (pickV (rdGo x 1) 6≤1000))=true:=andd.2 ⟨a2.at hpre (by omega),dec_iff.2 (by omega)⟩;obtain⟨p1,p2⟩:=p_spec_l4Text (rdGo (rdGo x 1) 1) (pickV (rdGo x 1) 6) (a2.fit hx hpre (by omega)) (wrap_small (by omega) (by omega)) hp;have a3:Adv x (F_spec_l4Text (rdGo (rdGo x 1) 1) (pickV (rdGo x 1) 6)).2 20:=(a2.trans p2).le (by omega);obtain⟨t1,t2,t3⟩:=sm_tail hx hpre a3 (by omega);obtain⟨u1,u2,u3⟩:=sm_tail hx hpre a1 (by omega);rw[y_spec_l13Some];refine Ok.need k0 (Ok.br (fun _=>Ok.need k1 (Ok.need hp (Ok.br (fun _ => ?_) fun _=>Ok.need t1 (Ok.need t2 (Ok.ret ⟨_,_,rfl,t3⟩))))) fun _=>Ok.need u1 (Ok.need u2 (Ok.ret ⟨_,_,rfl,u3⟩)));exact Ok.ret ⟨(aofV (F_spec_l4Text (rdGo (rdGo x 1) 1) (pickV (rdGo x 1) 6)).1).1,_,rfl,a3.le (by omega)⟩
 obtain⟨v,x',h2,h3⟩:=h2;exact⟨(v,x'),by rw[h1,h2],h3⟩
def F_spec_l13Some (x:Rd) :(Auto)×Rd:=oneOf (fun q:(Auto)×Rd=>evFn (((cxOf Γ61 Tryd.f50.ntmps [] [] [] []).parted [1,2])) Tryd.f50 true [.one (.ptr 0 0)] [boxD 125 TR x]=some (.d (ofD TA q.1),[(0,some (boxD 125 TR q.2))])∧(Adv x q.2 1000))
theorem p_spec_l13Some (x:Rd)  (hx:Fit TR x)  (hpre:(rdAt x 800000000)=true):Adv x (F_spec_l13Some x ).2 1000:=(oneOf_spec (e_spec_l13Some x  hx  hpre)).2
theorem s_spec_l13Some (x:Rd)  (hx:Fit TR x)  (hpre:(rdAt x 800000000)=true):Sat Tryd.prog 50 [.one (.ptr 0 0)] [boxD 125 TR x] (.d (ofD TA (F_spec_l13Some x ).1)) [(0,some (boxD 125 TR (F_spec_l13Some x ).2))] :=
 fn_sound (cx:=((cxOf Γ61 Tryd.f50.ntmps [] [] [] []).parted [1,2])) Tryd.func50 rfl ttOk Γ61ok mixed (fun _ _=>LoopsOk.no fun _=>rfl) (ro:=true) (oneOf_spec (e_spec_l13Some x  hx  hpre)).1
def c_spec_l13Some:Con:=conB 125 TR [] fun(x:Rd) =>(some (rdAt x 800000000), .d (ofD TA (F_spec_l13Some x ).1),(F_spec_l13Some x ).2)
theorem k_spec_l13Some:ConOk Tryd.prog 50 c_spec_l13Some:=conB_ok Tryd.call50 fun x hx  hqq=>s_spec_l13Some x  hx  (pre_of hqq)
def Γ62:GL:=(50,c_spec_l13Some)::Γ61
theorem Γ62ok:GO Γ62 := .cons k_spec_l13Some Γ61ok
theorem y_spec_l13Meet (l:List Int):evFn (cxOf Γ62 Tryd.f49.ntmps [] [] [] []) Tryd.f49 true [ofD TB l] []=(
need (rdAt (F_spec_l1Gram (openV l)).snd 10000000940000&&szG 20 (F_spec_l1Gram (openV l)).fst) <|
need (rdAt (F_spec_l1Bent (F_spec_l1Gram (openV l)).snd (F_spec_l1Gram (openV l)).fst).snd 800000000) <| some ((.tup [(.agg [(.r (.v (Value.string (mk (F_spec_l1Bent (F_spec_l1Gram (openV l)).snd (F_spec_l1Gram (openV l)).fst).fst.fst)))),(.r (.li TRu ((F_spec_l1Bent (F_spec_l1Gram (openV l)).snd (F_spec_l1Gram (openV l)).fst).fst.snd)))]),(.agg [(.r (.v (Value.int IntKind.i64 (F_spec_l13Some (F_spec_l1Bent (F_spec_l1Gram (openV l)).snd (F_spec_l1Gram (openV l)).fst).snd).fst.fst))),(.r (.li (Ty.bool) ((F_spec_l13Some (F_spec_l1Bent (F_spec_l1Gram (openV l)).snd (F_spec_l1Gram (openV l)).fst).snd).fst.snd.fst))),(.r (.li TIS ((F_spec_l13Some (F_spec_l1Bent (F_spec_l1Gram (openV l)).snd (F_spec_l1Gram (openV l)).fst).snd).fst.snd.snd)))])]),[])):=by kernel_rfl
theorem e_spec_l13Meet (l:List Int) (hl:Fit TB l):∃q:Gram×Auto,evFn (cxOf Γ62 Tryd.f49.ntmps [] [] [] []) Tryd.f49 true [ofD TB l] []=some (.tup [ofD TG q.1,ofD TA q.2],[])∧(szG 20 q.1=true):=by
 obtain⟨r,h1,h2⟩:Ok (evFn (cxOf Γ62 Tryd.f49.ntmps [] [] [] []) Tryd.f49 true [ofD TB l] []) (fun r=>∃(v:Gram×Auto),r=(.tup [ofD TG v.1,ofD TA v.2],[])∧(szG 20 v.1=true)):=by
  obtain⟨h0,h1,h2,h3⟩:=draw_ok hl;rw[y_spec_l13Meet];exact Ok.need h1 (Ok.need (h3.at (openV_at l) (by omega)) (Ok.ret ⟨((drawV l).1,(F_spec_l13Some (drawV l).2).1),rfl,h2⟩))
 obtain⟨v,h2,h3⟩:=h2;exact⟨v,by rw[h1,h2],h3⟩
def F_spec_l13Meet (l:List Int):Gram×Auto:=oneOf (fun q:Gram×Auto=>evFn (cxOf Γ62 Tryd.f49.ntmps [] [] [] []) Tryd.f49 true [ofD TB l] []=some (.tup [ofD TG q.1,ofD TA q.2],[])∧(szG 20 q.1=true))
theorem p_spec_l13Meet (l:List Int) (hl:Fit TB l):szG 20 (F_spec_l13Meet l).1=true:=(oneOf_spec (e_spec_l13Meet l hl)).2
theorem s_spec_l13Meet (l:List Int) (hl:Fit TB l):Sat Tryd.prog 49 [ofD TB l] [] (.tup [ofD TG (F_spec_l13Meet l).1,ofD TA (F_spec_l13Meet l).2]) [] :=
 fn_sound (cx:=cxOf Γ62 Tryd.f49.ntmps [] [] [] []) Tryd.func49 rfl ttOk Γ62ok mixed (fun _ _=>LoopsOk.no fun _=>rfl) (ro:=true) (oneOf_spec (e_spec_l13Meet l hl)).1
def c_spec_l13Meet:Con:=conT [TB] fun(l:List Int)=>(none, .tup [ofD TG (F_spec_l13Meet l).1,ofD TA (F_spec_l13Meet l).2])
theorem k_spec_l13Meet:ConOk Tryd.prog 49 c_spec_l13Meet:=conT_ok Tryd.call49 fun l hl _=>s_spec_l13Meet l hl
def Γ63:GL:=(49,c_spec_l13Meet)::Γ62
theorem Γ63ok:GO Γ63 := .cons k_spec_l13Meet Γ62ok
theorem e_spec_DrawMeetParts (l:List Int) (hl:Fit TB l):∃q:Gram×Auto,evFn (cxOf Γ63 Tryd.f19.ntmps [] [] [] []) Tryd.f19 true [ofD TB l] []=some (.tup [ofD TG q.1,ofD TA q.2],[])∧(szG 20 q.1=true):=by
 obtain⟨r,h1,h2⟩:Ok (evFn (cxOf Γ63 Tryd.f19.ntmps [] [] [] []) Tryd.f19 true [ofD TB l] []) (fun r=>∃(v:Gram×Auto),r=(.tup [ofD TG v.1,ofD TA v.2],[])∧(szG 20 v.1=true)):=by
  have y:evFn (cxOf Γ63 Tryd.f19.ntmps [] [] [] []) Tryd.f19 true [ofD TB l] []=some (.tup [ofD TG (F_spec_l13Meet l).1,ofD TA (F_spec_l13Meet l).2],[]):=by kernel_rfl
  rw[y];exact Ok.ret ⟨_,rfl,p_spec_l13Meet l hl⟩
 obtain⟨v,h2,h3⟩:=h2;exact⟨v,by rw[h1,h2],h3⟩
def F_spec_DrawMeetParts (l:List Int):Gram×Auto:=oneOf (fun q:Gram×Auto=>evFn (cxOf Γ63 Tryd.f19.ntmps [] [] [] []) Tryd.f19 true [ofD TB l] []=some (.tup [ofD TG q.1,ofD TA q.2],[])∧(szG 20 q.1=true))
theorem s_spec_DrawMeetParts (l:List Int) (hl:Fit TB l):Sat Tryd.prog 19 [ofD TB l] [] (.tup [ofD TG (F_spec_DrawMeetParts l).1,ofD TA (F_spec_DrawMeetParts l).2]) [] :=
 fn_sound (cx:=cxOf Γ63 Tryd.f19.ntmps [] [] [] []) Tryd.func19 rfl ttOk Γ63ok mixed (fun _ _=>LoopsOk.no fun _=>rfl) (ro:=true) (oneOf_spec (e_spec_DrawMeetParts l hl)).1
def c_spec_DrawMeetParts:Con:=conT [TB] fun(l:List Int)=>(none, .tup [ofD TG (F_spec_DrawMeetParts l).1,ofD TA (F_spec_DrawMeetParts l).2])
theorem k_spec_DrawMeetParts:ConOk Tryd.prog 19 c_spec_DrawMeetParts:=conT_ok Tryd.call19 fun l hl _=>s_spec_DrawMeetParts l hl
def Γ64:GL:=(19,c_spec_DrawMeetParts)::Γ63
theorem Γ64ok:GO Γ64 := .cons k_spec_DrawMeetParts Γ63ok
theorem y_spec_DrawAutoIs (l:List Int):evFn (cxOf Γ64 Tryd.f20.ntmps [] [] [] []) Tryd.f20 true [ofD TB l] []=(
need (rdAt (F_spec_l13Some (openV l)).snd 900000000&&szG 20 (([]:Str),[])) <| some ((.tup [(.agg [(.r (.v (Value.int IntKind.i64 (F_spec_l13Some (openV l)).fst.fst))),(.r (.li (Ty.bool) ((F_spec_l13Some (openV l)).fst.snd.fst))),(.r (.li TIS ((F_spec_l13Some (openV l)).fst.snd.snd)))]),(.one (.r (.v (Value.string (mk (F_spec_l4Some (F_spec_l13Some (openV l)).snd (([]:Str),[])).fst)))))]),[])):=by kernel_rfl
theorem e_spec_DrawAutoIs (l:List Int) (hl:Fit TB l):∃q:Auto×Str,evFn (cxOf Γ64 Tryd.f20.ntmps [] [] [] []) Tryd.f20 true [ofD TB l] []=some (.tup [ofD TA q.1,ofD .str q.2],[])∧(True):=by
 obtain⟨r,h1,h2⟩:Ok (evFn (cxOf Γ64 Tryd.f20.ntmps [] [] [] []) Tryd.f20 true [ofD TB l] []) (fun r=>∃(v:Auto×Str),r=(.tup [ofD TA v.1,ofD .str v.2],[])∧(True)):=by
  have h:=openV_at l;have hf:=openV_fit hl;have k0:rdAt (openV l) 800000000=true:=(Adv.refl _).at h (by omega);have p1:Adv (openV l) (F_spec_l13Some (openV l)).2 1000:=p_spec_l13Some (openV l) hf k0;have k1:(rdAt (F_spec_l13Some (openV l)).2 900000000&&szG 20 (([]:Str),[]))=true:=andd.2 ⟨p1.at h (by omega),rfl⟩;rw[y_spec_DrawAutoIs];exact Ok.need k1 (Ok.ret ⟨((F_spec_l13Some (openV l)).1,(F_spec_l4Some (F_spec_l13Some (openV l)).2 (([]:Str),[])).1),rfl,trivial⟩)
 obtain⟨v,h2,h3⟩:=h2;exact⟨v,by rw[h1,h2],h3⟩
def F_spec_DrawAutoIs (l:List Int):Auto×Str:=oneOf (fun q:Auto×Str=>evFn (cxOf Γ64 Tryd.f20.ntmps [] [] [] []) Tryd.f20 true [ofD TB l] []=some (.tup [ofD TA q.1,ofD .str q.2],[])∧(True))
theorem s_spec_DrawAutoIs (l:List Int) (hl:Fit TB l):Sat Tryd.prog 20 [ofD TB l] [] (.tup [ofD TA (F_spec_DrawAutoIs l).1,ofD .str (F_spec_DrawAutoIs l).2]) [] :=
 fn_sound (cx:=cxOf Γ64 Tryd.f20.ntmps [] [] [] []) Tryd.func20 rfl ttOk Γ64ok mixed (fun _ _=>LoopsOk.no fun _=>rfl) (ro:=true) (oneOf_spec (e_spec_DrawAutoIs l hl)).1
def c_spec_DrawAutoIs:Con:=conT [TB] fun(l:List Int)=>(none, .tup [ofD TA (F_spec_DrawAutoIs l).1,ofD .str (F_spec_DrawAutoIs l).2])
theorem k_spec_DrawAutoIs:ConOk Tryd.prog 20 c_spec_DrawAutoIs:=conT_ok Tryd.call20 fun l hl _=>s_spec_DrawAutoIs l hl
def Γ65:GL:=(20,c_spec_DrawAutoIs)::Γ64
theorem Γ65ok:GO Γ65 := .cons k_spec_DrawAutoIs Γ64ok
theorem y_laws_FnAutoBent (l:List Int):evFn ((cxOf Γ65 Tryd.f5.ntmps [] [] [] []).parted [1,2,3,4,5,6,7,8,9,10,11]) Tryd.f5 true [ofD TB l] []=(
branch (decide (1048576<(l.length:Int))) ( some ((vB true),[])) (
 branch (decide ((!decide (okA (F_spec_DrawMeetParts l).snd=okA (F_spec_DrawMeetParts l).snd))=false)) (
 branch (bif false then true else okA (F_spec_DrawMeetParts l).snd) ( some ((vB (decide (okA (F_spec_DrawMeetParts l).snd=okA (F_spec_DrawMeetParts l).snd))),[])) (
  need (!okA (F_spec_DrawMeetParts l).snd) <|
  need (!okA (F_spec_DrawMeetParts l).snd) <|
  need (!okA (F_spec_DrawMeetParts l).snd) <|
  need (!okA (F_spec_DrawMeetParts l).snd) <|
  need (!okA (F_spec_DrawMeetParts l).snd) <| some ((vB (bif true then !false else false)),[]))) ( some ((vB (decide (okA (F_spec_DrawMeetParts l).snd=okA (F_spec_DrawMeetParts l).snd))),[])))):=by kernel_rfl
theorem s_laws_FnAutoBent (l:List Int) (_hl:Fit TB l):Sat Tryd.prog 5 [ofD TB l] [] (.d (ofD .bool true)) [] :=
 fn_sound (cx:=((cxOf Γ65 Tryd.f5.ntmps [] [] [] []).parted [1,2,3,4,5,6,7,8,9,10,11])) Tryd.func5 rfl ttOk Γ65ok mixed (fun _ _=>LoopsOk.no fun _=>rfl) (ro:=true) (by
  rw[y_laws_FnAutoBent]
  cases decide (1048576<(l.length:Int))<;>cases okA (F_spec_DrawMeetParts l).snd<;>rfl)
end
end Go.Proofs.YtkhhclpkljikkaaDoor.Ev
