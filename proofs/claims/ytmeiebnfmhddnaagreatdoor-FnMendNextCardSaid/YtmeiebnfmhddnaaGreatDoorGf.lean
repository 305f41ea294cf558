/-
  Draws of grammars.
-/
import Derived.Test.YtmeiebnfmhddnaaGreatDoorGe
namespace Go.Proofs.YtmeiebnfmhddnaaGreatDoor.Ev
open Go
noncomputable section
def szR (r:Rule):Bool:=Nat.ble r.1.length 8&&Nat.ble r.2.length 8
def szG (k:Nat) (g:Gram):Bool:=Nat.ble (List.length g.1) 8&&(Nat.ble (List.length g.2) k&&List.all g.2 szR)
theorem y_spec_l1Base (k:Int):evFn (cxOf Γ25 Tryz.f109.ntmps [] [(0,[2]),(1000000,[2])] [] []) Tryz.f109 true [ofD TI64 k] []=(
branch (decide (k=0)) ( some ((.d (.agg [(.r (.v (Value.string (mk [65])))),(.r (.li ty63 ([(([65]:Str),([97,65,98]:Str)),(([65]:Str),([]:Str))])))])),[])) (
 branch (decide (k=1)) ( some ((.d (.agg [(.r (.v (Value.string (mk [65])))),(.r (.li ty63 ([(([65]:Str),([65,98,66]:Str)),(([65]:Str),([66]:Str)),(([66]:Str),([97]:Str)),(([66]:Str),([99,65,100]:Str))])))])),[])) (
 branch (decide (k=2)) ( some ((.d (.agg [(.r (.v (Value.string (mk [65])))),(.r (.li ty63 ([(([65]:Str),([65,98,65]:Str)),(([65]:Str),([97]:Str))])))])),[])) (
  branch (decide (k=3)) ( some ((.d (.agg [(.r (.v (Value.string (mk [65])))),(.r (.li ty63 ([(([65]:Str),([66,67]:Str)),(([66]:Str),([97,66]:Str)),(([66]:Str),([]:Str)),(([67]:Str),([98]:Str)),(([67]:Str),([68]:Str)),(([68]:Str),([68,99]:Str))])))])),[])) (
  branch (decide (k=4)) ( some ((.d (.agg [(.r (.v (Value.string (mk [65])))),(.r (.li ty63 ([(([65]:Str),([97,66]:Str)),(([65]:Str),([98,65]:Str)),(([66]:Str),([65]:Str)),(([66]:Str),([99]:Str)),(([66]:Str),([66]:Str))])))])),[])) (
   branch (decide (k=5)) ( some ((.d (.agg [(.r (.v (Value.string (mk [65])))),(.r (.li ty63 ([(([65]:Str),([97,65]:Str)),(([65]:Str),([97,65,98,65]:Str)),(([65]:Str),([99]:Str))])))])),[])) (
   branch (decide (k=6)) ( some ((.d (.agg [(.r (.v (Value.string (mk [65])))),(.r (.li ty63 ([(([65]:Str),([66,66]:Str)),(([66]:Str),([97,66]:Str)),(([66]:Str),([98]:Str))])))])),[])) ( some ((.d (.agg [(.r (.v (Value.string (mk [65])))),(.r (.li ty63 ([])))])),[]))))))))):=by kernel_rfl
theorem base_fin {g:Gram} (h:szG 6 g=true):Ok (some ((.d (ofD TG g),[]):Fin)) (fun r=>∃v:Gram,r=(.d (ofD TG v),[])∧szG 6 v=true):=Ok.ret ⟨g,rfl,h⟩
theorem e_spec_l1Base (k:Int) (_hk:Fit TI64 k):∃q:Gram,evFn (cxOf Γ25 Tryz.f109.ntmps [] [(0,[2]),(1000000,[2])] [] []) Tryz.f109 true [ofD TI64 k] []=some (.d (ofD TG q),[])∧(szG 6 q=true):=by
 obtain⟨r,h1,h2⟩:Ok (evFn (cxOf Γ25 Tryz.f109.ntmps [] [(0,[2]),(1000000,[2])] [] []) Tryz.f109 true [ofD TI64 k] []) (fun r=>∃(v:Gram),r=(.d (ofD TG v),[])∧(szG 6 v=true)):=by
  rw[y_spec_l1Base]
  exact Ok.br (fun _=>base_fin (g:=([65],[([65],[97,65,98]),([65],[])])) rfl) fun _=>Ok.br (fun _=>base_fin (g:=([65],[([65],[65,98,66]),([65],[66]),([66],[97]),([66],[99,65,100])])) rfl) fun _ =>
   Ok.br (fun _=>base_fin (g:=([65],[([65],[65,98,65]),([65],[97])])) rfl) fun _=>Ok.br (fun _=>base_fin (g:=([65],[([65],[66,67]),([66],[97,66]),([66],[]),([67],[98]),([67],[68]),([68],[68,99])])) rfl) fun _ =>
   Ok.br (fun _=>base_fin (g:=([65],[([65],[97,66]),([65],[98,65]),([66],[65]),([66],[99]),([66],[66])])) rfl) fun _=>Ok.br (fun _=>base_fin (g:=([65],[([65],[97,65]),([65],[97,65,98,65]),([65],[99])])) rfl) fun _ =>
   Ok.br (fun _=>base_fin (g:=([65],[([65],[66,66]),([66],[97,66]),([66],[98])])) rfl) fun _=>base_fin (g:=([65],[])) rfl
 obtain⟨v,h2,h3⟩:=h2
 exact⟨v,by rw[h1,h2],h3⟩
def F_spec_l1Base (k:Int):Gram:=oneOf (fun q:Gram=>evFn (cxOf Γ25 Tryz.f109.ntmps [] [(0,[2]),(1000000,[2])] [] []) Tryz.f109 true [ofD TI64 k] []=some (.d (ofD TG q),[])∧(szG 6 q=true))
theorem p_spec_l1Base (k:Int) (hk:Fit TI64 k):szG 6 (F_spec_l1Base k)=true:=(oneOf_spec (e_spec_l1Base k hk)).2
theorem s_spec_l1Base (k:Int) (hk:Fit TI64 k):Sat Tryz.prog 109 [ofD TI64 k] [] (.d (ofD TG (F_spec_l1Base k))) [] :=
 fn_sound (cx:=cxOf Γ25 Tryz.f109.ntmps [] [(0,[2]),(1000000,[2])] [] []) Tryz.func109 rfl ttOk Γ25ok mixed (fun _ _=>LoopsOk.no fun _=>rfl) (ro:=true) (oneOf_spec (e_spec_l1Base k hk)).1
def c_spec_l1Base:Con:=conT [TI64] fun(k:Int)=>(none, .d (ofD TG (F_spec_l1Base k)))
theorem k_spec_l1Base:ConOk Tryz.prog 109 c_spec_l1Base:=conT_ok Tryz.call109 fun k hk _=>s_spec_l1Base k hk
def Γ26:GL:=(109,c_spec_l1Base)::Γ25
theorem Γ26ok:GO Γ26 := .cons k_spec_l1Base Γ25ok
def l1abc:List Str:=[[97],[98],[65],[66],[97],[99],[98],[67],[100]]
def cx0_l1Signed:Cx:=cxOf Γ26 Tryz.f111.ntmps [(3,[0,1,5,6])] [(0,[5]),(1,[0,1,5,6]),(1000000,[4])] [] []
def sh_l1Signed:Sh:=([(0, .ptr 0 0),(1, .d TI64),(5, .d .str),(6, .d TI64)],[(0, .box 120 TR)])
abbrev st_l1Signed (n:Int) (s:Str) (i:Int) (x:Den TR):St:=⟨[(0, .d (.one (.ptr 0 0))),(1,vI n),(5,vS s),(6,vI i)],[(0,some (boxD 120 TR x))]⟩
def V_l1Signed (n:Int) (s:Str) (i:Int) (x:Den TR):sh_l1Signed.V:=((n,s,i,()),(x,()))
def out_l1Signed (o:Str×Rd):St:=⟨[(5,vS o.1)],[(0,bR o.2)]⟩
def inv_l1Signed (n:Int) (s:Str) (i:Int) (x:Den TR):Bool:=rdAt x (10000000999000+i)&&(decide (0≤i∧n≤1000∧i≤1000)&&decide (s.length≤i.toNat))
def post_l1Signed (n:Int) (s:Str) (i:Int) (x:Den TR) (o:Str×Rd):Prop:=o.1.length≤s.length+(n-i).toNat∧Adv x o.2 ((n-i).toNat:Int)
def mu_l1Signed (n:Int) (_s:Str) (i:Int) (_x:Den TR):Nat:=(n-i).toNat
theorem r_l1Signed (n:Int) (s:Str) (i:Int) (x:Den TR) (hI:inv_l1Signed n s i x=true):(∃o:Str×Rd,post_l1Signed n s i x o∧∀(R:St→Option Fin) (K:Cont),evC cx0_l1Signed (loopOf Tryz.f111 0) (st_l1Signed n s i x) (onward (headAt cx0_l1Signed 3) R K)=K (.exit 0) (out_l1Signed o)) ∨
  (∃(n':Int) (s':Str) (i':Int) (x':Den TR),inv_l1Signed n' s' i' x'=true∧mu_l1Signed n' s' i' x'<mu_l1Signed n s i x∧(∀o,post_l1Signed n' s' i' x' o→post_l1Signed n s i x o)∧∀(R:St→Option Fin) (K:Cont),evC cx0_l1Signed (loopOf Tryz.f111 0) (st_l1Signed n s i x) (onward (headAt cx0_l1Signed 3) R K)=R (st_l1Signed n' s' i' x')):=by
 have hx:∀(R:St→Option Fin) (K:Cont),evC cx0_l1Signed (loopOf Tryz.f111 0) ⟨[(0,vP 0),(1,vI n),(5,vS s),(6,vI i)],[(0,bR x)]⟩ (onward (headAt cx0_l1Signed 3) R K) =
  branch (decide (i<n)) (need (rdOk x&&Nat.blt 0 l1abc.length) (need (decide (s.length+(ofV x l1abc).length≤9223372036854775807)) (R ⟨[(0,vP 0),(1,vI n),(5,vS (s++ofV x l1abc)),(6,vI (W64 (i+1)))],[(0,bR (rdGo x 1))]⟩)))
   (K (.exit 0) ⟨[(5,vS s)],[(0,bR x)]⟩):=fun R K=>by kernel_rfl
 simp only[inv_l1Signed,Bool.and_eq_true,decide_eq_true_eq]at hI
 obtain⟨h1,⟨h2,h3,h4⟩,h5⟩:=hI
 have hr:=rdAt_iff.1 h1
 by_cases hi:i<n
 ·right
  have e:W64 (i+1)=i+1:=wrap_small (by omega) (by omega)
  have ho:(ofV x l1abc).length≤1:=ofV_len (by decide)
  refine⟨n,s++ofV x l1abc,i+1,rdGo x 1, ?_, ?_, ?_, ?_⟩
  ·simp only[inv_l1Signed,Bool.and_eq_true,decide_eq_true_eq,List.length_append]
   exact⟨(Adv.one x).at h1 (by omega),by omega,by omega⟩
  ·simp only[mu_l1Signed];omega
  ·rintro o ⟨g1,g2⟩
   rw[List.length_append]at g1
   exact⟨by omega,((Adv.one x).trans g2).le (by omega)⟩
  ·intro R K
   refine(hx R K).trans ?_
   rw[decide_eq_true hi,branch_true,rdOk_iff.2 ⟨hr.1,by omega⟩,decide_eq_true (by omega:s.length+(ofV x l1abc).length≤9223372036854775807),e]
   rfl
 ·left
  refine⟨(s,x),⟨by show s.length≤s.length+_;omega,(Adv.refl x).le (by omega)⟩,fun R K => ?_⟩
  refine(hx R K).trans ?_
  rw[decide_eq_false hi];rfl
def I_l1Signed:sh_l1Signed.V→Bool:=fun v=>match v with | ((n,s,i,()),(x,()))=>inv_l1Signed n s i x
def P_l1Signed:sh_l1Signed.V→Str×Rd→Prop:=fun v o=>match v with | ((n,s,i,()),(x,()))=>post_l1Signed n s i x o
def M_l1Signed:sh_l1Signed.V→Nat:=fun v=>match v with | ((n,s,i,()),(x,()))=>mu_l1Signed n s i x
theorem a_l1Signed:∀v:sh_l1Signed.V,I_l1Signed v=true→∃o,P_l1Signed v o∧∀K r,K (.exit 0) (out_l1Signed o)=some r→∃N,iter (evC cx0_l1Signed (loopOf Tryz.f111 0)) (headAt cx0_l1Signed 3) N (sh_l1Signed.mk v) K=some r :=
 loop_any (fun v=>I_l1Signed v=true) P_l1Signed (.exit 0) M_l1Signed fun v hI=>by
  obtain⟨⟨(n:Int),(s:Str),(i:Int),⟨⟩⟩,⟨(x:Den TR),⟨⟩⟩⟩:=v
  rcases r_l1Signed n s i x hI with⟨o,h1,h2⟩ | ⟨n',s',i',x',h1,h2,h3,h4⟩
  ·exact .inl ⟨o,h1,h2⟩
  ·exact .inr ⟨V_l1Signed n' s' i' x',h1,h2,h3,h4⟩
def g_l1Signed:St→Cont→Option Fin:=gEnd sh_l1Signed I_l1Signed out_l1Signed (evC cx0_l1Signed (loopOf Tryz.f111 0)) (headAt cx0_l1Signed 3) P_l1Signed (.exit 0)
def E_l1Signed (n:Int) (s:Str) (i:Int) (x:Den TR):Str×Rd:=endOf sh_l1Signed.mk out_l1Signed (evC cx0_l1Signed (loopOf Tryz.f111 0)) (headAt cx0_l1Signed 3) P_l1Signed (.exit 0) (V_l1Signed n s i x)
theorem q_l1Signed (n:Int) (s:Str) (i:Int) (x:Den TR) (hI:inv_l1Signed n s i x=true):post_l1Signed n s i x (E_l1Signed n s i x):=(endOf_spec (a_l1Signed (V_l1Signed n s i x) hI)).1
def cx_l1Signed:Cx:=cx0_l1Signed.withLoops (look [(3,g_l1Signed)])
theorem l_l1Signed:∀st K r,g_l1Signed st K=some r→∃N,iter (evC cx_l1Signed (loopOf Tryz.f111 0)) (headAt cx_l1Signed 3) N st K=some r:=with_ok (by kernel_rfl) (gEnd_ok a_l1Signed)
theorem y_spec_l1Signed (x:Rd) (n:Int):evFn cx_l1Signed Tryz.f111 true [.one (.ptr 0 0),ofD TI64 n] [boxD 120 TR x]=need (inv_l1Signed n [] 0 x) (some (.d (ofD .str (E_l1Signed n [] 0 x).1),[(0,bR (E_l1Signed n [] 0 x).2)])):=by kernel_rfl
theorem e_spec_l1Signed (x:Rd) (n:Int) (_hx:Fit TR x) (_hn:Fit TI64 n) (hpre:(rdAt x 10000000999000&&decide (n≤1000))=true):∃q:(Str)×Rd,evFn (cx_l1Signed) Tryz.f111 true [.one (.ptr 0 0),ofD TI64 n] [boxD 120 TR x]=some (.d (ofD .str q.1),[(0,some (boxD 120 TR q.2))])∧(List.length q.1≤n.toNat∧Adv x q.2 (n.toNat:Int)):=by
 obtain⟨r,h1,h2⟩:Ok (evFn (cx_l1Signed) Tryz.f111 true [.one (.ptr 0 0),ofD TI64 n] [boxD 120 TR x]) (fun r=>∃(v:Str) (x':Rd),r=(.d (ofD .str v),[(0,some (boxD 120 TR x'))])∧(List.length v≤n.toNat∧Adv x x' (n.toNat:Int))):=by
  rw[Bool.and_eq_true,decide_eq_true_eq]at hpre
  have hi:inv_l1Signed n [] 0 x=true:=by
   simp only[inv_l1Signed,Bool.and_eq_true,decide_eq_true_eq]
   exact⟨by simpa using hpre.1,⟨by omega,hpre.2,by omega⟩,by simp⟩
  have hp:=q_l1Signed n [] 0 x hi
  rw[y_spec_l1Signed,hi]
  refine Ok.ret ⟨_,_,rfl, ?_⟩
  unfold post_l1Signed at hp
  simpa using hp
 obtain⟨v,x',h2,h3⟩:=h2
 exact⟨(v,x'),by rw[h1,h2],h3⟩
def F_spec_l1Signed (x:Rd) (n:Int):(Str)×Rd:=oneOf (fun q:(Str)×Rd=>evFn (cx_l1Signed) Tryz.f111 true [.one (.ptr 0 0),ofD TI64 n] [boxD 120 TR x]=some (.d (ofD .str q.1),[(0,some (boxD 120 TR q.2))])∧(List.length q.1≤n.toNat∧Adv x q.2 (n.toNat:Int)))
theorem p_spec_l1Signed (x:Rd) (n:Int) (hx:Fit TR x) (hn:Fit TI64 n) (hpre:(rdAt x 10000000999000&&decide (n≤1000))=true):List.length (F_spec_l1Signed x n).1≤n.toNat∧Adv x (F_spec_l1Signed x n).2 (n.toNat:Int):=(oneOf_spec (e_spec_l1Signed x n hx hn hpre)).2
theorem s_spec_l1Signed (x:Rd) (n:Int) (hx:Fit TR x) (hn:Fit TI64 n) (hpre:(rdAt x 10000000999000&&decide (n≤1000))=true):Sat Tryz.prog 111 [.one (.ptr 0 0),ofD TI64 n] [boxD 120 TR x] (.d (ofD .str (F_spec_l1Signed x n).1)) [(0,some (boxD 120 TR (F_spec_l1Signed x n).2))] :=
 fn_sound (cx:=cx_l1Signed) Tryz.func111 rfl ttOk Γ26ok mixed (fun c hc=>LoopsOk.one (b:=loopOf Tryz.f111 0) (id:=3) (g:=g_l1Signed) (by cases hc;kernel_rfl) rfl l_l1Signed) (ro:=true) (oneOf_spec (e_spec_l1Signed x n hx hn hpre)).1
def c_spec_l1Signed:Con:=conB 120 TR [TI64] fun(x:Rd) (n:Int)=>(some (rdAt x 10000000999000&&decide (n≤1000)), .d (ofD .str (F_spec_l1Signed x n).1),(F_spec_l1Signed x n).2)
theorem k_spec_l1Signed:ConOk Tryz.prog 111 c_spec_l1Signed:=conB_ok Tryz.call111 fun x hx n hn hqq=>s_spec_l1Signed x n hx hn (pre_of hqq)
def Γ27:GL:=(111,c_spec_l1Signed)::Γ26
theorem Γ27ok:GO Γ27 := .cons k_spec_l1Signed Γ26ok
def cb_l1Gram:Cx:=cxOf Γ27 Tryz.f64.ntmps [(5,[0,2,3,4])] [(0,[2,3]),(1,[0,2,3,4]),(1000000,[2])] [] []
theorem x_spec_l1Gram (x:Rd) (z s:Str) (l:List Rule) (i:Int) (R:St→Option Fin) (K:Cont):evC cb_l1Gram (loopOf Tryz.f64 0) ⟨[(0,vP 0),(2, pA),(3, pB),(4,vI i)],[(0,bR x),(500000,some (.box 25 [.r (.v (.string (mk z))), .r (.v (.slice none 0 0))])),(500001,some (.box 25 [.r (.v (.string (mk s))), .own 500002])),(500002,some (.lis 63 TRu l))]⟩ (onward (headAt cb_l1Gram 5) R K)=(
branch (decide (0<i)) (
 need (rdOk x&&Nat.blt 0 [[65],[65],[66],[67]].length) <|
 need (rdOk (rdGo x 1)&&Nat.blt 0 [1,2,2,0,3].length) <|
 need (rdAt (rdGo (rdGo x 1) 1) 10000000999000&&decide (numV (rdGo x 1) [1,2,2,0,3]≤1000)) <|
 branch (decide (placeV l (ofV x [[65],[65],[66],[67]],(F_spec_l1Signed (rdGo (rdGo x 1) 1) (numV (rdGo x 1) [1,2,2,0,3])).fst)<0)) (
 need (fits (l.length+[(ofV x [[65],[65],[66],[67]],(F_spec_l1Signed (rdGo (rdGo x 1) 1) (numV (rdGo x 1) [1,2,2,0,3])).fst)].length) Tryz.t63.bytes) <| R (.mk [(0,(.d (.one (.ptr 0 0)))),(2,pA),(3,pB),(4,vI (W64 (i-1)))] [(0,(bR (F_spec_l1Signed (rdGo (rdGo x 1) 1) (numV (rdGo x 1) [1,2,2,0,3])).snd)),(500000,(.some (.box 25 [(.r (.v (Value.string (mk z)))),(.r (.v (Value.slice none 0 0)))]))),(500001,(.some (.box 25 [(.r (.v (Value.string (mk s)))),(.own 500002)]))),(500002,(.some (.lis 63 ty63 (l.append [(ofV x [[65],[65],[66],[67]],(F_spec_l1Signed (rdGo (rdGo x 1) 1) (numV (rdGo x 1) [1,2,2,0,3])).fst)]))))])) ( R (.mk [(0,(.d (.one (.ptr 0 0)))),(2,pA),(3,pB),(4,vI (W64 (i-1)))] [(0,(bR (F_spec_l1Signed (rdGo (rdGo x 1) 1) (numV (rdGo x 1) [1,2,2,0,3])).snd)),(500000,(.some (.box 25 [(.r (.v (Value.string (mk z)))),(.r (.v (Value.slice none 0 0)))]))),(500001,(.some (.box 25 [(.r (.v (Value.string (mk s)))),(.own 500002)]))),(500002,some (.lis 63 TRu l))]))) ( K (.exit 0) (.mk [(2,pA),(3,pB)] [(500000,(.some (.box 25 [(.r (.v (Value.string (mk z)))),(.r (.v (Value.slice none 0 0)))]))),(500001,(.some (.box 25 [(.r (.v (Value.string (mk s)))),(.own 500002)]))),(0,(bR x)),(500002,some (.lis 63 TRu l))]))):=by kernel_rfl
theorem numV_mem {x:Rd} {l:List Int} (h:l≠[]) (hx:BY x) (hk:rdOk x=true):numV x l∈l:=by
 have hp:0<l.length:=List.length_pos_iff.2 h
 have hr:=pickV_range (n:=l.length) hx hk (by omega)
 unfold numV
 rw[List.getD_eq_getElem?_getD,List.getElem?_eq_getElem (by omega)]
 exact List.getElem_mem _
theorem numV_le {x:Rd} {l:List Int} {a b:Int} (h:l≠[]) (hx:BY x) (hk:rdOk x=true) (hl:∀y∈l,a≤y∧y≤b):a≤numV x l∧numV x l≤b:=hl _ (numV_mem h hx hk)
theorem BY_adv {x x':Rd} {c:Int} (h:Adv x x' c) (hb:BY x):BY x':=by unfold BY at *;rw[h.1];exact hb
theorem fits_ok {n b:Nat} (hn:n≤100000) (hb:b≤100000):fits n b=true:=by
 unfold fits
 refine decide_eq_true ?_
 have:=Nat.mul_le_mul hn hb
 omega
theorem ruleBytes:Tryz.t63.bytes=32:=by kernel_rfl
abbrev smO (z:Str):Option Obj:=some (.box 25 [.r (.v (.string (mk z))), .r (.v (.slice none 0 0))])
abbrev grO (s:Str):Option Obj:=some (.box 25 [.r (.v (.string (mk s))), .own 500002])
def cx0_l1Gram:Cx:=cb_l1Gram
def sh_l1Gram:Sh:=([(0, .ptr 0 0),(2, .ptr 500000 0),(3, .ptr 500001 0),(4, .d TI64)],[(0, .box 120 TR),(500000, .mix 25 [.d .str, .nil]),(500001, .mix 25 [.d .str, .own 500002]),(500002, .lis 63 TRu)])
abbrev st_l1Gram (i:Int) (x:Den TR) (z:Str) (s:Str) (l:List (Rule)):St:=⟨[(0, .d (.one (.ptr 0 0))),(2, .d (.one (.ptr 500000 0))),(3, .d (.one (.ptr 500001 0))),(4,vI i)],[(0,some (boxD 120 TR x)),(500000,some (.box 25 ((cellsR .str z).map C.r++[.r (.v (.slice none 0 0))]))),(500001,some (.box 25 ((cellsR .str s).map C.r++[.own 500002]))),(500002,some (.lis 63 TRu l))]⟩
def V_l1Gram (i:Int) (x:Den TR) (z:Str) (s:Str) (l:List (Rule)):sh_l1Gram.V:=((i,()),(x,(z,()),(s,()),l,()))
def out_l1Gram (o:(Str×List Rule)×Str×Rd):St:=⟨[(2, pA),(3, pB)],[(500000,smO o.2.1),(500001,grO o.1.1),(0,bR o.2.2),(500002,some (.lis 63 TRu o.1.2))]⟩
def inv_l1Gram (i:Int) (x:Den TR) (_z:Str) (_s:Str) (l:List (Rule)):Bool:=fitR x&&(rdAt x (10000000990000-i*10)&&(decide (i≤100)&&(decide ((l.length:Int)+i≤100)&&(Nat.ble l.length 100&&l.all szR))))
def post_l1Gram (i:Int) (x:Den TR) (_z:Str) (s:Str) (l:List (Rule)) (o:(Str×List Rule)×Str×Rd):Prop:=o.1.1=s∧o.1.2.all szR=true∧o.1.2.length≤l.length+i.toNat∧Adv x o.2.2 ((i*10).toNat:Int)
def mu_l1Gram (i:Int) (_x:Den TR) (_z:Str) (_s:Str) (_l:List (Rule)):Nat:=i.toNat
theorem r_l1Gram (i:Int) (x:Den TR) (z:Str) (s:Str) (l:List (Rule)) (hI:inv_l1Gram i x z s l=true):(∃o:(Str×List Rule)×Str×Rd,post_l1Gram i x z s l o∧∀(R:St→Option Fin) (K:Cont),evC cx0_l1Gram (loopOf Tryz.f64 0) (st_l1Gram i x z s l) (onward (headAt cx0_l1Gram 5) R K)=K (.exit 0) (out_l1Gram o)) ∨
  (∃(i':Int) (x':Den TR) (z':Str) (s':Str) (l':List (Rule)),inv_l1Gram i' x' z' s' l'=true∧mu_l1Gram i' x' z' s' l'<mu_l1Gram i x z s l∧(∀o,post_l1Gram i' x' z' s' l' o→post_l1Gram i x z s l o)∧∀(R:St→Option Fin) (K:Cont),evC cx0_l1Gram (loopOf Tryz.f64 0) (st_l1Gram i x z s l) (onward (headAt cx0_l1Gram 5) R K)=R (st_l1Gram i' x' z' s' l')):=by
 simp only[inv_l1Gram,andd,dec_iff,ble_iff]at hI
 obtain⟨h1,h2,h3,h4,h6,h5⟩:=hI
 have hr:=rdAt_iff.1 h2
 have b0:BY x:=by unfold fitR at h1;exact byB_iff.1 (andd.1 h1).1
 by_cases hi:0<i
 ·right
  have e:W64 (i-1)=i-1:=wrap_small (by omega) (by omega)
  have k0:rdOk x=true:=ok1 h2 (by omega)
  have a1:=Adv.one x
  have k1:rdOk (rdGo x 1)=true:=a1.ok h2 (by omega)
  have b1:=BY_adv a1 b0
  have n1:=numV_le (l:=[1,2,2,0,3]) (a:=0) (b:=3) (by decide) b1 k1 (by decide)
  have k2:rdAt (go2 x) 10000000999000=true:=(Adv.two x).at h2 (by omega)
  have f2:Fit TR (go2 x):=fitR_fit (by rw[fitR_adv (Adv.two x)];exact h1) k2 (by omega)
  have hpre:(rdAt (go2 x) 10000000999000&&decide (numV (rdGo x 1) [1,2,2,0,3]≤1000))=true:=andd.2 ⟨k2,dec_iff.2 (by omega)⟩
  obtain⟨p1,p2⟩:=p_spec_l1Signed (go2 x) (numV (rdGo x 1) [1,2,2,0,3]) f2 (wrap_small (by omega) (by omega)) hpre
  have ha:=((Adv.two x).trans p2).le (d:=10) (by omega)
  have hl:(ofV x [[65],[65],[66],[67]]).length≤1:=ofV_len (by decide)
  have hx:=fun R K=>x_spec_l1Gram x z s l i R K
  rw[show (rdGo (rdGo x 1) 1)=go2 x from rfl]at hx
  simp only[hi,decide_true,branch_true,k0,k1,hpre,e]at hx
  generalize (F_spec_l1Signed (go2 x) (numV (rdGo x 1) [1,2,2,0,3])).1=v at hx p1
  generalize (F_spec_l1Signed (go2 x) (numV (rdGo x 1) [1,2,2,0,3])).2=x' at hx p2 ha
  generalize ofV x [[65],[65],[66],[67]]=lf at hx hl
  have q1:∀l':List Rule,l'.all szR=true→l'.length≤l.length+1→inv_l1Gram (i-1) x' z s l'=true:=fun l' g1 g2=>by
   simp only[inv_l1Gram,andd,dec_iff,ble_iff]
   exact⟨by rw[fitR_adv ha];exact h1,ha.at h2 (by omega),by omega,by omega,by omega,g1⟩
  have q2:∀l':List Rule,mu_l1Gram (i-1) x' z s l'<mu_l1Gram i x z s l:=fun l'=>by simp only[mu_l1Gram];omega
  have q3:∀l':List Rule,l'.length≤l.length+1→∀o,post_l1Gram (i-1) x' z s l' o→post_l1Gram i x z s l o:=fun l' g0=>by
   rintro o ⟨g1,g2,g3,g4⟩
   exact⟨g1,g2,by omega,(ha.trans g4).le (by omega)⟩
  cases hc:decide (placeV l (lf,v)<0)
  ·exact ⟨i-1,x',z,s,l,q1 l h5 (by omega),q2 l,q3 l (by omega),fun R K=>(hx R K).trans (by rw[hc];rfl)⟩
  ·have hall:(l++[(lf,v)]).all szR=true:=by
    rw[List.all_append,h5]
    have hv:v.length≤3:=by omega
    show(true&&(szR (lf,v)&&true))=true
    have:szR (lf,v)=true:=andd.2 ⟨ble_iff.2 (by show lf.length≤8;omega),ble_iff.2 (by show v.length≤8;omega)⟩
    rw[this];rfl
   refine⟨i-1,x',z,s,l++[(lf,v)],q1 _ hall (by simp),q2 _,q3 _ (by simp),fun R K=>(hx R K).trans ?_⟩
   rw[hc,branch_true,ruleBytes,fits_ok (by simp;omega) (by omega)];rfl
 ·left
  refine⟨((s,l),z,x),⟨rfl,h5,Nat.le_add_right _ _,(Adv.refl x).le (by omega)⟩,fun R K => ?_⟩
  refine(x_spec_l1Gram x z s l i R K).trans ?_
  rw[decide_eq_false hi];rfl
def I_l1Gram:sh_l1Gram.V→Bool:=fun v=>match v with | ((i,()),(x,(z,()),(s,()),l,()))=>inv_l1Gram i x z s l
def P_l1Gram:sh_l1Gram.V→(Str×List Rule)×Str×Rd→Prop:=fun v o=>match v with | ((i,()),(x,(z,()),(s,()),l,()))=>post_l1Gram i x z s l o
def M_l1Gram:sh_l1Gram.V→Nat:=fun v=>match v with | ((i,()),(x,(z,()),(s,()),l,()))=>mu_l1Gram i x z s l
theorem a_l1Gram:∀v:sh_l1Gram.V,I_l1Gram v=true→∃o,P_l1Gram v o∧∀K r,K (.exit 0) (out_l1Gram o)=some r→∃N,iter (evC cx0_l1Gram (loopOf Tryz.f64 0)) (headAt cx0_l1Gram 5) N (sh_l1Gram.mk v) K=some r :=
 loop_any (fun v=>I_l1Gram v=true) P_l1Gram (.exit 0) M_l1Gram fun v hI=>by
  obtain⟨⟨(i:Int),⟨⟩⟩,⟨(x:Den TR),⟨(z:Str),⟨⟩⟩,⟨(s:Str),⟨⟩⟩,(l:List (Rule)),⟨⟩⟩⟩:=v
  rcases r_l1Gram i x z s l hI with⟨o,h1,h2⟩ | ⟨i',x',z',s',l',h1,h2,h3,h4⟩
  ·exact .inl ⟨o,h1,h2⟩
  ·exact .inr ⟨V_l1Gram i' x' z' s' l',h1,h2,h3,h4⟩
def g_l1Gram:St→Cont→Option Fin:=gEnd sh_l1Gram I_l1Gram out_l1Gram (evC cx0_l1Gram (loopOf Tryz.f64 0)) (headAt cx0_l1Gram 5) P_l1Gram (.exit 0)
def E_l1Gram (i:Int) (x:Den TR) (z:Str) (s:Str) (l:List (Rule)):(Str×List Rule)×Str×Rd:=endOf sh_l1Gram.mk out_l1Gram (evC cx0_l1Gram (loopOf Tryz.f64 0)) (headAt cx0_l1Gram 5) P_l1Gram (.exit 0) (V_l1Gram i x z s l)
theorem q_l1Gram (i:Int) (x:Den TR) (z:Str) (s:Str) (l:List (Rule)) (hI:inv_l1Gram i x z s l=true):post_l1Gram i x z s l (E_l1Gram i x z s l):=(endOf_spec (a_l1Gram (V_l1Gram i x z s l) hI)).1
def cx_l1Gram:Cx:=cx0_l1Gram.withLoops (look [(5,g_l1Gram)])
theorem l_l1Gram:∀st K r,g_l1Gram st K=some r→∃N,iter (evC cx_l1Gram (loopOf Tryz.f64 0)) (headAt cx_l1Gram 5) N st K=some r:=with_ok (by kernel_rfl) (gEnd_ok a_l1Gram)
abbrev gN1:List Int:=[0,1,2,3,4,5,6,1,6,7]
abbrev gN2:List Int:=[3,4,2,5]
theorem y_spec_l1Gram (x:Rd):evFn cx_l1Gram Tryz.f64 true [.one (.ptr 0 0)] [boxD 120 TR x]=(
 need (rdOk x) <| branch (decide (0<pickV x 5))
  (need (rdOk (rdGo x 1)&&Nat.blt 0 gN1.length) <| some (.d (ofD TG (F_spec_l1Base (numV (rdGo x 1) gN1))),[(0,bR (go2 x))]))
  (need (rdOk (rdGo x 1)&&Nat.blt 0 gN2.length) <| need (inv_l1Gram (numV (rdGo x 1) gN2) (go2 x) [] [65] []) <|
   some (.d (ofD TG (E_l1Gram (numV (rdGo x 1) gN2) (go2 x) [] [65] []).1),[(0,bR (E_l1Gram (numV (rdGo x 1) gN2) (go2 x) [] [65] []).2.2)]))):=by kernel_rfl
theorem szG_le {k m:Nat} {g:Gram} (h:szG k g=true) (hm:k≤m):szG m g=true:=by
 unfold szG at *
 rw[andd,andd]at *
 exact⟨h.1,ble_iff.2 (Nat.le_trans (ble_iff.1 h.2.1) hm),h.2.2⟩
theorem e_spec_l1Gram (x:Rd)  (hx:Fit TR x)  (hpre:(rdAt x 10000000900000)=true):∃q:(Gram)×Rd,evFn (cx_l1Gram) Tryz.f64 true [.one (.ptr 0 0)] [boxD 120 TR x]=some (.d (ofD TG q.1),[(0,some (boxD 120 TR q.2))])∧(szG 6 q.1=true∧Adv x q.2 100):=by
 obtain⟨r,h1,h2⟩:Ok (evFn (cx_l1Gram) Tryz.f64 true [.one (.ptr 0 0)] [boxD 120 TR x]) (fun r=>∃(v:Gram) (x':Rd),r=(.d (ofD TG v),[(0,some (boxD 120 TR x'))])∧(szG 6 v=true∧Adv x x' 100)):=by
  have f0:=fit_fitR hx
  have b0:BY x:=fun b hb=>byteFit hx.1 b hb
  have k0:=ok1 hpre (by omega)
  have a1:=Adv.one x
  have k1:rdOk (rdGo x 1)=true:=a1.ok hpre (by omega)
  rw[y_spec_l1Gram,k0,k1]
  refine Ok.need rfl (Ok.br (fun _=>Ok.need rfl (Ok.ret ⟨_,_,rfl,p_spec_l1Base _ ?_,(Adv.two x).le (by omega)⟩)) fun _=>Ok.need rfl ?_)
  ·have:=numV_le (l:=gN1) (a:=0) (b:=7) (by decide) (BY_adv a1 b0) k1 (by decide)
   exact wrap_small (by omega) (by omega)
  ·have n1:=numV_le (l:=gN2) (a:=2) (b:=5) (by decide) (BY_adv a1 b0) k1 (by decide)
   have hi:inv_l1Gram (numV (rdGo x 1) gN2) (go2 x) [] [65] []=true:=by
    simp only[inv_l1Gram,andd,dec_iff,ble_iff]
    exact⟨by rw[fitR_adv (Adv.two x)];exact f0,(Adv.two x).at hpre (by omega),by omega,by simp;omega,by simp,rfl⟩
   obtain⟨g1,g2,g3,g4⟩:=q_l1Gram (numV (rdGo x 1) gN2) (go2 x) [] [65] [] hi
   refine Ok.need hi (Ok.ret ⟨_,_,rfl, ?_,((Adv.two x).trans g4).le (by omega)⟩)
   unfold szG
   rw[g1,g2]
   exact andd.2 ⟨rfl,andd.2 ⟨ble_iff.2 (by simp at g3;omega),rfl⟩⟩
 obtain⟨v,x',h2,h3⟩:=h2
 exact⟨(v,x'),by rw[h1,h2],h3⟩
def F_spec_l1Gram (x:Rd) :(Gram)×Rd:=oneOf (fun q:(Gram)×Rd=>evFn (cx_l1Gram) Tryz.f64 true [.one (.ptr 0 0)] [boxD 120 TR x]=some (.d (ofD TG q.1),[(0,some (boxD 120 TR q.2))])∧(szG 6 q.1=true∧Adv x q.2 100))
theorem p_spec_l1Gram (x:Rd)  (hx:Fit TR x)  (hpre:(rdAt x 10000000900000)=true):szG 6 (F_spec_l1Gram x ).1=true∧Adv x (F_spec_l1Gram x ).2 100:=(oneOf_spec (e_spec_l1Gram x  hx  hpre)).2
theorem s_spec_l1Gram (x:Rd)  (hx:Fit TR x)  (hpre:(rdAt x 10000000900000)=true):Sat Tryz.prog 64 [.one (.ptr 0 0)] [boxD 120 TR x] (.d (ofD TG (F_spec_l1Gram x ).1)) [(0,some (boxD 120 TR (F_spec_l1Gram x ).2))] :=
 fn_sound (cx:=cx_l1Gram) Tryz.func64 rfl ttOk Γ27ok mixed (fun c hc=>LoopsOk.one (b:=loopOf Tryz.f64 0) (id:=5) (g:=g_l1Gram) (by cases hc;kernel_rfl) rfl l_l1Gram) (ro:=true) (oneOf_spec (e_spec_l1Gram x  hx  hpre)).1
def c_spec_l1Gram:Con:=conB 120 TR [] fun(x:Rd) =>(some (rdAt x 10000000900000), .d (ofD TG (F_spec_l1Gram x ).1),(F_spec_l1Gram x ).2)
theorem k_spec_l1Gram:ConOk Tryz.prog 64 c_spec_l1Gram:=conB_ok Tryz.call64 fun x hx  hqq=>s_spec_l1Gram x  hx  (pre_of hqq)
def Γ28:GL:=(64,c_spec_l1Gram)::Γ27
theorem Γ28ok:GO Γ28 := .cons k_spec_l1Gram Γ27ok
def cb_l1Bent:Cx:=cxOf Γ28 Tryz.f65.ntmps [(7,[0,4,5])] [(0,[4,5]),(1,[4,5]),(2,[0,4,5]),(1000000,[4])] [] []
theorem x_spec_l1Bent (x:Rd) (z s:Str) (l:List Rule) (R:St→Option Fin) (K:Cont):evC cb_l1Bent (loopOf Tryz.f65 0) ⟨[(0,vP 0),(4, pA),(5, pB)],[(0,bR x),(500000,smO z),(500001,grO s),(500002,some (.lis 63 TRu l))]⟩ (onward (headAt cb_l1Bent 7) R K)=(
branch (decide ((l.length:Int)≤8)) (
 need (rdAt x 10000000999000&&decide (3≤1000)) <|
 need (fits (l.length+[(([69]:Str),(F_spec_l1Signed x 3).fst)].length) Tryz.t63.bytes) <| R (.mk [(0,(.d (.one (.ptr 0 0)))),(4,pA),(5,pB)] [(0,(bR (F_spec_l1Signed x 3).snd)),(500000,(.some (.box 25 [(.r (.v (Value.string (mk z)))),(.r (.v (Value.slice none 0 0)))]))),(500001,(.some (.box 25 [(.r (.v (Value.string (mk s)))),(.own 500002)]))),(500002,(.some (.lis 63 ty63 (l.append [(([69]:Str),(F_spec_l1Signed x 3).fst)]))))])) ( K (.exit 1) (.mk [(4,pA),(5,pB)] [(500000,(.some (.box 25 [(.r (.v (Value.string (mk z)))),(.r (.v (Value.slice none 0 0)))]))),(500001,(.some (.box 25 [(.r (.v (Value.string (mk s)))),(.own 500002)]))),(0,(bR x)),(500002,some (.lis 63 TRu l))]))):=by kernel_rfl
def cx0_l1Bent:Cx:=cb_l1Bent
def sh_l1Bent:Sh:=([(0, .ptr 0 0),(4, .ptr 500000 0),(5, .ptr 500001 0)],[(0, .box 120 TR),(500000, .mix 25 [.d .str, .nil]),(500001, .mix 25 [.d .str, .own 500002]),(500002, .lis 63 TRu)])
abbrev st_l1Bent (x:Den TR) (z:Str) (s:Str) (l:List (Rule)):St:=⟨[(0, .d (.one (.ptr 0 0))),(4, .d (.one (.ptr 500000 0))),(5, .d (.one (.ptr 500001 0)))],[(0,some (boxD 120 TR x)),(500000,some (.box 25 ((cellsR .str z).map C.r++[.r (.v (.slice none 0 0))]))),(500001,some (.box 25 ((cellsR .str s).map C.r++[.own 500002]))),(500002,some (.lis 63 TRu l))]⟩
def V_l1Bent (x:Den TR) (z:Str) (s:Str) (l:List (Rule)):sh_l1Bent.V:=((),(x,(z,()),(s,()),l,()))
def out_l1Bent (o:(Str×List Rule)×Str×Rd):St:=⟨[(4, pA),(5, pB)],[(500000,smO o.2.1),(500001,grO o.1.1),(0,bR o.2.2),(500002,some (.lis 63 TRu o.1.2))]⟩
def inv_l1Bent (x:Den TR) (_z:Str) (_s:Str) (l:List (Rule)):Bool:=fitR x&&(rdAt x (10000000980000+(l.length:Int)*10)&&(Nat.ble l.length 100&&l.all szR))
def post_l1Bent (x:Den TR) (_z:Str) (s:Str) (l:List (Rule)) (o:(Str×List Rule)×Str×Rd):Prop:=o.1.1=s∧o.1.2.all szR=true∧o.1.2.length≤l.length+(9-l.length)∧Adv x o.2.2 (((9-l.length:Nat):Int)*10)
def mu_l1Bent (_x:Den TR) (_z:Str) (_s:Str) (l:List (Rule)):Nat:=9-l.length
theorem r_l1Bent (x:Den TR) (z:Str) (s:Str) (l:List (Rule)) (hI:inv_l1Bent x z s l=true):(∃o:(Str×List Rule)×Str×Rd,post_l1Bent x z s l o∧∀(R:St→Option Fin) (K:Cont),evC cx0_l1Bent (loopOf Tryz.f65 0) (st_l1Bent x z s l) (onward (headAt cx0_l1Bent 7) R K)=K (.exit 1) (out_l1Bent o)) ∨
  (∃(x':Den TR) (z':Str) (s':Str) (l':List (Rule)),inv_l1Bent x' z' s' l'=true∧mu_l1Bent x' z' s' l'<mu_l1Bent x z s l∧(∀o,post_l1Bent x' z' s' l' o→post_l1Bent x z s l o)∧∀(R:St→Option Fin) (K:Cont),evC cx0_l1Bent (loopOf Tryz.f65 0) (st_l1Bent x z s l) (onward (headAt cx0_l1Bent 7) R K)=R (st_l1Bent x' z' s' l')):=by
 simp only[inv_l1Bent,andd,ble_iff]at hI
 obtain⟨h1,h2,h6,h5⟩:=hI
 have hr:=rdAt_iff.1 h2
 have b0:BY x:=by unfold fitR at h1;exact byB_iff.1 (andd.1 h1).1
 by_cases hi:(l.length:Int)≤8
 ·right
  have k2:rdAt x 10000000999000=true:=(Adv.refl x).at h2 (by omega)
  have f2:Fit TR x:=fitR_fit h1 k2 (by omega)
  have hpre:(rdAt x 10000000999000&&decide ((3:Int)≤1000))=true:=andd.2 ⟨k2,rfl⟩
  obtain⟨p1,p2⟩:=p_spec_l1Signed x 3 f2 rfl hpre
  have ha:=p2.le (d:=10) (by omega)
  have hx:=fun R K=>x_spec_l1Bent x z s l R K
  simp only[hi,decide_true,branch_true,k2]at hx
  generalize (F_spec_l1Signed x 3).1=v at hx p1
  generalize (F_spec_l1Signed x 3).2=x' at hx p2 ha
  have hall:(l++[([69],v)]).all szR=true:=by
   rw[List.all_append,h5]
   have:szR ([69],v)=true:=andd.2 ⟨rfl,ble_iff.2 (by show v.length≤8;have:v.length≤3:=p1;omega)⟩
   show(true&&(szR ([69],v)&&true))=true
   rw[this];rfl
  have hlen:(l++[([69],v)]).length=l.length+1:=by simp
  refine⟨x',z,s,l++[([69],v)], ?_, ?_, ?_,fun R K=>(hx R K).trans ?_⟩
  ·simp only[inv_l1Bent,andd,ble_iff]
   exact⟨by rw[fitR_adv ha];exact h1,ha.at h2 (by rw[hlen];omega),by rw[hlen];omega,hall⟩
  ·simp only[mu_l1Bent];rw[hlen];omega
  ·rintro o ⟨g1,g2,g3,g4⟩
   rw[hlen]at g3 g4
   exact⟨g1,g2,by omega,(ha.trans g4).le (by omega)⟩
  ·rw[ruleBytes,fits_ok (by simp;omega) (by omega)];rfl
 ·left
  refine⟨((s,l),z,x),⟨rfl,h5,Nat.le_add_right _ _,(Adv.refl x).le (by omega)⟩,fun R K => ?_⟩
  refine(x_spec_l1Bent x z s l R K).trans ?_
  rw[decide_eq_false hi];rfl
def I_l1Bent:sh_l1Bent.V→Bool:=fun v=>match v with | ((),(x,(z,()),(s,()),l,()))=>inv_l1Bent x z s l
def P_l1Bent:sh_l1Bent.V→(Str×List Rule)×Str×Rd→Prop:=fun v o=>match v with | ((),(x,(z,()),(s,()),l,()))=>post_l1Bent x z s l o
def M_l1Bent:sh_l1Bent.V→Nat:=fun v=>match v with | ((),(x,(z,()),(s,()),l,()))=>mu_l1Bent x z s l
theorem a_l1Bent:∀v:sh_l1Bent.V,I_l1Bent v=true→∃o,P_l1Bent v o∧∀K r,K (.exit 1) (out_l1Bent o)=some r→∃N,iter (evC cx0_l1Bent (loopOf Tryz.f65 0)) (headAt cx0_l1Bent 7) N (sh_l1Bent.mk v) K=some r :=
 loop_any (fun v=>I_l1Bent v=true) P_l1Bent (.exit 1) M_l1Bent fun v hI=>by
  obtain⟨⟨⟨⟩⟩,⟨(x:Den TR),⟨(z:Str),⟨⟩⟩,⟨(s:Str),⟨⟩⟩,(l:List (Rule)),⟨⟩⟩⟩:=v
  rcases r_l1Bent x z s l hI with⟨o,h1,h2⟩ | ⟨x',z',s',l',h1,h2,h3,h4⟩
  ·exact .inl ⟨o,h1,h2⟩
  ·exact .inr ⟨V_l1Bent x' z' s' l',h1,h2,h3,h4⟩
def g_l1Bent:St→Cont→Option Fin:=gEnd sh_l1Bent I_l1Bent out_l1Bent (evC cx0_l1Bent (loopOf Tryz.f65 0)) (headAt cx0_l1Bent 7) P_l1Bent (.exit 1)
def E_l1Bent (x:Den TR) (z:Str) (s:Str) (l:List (Rule)):(Str×List Rule)×Str×Rd:=endOf sh_l1Bent.mk out_l1Bent (evC cx0_l1Bent (loopOf Tryz.f65 0)) (headAt cx0_l1Bent 7) P_l1Bent (.exit 1) (V_l1Bent x z s l)
theorem q_l1Bent (x:Den TR) (z:Str) (s:Str) (l:List (Rule)) (hI:inv_l1Bent x z s l=true):post_l1Bent x z s l (E_l1Bent x z s l):=(endOf_spec (a_l1Bent (V_l1Bent x z s l) hI)).1
def cx_l1Bent:Cx:=cx0_l1Bent.withLoops (look [(7,g_l1Bent)])
theorem l_l1Bent:∀st K r,g_l1Bent st K=some r→∃N,iter (evC cx_l1Bent (loopOf Tryz.f65 0)) (headAt cx_l1Bent 7) N st K=some r:=with_ok (by kernel_rfl) (gEnd_ok a_l1Bent)
theorem y_spec_l1Bent (x:Rd) (g:Gram):evFn cx_l1Bent Tryz.f65 true [.one (.ptr 0 0),ofD TG g] [boxD 120 TR x]=(
need (fits (([]:List Rule).length+List.length g.snd) Tryz.t63.bytes) <|
need (rdOk x) <|
branch (bif decide (0<pickV x 12)then true else decide ((g.snd.length:Int)=0)) ( some ((.d (.agg [(.r (.v (Value.string (mk g.fst)))),(.r (.li ty63 g.snd))])),[(0,(bR (rdGo x 1)))])) (
 need (rdOk (rdGo x 1)) <|
 need (rdOk (rdGo (rdGo x 1) 1)) <|
 branch (decide (pickV (rdGo (rdGo x 1) 1) 5=0)) (
 need (rdOk (rdGo (rdGo (rdGo x 1) 1) 1)&&Nat.blt 0 [[],[97],[65,66],[70],[66]].length) <| some ((.d (.agg [(.r (.v (Value.string (mk (ofV (rdGo (rdGo (rdGo x 1) 1) 1) [[],[97],[65,66],[70],[66]]))))),(.r (.li ty63 g.snd))])),[(0,(bR (rdGo (rdGo (rdGo (rdGo x 1) 1) 1) 1)))])) (
 branch (decide (pickV (rdGo (rdGo x 1) 1) 5=1)) (
  need (rdOk (rdGo (rdGo (rdGo x 1) 1) 1)&&Nat.blt 0 [[],[97],[65,66],[70]].length) <|
  need (inb (pickV (rdGo x 1) (g.snd.length:Int)) g.snd.length) <| some ((.d (.agg [(.r (.v (Value.string (mk g.fst)))),(.r (.li ty63 (g.snd.set (pickV (rdGo x 1) (g.snd.length:Int)).toNat (ofV (rdGo (rdGo (rdGo x 1) 1) 1) [[],[97],[65,66],[70]],(g.snd.getD (pickV (rdGo x 1) (g.snd.length:Int)).toNat (dflt ty63)).snd))))])),[(0,(bR (rdGo (rdGo (rdGo (rdGo x 1) 1) 1) 1)))])) (
  branch (decide (pickV (rdGo (rdGo x 1) 1) 5=2)) (
  need (rdOk (rdGo (rdGo (rdGo x 1) 1) 1)&&Nat.blt 0 [[97,97,97,97,97],[101],[32],[97,62],[70]].length) <|
  need (inb (pickV (rdGo x 1) (g.snd.length:Int)) g.snd.length) <| some ((.d (.agg [(.r (.v (Value.string (mk g.fst)))),(.r (.li ty63 (g.snd.set (pickV (rdGo x 1) (g.snd.length:Int)).toNat ((g.snd.getD (pickV (rdGo x 1) (g.snd.length:Int)).toNat (dflt ty63)).fst,ofV (rdGo (rdGo (rdGo x 1) 1) 1) [[97,97,97,97,97],[101],[32],[97,62],[70]]))))])),[(0,(bR (rdGo (rdGo (rdGo (rdGo x 1) 1) 1) 1)))])) (
  branch (decide (pickV (rdGo (rdGo x 1) 1) 5=3)) (
   need (inb (pickV (rdGo x 1) (g.snd.length:Int)) g.snd.length) <|
   need (fits (g.snd.length+[g.snd.getD (pickV (rdGo x 1) (g.snd.length:Int)).toNat (dflt ty63)].length) Tryz.t63.bytes) <| some ((.d (.agg [(.r (.v (Value.string (mk g.fst)))),(.r (.li ty63 (g.snd.append [g.snd.getD (pickV (rdGo x 1) (g.snd.length:Int)).toNat (dflt ty63)])))])),[(0,(bR (rdGo (rdGo (rdGo x 1) 1) 1)))])) (
   need (inv_l1Bent (rdGo (rdGo (rdGo x 1) 1) 1) ([]:Str) g.fst g.snd) <| some ((.d (.agg [(.r (.v (Value.string (mk (E_l1Bent (rdGo (rdGo (rdGo x 1) 1) 1) ([]:Str) g.fst g.snd).fst.fst)))),(.r (.li TRu ((E_l1Bent (rdGo (rdGo (rdGo x 1) 1) 1) ([]:Str) g.fst g.snd).fst.snd)))])),[(0,(bR (E_l1Bent (rdGo (rdGo (rdGo x 1) 1) 1) ([]:Str) g.fst g.snd).snd.snd))]))))))):=by kernel_rfl
theorem szG_set {k:Nat} {g:Gram} (h:szG k g=true) {r:Rule} (hr:szR r=true) {n:Nat}:szG k (g.1,g.2.set n r)=true:=by
 unfold szG at *
 rw[andd,andd]at *
 refine⟨h.1,by simpa using h.2.1,List.all_eq_true.2 fun y hy => ?_⟩
 obtain hy | hy:=List.mem_or_eq_of_mem_set hy
 ·exact List.all_eq_true.1 h.2.2 y hy
 ·rw[hy];exact hr
theorem szG_getD {k:Nat} {g:Gram} (h:szG k g=true) (n:Nat):szR (g.2.getD n ([],[]))=true:=by
 unfold szG at h
 rw[andd,andd]at h
 rw[List.getD_eq_getElem?_getD]
 cases e:g.2[n]? with
 |none=>rfl
 |some y=>exact List.all_eq_true.1 h.2.2 y (List.mem_of_getElem? e)
theorem szR_iff {r:Rule}:szR r=true↔r.1.length≤8∧r.2.length≤8:=by unfold szR;rw[andd,ble_iff,ble_iff]
theorem e_spec_l1Bent (x:Rd) (g:Gram) (hx:Fit TR x)  (hpre:(rdAt x 10000000940000&&szG 20 g)=true):∃q:(Gram)×Rd,evFn (cx_l1Bent) Tryz.f65 true [.one (.ptr 0 0),ofD TG g] [boxD 120 TR x]=some (.d (ofD TG q.1),[(0,some (boxD 120 TR q.2))])∧((∀k,6≤k→szG k g=true→szG (k+14) q.1=true)∧Adv x q.2 200):=by
 obtain⟨r,h1,h2⟩:Ok (evFn (cx_l1Bent) Tryz.f65 true [.one (.ptr 0 0),ofD TG g] [boxD 120 TR x]) (fun r=>∃(v:Gram) (x':Rd),r=(.d (ofD TG v),[(0,some (boxD 120 TR x'))])∧((∀k,6≤k→szG k g=true→szG (k+14) v=true)∧Adv x x' 200)):=by
  have f0:=fit_fitR hx
  obtain⟨hp,hg⟩:=andd.1 hpre
  have b0:BY x:=fun b hb=>byteFit hx.1 b hb
  have a1:=Adv.one x
  have a2:=Adv.two x
  have a3:Adv x (rdGo (go2 x) 1) 3:=a2.trans (Adv.one _)
  have k0:=ok1 hp (by omega)
  have k1:rdOk (rdGo x 1)=true:=a1.ok hp (by omega)
  have k2:rdOk (go2 x)=true:=a2.ok hp (by omega)
  have k3:rdOk (rdGo (go2 x) 1)=true:=a3.ok hp (by omega)
  have hg':=hg
  unfold szG at hg'
  obtain⟨g1,g2,g3⟩:g.1.length≤8∧g.2.length≤20∧g.2.all szR=true:=by rw[andd,andd,ble_iff,ble_iff]at hg';exact hg'
  have q:∀v:Gram,(∀k,6≤k→szG k g=true→szG (k+14) v=true)→∀y:Rd,Adv x y 200→Ok (some ((.d (ofD TG v),[(0,bR y)]):Fin)) (fun r=>∃(v:Gram) (x':Rd),r=(.d (ofD TG v),[(0,bR x')])∧(∀k,6≤k→szG k g=true→szG (k+14) v=true)∧Adv x x' 200):=fun v h1 y h2=>Ok.ret ⟨v,y,rfl,h1,h2⟩
  have hgk:∀k,6≤k→szG k g=true→szG (k+14) g=true:=fun k _ h=>szG_le h (by omega)
  rw[y_spec_l1Bent]
  refine Ok.need (by rw[ruleBytes];exact fits_ok (by simp;omega) (by omega)) (Ok.need k0 (Ok.br (fun _=>q g hgk _ (a1.le (by omega))) fun hc=>Ok.need k1 (Ok.need k2 ?_)))
  have hne:1≤(g.2.length:Int):=by
   cases e:decide ((g.2.length:Int)=0)
   ·have:=of_decide_eq_false e;omega
   ·rw[e]at hc;cases h:decide (0<pickV x 12)<;>rw[h]at hc<;>cases hc
  have hin:=pickV_range (BY_adv a1 b0) k1 hne
  have hib:=inb_ok hin.1 hin.2
  have a4:∀y:Rd,y=rdGo (rdGo (go2 x) 1) 1→Adv x y 200:=fun y e=>by subst e;exact (a3.trans (Adv.one _)).le (by omega)
  have hr:=szR_iff.1 (szG_getD hg (pickV (rdGo x 1) g.2.length).toNat)
  refine Ok.br (fun _=>Ok.need (andd.2 ⟨k3,rfl⟩) (q (ofV (rdGo (go2 x) 1) [[],[97],[65,66],[70],[66]],g.2) ?_ _ (a4 _ rfl))) fun _ =>
   Ok.br (fun _=>Ok.need (andd.2 ⟨k3,rfl⟩) (Ok.need hib (q (g.1,g.2.set (pickV (rdGo x 1) g.2.length).toNat (ofV (rdGo (go2 x) 1) [[],[97],[65,66],[70]],(g.2.getD (pickV (rdGo x 1) g.2.length).toNat ([],[])).2)) ?_ _ (a4 _ rfl)))) fun _ =>
   Ok.br (fun _=>Ok.need (andd.2 ⟨k3,rfl⟩) (Ok.need hib (q (g.1,g.2.set (pickV (rdGo x 1) g.2.length).toNat ((g.2.getD (pickV (rdGo x 1) g.2.length).toNat ([],[])).1,ofV (rdGo (go2 x) 1) [[97,97,97,97,97],[101],[32],[97,62],[70]])) ?_ _ (a4 _ rfl)))) fun _ =>
   Ok.br (fun _=>Ok.need hib (Ok.need (by rw[ruleBytes];exact fits_ok (by simp;omega) (by omega)) (q (g.1,g.2.append [g.2.getD (pickV (rdGo x 1) g.2.length).toNat ([],[])]) ?_ _ (a3.le (by omega))))) fun _ => ?_
  ·intro k h6 hk
   have hk:=hgk k h6 hk
   unfold szG at *
   rw[andd]at *
   exact⟨ble_iff.2 (ofV_len (k:=8) (by decide)),hk.2⟩
  ·intro k h6 hk
   refine szG_set (hgk k h6 hk) ?_
   exact szR_iff.2 ⟨(ofV_len (l:=[[],[97],[65,66],[70]]) (by decide)),hr.2⟩
  ·intro k h6 hk
   refine szG_set (hgk k h6 hk) ?_
   exact szR_iff.2 ⟨hr.1,(ofV_len (l:=[[97,97,97,97,97],[101],[32],[97,62],[70]]) (by decide))⟩
  ·intro k h6 hk
   unfold szG at *
   rw[andd,andd,ble_iff,ble_iff]at *
   refine⟨g1,by show(g.2++[_]).length≤k+14;rw[List.length_append];simp;omega, ?_⟩
   show(g.2++[_]).all szR=true
   rw[List.all_append,g3]
   show(true&&(szR _&&true))=true
   rw[show szR (g.2.getD (pickV (rdGo x 1) g.2.length).toNat ([],[]))=true from szR_iff.2 hr];rfl
  ·have hi:inv_l1Bent (rdGo (go2 x) 1) [] g.1 g.2=true:=by
    simp only[inv_l1Bent,andd,ble_iff]
    exact⟨by rw[fitR_adv a3];exact f0,a3.at hp (by omega),by omega,g3⟩
   obtain⟨h1,h2,h3,h4⟩:=q_l1Bent _ [] g.1 g.2 hi
   refine Ok.need hi (q ((E_l1Bent (rdGo (go2 x) 1) [] g.1 g.2).1.1,(E_l1Bent (rdGo (go2 x) 1) [] g.1 g.2).1.2) ?_ _ ((a3.trans h4).le (by omega)))
   intro k h6 hk
   unfold szG at *
   rw[andd,andd,ble_iff,ble_iff]at *
   exact ⟨by rw [h1]; exact g1, by have : (9 - g.2.length) ≤ 9 := by omega
                                   show (E_l1Bent (rdGo (go2 x) 1) [] g.1 g.2).1.2.length ≤ k + 14; omega, h2⟩
 obtain⟨v,x',h2,h3⟩:=h2
 exact⟨(v,x'),by rw[h1,h2],h3⟩
def F_spec_l1Bent (x:Rd) (g:Gram):(Gram)×Rd:=oneOf (fun q:(Gram)×Rd=>evFn (cx_l1Bent) Tryz.f65 true [.one (.ptr 0 0),ofD TG g] [boxD 120 TR x]=some (.d (ofD TG q.1),[(0,some (boxD 120 TR q.2))])∧((∀k,6≤k→szG k g=true→szG (k+14) q.1=true)∧Adv x q.2 200))
theorem p_spec_l1Bent (x:Rd) (g:Gram) (hx:Fit TR x)  (hpre:(rdAt x 10000000940000&&szG 20 g)=true):(∀k,6≤k→szG k g=true→szG (k+14) (F_spec_l1Bent x g).1=true)∧Adv x (F_spec_l1Bent x g).2 200:=(oneOf_spec (e_spec_l1Bent x g hx  hpre)).2
theorem s_spec_l1Bent (x:Rd) (g:Gram) (hx:Fit TR x)  (hpre:(rdAt x 10000000940000&&szG 20 g)=true):Sat Tryz.prog 65 [.one (.ptr 0 0),ofD TG g] [boxD 120 TR x] (.d (ofD TG (F_spec_l1Bent x g).1)) [(0,some (boxD 120 TR (F_spec_l1Bent x g).2))] :=
 fn_sound (cx:=cx_l1Bent) Tryz.func65 rfl ttOk Γ28ok mixed (fun c hc=>LoopsOk.one (b:=loopOf Tryz.f65 0) (id:=7) (g:=g_l1Bent) (by cases hc;kernel_rfl) rfl l_l1Bent) (ro:=true) (oneOf_spec (e_spec_l1Bent x g hx  hpre)).1
def c_spec_l1Bent:Con:=conB 120 TR [TG] fun(x:Rd) (g:Gram)=>(some (rdAt x 10000000940000&&szG 20 g), .d (ofD TG (F_spec_l1Bent x g).1),(F_spec_l1Bent x g).2)
theorem k_spec_l1Bent:ConOk Tryz.prog 65 c_spec_l1Bent:=conB_ok Tryz.call65 fun x hx g _ hqq=>s_spec_l1Bent x g hx  (pre_of hqq)
theorem szG_fit {k:Nat} {g:Gram} (h:szG k g=true) (hk:k≤1000):Fit TG g:=by
 unfold szG at h
 rw[andd,andd,ble_iff,ble_iff]at h
 refine⟨Nat.le_trans h.1 (by omega),Nat.le_trans h.2.1 (by omega),fun r hr => ?_⟩
 have q:=szR_iff.1 (List.all_eq_true.1 h.2.2 r hr)
 exact⟨Nat.le_trans q.1 (by omega),Nat.le_trans q.2 (by omega)⟩
theorem openV_fit {l:List Int} (hl:Fit TB l):Fit TR (openV l):=fitR_fit (k:=0) (andd.2 ⟨openV_by hl,ble_iff.2 (by show(l.take 2000).length≤_;rw[List.length_take];omega)⟩) (openV_at l) (by omega)
def gramV (l:List Int):Gram×Rd:=F_spec_l1Gram (openV l)
def drawV (l:List Int):Gram×Rd:=F_spec_l1Bent (gramV l).2 (gramV l).1
theorem gram_ok {l:List Int} (hl:Fit TB l):rdAt (openV l) 10000000900000=true∧szG 6 (gramV l).1=true∧Adv (openV l) (gramV l).2 100:=by
 have h0:rdAt (openV l) 10000000900000=true:=rfl
 have f0:Fit TR (openV l):=(openV_fit hl)
 exact⟨h0,p_spec_l1Gram (openV l) f0 h0⟩
theorem draw_ok {l:List Int} (hl:Fit TB l):rdAt (openV l) 10000000900000=true∧(rdAt (gramV l).2 10000000940000&&szG 20 (gramV l).1)=true∧szG 20 (drawV l).1=true∧Adv (openV l) (drawV l).2 300:=by
 obtain⟨h0,h1,h2⟩:=gram_ok hl
 have h3:rdAt (gramV l).2 10000000940000=true:=h2.at (openV_at l) (by omega)
 have f1:Fit TR (gramV l).2:=h2.fit (openV_fit hl) (openV_at l) (by omega)
 have h4:(rdAt (gramV l).2 10000000940000&&szG 20 (gramV l).1)=true:=andd.2 ⟨h3,szG_le h1 (by omega)⟩
 obtain⟨p1,p2⟩:=p_spec_l1Bent (gramV l).2 (gramV l).1 f1 h4
 exact⟨h0,h4,p1 6 (by omega) h1,(h2.trans p2).le (by omega)⟩
def Γ29:GL:=(65,c_spec_l1Bent)::Γ28
theorem Γ29ok:GO Γ29 := .cons k_spec_l1Bent Γ28ok
end
end Go.Proofs.YtmeiebnfmhddnaaGreatDoor.Ev
