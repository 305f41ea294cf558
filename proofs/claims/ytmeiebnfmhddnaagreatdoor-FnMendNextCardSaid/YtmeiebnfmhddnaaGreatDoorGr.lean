/-
  The signs of a grammar.
-/
import Derived.Test.YtmeiebnfmhddnaaGreatDoorGq
namespace Go.Proofs.YtmeiebnfmhddnaaGreatDoor.Ev
open Go
noncomputable section
def cb_l1In:Cx:=cxOf Γ52 Tryz.f85.ntmps [(2,[0,1,5])] [(0,[]),(1,[0,1,5]),(1000000,[4])] [] []
theorem x_spec_l1In (s:Str) (c i:Int) (R:St→Option Fin) (K:Cont):evC (cb_l1In.withLoops (look [])) (loopOf Tryz.f85 0) ⟨[(0,vS s),(1, .d (ofD TU8 c)),(5,vI i)],[]⟩ (onward (headAt (cb_l1In.withLoops (look [])) 2) R K)=(
branch (decide (i<(s.length:Int))) (
 need (inb i s.length) <|
 branch (decide (byteAt s i=c)) ( K (.ret) (.mk [(4,vB true)] [])) ( R (.mk [(0,vS s),(1,(.d (.one (.r (.v (Value.int IntKind.u8 c)))))),(5,vI (W64 (i+1)))] []))) ( K (.exit 0) (.mk [] []))):=by kernel_rfl
def cx0_l1In:Cx:=(cb_l1In).withLoops (look [])
def sh_l1In:Sh:=([(0, .d .str),(1, .d TU8),(5, .d TI64)],[])
abbrev st_l1In (s:Str) (c i:Int):St:=⟨[(0,vS s),(1, .d (ofD TU8 c)),(5,vI i)],[]⟩
def pre_l1In (s:Str) (_c i:Int):Bool:=decide (0≤i)&&Nat.ble s.length big
def res_l1In (s:Str) (c i:Int) (K:Cont):Option Fin:=branch (inS (s.drop i.toNat) c) (K .ret ⟨[(4,vB true)],[]⟩) (K (.exit 0) ⟨[],[]⟩)
def mu_l1In (s:Str) (_c i:Int):Nat:=s.length-i.toNat
theorem r_l1In (s:Str) (c i:Int) (K:Cont) (hI:pre_l1In s c i=true):(∀R:St→Option Fin,evC cx0_l1In (loopOf Tryz.f85 0) (st_l1In s c i) (onward (headAt cx0_l1In 2) R K)=res_l1In s c i K) ∨
  (∃(s':Str) (c' i':Int),pre_l1In s' c' i'=true∧mu_l1In s' c' i'<mu_l1In s c i∧res_l1In s' c' i' K=res_l1In s c i K∧∀R:St→Option Fin,evC cx0_l1In (loopOf Tryz.f85 0) (st_l1In s c i) (onward (headAt cx0_l1In 2) R K)=R (st_l1In s' c' i')):=by
 have hx:=fun R=>x_spec_l1In s c i R K
 simp only[pre_l1In,andd,dec_iff,ble_iff]at hI
 obtain⟨h0,h1⟩:=hI
 by_cases hi:i<(s.length:Int)
 ·have hg:=inS_at (c:=c) h0 hi
  simp only[hi,decide_true,inb_ok h0 hi,branch_true,W1 h0 hi h1]at hx
  cases hc:decide (byteAt s i=c)
  ·right
   rw[hc]at hg
   refine⟨s,c,i+1, ?_, ?_, ?_,fun R=>(hx R).trans ?_⟩
   ·exact andd.2 ⟨dec_iff.2 (by omega),ble_iff.2 h1⟩
   ·simp only[mu_l1In];omega
   ·simp only[res_l1In,hg];rfl
   ·rw[hc];rfl
  ·left
   intro R
   rw[hc]at hg
   refine(hx R).trans ?_
   rw[hc]
   simp only[res_l1In,hg];rfl
 ·left
  intro R
  refine(hx R).trans ?_
  simp only[hi,decide_false,branch_false,res_l1In]
  rw[List.drop_eq_nil_of_le (by omega)];rfl
def g_l1In:St→Cont→Option Fin:=gP sh_l1In (fun v=>match v with | ((s,c,i,()),())=>pre_l1In s c i) (fun v K=>match v with | ((s,c,i,()),())=>res_l1In s c i K)
def L_l1In:LpL:=(2,g_l1In)::[]
def cx_l1In:Cx:=(cb_l1In).withLoops (look L_l1In)
theorem l_l1In {L:LpL} (n:Nat) (h1:L.drop n=[]) (h2:idsFree (L.take n) (loopOf Tryz.f85 0)=true):LoopsTo g_l1In (cb_l1In) (loopOf Tryz.f85 0) 2 L :=
 with_drop h1 h2 (gP_ok (fun v=>match v with | ((s,c,i,()),())=>mu_l1In s c i) fun v K hI=>by
  obtain⟨⟨s,c,i,⟨⟩⟩,⟨⟩⟩:=v
  exact(r_l1In s c i K hI).imp id fun⟨s',c',i',h⟩=>⟨((s',c',i',()),()),h⟩)
theorem y_spec_l1In (s:Str) (c:Int):evFn cx_l1In Tryz.f85 true [ofD .str s,ofD TU8 c] []=(
need (pre_l1In s c 0) <|
branch (inS s c) ( some ((vB true),[])) ( some ((vB false),[]))):=by kernel_rfl
theorem s_spec_l1In (s:Str) (hs:Fit .str s) (c:Int) (_hc:Fit TU8 c):Sat Tryz.prog 85 [ofD .str s,ofD TU8 c] [] (.d (ofD .bool (inS s c))) [] :=
 fn_sound (cx:=cx_l1In) Tryz.func85 rfl ttOk Γ52ok mixed (fun c hc=>LoopsOk.all (l:=[(2,loopOf Tryz.f85 0)]) (by cases hc;kernel_rfl) ⟨atLoop rfl (l_l1In 1 rfl (by kernel_rfl)),trivial⟩) (ro:=true) (by
  have h:pre_l1In s c 0=true:=andd.2 ⟨rfl,ble_iff.2 hs⟩
  rw[y_spec_l1In,h]
  show branch (inS s c) _ _=_
  cases inS s c<;>rfl)
def c_spec_l1In:Con:=conT [.str,TU8] fun(s:Str) (c:Int)=>(none, .d (ofD .bool (inS s c)))
theorem k_spec_l1In:ConOk Tryz.prog 85 c_spec_l1In:=conT_ok Tryz.call85 fun s hs c hc _=>s_spec_l1In s hs c hc
def Γ53:GL:=(85,c_spec_l1In)::Γ52
theorem Γ53ok:GO Γ53 := .cons k_spec_l1In Γ52ok
def lowN (c:Int):Str→Nat
 | []=>0
 |x::s=>bif decide ((x.toNat:Int)<c)then lowN c s+1 else 0
theorem lowN_le {c:Int}:∀ {s:Str},lowN c s≤s.length
 | []=>Nat.le_refl _
 |x::s=>by
  unfold lowN
  have:=lowN_le (c:=c) (s:=s)
  cases decide ((x.toNat:Int)<c)<;>simp<;>omega
theorem lowN_at {s:Str} {i c:Int} (h0:0≤i) (h1:i<(s.length:Int)):lowN c (s.drop i.toNat)=bif decide (byteAt s i<c)then lowN c (s.drop (i+1).toNat)+1 else 0:=by
 have hn:i.toNat<s.length:=by omega
 rw[List.drop_eq_getElem_cons hn,show (i+1).toNat=i.toNat+1 by omega,byteAt_get h0 hn];rfl
theorem add_low {c:UInt8}:∀(s:Str),addS c s=bif (bif Nat.blt (lowN c.toNat s) s.length then Nat.beq (s.getD (lowN c.toNat s) 0).toNat c.toNat else false)then s else s.take (lowN c.toNat s)++c::s.drop (lowN c.toNat s)
 | []=>rfl
 |x::s=>by
  unfold addS lowN
  have e:decide ((x.toNat:Int)<(c.toNat:Int))=Nat.blt x.toNat c.toNat:=by
   show _=Nat.ble (x.toNat+1) c.toNat
   rw[ble_dec,decide_eq_decide];omega
  rw[e]
  cases h1:Nat.blt x.toNat c.toNat
  ·show _=bif (bif Nat.blt 0 (s.length+1)then Nat.beq x.toNat c.toNat else false)then x::s else c::x::s
   rw[show Nat.blt 0 (s.length+1)=true from ble_iff.2 (by omega)];rfl
  ·have ih:=add_low (c:=c) s
   show x::addS c s=bif (bif Nat.blt (lowN c.toNat s+1) (s.length+1)then Nat.beq (s.getD (lowN c.toNat s) 0).toNat c.toNat else false)then x::s else x::(s.take (lowN c.toNat s)++c::s.drop (lowN c.toNat s))
   rw[ih,show Nat.blt (lowN c.toNat s+1) (s.length+1)=Nat.blt (lowN c.toNat s) s.length from rfl]
   cases (bif Nat.blt (lowN c.toNat s) s.length then Nat.beq (s.getD (lowN c.toNat s) 0).toNat c.toNat else false)<;>rfl
def cb_l1Add:Cx:=cxOf Γ53 Tryz.f117.ntmps [(2,[0,1,5])] [(0,[0,1,5]),(1,[0,1,5]),(1000000,[4])] [] []
theorem x_spec_l1Add (s:Str) (c i:Int) (R:St→Option Fin) (K:Cont):evC (cb_l1Add.withLoops (look [])) (loopOf Tryz.f117 0) ⟨[(0,vS s),(1, .d (ofD TU8 c)),(5,vI i)],[]⟩ (onward (headAt (cb_l1Add.withLoops (look [])) 2) R K)=(
need (bif decide (decide (i<(s.length:Int))=true)then inb i s.length else true) <|
branch (bif decide (i<(s.length:Int))then decide (byteAt s i<c)else false) ( R (.mk [(0,vS s),(1,(.d (.one (.r (.v (Value.int IntKind.u8 c)))))),(5,vI (W64 (i+1)))] [])) ( K (.exit 0) (.mk [(0,vS s),(1,(.d (.one (.r (.v (Value.int IntKind.u8 c)))))),(5,vI i)] []))):=by kernel_rfl
def cx0_l1Add:Cx:=(cb_l1Add).withLoops (look [])
def sh_l1Add:Sh:=([(0, .d .str),(1, .d TU8),(5, .d TI64)],[])
abbrev st_l1Add (s:Str) (c i:Int):St:=⟨[(0,vS s),(1, .d (ofD TU8 c)),(5,vI i)],[]⟩
def pre_l1Add (s:Str) (_c i:Int):Bool:=decide (0≤i)&&Nat.ble s.length big
def res_l1Add (s:Str) (c i:Int) (K:Cont):Option Fin:=K (.exit 0) ⟨[(0,vS s),(1, .d (ofD TU8 c)),(5,vI (i+lowN c (s.drop i.toNat)))],[]⟩
def mu_l1Add (s:Str) (_c i:Int):Nat:=s.length-i.toNat
theorem r_l1Add (s:Str) (c i:Int) (K:Cont) (hI:pre_l1Add s c i=true):(∀R:St→Option Fin,evC cx0_l1Add (loopOf Tryz.f117 0) (st_l1Add s c i) (onward (headAt cx0_l1Add 2) R K)=res_l1Add s c i K) ∨
  (∃(s':Str) (c' i':Int),pre_l1Add s' c' i'=true∧mu_l1Add s' c' i'<mu_l1Add s c i∧res_l1Add s' c' i' K=res_l1Add s c i K∧∀R:St→Option Fin,evC cx0_l1Add (loopOf Tryz.f117 0) (st_l1Add s c i) (onward (headAt cx0_l1Add 2) R K)=R (st_l1Add s' c' i')):=by
 have hx:=fun R=>x_spec_l1Add s c i R K
 simp only[pre_l1Add,andd,dec_iff,ble_iff]at hI
 obtain⟨h0,h1⟩:=hI
 by_cases hi:i<(s.length:Int)
 ·have hg:=lowN_at (c:=c) h0 hi
  simp only[hi,decide_true,inb_ok h0 hi,Bool.cond_self,branch_true,W1 h0 hi h1]at hx
  cases hc:decide (byteAt s i<c)
  ·left
   intro R
   rw[hc]at hg
   refine(hx R).trans ?_
   rw[hc]
   simp only[res_l1Add,hg,cond_false]
   rw[show i+((0:Nat):Int)=i by omega];rfl
  ·right
   rw[hc]at hg
   refine⟨s,c,i+1, ?_, ?_, ?_,fun R=>(hx R).trans ?_⟩
   ·exact andd.2 ⟨dec_iff.2 (by omega),ble_iff.2 h1⟩
   ·simp only[mu_l1Add];omega
   ·simp only[res_l1Add,hg,cond_true]
    rw[show i+1+(lowN c (s.drop (i+1).toNat):Int)=i+((lowN c (s.drop (i+1).toNat)+1:Nat):Int)by omega]
   ·rw[hc];rfl
 ·left
  intro R
  refine(hx R).trans ?_
  simp only[hi,decide_false,res_l1Add]
  rw[List.drop_eq_nil_of_le (by omega)]
  show _=K (.exit 0) ⟨[(0,vS s),(1, .d (ofD TU8 c)),(5,vI (i+((0:Nat):Int)))],[]⟩
  rw[show i+((0:Nat):Int)=i by omega];rfl
def g_l1Add:St→Cont→Option Fin:=gP sh_l1Add (fun v=>match v with | ((s,c,i,()),())=>pre_l1Add s c i) (fun v K=>match v with | ((s,c,i,()),())=>res_l1Add s c i K)
def L_l1Add:LpL:=(2,g_l1Add)::[]
def cx_l1Add:Cx:=(cb_l1Add).withLoops (look L_l1Add)
theorem l_l1Add {L:LpL} (n:Nat) (h1:L.drop n=[]) (h2:idsFree (L.take n) (loopOf Tryz.f117 0)=true):LoopsTo g_l1Add (cb_l1Add) (loopOf Tryz.f117 0) 2 L :=
 with_drop h1 h2 (gP_ok (fun v=>match v with | ((s,c,i,()),())=>mu_l1Add s c i) fun v K hI=>by
  obtain⟨⟨s,c,i,⟨⟩⟩,⟨⟩⟩:=v
  exact(r_l1Add s c i K hI).imp id fun⟨s',c',i',h⟩=>⟨((s',c',i',()),()),h⟩)
theorem y_spec_l1Add (s:Str) (c:Int):evFn cx_l1Add Tryz.f117 true [ofD .str s,ofD TU8 c] []=(
need (pre_l1Add s c 0) <|
need (bif decide (decide (0+(lowN c s:Int)<(s.length:Int))=true)then inb (0+(lowN c s:Int)) s.length else true) <|
branch (bif decide (0+(lowN c s:Int)<(s.length:Int))then decide (byteAt s (0+(lowN c s:Int))=c)else false) ( some ((vS s),[])) (
 need (inr 0 (0+(lowN c s:Int)) s.length) <|
 need (decide (((List.take ((0+(lowN c s:Int)).toNat-(0:Int).toNat) s).length+(byteL [c]).length)≤9223372036854775807)) <|
 need (inr (0+(lowN c s:Int)) ((s.length:Int)) s.length) <|
 need (decide ((((List.take ((0+(lowN c s:Int)).toNat-(0:Int).toNat) s).append (byteL [c])).length+(List.take (((s.length:Int)).toNat-(0+(lowN c s:Int)).toNat) (List.drop (0+(lowN c s:Int)).toNat s)).length)≤9223372036854775807)) <| some ((vS (((List.take ((0+(lowN c s:Int)).toNat-(0:Int).toNat) s).append (byteL [c])).append (List.take (((s.length:Int)).toNat-(0+(lowN c s:Int)).toNat) (List.drop (0+(lowN c s:Int)).toNat s)))),[]))):=by kernel_rfl
theorem s_spec_l1Add (s:Str) (hs:Fit .str s) (c:Int) (hc:Fit TU8 c) (hpre:(Nat.ble s.length 1000000)=true):Sat Tryz.prog 117 [ofD .str s,ofD TU8 c] [] (.d (ofD .str (addS (UInt8.ofNat c.toNat) s))) [] :=
 fn_sound (cx:=cx_l1Add) Tryz.func117 rfl ttOk Γ53ok mixed (fun c hc=>LoopsOk.all (l:=[(2,loopOf Tryz.f117 0)]) (by cases hc;kernel_rfl) ⟨atLoop rfl (l_l1Add 1 rfl (by kernel_rfl)),trivial⟩) (ro:=true) (by
  have hn:=lowN_le (c:=c) (s:=s)
  have hb:=ble_iff.1 hpre
  have h:pre_l1Add s c 0=true:=andd.2 ⟨rfl,ble_iff.2 hs⟩
  have ha:=add_low (c:=UInt8.ofNat c.toNat) s
  have hq:=u8_nat hc
  rw[hq]at ha
  rw[y_spec_l1Add,h,ha]
  clear ha
  generalize lowN c s=n at hn
  have e0:(0+(n:Int))=(n:Int):=Int.zero_add _
  rw[e0]
  have e1:((n:Int)).toNat=n:=Int.toNat_natCast n
  have e2:List.take (((s.length:Int)).toNat-n) (List.drop n s)=List.drop n s:=List.take_of_length_le (by rw[List.length_drop];omega)
  have hl:(byteL [c]).length=1:=rfl
  have k3:inr 0 (n:Int) s.length=true:=inr_iff.2 (by omega)
  have k4:decide ((List.take (((n:Int)).toNat-(0:Int).toNat) s).length+(byteL [c]).length≤9223372036854775807)=true:=dec_iff.2 (by rw[List.length_take,hl];omega)
  have k5:inr (n:Int) ((s.length:Int)) s.length=true:=inr_iff.2 (by omega)
  have k6:decide (((List.take (((n:Int)).toNat-(0:Int).toNat) s).append (byteL [c])).length+(List.take (((s.length:Int)).toNat-((n:Int)).toNat) (List.drop ((n:Int)).toNat s)).length≤9223372036854775807)=true:=dec_iff.2 (by
   rw[e1,e2,List.append_eq,List.length_append,List.length_take,List.length_drop,hl];omega)
  have e3:((List.take (n-(0:Int).toNat) s).append (byteL [c])).append (List.drop n s)=List.take n s++UInt8.ofNat c.toNat::List.drop n s:=by
   show(List.take n s++[UInt8.ofNat c.toNat])++List.drop n s=_
   rw[List.append_assoc];rfl
  rw[k3,k4,k5,k6,e1,e2,e3]
  by_cases hi:n<s.length
  ·have hi':(n:Int)<(s.length:Int):=by omega
   have hx:decide (byteAt s (n:Int)=c)=Nat.beq (s.getD n 0).toNat (UInt8.ofNat c.toNat).toNat:=by
    show decide (((s.getD n 0).toNat:Int)=c)=_
    cases hb':Nat.beq (s.getD n 0).toNat (UInt8.ofNat c.toNat).toNat
    ·refine decide_eq_false fun hh => ?_
     rw[show (s.getD n 0).toNat=(UInt8.ofNat c.toNat).toNat by omega,Nat.beq_refl]at hb'
     cases hb'
    ·have:=Nat.eq_of_beq_eq_true hb'
     exact decide_eq_true (by omega)
   rw[hx,decide_eq_true hi',inb_ok (by omega) hi',show Nat.blt n s.length=true from ble_iff.2 hi]
   cases Nat.beq (s.getD n 0).toNat (UInt8.ofNat c.toNat).toNat<;>rfl
  ·have hi':¬(n:Int)<(s.length:Int):=by omega
   have hb2:Nat.blt n s.length=false:=by
    cases hb':Nat.blt n s.length
    ·rfl
    ·exact absurd (ble_iff.1 hb') hi
   rw[decide_eq_false hi',hb2];rfl)
def c_spec_l1Add:Con:=conT [.str,TU8] fun(s:Str) (c:Int)=>(some (Nat.ble s.length 1000000), .d (ofD .str (addS (UInt8.ofNat c.toNat) s)))
theorem k_spec_l1Add:ConOk Tryz.prog 117 c_spec_l1Add:=conT_ok Tryz.call117 fun s hs c hc hqq=>s_spec_l1Add s hs c hc (pre_of hqq)
def Γ54:GL:=(117,c_spec_l1Add)::Γ53
theorem Γ54ok:GO Γ54 := .cons k_spec_l1Add Γ53ok
def smallsG (g:Gram):Str:=setS small (signsG g)
theorem setS_congr {p q:UInt8→Bool} {s:Str} (h:∀c∈s,p c=q c):setS p s=setS q s:=setS_eq setS_asc fun y=>by
 rw[setS_mem]
 exact⟨fun ⟨h1,h2⟩=>⟨h1,(h y h1) ▸ h2⟩,fun ⟨h1,h2⟩=>⟨h1,(h y h1).symm ▸ h2⟩⟩
theorem smalls_eq {g:Gram} (h:okG g=true):setS (fun c=>bigc c==false) (signsG g)=smallsG g:=setS_congr fun c hc=>by
 have h1:=signs_all h c hc
 have h2:=big_small c
 unfold sign at h1
 cases hb:bigc c<;>rw[hb]at h1 h2
 ·exact h1.symm
 ·cases hs:small c
  ·rfl
  ·exact absurd ⟨rfl,hs⟩ h2
def cb_everySign:Cx:=cxOf Γ54 Tryz.f103.ntmps [(3,[3,9,10,11])] [(0,[3]),(1,[3,9,10,11]),(1000000,[2])] [] []
theorem x_impl_everySign (s:Str) (l:List Rule) (n i:Int) (R:St→Option Fin) (K:Cont):evC (cb_everySign.withLoops (look [])) (loopOf Tryz.f103 0) ⟨[(3,vS s),(9, .d (ofD TRL l)),(10,vI n),(11,vI i)],[]⟩ (onward (headAt (cb_everySign.withLoops (look [])) 3) R K)=(
branch (decide (i<n)) (
 need (inb i l.length) <|
 need (decide ((List.length (l.getD i.toNat d0).fst+List.length (l.getD i.toNat d0).snd)≤9223372036854775807)) <|
 need (decide ((List.length s+(List.append (l.getD i.toNat d0).fst (l.getD i.toNat d0).snd).length)≤9223372036854775807)) <| R (.mk [(3,(vS (List.append s (List.append (l.getD i.toNat d0).fst (l.getD i.toNat d0).snd)))),(9,(.d (.one (.r (.li TRu l))))),(10,vI n),(11,vI (W64 (i+1)))] [])) ( K (.exit 0) (.mk [(3,vS s)] []))):=by kernel_rfl
def cx0_everySign:Cx:=(cb_everySign).withLoops (look [])
def sh_everySign:Sh:=([(3, .d .str),(9, .d TRL),(10, .d TI64),(11, .d TI64)],[])
abbrev st_everySign (s:Str) (l:List Rule) (n i:Int):St:=⟨[(3,vS s),(9, .d (ofD TRL l)),(10,vI n),(11,vI i)],[]⟩
def pre_everySign (s:Str) (l:List Rule) (n i:Int):Bool:=decide (0≤i)&&(decide (n=(List.length l:Int))&&(Nat.ble (List.length l) big&&Nat.ble (s.length+(sgsOf (l.drop i.toNat)).length) 1000000))
def res_everySign (s:Str) (l:List Rule) (_n i:Int) (K:Cont):Option Fin:=K (.exit 0) ⟨[(3,vS (s++sgsOf (l.drop i.toNat)))],[]⟩
def mu_everySign (_s:Str) (l:List Rule) (_n i:Int):Nat:=List.length l-i.toNat
theorem r_everySign (s:Str) (l:List Rule) (n i:Int) (K:Cont) (hI:pre_everySign s l n i=true):(∀R:St→Option Fin,evC cx0_everySign (loopOf Tryz.f103 0) (st_everySign s l n i) (onward (headAt cx0_everySign 3) R K)=res_everySign s l n i K) ∨
  (∃(s':Str) (l':List Rule) (n' i':Int),pre_everySign s' l' n' i'=true∧mu_everySign s' l' n' i'<mu_everySign s l n i∧res_everySign s' l' n' i' K=res_everySign s l n i K∧∀R:St→Option Fin,evC cx0_everySign (loopOf Tryz.f103 0) (st_everySign s l n i) (onward (headAt cx0_everySign 3) R K)=R (st_everySign s' l' n' i')):=by
 have hx:=fun R=>x_impl_everySign s l n i R K
 simp only[pre_everySign,andd,dec_iff,ble_iff]at hI
 obtain⟨h0,rfl,h1,h2⟩:=hI
 by_cases hi:i<(l.length:Int)
 ·have hg:=sgs_at h0 hi
  rw[hg,List.length_append,List.length_append]at h2
  have k1:decide ((l.getD i.toNat d0).1.length+(l.getD i.toNat d0).2.length≤9223372036854775807)=true:=dec_iff.2 (by omega)
  have k2:decide (s.length+((l.getD i.toNat d0).1++(l.getD i.toNat d0).2).length≤9223372036854775807)=true:=dec_iff.2 (by rw[List.length_append];omega)
  simp only[hi,decide_true,inb_ok h0 hi,branch_true,W1 h0 hi h1]at hx
  right
  refine⟨s++((l.getD i.toNat d0).1++(l.getD i.toNat d0).2),l,(l.length:Int),i+1, ?_, ?_, ?_,fun R=>(hx R).trans ?_⟩
  ·simp only[pre_everySign,andd,dec_iff,ble_iff,List.length_append]
   exact⟨by omega,trivial,h1,by omega⟩
  ·simp only[mu_everySign];omega
  ·simp only[res_everySign,hg]
   simp only[List.append_assoc]
  ·exact (congrArg (need · _) k1).trans (congrArg (need · _) k2)
 ·left
  intro R
  refine(hx R).trans ?_
  simp only[hi,decide_false,branch_false,res_everySign,sgs_end (show (l.length:Int)≤i by omega)]
  rw[List.append_nil]
def g_everySign:St→Cont→Option Fin:=gP sh_everySign (fun v=>match v with | ((s,l,n,i,()),())=>pre_everySign s l n i) (fun v K=>match v with | ((s,l,n,i,()),())=>res_everySign s l n i K)
def L_everySign:LpL:=(3,g_everySign)::[]
def cx_everySign:Cx:=(cb_everySign).withLoops (look L_everySign)
theorem l_everySign {L:LpL} (n:Nat) (h1:L.drop n=[]) (h2:idsFree (L.take n) (loopOf Tryz.f103 0)=true):LoopsTo g_everySign (cb_everySign) (loopOf Tryz.f103 0) 3 L :=
 with_drop h1 h2 (gP_ok (fun v=>match v with | ((s,l,n,i,()),())=>mu_everySign s l n i) fun v K hI=>by
  obtain⟨⟨s,l,n,i,⟨⟩⟩,⟨⟩⟩:=v
  exact(r_everySign s l n i K hI).imp id fun⟨s',l',n',i',h⟩=>⟨((s',l',n',i',()),()),h⟩)
theorem y_impl_everySign (g:Gram):evFn cx_everySign Tryz.f103 true [ofD TG g] []=(
need (pre_everySign g.fst g.snd ((List.length g.snd:Int)) 0) <| some ((vS (List.append g.fst (sgsOf g.snd))),[])):=by kernel_rfl
theorem s_impl_everySign (g:Gram) (hg:Fit TG g) (hpre:(Nat.ble (List.length (signsG g)) 1000000)=true):Sat Tryz.prog 103 [ofD TG g] [] (.d (ofD .str (signsG g))) [] :=
 fn_sound (cx:=cx_everySign) Tryz.func103 rfl ttOk Γ54ok mixed (fun c hc=>LoopsOk.all (l:=[(3,loopOf Tryz.f103 0)]) (by cases hc;kernel_rfl) ⟨atLoop rfl (l_everySign 1 rfl (by kernel_rfl)),trivial⟩) (ro:=true) (by
  have h:pre_everySign g.1 g.2 (List.length g.2:Int) 0=true:=by
   simp only[pre_everySign,andd,dec_iff,ble_iff]
   refine⟨by omega,trivial,hg.2.1, ?_⟩
   have:=ble_iff.1 hpre
   unfold signsG at this
   rw[List.length_append]at this
   exact this
  rw[y_impl_everySign,h];rfl)
def c_impl_everySign:Con:=conT [TG] fun(g:Gram)=>(some (Nat.ble (List.length (signsG g)) 1000000), .d (ofD .str (signsG g)))
theorem k_impl_everySign:ConOk Tryz.prog 103 c_impl_everySign:=conT_ok Tryz.call103 fun g hg hqq=>s_impl_everySign g hg (pre_of hqq)
def Γ55:GL:=(103,c_impl_everySign)::Γ54
theorem Γ55ok:GO Γ55 := .cons k_impl_everySign Γ54ok
theorem y_impl_setOf (s:Str) (f:FuncId):evFn (cxOf Γ55 Tryz.f102.ntmps [] [] [] []) Tryz.f102 true [ofD .str s, .one (.fn f [])] []=(
need ((intL s).length.blt 50) <|
need ((sortL (intL s)).length.ble 1000000) <|
need ((cptV (sortL (intL s))).length.ble 1000000&&(holdF f).isSome) <| some ((vS (byteL (delV f (cptV (sortL (intL s)))))),[])):=by kernel_rfl
theorem s_impl_setOf (s:Str) (f:FuncId) (h:(Nat.blt (List.length s) 50&&(holdF f).isSome)=true):Sat Tryz.prog 102 [ofD .str s, .one (.fn f [])] [] (.d (ofD .str (setS (pB f) s))) [] :=
 fn_sound (cx:=cxOf Γ55 Tryz.f102.ntmps [] [] [] []) Tryz.func102 rfl ttOk Γ55ok mixed (fun _ _=>LoopsOk.no fun _=>rfl) (ro:=true) (by
  obtain⟨h1,h2⟩:=andd.1 h
  have hl:List.length s<50:=ble_iff.1 h1
  have hi:(intL s).length=List.length s:=by unfold intL;rw[List.length_map]
  have k1:(intL s).length.blt 50=true:=by rw[hi];exact h1
  have k2:(sortL (intL s)).length.ble 1000000=true:=by rw[sortL_len,hi,ble_iff];omega
  have k3:((cptV (sortL (intL s))).length.ble 1000000&&(holdF f).isSome)=true:=andd.2 ⟨ble_iff.2 (by have:=cpt_len s;omega),h2⟩
  rw[y_impl_setOf,k1,k2,k3,← setV_eq h2 hl];rfl)
def c_impl_setOf:Con:=⟨false,fun ds os=>match ds,os with
 | [.one (.r (.v (.string s))), .one (.fn f [])],[]=>some (some (Nat.blt (List.length s.data.toList) 50&&(holdF f).isSome), .d (ofD .str (setS (pB f) s.data.toList)),[])
 |_,_=>none⟩
theorem k_impl_setOf:ConOk Tryz.prog 102 c_impl_setOf:=by
 refine⟨Tryz.call102,fun ds os c x objs hc hok => ?_⟩
 unfold c_impl_setOf at hc
 dsimp only at hc
 split at hc
 ·rename_i s f
  cases hc
  exact s_impl_setOf s.data.toList f (pre_of hok)
 ·cases hc
def Γ56:GL:=(102,c_impl_setOf)::Γ55
theorem Γ56ok:GO Γ56 := .cons k_impl_setOf Γ55ok
theorem y_impl_GramSmalls (g:Gram):evFn (cxOf Γ56 Tryz.f52.ntmps [] [] [] []) Tryz.f52 true [ofD TG g] []=(
branch (!okG g) ( some ((vS []),[])) (
 need ((List.length (signsG g)).ble 1000000) <|
 need ((List.length (signsG g)).blt 50&&(holdF 55).isSome) <| some ((vS (setS (pB 55) (signsG g))),[]))):=by kernel_rfl
theorem s_impl_GramSmalls (g:Gram) (_hg:Fit TG g):Sat Tryz.prog 52 [ofD TG g] [] (.d (ofD .str (bif okG g then smallsG g else []))) [] :=
 fn_sound (cx:=cxOf Γ56 Tryz.f52.ntmps [] [] [] []) Tryz.func52 rfl ttOk Γ56ok mixed (fun _ _=>LoopsOk.no fun _=>rfl) (ro:=true) (by
  rw[y_impl_GramSmalls]
  cases h:okG g
  ·rfl
  ·have hl:=signs_len h
   have k1:(List.length (signsG g)).ble 1000000=true:=ble_iff.2 (by omega)
   have k2:((List.length (signsG g)).blt 50&&(holdF 55).isSome)=true:=andd.2 ⟨ble_iff.2 (by omega),rfl⟩
   rw[k1,k2];rfl)
def c_impl_GramSmalls:Con:=conT [TG] fun(g:Gram)=>(none, .d (ofD .str (bif okG g then smallsG g else [])))
theorem k_impl_GramSmalls:ConOk Tryz.prog 52 c_impl_GramSmalls:=conT_ok Tryz.call52 fun g hg _=>s_impl_GramSmalls g hg
def Γ57:GL:=(52,c_impl_GramSmalls)::Γ56
theorem Γ57ok:GO Γ57 := .cons k_impl_GramSmalls Γ56ok
def cb_l1Signs:Cx:=cxOf Γ57 Tryz.f74.ntmps [(8,[1,5,6,8]),(4,[1,2,5,6,7])] [(2,[5]),(3,[1,5,6,8]),(0,[1,5,6]),(1,[1,2,5,6,7]),(1000000,[4])] [] []
theorem x_spec_l1Signs_1 (b:Bool) (o a:Str) (i:Int) (R:St→Option Fin) (K:Cont):evC (cb_l1Signs.withLoops (look [])) (loopOf Tryz.f74 1) ⟨[(1,vB b),(5,vS o),(6,vS a),(8,vI i)],[]⟩ (onward (headAt (cb_l1Signs.withLoops (look [])) 8) R K)=(
branch (decide (i<(a.length:Int))) (
 need (inb i a.length) <|
 branch (decide (bigI (byteAt a i)=b)) (
 need (inb i a.length) <|
 need (o.length.ble 1000000) <| R (.mk [(1,vB b),(5,(vS (addS (UInt8.ofNat (byteAt a i).toNat) o))),(6,vS a),(8,vI (W64 (i+1)))] [])) ( R (.mk [(1,vB b),(5,vS o),(6,vS a),(8,vI (W64 (i+1)))] []))) ( K (.exit 2) (.mk [(5,vS o)] []))):=by kernel_rfl
def bigIs (b:Bool) (c:UInt8):Bool:=bigc c==b
theorem put_at {p:UInt8→Bool} {o a:Str} {i:Int} (h0:0≤i) (h1:i<(a.length:Int)):putS p o (a.drop i.toNat)=putS p (bif p (a.getD i.toNat 0)then addS (a.getD i.toNat 0) o else o) (a.drop (i+1).toNat):=by
 have hn:i.toNat<a.length:=by omega
 rw[List.drop_eq_getElem_cons hn,show (i+1).toNat=i.toNat+1 by omega,List.getD_eq_getElem?_getD,List.getElem?_eq_getElem hn];rfl
def cx0_l1SigB:Cx:=(cb_l1Signs).withLoops (look [])
def sh_l1SigB:Sh:=([(1, .d .bool),(5, .d .str),(6, .d .str),(8, .d TI64)],[])
abbrev st_l1SigB (b:Bool) (o a:Str) (i:Int):St:=⟨[(1,vB b),(5,vS o),(6,vS a),(8,vI i)],[]⟩
def pre_l1SigB (_b:Bool) (o a:Str) (i:Int):Bool:=decide (0≤i)&&(Nat.ble (List.length a) 1000000&&decide ((List.length o:Int)≤i))
def res_l1SigB (b:Bool) (o a:Str) (i:Int) (K:Cont):Option Fin:=K (.exit 2) ⟨[(5,vS (putS (bigIs b) o (a.drop i.toNat)))],[]⟩
def mu_l1SigB (_b:Bool) (_o a:Str) (i:Int):Nat:=List.length a-i.toNat
theorem r_l1SigB (b:Bool) (o a:Str) (i:Int) (K:Cont) (hI:pre_l1SigB b o a i=true):(∀R:St→Option Fin,evC cx0_l1SigB (loopOf Tryz.f74 1) (st_l1SigB b o a i) (onward (headAt cx0_l1SigB 8) R K)=res_l1SigB b o a i K) ∨
  (∃(b':Bool) (o' a':Str) (i':Int),pre_l1SigB b' o' a' i'=true∧mu_l1SigB b' o' a' i'<mu_l1SigB b o a i∧res_l1SigB b' o' a' i' K=res_l1SigB b o a i K∧∀R:St→Option Fin,evC cx0_l1SigB (loopOf Tryz.f74 1) (st_l1SigB b o a i) (onward (headAt cx0_l1SigB 8) R K)=R (st_l1SigB b' o' a' i')):=by
 have hx:=fun R=>x_spec_l1Signs_1 b o a i R K
 simp only[pre_l1SigB,andd,dec_iff,ble_iff]at hI
 obtain⟨h0,h1,h2⟩:=hI
 by_cases hi:i<(a.length:Int)
 ·have hg:=put_at (p:=bigIs b) (o:=o) h0 hi
  have hby:byteAt a i=((a.getD i.toNat 0).toNat:Int):=rfl
  have hu:UInt8.ofNat (byteAt a i).toNat=a.getD i.toNat 0:=by rw[hby];exact byteL_nat _
  have hc0:decide (bigI (byteAt a i)=b)=bigIs b (a.getD i.toNat 0):=by
   rw[hby,bigI_nat]
   unfold bigIs
   cases bigc (a.getD i.toNat 0)<;>cases b<;>rfl
  have hol:o.length.ble 1000000=true:=ble_iff.2 (by omega)
  simp only[hi,decide_true,inb_ok h0 hi,branch_true,W1 h0 hi (show a.length≤big by unfold big;omega),hc0,hu,hol]at hx
  right
  cases hc:bigIs b (a.getD i.toNat 0)
  ·rw[hc]at hg
   refine⟨b,o,a,i+1, ?_, ?_, ?_,fun R=>(hx R).trans ?_⟩
   ·simp only[pre_l1SigB,andd,dec_iff,ble_iff];exact ⟨by omega,h1,by omega⟩
   ·simp only[mu_l1SigB];omega
   ·simp only[res_l1SigB,hg];rfl
   ·rw[hc];rfl
  ·rw[hc]at hg
   refine⟨b,addS (a.getD i.toNat 0) o,a,i+1, ?_, ?_, ?_,fun R=>(hx R).trans ?_⟩
   ·simp only[pre_l1SigB,andd,dec_iff,ble_iff]
    have:=addS_len (c:=a.getD i.toNat 0) (s:=o)
    exact⟨by omega,h1,by omega⟩
   ·simp only[mu_l1SigB];omega
   ·simp only[res_l1SigB,hg];rfl
   ·rw[hc];rfl
 ·left
  intro R
  refine(hx R).trans ?_
  simp only[hi,decide_false,branch_false,res_l1SigB]
  rw[List.drop_eq_nil_of_le (by omega)];rfl
def g_l1SigB:St→Cont→Option Fin:=gP sh_l1SigB (fun v=>match v with | ((b,o,a,i,()),())=>pre_l1SigB b o a i) (fun v K=>match v with | ((b,o,a,i,()),())=>res_l1SigB b o a i K)
def L_l1SigB:LpL:=(8,g_l1SigB)::[]
theorem l_l1SigB {L:LpL} (n:Nat) (h1:L.drop n=[]) (h2:idsFree (L.take n) (loopOf Tryz.f74 1)=true):LoopsTo g_l1SigB (cb_l1Signs) (loopOf Tryz.f74 1) 8 L :=
 with_drop h1 h2 (gP_ok (fun v=>match v with | ((b,o,a,i,()),())=>mu_l1SigB b o a i) fun v K hI=>by
  obtain⟨⟨b,o,a,i,⟨⟩⟩,⟨⟩⟩:=v
  exact(r_l1SigB b o a i K hI).imp id fun⟨b',o',a',i',h⟩=>⟨((b',o',a',i',()),()),h⟩)
theorem x_spec_l1Signs (g:Gram) (b:Bool) (o a:Str) (i:Int) (R:St→Option Fin) (K:Cont):evC (cb_l1Signs.withLoops (look L_l1SigB)) (loopOf Tryz.f74 0) ⟨[(1,vB b),(2, pA),(5,vS o),(6,vS a),(7,vI i)],[(500000,some (boxD 25 TG g))]⟩ (onward (headAt (cb_l1Signs.withLoops (look L_l1SigB)) 4) R K)=(
branch (decide (i<(List.length g.snd:Int))) (
 need (inb i (List.length g.snd)) <|
 need (decide ((List.length a+List.length (List.getD g.snd i.toNat d0).fst)≤9223372036854775807)) <|
 need (inb i (List.length g.snd)) <|
 need (decide (((List.append a (List.getD g.snd i.toNat d0).fst).length+List.length (List.getD g.snd i.toNat d0).snd)≤9223372036854775807)) <| R (.mk [(1,vB b),(2,pA),(5,vS o),(6,(vS ((List.append a (List.getD g.snd i.toNat d0).fst).append (List.getD g.snd i.toNat d0).snd))),(7,vI (W64 (i+1)))] [(500000,some (boxD 25 TG g))])) ( K (.exit 0) (.mk [(1,vB b),(5,vS o),(6,vS a)] []))):=by kernel_rfl
def cx0_l1SigA:Cx:=(cb_l1Signs).withLoops (look L_l1SigB)
def sh_l1SigA:Sh:=([(1, .d .bool),(2, .ptr 500000 0),(5, .d .str),(6, .d .str),(7, .d TI64)],[(500000, .box 25 TG)])
abbrev st_l1SigA (b:Bool) (o a:Str) (i:Int) (g:Gram):St:=⟨[(1,vB b),(2, .d (.one (.ptr 500000 0))),(5,vS o),(6,vS a),(7,vI i)],[(500000,some (boxD 25 TG g))]⟩
def pre_l1SigA (_b:Bool) (_o a:Str) (i:Int) (g:Gram):Bool:=decide (0≤i)&&(Nat.ble (List.length g.2) big&&Nat.ble (List.length a+(sgsOf (g.2.drop i.toNat)).length) 1000000)
def res_l1SigA (b:Bool) (o a:Str) (i:Int) (g:Gram) (K:Cont):Option Fin:=K (.exit 0) ⟨[(1,vB b),(5,vS o),(6,vS (a++sgsOf (g.2.drop i.toNat)))],[]⟩
def mu_l1SigA (_b:Bool) (_o _a:Str) (i:Int) (g:Gram):Nat:=List.length g.2-i.toNat
theorem r_l1SigA (b:Bool) (o a:Str) (i:Int) (g:Gram) (K:Cont) (hI:pre_l1SigA b o a i g=true):(∀R:St→Option Fin,evC cx0_l1SigA (loopOf Tryz.f74 0) (st_l1SigA b o a i g) (onward (headAt cx0_l1SigA 4) R K)=res_l1SigA b o a i g K) ∨
  (∃(b':Bool) (o' a':Str) (i':Int) (g':Gram),pre_l1SigA b' o' a' i' g'=true∧mu_l1SigA b' o' a' i' g'<mu_l1SigA b o a i g∧res_l1SigA b' o' a' i' g' K=res_l1SigA b o a i g K∧∀R:St→Option Fin,evC cx0_l1SigA (loopOf Tryz.f74 0) (st_l1SigA b o a i g) (onward (headAt cx0_l1SigA 4) R K)=R (st_l1SigA b' o' a' i' g')):=by
 have hx:=fun R=>x_spec_l1Signs g b o a i R K
 simp only[pre_l1SigA,andd,dec_iff,ble_iff]at hI
 obtain⟨h0,h1,h2⟩:=hI
 by_cases hi:i<(List.length g.2:Int)
 ·have hg:=sgs_at h0 hi
  rw[hg,List.length_append,List.length_append]at h2
  have k1:decide (List.length a+List.length (List.getD g.2 i.toNat d0).1≤9223372036854775807)=true:=dec_iff.2 (by omega)
  have k2:decide ((List.append a (List.getD g.2 i.toNat d0).1).length+List.length (List.getD g.2 i.toNat d0).2≤9223372036854775807)=true:=dec_iff.2 (by rw[List.append_eq,List.length_append];omega)
  simp only[hi,decide_true,inb_ok h0 hi,branch_true,W1 h0 hi h1]at hx
  right
  refine⟨b,o,a++(g.2.getD i.toNat d0).1++(g.2.getD i.toNat d0).2,i+1,g, ?_, ?_, ?_,fun R=>(hx R).trans ?_⟩
  ·simp only[pre_l1SigA,andd,dec_iff,ble_iff,List.length_append]
   exact⟨by omega,h1,by omega⟩
  ·simp only[mu_l1SigA];omega
  ·simp only[res_l1SigA,hg,List.append_assoc]
  ·exact (congrArg (need · _) k1).trans (congrArg (need · _) k2)
 ·left
  intro R
  refine(hx R).trans ?_
  simp only[hi,decide_false,branch_false,res_l1SigA,sgs_end (show (List.length g.2:Int)≤i by omega)]
  rw[List.append_nil]
def g_l1SigA:St→Cont→Option Fin:=gP sh_l1SigA (fun v=>match v with | ((b,o,a,i,()),(g,()))=>pre_l1SigA b o a i g) (fun v K=>match v with | ((b,o,a,i,()),(g,()))=>res_l1SigA b o a i g K)
def L_l1SigA:LpL:=(4,g_l1SigA)::L_l1SigB
def cx_l1SigA:Cx:=(cb_l1Signs).withLoops (look L_l1SigA)
theorem l_l1SigA {L:LpL} (n:Nat) (h1:L.drop n=L_l1SigB) (h2:idsFree (L.take n) (loopOf Tryz.f74 0)=true):LoopsTo g_l1SigA (cb_l1Signs) (loopOf Tryz.f74 0) 4 L :=
 with_drop h1 h2 (gP_ok (fun v=>match v with | ((b,o,a,i,()),(g,()))=>mu_l1SigA b o a i g) fun v K hI=>by
  obtain⟨⟨b,o,a,i,⟨⟩⟩,⟨g,⟨⟩⟩⟩:=v
  exact(r_l1SigA b o a i g K hI).imp id fun⟨b',o',a',i',g',h⟩=>⟨((b',o',a',i',()),(g',())),h⟩)
theorem y_spec_l1Signs (g:Gram) (b:Bool):evFn cx_l1SigA Tryz.f74 true [ofD TG g,ofD .bool b] []=(
need (pre_l1SigA b ([]:Str) g.fst 0 g) <|
need (pre_l1SigB b ([]:Str) (List.append g.fst (sgsOf g.snd)) 0) <| some ((vS (putS (bigIs b) ([]:Str) (id (List.append g.fst (sgsOf g.snd))))),[])):=by kernel_rfl
theorem s_spec_l1Signs (g:Gram) (hg:Fit TG g) (b:Bool) (_hb:Fit .bool b) (hpre:(okG g)=true):Sat Tryz.prog 74 [ofD TG g,ofD .bool b] [] (.d (ofD .str (setS (bigIs b) (signsG g)))) [] :=
 fn_sound (cx:=cx_l1SigA) Tryz.func74 rfl ttOk Γ57ok mixed (fun c hc=>LoopsOk.all (l:=[(4,loopOf Tryz.f74 0),(8,loopOf Tryz.f74 1)]) (by cases hc;kernel_rfl) ⟨atLoop rfl (l_l1SigA 1 rfl (by kernel_rfl)),atLoop rfl (l_l1SigB 2 rfl (by kernel_rfl)),trivial⟩) (ro:=true) (by
  have hl:=signs_len hpre
  have e:(signsG g).length=List.length g.1+(sgsOf g.2).length:=by unfold signsG;rw[List.length_append]
  have h1:pre_l1SigA b ([]:Str) g.1 0 g=true:=andd.2 ⟨rfl,andd.2 ⟨ble_iff.2 hg.2.1,ble_iff.2 (show List.length g.1+(sgsOf g.2).length≤1000000 by omega)⟩⟩
  have h2:pre_l1SigB b ([]:Str) (List.append g.1 (sgsOf g.2)) 0=true:=andd.2 ⟨rfl,andd.2 ⟨ble_iff.2 (show (signsG g).length≤1000000 by omega),rfl⟩⟩
  rw[y_spec_l1Signs,h1,h2];rfl)
def c_spec_l1Signs:Con:=conT [TG, .bool] fun(g:Gram) (b:Bool)=>(some (okG g), .d (ofD .str (setS (bigIs b) (signsG g))))
theorem k_spec_l1Signs:ConOk Tryz.prog 74 c_spec_l1Signs:=conT_ok Tryz.call74 fun g hg b hb hqq=>s_spec_l1Signs g hg b hb (pre_of hqq)
def Γ58:GL:=(74,c_spec_l1Signs)::Γ57
theorem Γ58ok:GO Γ58 := .cons k_spec_l1Signs Γ57ok
end
end Go.Proofs.YtmeiebnfmhddnaaGreatDoor.Ev
