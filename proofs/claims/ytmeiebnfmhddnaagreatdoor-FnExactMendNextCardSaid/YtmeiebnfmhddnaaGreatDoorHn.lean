/-
  Sets of signs: ascending, each once.
-/
import Derived.Test.YtmeiebnfmhddnaaGreatDoorGp
import Derived.WalkKit
import Derived.Lib.Walk
import Derived.Deep.LoopGhost
import Derived.Shelf.Spec.SlicesInsert
import Derived.Lib.Mul64
import Derived.Laws.Bits64b
namespace Go.Proofs.YtmeiebnfmhddnaaGreatDoor.Ev
open Go
open List (length length_append length_cons length_singleton length_replicate length_set length_take length_drop mem_cons_of_mem mem_cons_self getD replicate mem_append_left mem_append_right all_eq_true drop_eq_getElem_cons drop_eq_nil_of_le append_assoc mem_singleton getElem?_append_left getElem?_append_right getElem?_eq_none getElem?_take mem_append)
noncomputable section
abbrev hQf (f:FuncId) (c:Int):Bool:=pF f (chrS c)
theorem dlL_fil (f:FuncId):∀(m:Nat) (l:List Int) (i j:Nat),i<j→j+m=l.length→(dlL f m l i j).1.take (dlL f m l i j).2=l.take i++(l.drop j).filter (hQf f)
 |0,l,i,j,h1,h2=>by
  rw[drop_eq_nil_of_le (by omega)];show l.take i=_;simp
 |m+1,l,i,j,h1,h2=>by
  rw[drop_at (show j<l.length by omega)];unfold dlL
  cases hc:pF f (chrS (l.getD j 0))
  ·simp only[cond_false];rw[dlL_fil f m l i (j+1) (by omega) (by omega),List.filter_cons_of_neg (by show ¬pF f (chrS (l.getD j 0))=true;rw[hc];exact Bool.false_ne_true)]
  ·simp only[cond_true];rw[dlL_fil f m (l.set i (l.getD j 0)) (i+1) (j+1) (by omega) (by rw[length_set];omega),List.filter_cons_of_pos (p:=hQf f) (a:=l.getD j 0) hc];have e2:(l.set i (l.getD j 0)).drop (j+1)=l.drop (j+1):=List.drop_set_of_lt (by omega);have e3:(l.set i (l.getD j 0)).take (i+1)=l.take i++[l.getD j 0]:=by
    rw[List.take_succ_eq_append_getElem (by rw[length_set];omega),List.take_set_of_le (Nat.le_refl _)];simp
   rw[e2,e3];simp
theorem ixV_none {f:FuncId}:∀ {l:List Int} {k:Nat},ixV f l k=none→l.filter (hQf f)=l
 | [],_,_=>rfl
 |x::l,k,h=>by
  unfold ixV at h
  cases hc:pF f (chrS x)<;>rw[hc]at h
  ·cases h
  ·rw[List.filter_cons_of_pos (by simp[hQf,hc]),ixV_none (k:=k+1) h]
theorem ixV_some {f:FuncId}:∀ {l:List Int} {k q:Nat},ixV f l k=some q→(l.take (q-k)).filter (hQf f)=l.take (q-k)∧hQf f (l.getD (q-k) 0)=false
 | [],_,_,h=>by cases h
 |x::l,k,q,h=>by
  unfold ixV at h
  cases hc:pF f (chrS x)<;>rw[hc]at h
  ·cases h
   rw[Nat.sub_self];exact⟨rfl,hc⟩
  ·have hlt:=ixV_lt (l:=l) (k:=k+1) h;obtain⟨h1,h2⟩:=ixV_some (l:=l) (k:=k+1) h;rw[show q-k=q-(k+1)+1 by omega,List.take_succ_cons,List.filter_cons_of_pos (by simp[hQf,hc]),h1];exact⟨rfl,h2⟩
theorem delV_eq {f:FuncId} {l:List Int} (hl:l.length≤1000000):delV f l=l.filter (hQf f):=by
 unfold delV
 cases hv:ixV f l 0 with
 |none =>
  have h1:ixI f l = -1:=by unfold ixI;rw[hv];rfl
  rw[zT h1];exact(ixV_none hv).symm
 |some q =>
  have h1:ixI f l=(q:Int):=by unfold ixI;rw[hv];rfl
  have hlt:=ixV_lt hv;obtain⟨h2,h3⟩:=ixV_some hv;rw[h1,zF (show ¬(q:Int) = -1 by omega)];have w:W64 ((q:Int)+1)=q+1:=wrap_small (by omega) (by omega);have e0:dlE f l (q:Int)=dlL f (l.length-(q+1)) l q (q+1):=by
   show dlL f (l.length-(W64 ((q:Int)+1)).toNat) l (q:Int).toNat (W64 ((q:Int)+1)).toNat=_;rw[w,show ((q:Int)+1).toNat=q+1 by omega,show (q:Int).toNat=q by omega]
  rw[e0];obtain⟨c1,c2,c3⟩:=dlL_len f (l.length-(q+1)) l q (q+1);have e1:=dlL_fil f (l.length-(q+1)) l q (q+1) (by omega) (by omega)
  generalize dlL f (l.length-(q+1)) l q (q+1)=r at c1 c2 c3 e1
  show List.take r.2 (clrL (e:=TU8) r.1 r.2)=_;have e2:List.take r.2 (clrL (e:=TU8) r.1 r.2)=r.1.take r.2:=by
   show List.take r.2 (List.take r.2 r.1++replicate (r.1.length-r.2) (0:Int))=_;rw[List.take_append_of_le_length (by rw[length_take];omega),List.take_take,Nat.min_self]
  rw[e2,e1];have h2':(l.take q).filter (hQf f)=l.take q:=h2;have h3':hQf f (l.getD q 0)=false:=h3;have e3:l=l.take q++l.getD q 0::l.drop (q+1):=by rw[← drop_at (show q<l.length by omega),List.take_append_drop]
  conv=>rhs;rw[e3]
  rw[List.filter_append,h2',List.filter_cons_of_neg (by rw[h3'];exact Bool.false_ne_true)]
/-! ### sets of signs -/
abbrev Asc (s:Str):Prop:=s.Pairwise fun a b=>a.toNat<b.toNat
theorem asc_ext:∀ {s t:Str},Asc s→Asc t→(∀c,c∈s↔c∈t)→s=t
 | [],[],_,_,_=>rfl
 | [],b::t,_,_,h=>absurd ((h b).2 mem_cons_self) (by simp)
 |a::s,[],_,_,h=>absurd ((h a).1 mem_cons_self) (by simp)
 |a::s,b::t,hs,ht,h=>by
  obtain⟨s1,s2⟩:=List.pairwise_cons.1 hs;obtain⟨t1,t2⟩:=List.pairwise_cons.1 ht;have hab:a=b:=by
   rcases List.mem_cons.1 ((h a).1 mem_cons_self)with h1 | h1
   ·exact h1
   ·rcases List.mem_cons.1 ((h b).2 mem_cons_self)with h2 | h2
    ·exact h2.symm
    ·have:=t1 a h1;have:=s1 b h2;omega
  subst hab;refine congrArg (a::·) (asc_ext s2 t2 fun c=>⟨fun hc => ?_,fun hc => ?_⟩)
  ·rcases List.mem_cons.1 ((h c).1 (mem_cons_of_mem _ hc))with h1 | h1
   ·subst h1;have:=s1 c hc;omega
   ·exact h1
  ·rcases List.mem_cons.1 ((h c).2 (mem_cons_of_mem _ hc))with h1 | h1
   ·subst h1;have:=t1 c hc;omega
   ·exact h1
def addS (c:UInt8):Str→Str
 | []=>[c]
 |x::s=>bif Nat.blt x.toNat c.toNat then x::addS c s else bif Nat.beq x.toNat c.toNat then x::s else c::x::s
theorem addS_mem {c y:UInt8}:∀ {s:Str},y∈addS c s↔y=c∨y∈s
 | []=>by simp[addS]
 |x::s=>by
  unfold addS
  cases h1:Nat.blt x.toNat c.toNat
  ·cases h2:Nat.beq x.toNat c.toNat
   ·simp
   ·have e:x=c:=UInt8.toNat_inj.1 (zB h2);subst e;simp
  ·simp only[cond_true,List.mem_cons,addS_mem (s:=s)]
   constructor
   ·rintro (h | h | h)
    ·exact .inr (.inl h)
    ·exact .inl h
    ·exact .inr (.inr h)
   ·rintro (h | h | h)
    ·exact .inr (.inl h)
    ·exact .inl h
    ·exact .inr (.inr h)
theorem addS_asc {c:UInt8}:∀ {s:Str},Asc s→Asc (addS c s)
 | [],_=>by simp[addS,Asc]
 |x::s,h=>by
  obtain⟨h1,h2⟩:=List.pairwise_cons.1 h;unfold addS
  cases e1:Nat.blt x.toNat c.toNat
  ·cases e2:Nat.beq x.toNat c.toNat
   ·have hc:c.toNat<x.toNat:=by
     have n1:¬x.toNat<c.toNat:=fun hh=>by
      have hb:Nat.blt x.toNat c.toNat=true:=Nat.ble_eq_true_of_le hh;rw[hb]at e1;cases e1
     have n2:x.toNat≠c.toNat:=fun hh=>by rw[hh,Nat.beq_refl]at e2;cases e2
     omega
    refine List.pairwise_cons.2 ⟨fun y hy => ?_,h⟩;rcases List.mem_cons.1 hy with rfl | hy
    ·exact hc
    ·have:=h1 y hy;omega
   ·exact h
  ·have hx:x.toNat<c.toNat:=Nat.le_of_ble_eq_true e1;refine List.pairwise_cons.2 ⟨fun y hy => ?_,addS_asc h2⟩;rcases addS_mem.1 hy with rfl | hy
   ·exact hx
   ·exact h1 y hy
theorem addS_len {c:UInt8}:∀ {s:Str},(addS c s).length≤s.length+1
 | []=>Nat.le_refl _
 |x::s=>by
  unfold addS;have:=addS_len (c:=c) (s:=s)
  cases Nat.blt x.toNat c.toNat
  ·cases Nat.beq x.toNat c.toNat<;>simp
  ·simp only[cond_true,length_cons];omega
def putS (p:UInt8→Bool) (o:Str):Str→Str
 | []=>o
 |x::s=>putS p (bif p x then addS x o else o) s
theorem putS_mem {p:UInt8→Bool} {y:UInt8}:∀ {s o:Str},y∈putS p o s↔y∈o∨(y∈s∧p y=true)
 | [],o=>by simp[putS]
 |x::s,o=>by
  unfold putS;rw[putS_mem]
  cases hp:p x
  ·simp only[cond_false,List.mem_cons]
   constructor
   ·rintro (h | h)
    ·exact .inl h
    ·exact .inr ⟨.inr h.1,h.2⟩
   ·rintro (h | ⟨rfl | h,h2⟩)
    ·exact .inl h
    ·rw[hp]at h2;cases h2
    ·exact .inr ⟨h,h2⟩
  ·simp only[cond_true,addS_mem,List.mem_cons]
   constructor
   ·rintro ((rfl | h) | h)
    ·exact .inr ⟨.inl rfl,hp⟩
    ·exact .inl h
    ·exact .inr ⟨.inr h.1,h.2⟩
   ·rintro (h | ⟨rfl | h,h2⟩)
    ·exact .inl (.inr h)
    ·exact .inl (.inl rfl)
    ·exact .inr ⟨h,h2⟩
theorem putS_asc {p:UInt8→Bool}:∀ {s o:Str},Asc o→Asc (putS p o s)
 | [],_,h=>h
 |x::s,o,h=>by
  unfold putS;refine putS_asc ?_
  cases p x
  ·exact h
  ·exact addS_asc h
def setS (p:UInt8→Bool) (s:Str):Str:=putS p [] s
theorem setS_mem {p:UInt8→Bool} {y:UInt8} {s:Str}:y∈setS p s↔y∈s∧p y=true:=by
 unfold setS;rw[putS_mem];simp
theorem setS_asc {p:UInt8→Bool} {s:Str}:Asc (setS p s):=putS_asc .nil
theorem setS_eq {p:UInt8→Bool} {s t:Str} (ha:Asc t) (h:∀y,y∈t↔y∈s∧p y=true):t=setS p s:=asc_ext ha setS_asc fun y=>by rw[h,setS_mem]
theorem chr_big:∀n:Nat,n<256→bigS (chrS (n:Int))=(Nat.ble 65 n&&Nat.ble n 69):=by decide +kernel
theorem chr_small:∀n:Nat,n<256→smallS (chrS (n:Int))=(Nat.ble 97 n&&Nat.ble n 100):=by decide +kernel
def pB (f:FuncId):UInt8→Bool:=bif Nat.beq f 42 then bigc else bif Nat.beq f 55 then small else fun _=>true
theorem pB_eq {f:FuncId} (h:(holdF f).isSome=true) (c:UInt8):hQf f (c.toNat:Int)=pB f c:=by
 unfold hQf pF pB;unfold holdF at h ⊢
 cases h1:Nat.beq f 42
 ·cases h2:Nat.beq f 55
  ·cases h3:isUni f
   ·rw[h1,h2,h3]at h;cases h
   ·rfl
  ·exact chr_small c.toNat c.toNat_lt
 ·exact chr_big c.toNat c.toNat_lt
noncomputable def setV (f:FuncId) (s:Str):Str:=byteL (delV f (cptV (sortL (intL s))))
theorem cpt_len (s:Str):(cptV (sortL (intL s))).length≤s.length:=by
 have ha:=cptV_asc (sortL_sorted (intL s));have hnd:(cptV (sortL (intL s))).Nodup:=ha.imp fun hh=>by omega
 have:=hnd.length_le_of_subset (l₂:=sortL (intL s)) fun x hx=>cptV_mem.1 hx;rw[sortL_len]at this;have h2:(intL s).length=s.length:=by unfold intL;rw[List.length_map]
 omega
theorem setV_eq {f:FuncId} {s:Str} (h:(holdF f).isSome=true) (hl:s.length<50):setV f s=setS (pB f) s:=by
 have h0:∀n∈cptV (sortL (intL s)),∃b∈s,n=(b.toNat:Int):=fun n hn=>by
  have:=(sortL_perm _).mem_iff.1 (cptV_mem.1 hn);unfold intL at this;obtain⟨b,h1,h2⟩:=List.mem_map.1 this;exact⟨b,h1,h2.symm⟩
 have hlen:(cptV (sortL (intL s))).length≤1000000:=by have:=cpt_len s;omega
 unfold setV;rw[delV_eq hlen];have h1:∀n∈(cptV (sortL (intL s))).filter (hQf f),∃b∈s,n=(b.toNat:Int):=fun n hn=>h0 n (List.mem_filter.1 hn).1;refine setS_eq ?_ fun y=>⟨fun hy => ?_,fun hy => ?_⟩
 ·show (byteL _).Pairwise _;unfold byteL;rw[List.pairwise_map];refine((cptV_asc (sortL_sorted (intL s))).filter _).imp_of_mem fun {a b} ha hb hab => ?_;obtain⟨x,_,rfl⟩:=h1 a ha;obtain⟨z,_,rfl⟩:=h1 b hb;rw[byteL_nat,byteL_nat];omega
 ·unfold byteL at hy;obtain⟨n,hn,rfl⟩:=List.mem_map.1 hy;obtain⟨b,hb,rfl⟩:=h1 n hn;have:=(List.mem_filter.1 hn).2;rw[byteL_nat];exact⟨hb,by rw[← pB_eq h];exact this⟩
 ·unfold byteL;refine List.mem_map.2 ⟨(y.toNat:Int),List.mem_filter.2 ⟨?_,by rw[pB_eq h];exact hy.2⟩,byteL_nat y⟩;refine cptV_mem.2 ((sortL_perm _).mem_iff.2 ?_);unfold intL;exact List.mem_map.2 ⟨y,hy.1,rfl⟩
def cb_l1In:Cx:=cxOf Γ43 Tryz.f85.ntmps [(2,[0,1,5])] [(0,[]),(1,[0,1,5]),(1000000,[4])] [] []
abbrev st_l1In (s:Str) (c i:Int):St:=⟨[(0,vS s),(1, .d (ofD TU8 c)),(5,vI i)],[]⟩
theorem x_spec_l1In (s:Str) (c i:Int) (R:St→Option Fin) (K:Cont):evC (cb_l1In.withLoops (look [])) (loopOf Tryz.f85 0) (st_l1In s c i) (onward (headAt (cb_l1In.withLoops (look [])) 2) R K)=(
branch (decide (i<(s.length:Int))) (
 need (inb i s.length) <|
 branch (decide (byteAt s i=c)) ( K (.ret) (.mk [(4,vB true)] [])) ( R (.mk [(0,vS s),(1,(.d (.one (.r (.v (Value.int IntKind.u8 c)))))),(5,vI (W64 (i+1)))] []))) ( K (.exit 0) (.mk [] []))):=by kernel_rfl
def cx0_l1In:Cx:=(cb_l1In).withLoops (look [])
def sh_l1In:Sh:=([(0, .d .str),(1, .d TU8),(5, .d TI64)],[])
def pre_l1In (s:Str) (_c i:Int):Bool:=decide (0≤i)&&Nat.ble s.length big
def res_l1In (s:Str) (c i:Int) (K:Cont):Option Fin:=branch (inS (s.drop i.toNat) c) (K .ret ⟨[(4,vB true)],[]⟩) (K (.exit 0) ⟨[],[]⟩)
def mu_l1In (s:Str) (_c i:Int):Nat:=s.length-i.toNat
theorem r_l1In (s:Str) (c i:Int) (K:Cont) (hI:pre_l1In s c i=true):(∀R:St→Option Fin,evC cx0_l1In (loopOf Tryz.f85 0) (st_l1In s c i) (onward (headAt cx0_l1In 2) R K)=res_l1In s c i K) ∨
  (∃(s':Str) (c' i':Int),pre_l1In s' c' i'=true∧mu_l1In s' c' i'<mu_l1In s c i∧res_l1In s' c' i' K=res_l1In s c i K∧∀R:St→Option Fin,evC cx0_l1In (loopOf Tryz.f85 0) (st_l1In s c i) (onward (headAt cx0_l1In 2) R K)=R (st_l1In s' c' i')):=by
 have hx:=fun R=>x_spec_l1In s c i R K;simp only[pre_l1In,andd,dec_iff,ble_iff]at hI;obtain⟨h0,h1⟩:=hI
 by_cases hi:i<(s.length:Int)
 ·have hg:=inS_at (c:=c) h0 hi;simp only[hi,decide_true,inb_ok h0 hi,branch_true,W1 h0 hi h1]at hx
  cases hc:decide (byteAt s i=c)
  ·right;rw[hc]at hg;refine⟨s,c,i+1, ?_, ?_, ?_,fun R=>(hx R).trans ?_⟩
   ·exact andd.2 ⟨dec_iff.2 (by omega),ble_iff.2 h1⟩
   ·simp only[mu_l1In];omega
   ·simp only[res_l1In,hg];rfl
   ·rw[hc];rfl
  ·left;intro R;rw[hc]at hg;refine(hx R).trans ?_;rw[hc];simp only[res_l1In,hg];rfl
 ·left;intro R;refine(hx R).trans ?_;simp only[hi,decide_false,branch_false,res_l1In];rw[drop_eq_nil_of_le (by omega)];rfl
def g_l1In:St→Cont→Option Fin:=gP sh_l1In (fun v=>match v with | ((s,c,i,()),())=>pre_l1In s c i) (fun v K=>match v with | ((s,c,i,()),())=>res_l1In s c i K)
def L_l1In:LpL:=(2,g_l1In)::[]
def cx_l1In:Cx:=(cb_l1In).withLoops (look L_l1In)
theorem l_l1In {L:LpL} (n:Nat) (h1:L.drop n=[]) (h2:idsFree (L.take n) (loopOf Tryz.f85 0)=true):LoopsTo g_l1In (cb_l1In) (loopOf Tryz.f85 0) 2 L :=
 with_drop h1 h2 (gP_ok (fun v=>match v with | ((s,c,i,()),())=>mu_l1In s c i) fun v K hI=>by
  obtain⟨⟨s,c,i,⟨⟩⟩,⟨⟩⟩:=v;exact(r_l1In s c i K hI).imp id fun⟨s',c',i',h⟩=>⟨((s',c',i',()),()),h⟩)
theorem y_spec_l1In (s:Str) (c:Int):evFn cx_l1In Tryz.f85 true [ofD .str s,ofD TU8 c] []=(
need (pre_l1In s c 0) <|
branch (inS s c) ( some ((vB true),[])) ( some ((vB false),[]))):=by kernel_rfl
theorem s_spec_l1In (s:Str) (hs:Fit .str s) (c:Int) (_hc:Fit TU8 c):Sat Tryz.prog 85 [ofD .str s,ofD TU8 c] [] (.d (ofD .bool (inS s c))) [] :=
 fn_sound (cx:=cx_l1In) Tryz.func85 rfl ttOk Γ43ok mixed (fun c hc=>LoopsOk.all (l:=[(2,loopOf Tryz.f85 0)]) (by cases hc;kernel_rfl) ⟨atLoop rfl (l_l1In 1 rfl (by kernel_rfl)),trivial⟩) (ro:=true) (by
  have h:pre_l1In s c 0=true:=andd.2 ⟨rfl,ble_iff.2 hs⟩;rw[y_spec_l1In,h];show branch (inS s c) _ _=_
  cases inS s c<;>rfl)
def c_spec_l1In:Con:=conT [.str,TU8] fun(s:Str) (c:Int)=>(none, .d (ofD .bool (inS s c)))
theorem k_spec_l1In:ConOk Tryz.prog 85 c_spec_l1In:=conT_ok Tryz.call85 fun s hs c hc _=>s_spec_l1In s hs c hc
def Γ44:GL:=(85,c_spec_l1In)::Γ43
theorem Γ44ok:GO Γ44 := .cons k_spec_l1In Γ43ok
def lowN (c:Int):Str→Nat
 | []=>0
 |x::s=>bif decide ((x.toNat:Int)<c)then lowN c s+1 else 0
theorem lowN_le {c:Int}:∀ {s:Str},lowN c s≤s.length
 | []=>Nat.le_refl _
 |x::s=>by
  unfold lowN;have:=lowN_le (c:=c) (s:=s)
  cases decide ((x.toNat:Int)<c)<;>simp<;>omega
theorem lowN_at {s:Str} {i c:Int} (h0:0≤i) (h1:i<(s.length:Int)):lowN c (s.drop i.toNat)=bif decide (byteAt s i<c)then lowN c (s.drop (i+1).toNat)+1 else 0:=by
 have hn:i.toNat<s.length:=by omega
 rw[drop_eq_getElem_cons hn,show (i+1).toNat=i.toNat+1 by omega,byteAt_get h0 hn];rfl
theorem add_low {c:UInt8}:∀(s:Str),addS c s=bif (bif Nat.blt (lowN c.toNat s) s.length then Nat.beq (s.getD (lowN c.toNat s) 0).toNat c.toNat else false)then s else s.take (lowN c.toNat s)++c::s.drop (lowN c.toNat s)
 | []=>rfl
 |x::s=>by
  unfold addS lowN;have e:decide ((x.toNat:Int)<(c.toNat:Int))=Nat.blt x.toNat c.toNat:=by
   show _=Nat.ble (x.toNat+1) c.toNat;rw[ble_dec,decide_eq_decide];omega
  rw[e]
  cases h1:Nat.blt x.toNat c.toNat
  ·show _=bif (bif Nat.blt 0 (s.length+1)then Nat.beq x.toNat c.toNat else false)then x::s else c::x::s;rw[show Nat.blt 0 (s.length+1)=true from ble_iff.2 (by omega)];rfl
  ·have ih:=add_low (c:=c) s;show x::addS c s=bif (bif Nat.blt (lowN c.toNat s+1) (s.length+1)then Nat.beq (s.getD (lowN c.toNat s) 0).toNat c.toNat else false)then x::s else x::(s.take (lowN c.toNat s)++c::s.drop (lowN c.toNat s));rw[ih,show Nat.blt (lowN c.toNat s+1) (s.length+1)=Nat.blt (lowN c.toNat s) s.length from rfl]
   cases (bif Nat.blt (lowN c.toNat s) s.length then Nat.beq (s.getD (lowN c.toNat s) 0).toNat c.toNat else false)<;>rfl
def cb_l1Add:Cx:=cxOf Γ44 Tryz.f117.ntmps [(2,[0,1,5])] [(0,[0,1,5]),(1,[0,1,5]),(1000000,[4])] [] []
abbrev st_l1Add (s:Str) (c i:Int):St:=⟨[(0,vS s),(1, .d (ofD TU8 c)),(5,vI i)],[]⟩
theorem x_spec_l1Add (s:Str) (c i:Int) (R:St→Option Fin) (K:Cont):evC (cb_l1Add.withLoops (look [])) (loopOf Tryz.f117 0) (st_l1Add s c i) (onward (headAt (cb_l1Add.withLoops (look [])) 2) R K)=(
need (bif decide (decide (i<(s.length:Int))=true)then inb i s.length else true) <|
branch (bif decide (i<(s.length:Int))then decide (byteAt s i<c)else false) ( R (.mk [(0,vS s),(1,(.d (.one (.r (.v (Value.int IntKind.u8 c)))))),(5,vI (W64 (i+1)))] [])) ( K (.exit 0) (.mk [(0,vS s),(1,(.d (.one (.r (.v (Value.int IntKind.u8 c)))))),(5,vI i)] []))):=by kernel_rfl
def cx0_l1Add:Cx:=(cb_l1Add).withLoops (look [])
def sh_l1Add:Sh:=([(0, .d .str),(1, .d TU8),(5, .d TI64)],[])
def pre_l1Add (s:Str) (_c i:Int):Bool:=decide (0≤i)&&Nat.ble s.length big
def res_l1Add (s:Str) (c i:Int) (K:Cont):Option Fin:=K (.exit 0) ⟨[(0,vS s),(1, .d (ofD TU8 c)),(5,vI (i+lowN c (s.drop i.toNat)))],[]⟩
def mu_l1Add (s:Str) (_c i:Int):Nat:=s.length-i.toNat
theorem r_l1Add (s:Str) (c i:Int) (K:Cont) (hI:pre_l1Add s c i=true):(∀R:St→Option Fin,evC cx0_l1Add (loopOf Tryz.f117 0) (st_l1Add s c i) (onward (headAt cx0_l1Add 2) R K)=res_l1Add s c i K) ∨
  (∃(s':Str) (c' i':Int),pre_l1Add s' c' i'=true∧mu_l1Add s' c' i'<mu_l1Add s c i∧res_l1Add s' c' i' K=res_l1Add s c i K∧∀R:St→Option Fin,evC cx0_l1Add (loopOf Tryz.f117 0) (st_l1Add s c i) (onward (headAt cx0_l1Add 2) R K)=R (st_l1Add s' c' i')):=by
 have hx:=fun R=>x_spec_l1Add s c i R K;simp only[pre_l1Add,andd,dec_iff,ble_iff]at hI;obtain⟨h0,h1⟩:=hI
 by_cases hi:i<(s.length:Int)
 ·have hg:=lowN_at (c:=c) h0 hi;simp only[hi,decide_true,inb_ok h0 hi,Bool.cond_self,branch_true,W1 h0 hi h1]at hx
  cases hc:decide (byteAt s i<c)
  ·left;intro R;rw[hc]at hg;refine(hx R).trans ?_;rw[hc];simp only[res_l1Add,hg,cond_false];rw[show i+((0:Nat):Int)=i by omega];rfl
  ·right;rw[hc]at hg;refine⟨s,c,i+1, ?_, ?_, ?_,fun R=>(hx R).trans ?_⟩
   ·exact andd.2 ⟨dec_iff.2 (by omega),ble_iff.2 h1⟩
   ·simp only[mu_l1Add];omega
   ·simp only[res_l1Add,hg,cond_true];rw[show i+1+(lowN c (s.drop (i+1).toNat):Int)=i+((lowN c (s.drop (i+1).toNat)+1:Nat):Int)by omega]
   ·rw[hc];rfl
 ·left;intro R;refine(hx R).trans ?_;simp only[hi,decide_false,res_l1Add];rw[drop_eq_nil_of_le (by omega)];show _=K (.exit 0) ⟨[(0,vS s),(1, .d (ofD TU8 c)),(5,vI (i+((0:Nat):Int)))],[]⟩;rw[show i+((0:Nat):Int)=i by omega];rfl
def g_l1Add:St→Cont→Option Fin:=gP sh_l1Add (fun v=>match v with | ((s,c,i,()),())=>pre_l1Add s c i) (fun v K=>match v with | ((s,c,i,()),())=>res_l1Add s c i K)
def L_l1Add:LpL:=(2,g_l1Add)::[]
def cx_l1Add:Cx:=(cb_l1Add).withLoops (look L_l1Add)
theorem l_l1Add {L:LpL} (n:Nat) (h1:L.drop n=[]) (h2:idsFree (L.take n) (loopOf Tryz.f117 0)=true):LoopsTo g_l1Add (cb_l1Add) (loopOf Tryz.f117 0) 2 L :=
 with_drop h1 h2 (gP_ok (fun v=>match v with | ((s,c,i,()),())=>mu_l1Add s c i) fun v K hI=>by
  obtain⟨⟨s,c,i,⟨⟩⟩,⟨⟩⟩:=v;exact(r_l1Add s c i K hI).imp id fun⟨s',c',i',h⟩=>⟨((s',c',i',()),()),h⟩)
theorem y_spec_l1Add (s:Str) (c:Int):evFn cx_l1Add Tryz.f117 true [ofD .str s,ofD TU8 c] []=(
need (pre_l1Add s c 0) <|
need (bif decide (decide (0+(lowN c s:Int)<(s.length:Int))=true)then inb (0+(lowN c s:Int)) s.length else true) <|
branch (bif decide (0+(lowN c s:Int)<(s.length:Int))then decide (byteAt s (0+(lowN c s:Int))=c)else false) ( some ((vS s),[])) (
 need (inr 0 (0+(lowN c s:Int)) s.length) <|
 need (decide (((List.take ((0+(lowN c s:Int)).toNat-(0:Int).toNat) s).length+(byteL [c]).length)≤9223372036854775807)) <|
 need (inr (0+(lowN c s:Int)) ((s.length:Int)) s.length) <|
 need (decide ((((List.take ((0+(lowN c s:Int)).toNat-(0:Int).toNat) s).append (byteL [c])).length+(List.take (((s.length:Int)).toNat-(0+(lowN c s:Int)).toNat) (List.drop (0+(lowN c s:Int)).toNat s)).length)≤9223372036854775807)) <| some ((vS (((List.take ((0+(lowN c s:Int)).toNat-(0:Int).toNat) s).append (byteL [c])).append (List.take (((s.length:Int)).toNat-(0+(lowN c s:Int)).toNat) (List.drop (0+(lowN c s:Int)).toNat s)))),[]))):=by kernel_rfl
theorem s_spec_l1Add (s:Str) (hs:Fit .str s) (c:Int) (hc:Fit TU8 c) (hpre:(Nat.ble s.length 1000000)=true):Sat Tryz.prog 117 [ofD .str s,ofD TU8 c] [] (.d (ofD .str (addS (UInt8.ofNat c.toNat) s))) [] :=
 fn_sound (cx:=cx_l1Add) Tryz.func117 rfl ttOk Γ44ok mixed (fun c hc=>LoopsOk.all (l:=[(2,loopOf Tryz.f117 0)]) (by cases hc;kernel_rfl) ⟨atLoop rfl (l_l1Add 1 rfl (by kernel_rfl)),trivial⟩) (ro:=true) (by
  have hn:=lowN_le (c:=c) (s:=s);have hb:=ble_iff.1 hpre;have h:pre_l1Add s c 0=true:=andd.2 ⟨rfl,ble_iff.2 hs⟩;have ha:=add_low (c:=UInt8.ofNat c.toNat) s;have hq:=u8_nat hc;rw[hq]at ha;rw[y_spec_l1Add,h,ha];clear ha
  generalize lowN c s=n at hn
  have e0:(0+(n:Int))=(n:Int):=Int.zero_add _;rw[e0];have e1:((n:Int)).toNat=n:=Int.toNat_natCast n;have e2:List.take (((s.length:Int)).toNat-n) (List.drop n s)=List.drop n s:=List.take_of_length_le (by rw[length_drop];omega);have hl:(byteL [c]).length=1:=rfl;have k3:inr 0 (n:Int) s.length=true:=inr_iff.2 (by omega);have k4:decide ((List.take (((n:Int)).toNat-(0:Int).toNat) s).length+(byteL [c]).length≤9223372036854775807)=true:=dec_iff.2 (by rw[length_take,hl];omega);have k5:inr (n:Int) ((s.length:Int)) s.length=true:=inr_iff.2 (by omega);have k6:decide (((List.take (((n:Int)).toNat-(0:Int).toNat) s).append (byteL [c])).length+(List.take (((s.length:Int)).toNat-((n:Int)).toNat) (List.drop ((n:Int)).toNat s)).length≤9223372036854775807)=true:=dec_iff.2 (by
   rw[e1,e2,List.append_eq,length_append,length_take,length_drop,hl];omega)
  have e3:((List.take (n-(0:Int).toNat) s).append (byteL [c])).append (List.drop n s)=List.take n s++UInt8.ofNat c.toNat::List.drop n s:=by
   show(List.take n s++[UInt8.ofNat c.toNat])++List.drop n s=_;rw[append_assoc];rfl
  rw[k3,k4,k5,k6,e1,e2,e3]
  by_cases hi:n<s.length
  ·have hi':(n:Int)<(s.length:Int):=by omega
   have hx:decide (byteAt s (n:Int)=c)=Nat.beq (s.getD n 0).toNat (UInt8.ofNat c.toNat).toNat:=by
    show decide (((s.getD n 0).toNat:Int)=c)=_
    cases hb':Nat.beq (s.getD n 0).toNat (UInt8.ofNat c.toNat).toNat
    ·refine zF fun hh => ?_;rw[show (s.getD n 0).toNat=(UInt8.ofNat c.toNat).toNat by omega,Nat.beq_refl]at hb'
     cases hb'
    ·have:=zB hb';exact zT (by omega)
   rw[hx,zT hi',inb_ok (by omega) hi',show Nat.blt n s.length=true from ble_iff.2 hi]
   cases Nat.beq (s.getD n 0).toNat (UInt8.ofNat c.toNat).toNat<;>rfl
  ·have hi':¬(n:Int)<(s.length:Int):=by omega
   have hb2:Nat.blt n s.length=false:=by
    cases hb':Nat.blt n s.length
    ·rfl
    ·exact absurd (ble_iff.1 hb') hi
   rw[zF hi',hb2];rfl)
def c_spec_l1Add:Con:=conT [.str,TU8] fun(s:Str) (c:Int)=>(some (Nat.ble s.length 1000000), .d (ofD .str (addS (UInt8.ofNat c.toNat) s)))
theorem k_spec_l1Add:ConOk Tryz.prog 117 c_spec_l1Add:=conT_ok Tryz.call117 fun s hs c hc hqq=>s_spec_l1Add s hs c hc (pre_of hqq)
def Γ45:GL:=(117,c_spec_l1Add)::Γ44
theorem Γ45ok:GO Γ45 := .cons k_spec_l1Add Γ44ok
def smallsG (g:Gram):Str:=setS small (signsG g)
theorem setS_congr {p q:UInt8→Bool} {s:Str} (h:∀c∈s,p c=q c):setS p s=setS q s:=setS_eq setS_asc fun y=>by
 rw[setS_mem];exact⟨fun ⟨h1,h2⟩=>⟨h1,(h y h1) ▸ h2⟩,fun ⟨h1,h2⟩=>⟨h1,(h y h1).symm ▸ h2⟩⟩
theorem smalls_eq {g:Gram} (h:okG g=true):setS (fun c=>bigc c==false) (signsG g)=smallsG g:=setS_congr fun c hc=>by
 have h1:=signs_all h c hc;have h2:=big_small c;unfold sign at h1
 cases hb:bigc c<;>rw[hb]at h1 h2
 ·exact h1.symm
 ·cases hs:small c
  ·rfl
  ·exact absurd ⟨rfl,hs⟩ h2
def cb_everySign:Cx:=cxOf Γ45 Tryz.f103.ntmps [(3,[3,9,10,11])] [(0,[3]),(1,[3,9,10,11]),(1000000,[2])] [] []
abbrev st_everySign (s:Str) (l:List Rule) (n i:Int):St:=⟨[(3,vS s),(9, .d (ofD TRL l)),(10,vI n),(11,vI i)],[]⟩
theorem x_impl_everySign (s:Str) (l:List Rule) (n i:Int) (R:St→Option Fin) (K:Cont):evC (cb_everySign.withLoops (look [])) (loopOf Tryz.f103 0) (st_everySign s l n i) (onward (headAt (cb_everySign.withLoops (look [])) 3) R K)=(
branch (decide (i<n)) (
 need (inb i l.length) <|
 need (decide ((length (l.getD i.toNat d0).fst+length (l.getD i.toNat d0).snd)≤9223372036854775807)) <|
 need (decide ((length s+(List.append (l.getD i.toNat d0).fst (l.getD i.toNat d0).snd).length)≤9223372036854775807)) <| R (st_everySign (List.append s (List.append (l.getD i.toNat d0).fst (l.getD i.toNat d0).snd)) l n (W64 (i+1)))) ( K (.exit 0) (.mk [(3,vS s)] []))):=by kernel_rfl
def cx0_everySign:Cx:=(cb_everySign).withLoops (look [])
def sh_everySign:Sh:=([(3, .d .str),(9, .d TRL),(10, .d TI64),(11, .d TI64)],[])
def pre_everySign (s:Str) (l:List Rule) (n i:Int):Bool:=decide (0≤i)&&(decide (n=(length l:Int))&&(Nat.ble (length l) big&&Nat.ble (s.length+(sgsOf (l.drop i.toNat)).length) 1000000))
def res_everySign (s:Str) (l:List Rule) (_n i:Int) (K:Cont):Option Fin:=K (.exit 0) ⟨[(3,vS (s++sgsOf (l.drop i.toNat)))],[]⟩
def mu_everySign (_s:Str) (l:List Rule) (_n i:Int):Nat:=length l-i.toNat
theorem r_everySign (s:Str) (l:List Rule) (n i:Int) (K:Cont) (hI:pre_everySign s l n i=true):(∀R:St→Option Fin,evC cx0_everySign (loopOf Tryz.f103 0) (st_everySign s l n i) (onward (headAt cx0_everySign 3) R K)=res_everySign s l n i K) ∨
  (∃(s':Str) (l':List Rule) (n' i':Int),pre_everySign s' l' n' i'=true∧mu_everySign s' l' n' i'<mu_everySign s l n i∧res_everySign s' l' n' i' K=res_everySign s l n i K∧∀R:St→Option Fin,evC cx0_everySign (loopOf Tryz.f103 0) (st_everySign s l n i) (onward (headAt cx0_everySign 3) R K)=R (st_everySign s' l' n' i')):=by
 have hx:=fun R=>x_impl_everySign s l n i R K;simp only[pre_everySign,andd,dec_iff,ble_iff]at hI;obtain⟨h0,rfl,h1,h2⟩:=hI
 by_cases hi:i<(l.length:Int)
 ·have hg:=sgs_at h0 hi;rw[hg,length_append,length_append]at h2;have k1:decide ((l.getD i.toNat d0).1.length+(l.getD i.toNat d0).2.length≤9223372036854775807)=true:=dec_iff.2 (by omega);have k2:decide (s.length+((l.getD i.toNat d0).1++(l.getD i.toNat d0).2).length≤9223372036854775807)=true:=dec_iff.2 (by rw[length_append];omega);simp only[hi,decide_true,inb_ok h0 hi,branch_true,W1 h0 hi h1]at hx;right;refine⟨s++((l.getD i.toNat d0).1++(l.getD i.toNat d0).2),l,(l.length:Int),i+1, ?_, ?_, ?_,fun R=>(hx R).trans ?_⟩
  ·simp only[pre_everySign,andd,dec_iff,ble_iff,length_append];exact⟨by omega,trivial,h1,by omega⟩
  ·simp only[mu_everySign];omega
  ·simp only[res_everySign,hg];simp only[append_assoc]
  ·exact (congrArg (need · _) k1).trans (congrArg (need · _) k2)
 ·left;intro R;refine(hx R).trans ?_;simp only[hi,decide_false,branch_false,res_everySign,sgs_end (show (l.length:Int)≤i by omega)];rw[List.append_nil]
def g_everySign:St→Cont→Option Fin:=gP sh_everySign (fun v=>match v with | ((s,l,n,i,()),())=>pre_everySign s l n i) (fun v K=>match v with | ((s,l,n,i,()),())=>res_everySign s l n i K)
def L_everySign:LpL:=(3,g_everySign)::[]
def cx_everySign:Cx:=(cb_everySign).withLoops (look L_everySign)
theorem l_everySign {L:LpL} (n:Nat) (h1:L.drop n=[]) (h2:idsFree (L.take n) (loopOf Tryz.f103 0)=true):LoopsTo g_everySign (cb_everySign) (loopOf Tryz.f103 0) 3 L :=
 with_drop h1 h2 (gP_ok (fun v=>match v with | ((s,l,n,i,()),())=>mu_everySign s l n i) fun v K hI=>by
  obtain⟨⟨s,l,n,i,⟨⟩⟩,⟨⟩⟩:=v;exact(r_everySign s l n i K hI).imp id fun⟨s',l',n',i',h⟩=>⟨((s',l',n',i',()),()),h⟩)
theorem y_impl_everySign (g:Gram):evFn cx_everySign Tryz.f103 true [ofD TG g] []=(
need (pre_everySign g.fst g.snd ((length g.snd:Int)) 0) <| some ((vS (List.append g.fst (sgsOf g.snd))),[])):=by kernel_rfl
theorem s_impl_everySign (g:Gram) (hg:Fit TG g) (hpre:(Nat.ble (length (signsG g)) 1000000)=true):Sat Tryz.prog 103 [ofD TG g] [] (.d (ofD .str (signsG g))) [] :=
 fn_sound (cx:=cx_everySign) Tryz.func103 rfl ttOk Γ45ok mixed (fun c hc=>LoopsOk.all (l:=[(3,loopOf Tryz.f103 0)]) (by cases hc;kernel_rfl) ⟨atLoop rfl (l_everySign 1 rfl (by kernel_rfl)),trivial⟩) (ro:=true) (by
  have h:pre_everySign g.1 g.2 (length g.2:Int) 0=true:=by
   simp only[pre_everySign,andd,dec_iff,ble_iff];refine⟨by omega,trivial,hg.2.1, ?_⟩;have:=ble_iff.1 hpre;unfold signsG at this;rw[length_append]at this;exact this
  rw[y_impl_everySign,h];rfl)
def c_impl_everySign:Con:=conT [TG] fun(g:Gram)=>(some (Nat.ble (length (signsG g)) 1000000), .d (ofD .str (signsG g)))
theorem k_impl_everySign:ConOk Tryz.prog 103 c_impl_everySign:=conT_ok Tryz.call103 fun g hg hqq=>s_impl_everySign g hg (pre_of hqq)
def Γ46:GL:=(103,c_impl_everySign)::Γ45
theorem Γ46ok:GO Γ46 := .cons k_impl_everySign Γ45ok
theorem y_impl_setOf (s:Str) (f:FuncId):evFn (cxOf Γ46 Tryz.f102.ntmps [] [] [] []) Tryz.f102 true [ofD .str s, .one (.fn f [])] []=(
need ((intL s).length.blt 50) <|
need ((sortL (intL s)).length.ble 1000000) <|
need ((cptV (sortL (intL s))).length.ble 1000000&&(holdF f).isSome) <| some ((vS (byteL (delV f (cptV (sortL (intL s)))))),[])):=by kernel_rfl
theorem s_impl_setOf (s:Str) (f:FuncId) (h:(Nat.blt (length s) 50&&(holdF f).isSome)=true):Sat Tryz.prog 102 [ofD .str s, .one (.fn f [])] [] (.d (ofD .str (setS (pB f) s))) [] :=
 fn_sound (cx:=cxOf Γ46 Tryz.f102.ntmps [] [] [] []) Tryz.func102 rfl ttOk Γ46ok mixed (fun _ _=>LoopsOk.no fun _=>rfl) (ro:=true) (by
  obtain⟨h1,h2⟩:=andd.1 h;have hl:length s<50:=ble_iff.1 h1;have hi:(intL s).length=length s:=by unfold intL;rw[List.length_map]
  have k1:(intL s).length.blt 50=true:=by rw[hi];exact h1
  have k2:(sortL (intL s)).length.ble 1000000=true:=by rw[sortL_len,hi,ble_iff];omega
  have k3:((cptV (sortL (intL s))).length.ble 1000000&&(holdF f).isSome)=true:=andd.2 ⟨ble_iff.2 (by have:=cpt_len s;omega),h2⟩;rw[y_impl_setOf,k1,k2,k3,← setV_eq h2 hl];rfl)
def c_impl_setOf:Con:=⟨false,fun ds os=>match ds,os with
 | [.one (.r (.v (.string s))), .one (.fn f [])],[]=>some (some (Nat.blt (length s.data.toList) 50&&(holdF f).isSome), .d (ofD .str (setS (pB f) s.data.toList)),[])
 |_,_=>none⟩
theorem k_impl_setOf:ConOk Tryz.prog 102 c_impl_setOf:=by
 refine⟨Tryz.call102,fun ds os c x objs hc hok => ?_⟩;unfold c_impl_setOf at hc;dsimp only at hc
 split at hc
 ·rename_i s f
  cases hc
  exact s_impl_setOf s.data.toList f (pre_of hok)
 ·cases hc
def Γ47:GL:=(102,c_impl_setOf)::Γ46
theorem Γ47ok:GO Γ47 := .cons k_impl_setOf Γ46ok
theorem y_impl_GramSmalls (g:Gram):evFn (cxOf Γ47 Tryz.f52.ntmps [] [] [] []) Tryz.f52 true [ofD TG g] []=(
branch (!okG g) ( some ((vS []),[])) (
 need ((length (signsG g)).ble 1000000) <|
 need ((length (signsG g)).blt 50&&(holdF 55).isSome) <| some ((vS (setS (pB 55) (signsG g))),[]))):=by kernel_rfl
theorem s_impl_GramSmalls (g:Gram) (_hg:Fit TG g):Sat Tryz.prog 52 [ofD TG g] [] (.d (ofD .str (bif okG g then smallsG g else []))) [] :=
 fn_sound (cx:=cxOf Γ47 Tryz.f52.ntmps [] [] [] []) Tryz.func52 rfl ttOk Γ47ok mixed (fun _ _=>LoopsOk.no fun _=>rfl) (ro:=true) (by
  rw[y_impl_GramSmalls]
  cases h:okG g
  ·rfl
  ·have hl:=signs_len h;have k1:(length (signsG g)).ble 1000000=true:=ble_iff.2 (by omega);have k2:((length (signsG g)).blt 50&&(holdF 55).isSome)=true:=andd.2 ⟨ble_iff.2 (by omega),rfl⟩;rw[k1,k2];rfl)
def c_impl_GramSmalls:Con:=conT [TG] fun(g:Gram)=>(none, .d (ofD .str (bif okG g then smallsG g else [])))
theorem k_impl_GramSmalls:ConOk Tryz.prog 52 c_impl_GramSmalls:=conT_ok Tryz.call52 fun g hg _=>s_impl_GramSmalls g hg
def Γ48:GL:=(52,c_impl_GramSmalls)::Γ47
theorem Γ48ok:GO Γ48 := .cons k_impl_GramSmalls Γ47ok
def cb_l1Signs:Cx:=cxOf Γ48 Tryz.f74.ntmps [(8,[1,5,6,8]),(4,[1,2,5,6,7])] [(2,[5]),(3,[1,5,6,8]),(0,[1,5,6]),(1,[1,2,5,6,7]),(1000000,[4])] [] []
abbrev st_l1SigB (b:Bool) (o a:Str) (i:Int):St:=⟨[(1,vB b),(5,vS o),(6,vS a),(8,vI i)],[]⟩
theorem x_spec_l1Signs_1 (b:Bool) (o a:Str) (i:Int) (R:St→Option Fin) (K:Cont):evC (cb_l1Signs.withLoops (look [])) (loopOf Tryz.f74 1) (st_l1SigB b o a i) (onward (headAt (cb_l1Signs.withLoops (look [])) 8) R K)=(
branch (decide (i<(a.length:Int))) (
 need (inb i a.length) <|
 branch (decide (bigI (byteAt a i)=b)) (
 need (inb i a.length) <|
 need (o.length.ble 1000000) <| R (st_l1SigB b (addS (UInt8.ofNat (byteAt a i).toNat) o) a (W64 (i+1)))) ( R (st_l1SigB b o a (W64 (i+1))))) ( K (.exit 2) (.mk [(5,vS o)] []))):=by kernel_rfl
def bigIs (b:Bool) (c:UInt8):Bool:=bigc c==b
theorem put_at {p:UInt8→Bool} {o a:Str} {i:Int} (h0:0≤i) (h1:i<(a.length:Int)):putS p o (a.drop i.toNat)=putS p (bif p (a.getD i.toNat 0)then addS (a.getD i.toNat 0) o else o) (a.drop (i+1).toNat):=by
 have hn:i.toNat<a.length:=by omega
 rw[drop_eq_getElem_cons hn,show (i+1).toNat=i.toNat+1 by omega,zG,zE hn];rfl
def cx0_l1SigB:Cx:=(cb_l1Signs).withLoops (look [])
def sh_l1SigB:Sh:=([(1, .d .bool),(5, .d .str),(6, .d .str),(8, .d TI64)],[])
def pre_l1SigB (_b:Bool) (o a:Str) (i:Int):Bool:=decide (0≤i)&&(Nat.ble (length a) 1000000&&decide ((length o:Int)≤i))
def res_l1SigB (b:Bool) (o a:Str) (i:Int) (K:Cont):Option Fin:=K (.exit 2) ⟨[(5,vS (putS (bigIs b) o (a.drop i.toNat)))],[]⟩
def mu_l1SigB (_b:Bool) (_o a:Str) (i:Int):Nat:=length a-i.toNat
theorem r_l1SigB (b:Bool) (o a:Str) (i:Int) (K:Cont) (hI:pre_l1SigB b o a i=true):(∀R:St→Option Fin,evC cx0_l1SigB (loopOf Tryz.f74 1) (st_l1SigB b o a i) (onward (headAt cx0_l1SigB 8) R K)=res_l1SigB b o a i K) ∨
  (∃(b':Bool) (o' a':Str) (i':Int),pre_l1SigB b' o' a' i'=true∧mu_l1SigB b' o' a' i'<mu_l1SigB b o a i∧res_l1SigB b' o' a' i' K=res_l1SigB b o a i K∧∀R:St→Option Fin,evC cx0_l1SigB (loopOf Tryz.f74 1) (st_l1SigB b o a i) (onward (headAt cx0_l1SigB 8) R K)=R (st_l1SigB b' o' a' i')):=by
 have hx:=fun R=>x_spec_l1Signs_1 b o a i R K;simp only[pre_l1SigB,andd,dec_iff,ble_iff]at hI;obtain⟨h0,h1,h2⟩:=hI
 by_cases hi:i<(a.length:Int)
 ·have hg:=put_at (p:=bigIs b) (o:=o) h0 hi;have hby:byteAt a i=((a.getD i.toNat 0).toNat:Int):=rfl;have hu:UInt8.ofNat (byteAt a i).toNat=a.getD i.toNat 0:=by rw[hby];exact byteL_nat _
  have hc0:decide (bigI (byteAt a i)=b)=bigIs b (a.getD i.toNat 0):=by
   rw[hby,bigI_nat];unfold bigIs
   cases bigc (a.getD i.toNat 0)<;>cases b<;>rfl
  have hol:o.length.ble 1000000=true:=ble_iff.2 (by omega);simp only[hi,decide_true,inb_ok h0 hi,branch_true,W1 h0 hi (show a.length≤big by unfold big;omega),hc0,hu,hol]at hx;right
  cases hc:bigIs b (a.getD i.toNat 0)
  ·rw[hc]at hg;refine⟨b,o,a,i+1, ?_, ?_, ?_,fun R=>(hx R).trans ?_⟩
   ·simp only[pre_l1SigB,andd,dec_iff,ble_iff];exact ⟨by omega,h1,by omega⟩
   ·simp only[mu_l1SigB];omega
   ·simp only[res_l1SigB,hg];rfl
   ·rw[hc];rfl
  ·rw[hc]at hg;refine⟨b,addS (a.getD i.toNat 0) o,a,i+1, ?_, ?_, ?_,fun R=>(hx R).trans ?_⟩
   ·simp only[pre_l1SigB,andd,dec_iff,ble_iff];have:=addS_len (c:=a.getD i.toNat 0) (s:=o);exact⟨by omega,h1,by omega⟩
   ·simp only[mu_l1SigB];omega
   ·simp only[res_l1SigB,hg];rfl
   ·rw[hc];rfl
 ·left;intro R;refine(hx R).trans ?_;simp only[hi,decide_false,branch_false,res_l1SigB];rw[drop_eq_nil_of_le (by omega)];rfl
def g_l1SigB:St→Cont→Option Fin:=gP sh_l1SigB (fun v=>match v with | ((b,o,a,i,()),())=>pre_l1SigB b o a i) (fun v K=>match v with | ((b,o,a,i,()),())=>res_l1SigB b o a i K)
def L_l1SigB:LpL:=(8,g_l1SigB)::[]
theorem l_l1SigB {L:LpL} (n:Nat) (h1:L.drop n=[]) (h2:idsFree (L.take n) (loopOf Tryz.f74 1)=true):LoopsTo g_l1SigB (cb_l1Signs) (loopOf Tryz.f74 1) 8 L :=
 with_drop h1 h2 (gP_ok (fun v=>match v with | ((b,o,a,i,()),())=>mu_l1SigB b o a i) fun v K hI=>by
  obtain⟨⟨b,o,a,i,⟨⟩⟩,⟨⟩⟩:=v;exact(r_l1SigB b o a i K hI).imp id fun⟨b',o',a',i',h⟩=>⟨((b',o',a',i',()),()),h⟩)
abbrev st_l1SigA (b:Bool) (o a:Str) (i:Int) (g:Gram):St:=⟨[(1,vB b),(2, kp0),(5,vS o),(6,vS a),(7,vI i)],[(500000,some (boxD 25 TG g))]⟩
theorem x_spec_l1Signs (g:Gram) (b:Bool) (o a:Str) (i:Int) (R:St→Option Fin) (K:Cont):evC (cb_l1Signs.withLoops (look L_l1SigB)) (loopOf Tryz.f74 0) (st_l1SigA b o a i g) (onward (headAt (cb_l1Signs.withLoops (look L_l1SigB)) 4) R K)=(
branch (decide (i<(length g.snd:Int))) (
 need (inb i (length g.snd)) <|
 need (decide ((length a+length (getD g.snd i.toNat d0).fst)≤9223372036854775807)) <|
 need (inb i (length g.snd)) <|
 need (decide (((List.append a (getD g.snd i.toNat d0).fst).length+length (getD g.snd i.toNat d0).snd)≤9223372036854775807)) <| R (st_l1SigA b o ((List.append a (getD g.snd i.toNat d0).fst).append (getD g.snd i.toNat d0).snd) (W64 (i+1)) g)) ( K (.exit 0) (.mk [(1,vB b),(5,vS o),(6,vS a)] []))):=by kernel_rfl
def cx0_l1SigA:Cx:=(cb_l1Signs).withLoops (look L_l1SigB)
def sh_l1SigA:Sh:=([(1, .d .bool),(2, .ptr 500000 0),(5, .d .str),(6, .d .str),(7, .d TI64)],[(500000, .box 25 TG)])
def pre_l1SigA (_b:Bool) (_o a:Str) (i:Int) (g:Gram):Bool:=decide (0≤i)&&(Nat.ble (length g.2) big&&Nat.ble (length a+(sgsOf (g.2.drop i.toNat)).length) 1000000)
def res_l1SigA (b:Bool) (o a:Str) (i:Int) (g:Gram) (K:Cont):Option Fin:=K (.exit 0) ⟨[(1,vB b),(5,vS o),(6,vS (a++sgsOf (g.2.drop i.toNat)))],[]⟩
def mu_l1SigA (_b:Bool) (_o _a:Str) (i:Int) (g:Gram):Nat:=length g.2-i.toNat
theorem r_l1SigA (b:Bool) (o a:Str) (i:Int) (g:Gram) (K:Cont) (hI:pre_l1SigA b o a i g=true):(∀R:St→Option Fin,evC cx0_l1SigA (loopOf Tryz.f74 0) (st_l1SigA b o a i g) (onward (headAt cx0_l1SigA 4) R K)=res_l1SigA b o a i g K) ∨
  (∃(b':Bool) (o' a':Str) (i':Int) (g':Gram),pre_l1SigA b' o' a' i' g'=true∧mu_l1SigA b' o' a' i' g'<mu_l1SigA b o a i g∧res_l1SigA b' o' a' i' g' K=res_l1SigA b o a i g K∧∀R:St→Option Fin,evC cx0_l1SigA (loopOf Tryz.f74 0) (st_l1SigA b o a i g) (onward (headAt cx0_l1SigA 4) R K)=R (st_l1SigA b' o' a' i' g')):=by
 have hx:=fun R=>x_spec_l1Signs g b o a i R K;simp only[pre_l1SigA,andd,dec_iff,ble_iff]at hI;obtain⟨h0,h1,h2⟩:=hI
 by_cases hi:i<(length g.2:Int)
 ·have hg:=sgs_at h0 hi;rw[hg,length_append,length_append]at h2;have k1:decide (length a+length (getD g.2 i.toNat d0).1≤9223372036854775807)=true:=dec_iff.2 (by omega);have k2:decide ((List.append a (getD g.2 i.toNat d0).1).length+length (getD g.2 i.toNat d0).2≤9223372036854775807)=true:=dec_iff.2 (by rw[List.append_eq,length_append];omega);simp only[hi,decide_true,inb_ok h0 hi,branch_true,W1 h0 hi h1]at hx;right;refine⟨b,o,a++(g.2.getD i.toNat d0).1++(g.2.getD i.toNat d0).2,i+1,g, ?_, ?_, ?_,fun R=>(hx R).trans ?_⟩
  ·simp only[pre_l1SigA,andd,dec_iff,ble_iff,length_append];exact⟨by omega,h1,by omega⟩
  ·simp only[mu_l1SigA];omega
  ·simp only[res_l1SigA,hg,append_assoc]
  ·exact (congrArg (need · _) k1).trans (congrArg (need · _) k2)
 ·left;intro R;refine(hx R).trans ?_;simp only[hi,decide_false,branch_false,res_l1SigA,sgs_end (show (length g.2:Int)≤i by omega)];rw[List.append_nil]
def g_l1SigA:St→Cont→Option Fin:=gP sh_l1SigA (fun v=>match v with | ((b,o,a,i,()),(g,()))=>pre_l1SigA b o a i g) (fun v K=>match v with | ((b,o,a,i,()),(g,()))=>res_l1SigA b o a i g K)
def L_l1SigA:LpL:=(4,g_l1SigA)::L_l1SigB
def cx_l1SigA:Cx:=(cb_l1Signs).withLoops (look L_l1SigA)
theorem l_l1SigA {L:LpL} (n:Nat) (h1:L.drop n=L_l1SigB) (h2:idsFree (L.take n) (loopOf Tryz.f74 0)=true):LoopsTo g_l1SigA (cb_l1Signs) (loopOf Tryz.f74 0) 4 L :=
 with_drop h1 h2 (gP_ok (fun v=>match v with | ((b,o,a,i,()),(g,()))=>mu_l1SigA b o a i g) fun v K hI=>by
  obtain⟨⟨b,o,a,i,⟨⟩⟩,⟨g,⟨⟩⟩⟩:=v;exact(r_l1SigA b o a i g K hI).imp id fun⟨b',o',a',i',g',h⟩=>⟨((b',o',a',i',()),(g',())),h⟩)
theorem y_spec_l1Signs (g:Gram) (b:Bool):evFn cx_l1SigA Tryz.f74 true [ofD TG g,ofD .bool b] []=(
need (pre_l1SigA b ([]:Str) g.fst 0 g) <|
need (pre_l1SigB b ([]:Str) (List.append g.fst (sgsOf g.snd)) 0) <| some ((vS (putS (bigIs b) ([]:Str) (id (List.append g.fst (sgsOf g.snd))))),[])):=by kernel_rfl
theorem s_spec_l1Signs (g:Gram) (hg:Fit TG g) (b:Bool) (_hb:Fit .bool b) (hpre:(okG g)=true):Sat Tryz.prog 74 [ofD TG g,ofD .bool b] [] (.d (ofD .str (setS (bigIs b) (signsG g)))) [] :=
 fn_sound (cx:=cx_l1SigA) Tryz.func74 rfl ttOk Γ48ok mixed (fun c hc=>LoopsOk.all (l:=[(4,loopOf Tryz.f74 0),(8,loopOf Tryz.f74 1)]) (by cases hc;kernel_rfl) ⟨atLoop rfl (l_l1SigA 1 rfl (by kernel_rfl)),atLoop rfl (l_l1SigB 2 rfl (by kernel_rfl)),trivial⟩) (ro:=true) (by
  have hl:=signs_len hpre;have e:(signsG g).length=length g.1+(sgsOf g.2).length:=by unfold signsG;rw[length_append]
  have h1:pre_l1SigA b ([]:Str) g.1 0 g=true:=andd.2 ⟨rfl,andd.2 ⟨ble_iff.2 hg.2.1,ble_iff.2 (show length g.1+(sgsOf g.2).length≤1000000 by omega)⟩⟩;have h2:pre_l1SigB b ([]:Str) (List.append g.1 (sgsOf g.2)) 0=true:=andd.2 ⟨rfl,andd.2 ⟨ble_iff.2 (show (signsG g).length≤1000000 by omega),rfl⟩⟩;rw[y_spec_l1Signs,h1,h2];rfl)
def c_spec_l1Signs:Con:=conT [TG, .bool] fun(g:Gram) (b:Bool)=>(some (okG g), .d (ofD .str (setS (bigIs b) (signsG g))))
theorem k_spec_l1Signs:ConOk Tryz.prog 74 c_spec_l1Signs:=conT_ok Tryz.call74 fun g hg b hb hqq=>s_spec_l1Signs g hg b hb (pre_of hqq)
def Γ49:GL:=(74,c_spec_l1Signs)::Γ48
theorem Γ49ok:GO Γ49 := .cons k_spec_l1Signs Γ48ok
theorem y_impl_TextOk (s:Str):evFn (cxOf Γ49 Tryz.f94.ntmps [] [] [] []) Tryz.f94 true [ofD .str s] []=(
some ((vB (areSm s 8)),[])):=by kernel_rfl
theorem s_impl_TextOk (s:Str) (_hs:Fit .str s):Sat Tryz.prog 94 [ofD .str s] [] (.d (ofD .bool (areSm s 8))) [] :=
 fn_sound (cx:=cxOf Γ49 Tryz.f94.ntmps [] [] [] []) Tryz.func94 rfl ttOk Γ49ok mixed (fun _ _=>LoopsOk.no fun _=>rfl) (ro:=true) (by
  rw[y_impl_TextOk];rfl)
def c_impl_TextOk:Con:=conT [.str] fun(s:Str)=>(none, .d (ofD .bool (areSm s 8)))
theorem k_impl_TextOk:ConOk Tryz.prog 94 c_impl_TextOk:=conT_ok Tryz.call94 fun s hs _=>s_impl_TextOk s hs
def Γ50:GL:=(94,c_impl_TextOk)::Γ49
theorem Γ50ok:GO Γ50 := .cons k_impl_TextOk Γ49ok
def cb_sTextOk:Cx:=cxOf Γ50 Tryz.f97.ntmps [(2,[0,3])] [(0,[0]),(1,[0,3]),(1000000,[2])] [] []
abbrev st_sTextOk (s:Str) (i:Int):St:=⟨[(0,vS s),(3,vI i)],[]⟩
theorem x_spec_TextOk (s:Str) (i:Int) (R:St→Option Fin) (K:Cont):evC (cb_sTextOk.withLoops (look [])) (loopOf Tryz.f97 0) (st_sTextOk s i) (onward (headAt (cb_sTextOk.withLoops (look [])) 2) R K)=(
branch (decide (i<(s.length:Int))) (
 need (inb i s.length) <|
 branch (!smallI (byteAt s i)) ( K (.ret) (.mk [(2,vB false)] [])) ( R (st_sTextOk s (W64 (i+1))))) ( K (.exit 0) (.mk [(0,vS s)] []))):=by kernel_rfl
def cx0_sTextOk:Cx:=(cb_sTextOk).withLoops (look [])
def sh_sTextOk:Sh:=([(0, .d .str),(3, .d TI64)],[])
def pre_sTextOk (s:Str) (i:Int):Bool:=decide (0≤i)&&Nat.ble (length s) big
def res_sTextOk (s:Str) (i:Int) (K:Cont):Option Fin:=branch ((s.drop i.toNat).all small) (K (.exit 0) ⟨[(0,vS s)],[]⟩) (K .ret ⟨[(2,vB false)],[]⟩)
def mu_sTextOk (s:Str) (i:Int):Nat:=length s-i.toNat
theorem r_sTextOk (s:Str) (i:Int) (K:Cont) (hI:pre_sTextOk s i=true):(∀R:St→Option Fin,evC cx0_sTextOk (loopOf Tryz.f97 0) (st_sTextOk s i) (onward (headAt cx0_sTextOk 2) R K)=res_sTextOk s i K) ∨
  (∃(s':Str) (i':Int),pre_sTextOk s' i'=true∧mu_sTextOk s' i'<mu_sTextOk s i∧res_sTextOk s' i' K=res_sTextOk s i K∧∀R:St→Option Fin,evC cx0_sTextOk (loopOf Tryz.f97 0) (st_sTextOk s i) (onward (headAt cx0_sTextOk 2) R K)=R (st_sTextOk s' i')):=by
 have hx:=fun R=>x_spec_TextOk s i R K;simp only[pre_sTextOk,andd,dec_iff,ble_iff]at hI;obtain⟨h0,h1⟩:=hI
 by_cases hi:i<(length s:Int)
 ·have hg:=smalls_at (p:=small) h0 hi;have hc0:smallI (byteAt s i)=small (s.getD i.toNat 0):=smallI_nat _;simp only[hi,decide_true,inb_ok h0 hi,branch_true,W1 h0 hi h1,hc0]at hx
  cases hc:small (s.getD i.toNat 0)
  ·left;intro R;rw[hc]at hg;refine(hx R).trans ?_;rw[hc];simp only[res_sTextOk,hg];rfl
  ·right;rw[hc]at hg;refine⟨s,i+1, ?_, ?_, ?_,fun R=>(hx R).trans ?_⟩
   ·simp only[pre_sTextOk,andd,dec_iff,ble_iff];exact ⟨by omega,h1⟩
   ·simp only[mu_sTextOk];omega
   ·simp only[res_sTextOk,hg];rfl
   ·rw[hc];rfl
 ·left;intro R;refine(hx R).trans ?_;simp only[hi,decide_false,branch_false,res_sTextOk];rw[drop_end (by omega)];rfl
def g_sTextOk:St→Cont→Option Fin:=gP sh_sTextOk (fun v=>match v with | ((s,i,()),())=>pre_sTextOk s i) (fun v K=>match v with | ((s,i,()),())=>res_sTextOk s i K)
def L_sTextOk:LpL:=(2,g_sTextOk)::[]
def cx_sTextOk:Cx:=(cb_sTextOk).withLoops (look L_sTextOk)
theorem l_sTextOk {L:LpL} (n:Nat) (h1:L.drop n=[]) (h2:idsFree (L.take n) (loopOf Tryz.f97 0)=true):LoopsTo g_sTextOk (cb_sTextOk) (loopOf Tryz.f97 0) 2 L :=
 with_drop h1 h2 (gP_ok (fun v=>match v with | ((s,i,()),())=>mu_sTextOk s i) fun v K hI=>by
  obtain⟨⟨s,i,⟨⟩⟩,⟨⟩⟩:=v;exact(r_sTextOk s i K hI).imp id fun⟨s',i',h⟩=>⟨((s',i',()),()),h⟩)
theorem y_spec_TextOk (s:Str):evFn cx_sTextOk Tryz.f97 true [ofD .str s] []=(
need (pre_sTextOk s 0) <|
branch (s.all small) ( some ((vB (decide ((s.length:Int)≤8))),[])) ( some ((vB false),[]))):=by kernel_rfl
theorem s_spec_TextOk (s:Str) (hs:Fit .str s):Sat Tryz.prog 97 [ofD .str s] [] (.d (ofD .bool (areSm s 8))) [] :=
 fn_sound (cx:=cx_sTextOk) Tryz.func97 rfl ttOk Γ50ok mixed (fun c hc=>LoopsOk.all (l:=[(2,loopOf Tryz.f97 0)]) (by cases hc;kernel_rfl) ⟨atLoop rfl (l_sTextOk 1 rfl (by kernel_rfl)),trivial⟩) (ro:=true) (by
  have h:pre_sTextOk s 0=true:=andd.2 ⟨rfl,ble_iff.2 hs⟩;rw[y_spec_TextOk,h];unfold areSm;show branch (s.all small) _ _=_
  cases s.all small<;>cases decide ((length s:Int)≤8)<;>rfl)
def c_spec_TextOk:Con:=conT [.str] fun(s:Str)=>(none, .d (ofD .bool (areSm s 8)))
theorem k_spec_TextOk:ConOk Tryz.prog 97 c_spec_TextOk:=conT_ok Tryz.call97 fun s hs _=>s_spec_TextOk s hs
def Γ51:GL:=(97,c_spec_TextOk)::Γ50
theorem Γ51ok:GO Γ51 := .cons k_spec_TextOk Γ50ok
def both2 (g:Gram) (s:Str):Bool:=bif okG g then areSm s 8 else false
theorem s_impl_areBoth (g:Gram) (_hg:Fit TG g) (s:Str) (_hs:Fit .str s):Sat Tryz.prog 45 [ofD TG g,ofD .str s] [] (.d (ofD .bool (both2 g s))) [] :=
 fn_sound (cx:=cxOf Γ51 Tryz.f45.ntmps [] [] [] []) Tryz.func45 rfl ttOk Γ51ok mixed (fun _ _=>LoopsOk.no fun _=>rfl) (ro:=true) (by
  have y:evFn (cxOf Γ51 Tryz.f45.ntmps [] [] [] []) Tryz.f45 true [ofD TG g,ofD .str s] []=some (vB (both2 g s),[]):=by kernel_rfl
  rw[y];rfl)
def c_impl_areBoth:Con:=conT [TG, .str] fun(g:Gram) (s:Str)=>(none, .d (ofD .bool (both2 g s)))
theorem k_impl_areBoth:ConOk Tryz.prog 45 c_impl_areBoth:=conT_ok Tryz.call45 fun g hg s hs _=>s_impl_areBoth g hg s hs
def Γ52:GL:=(45,c_impl_areBoth)::Γ51
theorem Γ52ok:GO Γ52 := .cons k_impl_areBoth Γ51ok
theorem blt_iff {a b:Nat}:Nat.blt a b=true↔a<b:=by simp
def cntB {α:Type} (f:α→Bool):List α→Nat
 | []=>0
 |a::l=>cntB f l+(bif f a then 1 else 0)
theorem cnt_le {α:Type} {f g:α→Bool}:∀ {l:List α},(∀a∈l,f a=true→g a=true)→cntB f l≤cntB g l
 | [],_=>Nat.le_refl _
 |a::l,h=>by
  have h1:=cnt_le (l:=l) fun b hb=>h b (mem_cons_of_mem _ hb);have h2:=h a mem_cons_self;unfold cntB
  cases hf:f a
  ·rw[cond_false];omega
  ·rw[h2 hf];omega
theorem cnt_lt {α:Type} {f g:α→Bool}:∀ {l:List α},(∀a∈l,f a=true→g a=true)→(∃a∈l,f a=false∧g a=true)→cntB f l<cntB g l
 | [],_,⟨_,h,_⟩=>by cases h
 |a::l,h,⟨b,hb,h3,h4⟩=>by
  have h1:=cnt_le (l:=l) fun c hc=>h c (mem_cons_of_mem _ hc);rcases List.mem_cons.1 hb with rfl | hb
  ·unfold cntB;rw[h3,h4,cond_false,cond_true];omega
  ·have h5:=cnt_lt (l:=l) (fun c hc=>h c (mem_cons_of_mem _ hc)) ⟨b,hb,h3,h4⟩;have h2:=h a mem_cons_self;unfold cntB
   cases hf:f a
   ·rw[cond_false];omega
   ·rw[h2 hf];omega
def foldG {σ V:Type} (step:V→σ×Bool→σ×Bool):List V→σ×Bool→σ×Bool
 | [],p=>p
 |v::vs,p=>foldG step vs (step v p)
theorem foldG_app {σ V:Type} {step:V→σ×Bool→σ×Bool}:∀ {a b:List V} {p:σ×Bool},foldG step (a++b) p=foldG step b (foldG step a p)
 | [],_,_=>rfl
 |v::a,b,p=>foldG_app (a:=a) (b:=b) (p:=step v p)
structure StepOk {σ V K:Type} (I:σ→Prop) (G:V→Prop) (has:σ→K→Bool) (ks:V→List K) (step:V→σ×Bool→σ×Bool):Prop where
 inv:∀v p,G v→I p.1→I (step v p).1
 mono:∀v p x,G v→I p.1→has p.1 x=true→has (step v p).1 x=true
 new:∀v p,G v→I p.1→(step v p).2=true→p.2=true∨∃x∈ks v,has p.1 x=false∧has (step v p).1 x=true
 quiet:∀v p,G v→I p.1→(step v p).2=false→p.2=false∧step v p=p
section
variable {σ V K:Type} {I:σ→Prop} {G:V→Prop} {has:σ→K→Bool} {ks:V→List K} {step:V→σ×Bool→σ×Bool}
theorem foldG_ok (h:StepOk I G has ks step):∀ {vs:List V} {p:σ×Bool},(∀v∈vs,G v)→I p.1→I (foldG step vs p).1
 | [],_,_,h1=>h1
 |v::vs,p,hv,h1=>foldG_ok h (vs:=vs) (fun w hw=>hv w (mem_cons_of_mem _ hw)) (h.inv v p (hv v mem_cons_self) h1)
theorem foldG_mono (h:StepOk I G has ks step):∀ {vs:List V} {p:σ×Bool} {x:K},(∀v∈vs,G v)→I p.1→has p.1 x=true→has (foldG step vs p).1 x=true
 | [],_,_,_,_,h1=>h1
 |v::vs,p,x,hv,hI,h1=>foldG_mono h (vs:=vs) (fun w hw=>hv w (mem_cons_of_mem _ hw)) (h.inv v p (hv v mem_cons_self) hI) (h.mono v p x (hv v mem_cons_self) hI h1)
theorem foldG_new (h:StepOk I G has ks step):∀ {vs:List V} {p:σ×Bool},(∀v∈vs,G v)→I p.1→(foldG step vs p).2=true→p.2=true∨∃x∈vs.flatMap ks,has p.1 x=false∧has (foldG step vs p).1 x=true
 | [],_,_,_,h1 => .inl h1
 |v::vs,p,hv,hI,h1=>by
  have hv0:=hv v mem_cons_self;have hvs:∀w∈vs,G w:=fun w hw=>hv w (mem_cons_of_mem _ hw);have hI1:=h.inv v p hv0 hI;rcases foldG_new h (vs:=vs) (p:=step v p) hvs hI1 h1 with h2 | ⟨x,hx,h2,h3⟩
  ·rcases h.new v p hv0 hI h2 with h4 | ⟨x,hx,h4,h5⟩
   ·exact .inl h4
   ·exact .inr ⟨x,List.mem_flatMap.2 ⟨v,mem_cons_self,hx⟩,h4,foldG_mono h (vs:=vs) (p:=step v p) hvs hI1 h5⟩
  ·obtain ⟨w,hw,hx⟩:=List.mem_flatMap.1 hx;refine .inr ⟨x,List.mem_flatMap.2 ⟨w,mem_cons_of_mem _ hw,hx⟩, ?_,h3⟩
   cases h4:has p.1 x
   ·rfl
   ·rw[h.mono v p x hv0 hI h4]at h2;cases h2
theorem foldG_quiet (h:StepOk I G has ks step):∀ {vs:List V} {p:σ×Bool},(∀v∈vs,G v)→I p.1→(foldG step vs p).2=false→p.2=false∧foldG step vs p=p∧∀v∈vs,step v p=p
 | [],_,_,_,h1=>⟨h1,rfl,fun _ hv=>by cases hv⟩
 |v::vs,p,hv,hI,h1=>by
  have hv0:=hv v mem_cons_self;obtain⟨h2,h3,h4⟩:=foldG_quiet h (vs:=vs) (p:=step v p) (fun w hw=>hv w (mem_cons_of_mem _ hw)) (h.inv v p hv0 hI) h1;obtain⟨h5,h6⟩:=h.quiet v p hv0 hI h2;refine⟨h5, ?_,fun w hw => ?_⟩
  ·show foldG step vs (step v p)=p;rw[h3,h6]
  ·rcases List.mem_cons.1 hw with rfl | hw
   ·exact h6
   ·have:=h4 w hw;rw[h6]at this;exact this
theorem foldG_inv {J:σ→Prop}:∀ {vs:List V} {p:σ×Bool},(∀v∈vs,∀p:σ×Bool,J p.1→J (step v p).1)→J p.1→J (foldG step vs p).1
 | [],_,_,h1=>h1
 |v::vs,p,h,h1=>foldG_inv (vs:=vs) (fun w hw=>h w (mem_cons_of_mem _ hw)) (h v mem_cons_self p h1)
end
def runG {σ V:Type} (step:V→σ×Bool→σ×Bool) (vs:List V):Nat→σ→σ
 |0,m=>m
 |n+1,m=>bif (foldG step vs (m,false)).2 then runG step vs n (foldG step vs (m,false)).1 else(foldG step vs (m,false)).1
def missG {σ K:Type} (has:σ→K→Bool) (ks:List K) (m:σ):Nat:=cntB (fun x => !has m x) ks
def runC {σ V K:Type} (has:σ→K→Bool) (ks:V→List K) (step:V→σ×Bool→σ×Bool) (vs:List V) (m:σ):σ:=runG step vs (missG has (vs.flatMap ks) m+1) m
section
variable {σ V K:Type} {I:σ→Prop} {G:V→Prop} {has:σ→K→Bool} {ks:V→List K} {step:V→σ×Bool→σ×Bool} {vs:List V}
theorem miss_lt (h:StepOk I G has ks step) (hv:∀v∈vs,G v) {m:σ} (hI:I m) (h1:(foldG step vs (m,false)).2=true):missG has (vs.flatMap ks) (foldG step vs (m,false)).1<missG has (vs.flatMap ks) m:=by
 rcases foldG_new h hv hI h1 with h2 | ⟨x,hx,h2,h3⟩
 ·cases h2
 ·refine cnt_lt (fun y _ hy => ?_) ⟨x,hx,by rw[h3];rfl,by rw[h2];rfl⟩
  cases h4:has m y
  ·rfl
  ·rw[foldG_mono h (vs:=vs) (p:=(m,false)) hv hI h4]at hy;cases hy
theorem run_fuel (h:StepOk I G has ks step) (hv:∀v∈vs,G v):∀ {n n':Nat} {m:σ},I m→missG has (vs.flatMap ks) m<n→missG has (vs.flatMap ks) m<n'→runG step vs n m=runG step vs n' m
 |0,_,_,_,h1,_=>by omega
 |n+1,0,_,_,_,h1=>by omega
 |n+1,n'+1,m,hI,h1,h2=>by
  unfold runG
  cases hc:(foldG step vs (m,false)).2
  ·rfl
  ·have:=miss_lt h hv hI hc;exact run_fuel h hv (foldG_ok h (p:=(m,false)) hv hI) (by omega) (by omega)
theorem runC_at (h:StepOk I G has ks step) (hv:∀v∈vs,G v) {m:σ} (hI:I m):runC has ks step vs m=bif (foldG step vs (m,false)).2 then runC has ks step vs (foldG step vs (m,false)).1 else(foldG step vs (m,false)).1:=by
 show(bif (foldG step vs (m,false)).2 then runG step vs (missG has (vs.flatMap ks) m) (foldG step vs (m,false)).1 else(foldG step vs (m,false)).1)=_
 cases hc:(foldG step vs (m,false)).2
 ·rfl
 ·have:=miss_lt h hv hI hc;exact run_fuel h hv (foldG_ok h (p:=(m,false)) hv hI) (by omega) (by omega)
theorem run_end (h:StepOk I G has ks step) (hv:∀v∈vs,G v) {J:σ→Prop} (hJ:∀v∈vs,∀p:σ×Bool,I p.1∧J p.1→J (step v p).1):∀ {n:Nat} {m:σ},missG has (vs.flatMap ks) m<n→I m→J m→I (runG step vs n m)∧J (runG step vs n m)∧∀v∈vs,step v (runG step vs n m,false)=(runG step vs n m,false)
 |0,_,h1,_,_=>by omega
 |n+1,m,h1,hI,h2=>by
  unfold runG;have h3:=foldG_inv (J:=fun x=>I x∧J x) (step:=step) (vs:=vs) (p:=(m,false)) (fun v hv' p hp=>⟨h.inv v p (hv v hv') hp.1,hJ v hv' p hp⟩) ⟨hI,h2⟩
  cases hc:(foldG step vs (m,false)).2
  ·rw[cond_false];obtain⟨_,h5,h6⟩:=foldG_quiet h hv hI hc;rw[h5];exact⟨hI,h2,h6⟩
  ·have:=miss_lt h hv hI hc;exact run_end h hv hJ (by omega) h3.1 h3.2
theorem runC_end (h:StepOk I G has ks step) (hv:∀v∈vs,G v) {J:σ→Prop} (hJ:∀v∈vs,∀p:σ×Bool,I p.1∧J p.1→J (step v p).1) {m:σ} (hI:I m) (hm:J m):I (runC has ks step vs m)∧J (runC has ks step vs m)∧∀v∈vs,step v (runC has ks step vs m,false)=(runC has ks step vs m,false):=run_end h hv hJ (Nat.lt_succ_self _) hI hm
end
def subS (s:Str) (i j:Int):Str:=List.take (j.toNat-i.toNat) (List.drop i.toNat s)
theorem sub_len {s:Str} {i j:Int} (h0:0≤i) (h1:i≤j) (h2:j≤(s.length:Int)):((subS s i j).length:Int)=j-i:=by
 unfold subS;rw[length_take,length_drop];omega
abbrev TP:Ty := .struct (.pair .str (.pair TI64 TI64))
abbrev Part:Type:=Str×Int×Int
def anyI (f:Int→Bool):Nat→Int→Bool
 |0,_=>false
 |n+1,a=>f a||anyI f n (a+1)
def okIJ (s:Str) (i j:Int):Bool:=decide (0≤i)&&(decide (i≤j)&&decide (j≤(s.length:Int)))
theorem okIJ_iff {s:Str} {i j:Int}:okIJ s i j=true↔0≤i∧i≤j∧j≤(s.length:Int):=by
 unfold okIJ;rw[andd,andd,dec_iff,dec_iff,dec_iff]
theorem eqP_iff {x y:Part}:eqDen TP x y=true↔x=y:=by
 obtain⟨a,i,j⟩:=x;obtain⟨b,k,n⟩:=y;show(decide (a=b)&&(decide (i=k)&&decide (j=n)))=true↔_;rw[andd,andd,dec_iff,dec_iff,dec_iff]
 constructor
 ·rintro ⟨rfl,rfl,rfl⟩;rfl
 ·intro h;cases h;exact ⟨rfl,rfl,rfl⟩
theorem eqP_dec {x y:Part}:eqDen TP x y=decide (x=y):=by
 by_cases h:x=y
 ·rw[zT h,eqP_iff.2 h]
 ·rw[zF h]
  cases e:eqDen TP x y
  ·rfl
  ·exact absurd (eqP_iff.1 e) h
abbrev Vis:Type:=Int×Int×Rule
def keyV (v:Vis):Part:=(v.2.2.1,v.1,v.2.1)
def visR (i j:Int) (l:List Rule):List Vis:=l.map fun r=>(i,j,r)
def visT (l:List Rule) (i:Int):Nat→Int→List Vis
 |0,_=>[]
 |n+1,j=>visR i j l++visT l i n (j+1)
def visF (s:Str) (l:List Rule):Nat→List Vis
 |0=>[]
 |n+1=>visT l (n:Int) (s.length+1-n) (n:Int)++visF s l n
theorem mem_visT {l:List Rule} {i:Int} {v:Vis}:∀ {n:Nat} {j:Int},v∈visT l i n j↔v.1=i∧j≤v.2.1∧v.2.1<j+n∧v.2.2∈l
 |0,j=>by
  unfold visT
  constructor
  ·intro h;cases h
  ·rintro ⟨_,h1,h2,_⟩;omega
 |n+1,j=>by
  unfold visT visR;rw[mem_append,mem_visT (n:=n) (j:=j+1),List.mem_map]
  constructor
  ·rintro (⟨r,hr,rfl⟩ | ⟨h1,h2,h3,h4⟩)
   ·exact ⟨rfl,Int.le_refl _,by show j<j+_;omega,hr⟩
   ·exact ⟨h1,by omega,by omega,h4⟩
  ·rintro ⟨h1,h2,h3,h4⟩
   by_cases h:v.2.1=j
   ·exact .inl ⟨v.2.2,h4,by rw[← h1,← h]⟩
   ·exact .inr ⟨h1,by omega,by omega,h4⟩
theorem mem_visF {s:Str} {l:List Rule} {v:Vis}:∀ {n:Nat},n≤s.length+1→(v∈visF s l n↔0≤v.1∧v.1<n∧v.1≤v.2.1∧v.2.1≤(s.length:Int)∧v.2.2∈l)
 |0,_=>by
  unfold visF
  constructor
  ·intro h;cases h
  ·rintro ⟨h1,h2,_⟩;omega
 |n+1,hn=>by
  unfold visF;rw[mem_append,mem_visT,mem_visF (n:=n) (by omega)]
  constructor
  ·rintro (⟨h1,h2,h3,h4⟩ | ⟨h1,h2,h3,h4,h5⟩)
   ·exact ⟨by omega,by omega,by omega,by omega,h4⟩
   ·exact ⟨by omega,by omega,by omega,by omega,h5⟩
  ·rintro ⟨h1,h2,h3,h4,h5⟩
   by_cases h:v.1=n
   ·exact .inl ⟨h,by omega,by omega,h5⟩
   ·exact .inr ⟨by omega,by omega,by omega,by omega,h5⟩
theorem anyI_iff {f:Int→Bool}:∀ {n:Nat} {a:Int},anyI f n a=true↔∃k,a≤k∧k<a+n∧f k=true
 |0,a=>by
  unfold anyI
  constructor
  ·intro h;cases h
  ·rintro ⟨k,h1,h2,_⟩;omega
 |n+1,a=>by
  unfold anyI;rw[Bool.or_eq_true,anyI_iff (n:=n) (a:=a+1)]
  constructor
  ·rintro (h | ⟨k,h1,h2,h3⟩)
   ·exact ⟨a,Int.le_refl _,by omega,h⟩
   ·exact ⟨k,by omega,by omega,h3⟩
  ·rintro ⟨k,h1,h2,h3⟩
   by_cases h:k=a
   ·exact .inl (by rw[← h];exact h3)
   ·exact .inr ⟨k,by omega,by omega,h3⟩
theorem getD_mem {α:Type} {l:List α} {i:Nat} {d:α} (h:i<l.length):l.getD i d∈l:=by
 rw[zG,zE h];exact List.getElem_mem h
theorem big_not_small {a:Str} (h:bigS a=true):smallS a=false:=by
 obtain⟨c,e,hc⟩:=bigS_one h
 cases hs:smallS a
 ·rfl
 ·obtain ⟨c',e',hc'⟩:=smallS_one hs;rw[e]at e'
  cases (List.cons.inj e').1
  exact absurd ⟨hc,hc'⟩ (big_small c)
theorem areSm_iff {s:Str} {n:Int}:areSm s n=true↔(s.length:Int)≤n∧s.all small=true:=by
 unfold areSm;rw[b2,andd,dec_iff]
def signI (c:Int):Bool:=smallI c||(decide (65≤c)&&decide (c≤69))
theorem sign_I {c:UInt8} (h:sign c=true):signI (c.toNat:Int)=true:=by
 unfold sign at h;unfold signI;rw[smallI_nat];rcases Bool.or_eq_true_iff.1 h with h | h
 ·unfold bigc at h;rw[andd,ble_iff,ble_iff]at h;rw[Bool.or_eq_true,andd,dec_iff,dec_iff];exact .inr ⟨by omega,by omega⟩
 ·rw[h];rfl
theorem getD_set {α:Type} {l:List α} {i j:Nat} {x d:α} (h:i<l.length):(l.set i x).getD j d=if i=j then x else l.getD j d:=by
 rw[zG,List.getElem?_set,zG]
 by_cases e:i=j
 ·rw[if_pos e,if_pos e,if_pos h];rfl
 ·rw[if_neg e,if_neg e]
abbrev VisE:Type:=Int×Rule
def keyK (r:Rule):Int:=byteAt r.1 0-65
def okRp (l:List Rule):Bool:=Nat.ble (length l) 1000&&List.all l fun r=>bigS r.1&&(Nat.blt (length r.2) 5&&List.all r.2 sign)
def goodE (s:Str) (v:VisE):Prop:=0≤v.1∧v.1≤(s.length:Int)∧bigS v.2.1=true∧length v.2.2<5∧List.all v.2.2 sign=true
theorem keyK_in {r:Rule} (h:bigS r.1=true):0≤keyK r∧keyK r<5∧∃c:UInt8,r.1=[c]∧keyK r=(c.toNat:Int)-65:=by
 obtain⟨c,e,hc⟩:=bigS_one h;unfold bigc at hc;rw[andd,ble_iff,ble_iff]at hc;have:keyK r=(c.toNat:Int)-65:=by unfold keyK;rw[e];rfl
 exact⟨by omega,by omega,c,e,this⟩
def fromsE (r:Rule):Nat→Int→List VisE
 |0,_=>[]
 |n+1,i=>(i,r)::fromsE r n (i+1)
def visE (n:Nat) (l:List Rule):List VisE:=l.flatMap fun r=>fromsE r n 0
theorem mem_fromsE {r:Rule} {v:VisE}:∀ {n:Nat} {i:Int},v∈fromsE r n i↔v.2=r∧i≤v.1∧v.1<i+n
 |0,i=>by
  unfold fromsE
  constructor
  ·intro h;cases h
  ·rintro ⟨_,h1,h2⟩;omega
 |n+1,i=>by
  unfold fromsE;rw[List.mem_cons,mem_fromsE (n:=n) (i:=i+1)]
  constructor
  ·rintro (rfl | ⟨h1,h2,h3⟩)
   ·exact ⟨rfl,Int.le_refl _,by show i<i+_;omega⟩
   ·exact ⟨h1,by omega,by omega⟩
  ·rintro ⟨h1,h2,h3⟩
   by_cases h:v.1=i
   ·exact .inl (by rw[← h,← h1])
   ·exact .inr ⟨h1,by omega,by omega⟩
theorem mem_visE {v:VisE} {n:Nat} {l:List Rule}:v∈visE n l↔v.2∈l∧0≤v.1∧v.1<n:=by
 unfold visE;rw[List.mem_flatMap]
 constructor
 ·rintro ⟨r,hr,h⟩;obtain⟨rfl,h2,h3⟩:=mem_fromsE.1 h;exact⟨hr,h2,by omega⟩
 ·rintro ⟨h1,h2,h3⟩;exact⟨v.2,h1,mem_fromsE.2 ⟨rfl,h2,by omega⟩⟩
theorem okRp_iff {l:List Rule}:okRp l=true↔l.length≤1000∧∀r∈l,bigS r.1=true∧length r.2<5∧List.all r.2 sign=true:=by
 unfold okRp;rw[andd,ble_iff,all_eq_true]
 constructor
 ·rintro ⟨h1,h2⟩;refine⟨h1,fun r hr => ?_⟩;have:=h2 r hr;rw[andd,andd,blt_iff]at this;exact this
 ·rintro ⟨h1,h2⟩;refine⟨h1,fun r hr => ?_⟩;rw[andd,andd,blt_iff];exact h2 r hr
theorem good_visE {s:Str} {l:List Rule} (h:okRp l=true):∀v∈visE (s.length+1) l,goodE s v:=fun v hv=>by
 obtain⟨h1,h2,h3⟩:=mem_visE.1 hv;obtain⟨h4,h5,h6⟩:=(okRp_iff.1 h).2 _ h1;exact⟨h2,by omega,h4,h5,h6⟩
theorem key_wrap {r:Rule} (h:bigS r.1=true):W64 (IntKind.u8.wrap (byteAt r.1 0-65))=keyK r:=by
 obtain⟨k0,k1,_⟩:=keyK_in h;have k0:0≤byteAt r.1 0-65:=k0;have k1:byteAt r.1 0-65<5:=k1;have e1:IntKind.u8.wrap (byteAt r.1 0-65)=byteAt r.1 0-65:=by
  show(byteAt r.1 0-65) % 256=_;exact Int.emod_eq_of_lt (by omega) (by omega)
 rw[e1];exact wrap_small (by omega) (by omega)
theorem ok_rp {g:Gram} (h:okG g=true):okRp g.2=true:=by
 obtain⟨_,h2,h3⟩:=okG_iff h;refine okRp_iff.2 ⟨by omega,fun r hr => ?_⟩;obtain⟨r1,r2⟩:=h3 r hr;obtain⟨r3,r4⟩:=areS_iff r2;exact⟨r1,by omega,all_eq_true.2 r3⟩
theorem visE_at {n:Nat} {l:List Rule} {i:Int} (h0:0≤i) (h1:i<(l.length:Int)):visE n (l.drop i.toNat)=fromsE (l.getD i.toNat d0) n 0++visE n (l.drop (i+1).toNat):=by
 have hn:i.toNat<l.length:=by omega
 unfold visE;rw[drop_eq_getElem_cons hn,List.flatMap_cons,show (i+1).toNat=i.toNat+1 by omega,getD_at hn]
abbrev ts2:List Nat:=[128,4]
theorem asc_len {b:Nat}:∀ {s:Str} {a:Nat},s.Pairwise (fun a b=>a.toNat<b.toNat)→(∀x∈s,a≤x.toNat∧x.toNat<b)→s.length≤b-a
 | [],_,_,_=>Nat.zero_le _
 |x::s,a,h,h1=>by
  obtain⟨h2,h3⟩:=List.pairwise_cons.1 h;obtain⟨h4,h5⟩:=h1 x mem_cons_self;have:=asc_len (a:=x.toNat+1) h3 fun y hy=>⟨h2 y hy,(h1 y (mem_cons_of_mem _ hy)).2⟩;rw[length_cons];omega
theorem smalls_four {g:Gram}:(smallsG g).length≤4:=asc_len (a:=97) (b:=101) setS_asc fun x hx=>by
 have:=(setS_mem.1 hx).2;unfold small at this;rw[andd,ble_iff,ble_iff]at this;omega
def rep (n:Nat) (c:UInt8):Str:=replicate n c
theorem maskN (a:Nat) (ha:a<18446744073709551616):bits .and .u64 (a:Int) 4294967295=((a % 4294967296:Nat):Int):=by
 have h:=bits_and_u64_nat a 4294967295 ha (by omega);have e:a &&& 4294967295=a % 4294967296:=Nat.and_two_pow_sub_one_eq_mod a 32;rw[e]at h;exact h
theorem divN (a:Nat):(a:Int) / 4294967296=((a / 4294967296:Nat):Int):=by omega
theorem mulN (a b:Nat):(a:Int)*(b:Int)=((a*b:Nat):Int):=(Int.natCast_mul a b).symm
theorem addN (a b:Nat):(a:Int)+(b:Int)=((a+b:Nat):Int):=(Int.natCast_add a b).symm
theorem wrapN (a:Nat) (ha:a<18446744073709551616):IntKind.u64.wrap (a:Int)=(a:Int):=by rw[IntKind.wrap_u64];omega
theorem wrapM (a:Nat):IntKind.u64.wrap (a:Int)=((a % 18446744073709551616:Nat):Int):=by rw[IntKind.wrap_u64];omega
set_option maxHeartbeats 1000000 in
theorem walk_Mul64 (x y:Nat) (hx:x<18446744073709551616) (hy:y<18446744073709551616) (w:World) :
  Calls Tryz.prog 171 #[.int .u64 x, .int .u64 y] w fun e w'=>e = .returned (.tuple #[.int .u64 ((x*y / 18446744073709551616:Nat):Int), .int .u64 ((x*y % 18446744073709551616:Nat):Int)])∧w'=w:=by
 obtain⟨bd,bt,bw,hhi⟩:=Lib.mul64_hi x y hx hy;have ba:=Lib.half_mul_le (a:=x / 4294967296) (b:=y / 4294967296) (by omega) (by omega);have bb:=Lib.half_mul_le (a:=x / 4294967296) (b:=y % 4294967296) (by omega) (by omega);have bc:=Lib.half_mul_le (a:=x % 4294967296) (b:=y / 4294967296) (by omega) (by omega);have ba':x / 4294967296*(y / 4294967296)<18446744073709551616:=by omega
 have bb':x / 4294967296*(y % 4294967296)<18446744073709551616:=by omega
 have bc':x % 4294967296*(y / 4294967296)<18446744073709551616:=by omega
 have bh1:x / 4294967296*(y / 4294967296)+(x / 4294967296*(y % 4294967296)+x % 4294967296*(y % 4294967296) / 4294967296) / 4294967296<18446744073709551616:=by omega
 have bh:x / 4294967296*(y / 4294967296)+(x / 4294967296*(y % 4294967296)+x % 4294967296*(y % 4294967296) / 4294967296) / 4294967296+((x / 4294967296*(y % 4294967296)+x % 4294967296*(y % 4294967296) / 4294967296) % 4294967296+x % 4294967296*(y / 4294967296)) / 4294967296<18446744073709551616:=by omega
 go_enter Tryz.func171,Tryz.ntmps171
 go_wp2
 simp only[maskN x hx,maskN y hy,divN,mulN,addN,wrapN _ bd,wrapN _ bb',wrapN _ bt,maskN _ bt,wrapN _ bc',wrapN _ bw,wrapN _ ba',wrapN _ bh1,wrapN _ bh,wrapM (x*y)];rw[hhi]
 go_ret2
 exact⟨rfl,rfl⟩
set_option maxHeartbeats 1000000 in
theorem walk_Mul (y:Nat) (hy:y≤1001) (w:World) :
  Calls Tryz.prog 153 #[.int .u64 (1:Int), .int .u64 y] w fun e w'=>e = .returned (.tuple #[.int .u64 (0:Int), .int .u64 y])∧w'=w:=by
 have c64:Calls Tryz.prog 171 #[.int .u64 (1:Int), .int .u64 y] w fun e w'=>e = .returned (.tuple #[.int .u64 (0:Int), .int .u64 y])∧w'=w:=by
  have h:=walk_Mul64 1 y (by omega) (by omega) w;rw[show 1*y / 18446744073709551616=0 by omega,show 1*y % 18446744073709551616=y by omega]at h;exact h
 have e264:=Tryz.call171
 go_enter Tryz.func153,Tryz.ntmps153
 go_wp2_with (refine c64.mono ?_;rintro e w' ⟨rfl,hw⟩;rw[hw])
 go_ret2
 exact⟨rfl,rfl⟩
structure RepW (w:World) (t:TypeId) (cs:List Value) (w':World):Prop where
 size:w'.heap.size=w.heap.size+1
 old:∀b,b<w.heap.size→w'.heap[b]? = w.heap[b]?
 row:w'.heap[w.heap.size]? = some (.cells cs.toArray t (0,0))
 os:w'.os=w.os
 tape:w'.tape=w.tape
 output:w'.output=w.output
theorem RepW.drew {w w':World} {t:TypeId} {cs:List Value} (h:RepW w t cs w'):RepW w t cs w'.drew:=⟨h.1,h.2,h.3,h.4,h.5,h.6⟩
theorem RepW.set {w w':World} {t:TypeId} {cs:List Value} (h:RepW w t cs w') (cs':List Value):RepW w t cs' (w'.setRow w.heap.size cs'.toArray):=by
 refine⟨by rw[setRow_size];exact h.1,fun b hb => ?_,setRow_heap _ _ _ _ _ _ h.3,h.4,h.5,h.6⟩;rw[setRow_other _ _ _ _ (by omega)];exact h.2 b hb
theorem RepW.cell {w w':World} {t:TypeId} {cs:List Value} (h:RepW w t cs w') (j:Nat):w'.cell? ⟨w.heap.size,j,none⟩=cs[j]? := by
 rw[cell_of_row _ _ _ _ _ _ h.3];simp
def repR (v:Value) (k n:Nat):List Value:=replicate k v++replicate (n-k) (.int .i64 0)
theorem repR_at {v:Value} {k n j:Nat} (hj:j<k):(repR v k n)[j]? = some v:=by
 unfold repR;rw[getElem?_append_left (by rw[length_replicate];exact hj),List.getElem?_replicate,if_pos hj]
theorem repR_len {v:Value} {k n:Nat} (h:k≤n):(repR v k n).length=n:=by
 unfold repR;rw[length_append,length_replicate,length_replicate];omega
theorem repR_step {v:Value} {k m n:Nat} (h:k+m≤n):(repR v k n).take k++replicate m v++(repR v k n).drop (k+m)=repR v (k+m) n:=by
 unfold repR;have h1:(replicate k v).length=k:=length_replicate ..;rw[List.take_append_of_le_length (by omega),List.take_of_length_le (by omega),List.replicate_append_replicate,List.drop_append,List.drop_of_length_le (by omega),List.nil_append,List.drop_replicate,h1]
 congr 2
 omega
theorem addr0 (a:Addr):a.add 0=a:=by unfold Addr.add;cases a;split<;>simp_all
theorem copy_rep {w W:World} {n k m sl sc dc:Nat} {v:Value} {a:Addr} (h:RepW w 3 (repR v k n) W) (hk:k+m≤n) (hm:Nat.min sl (n-k)=m) (hv:0<m) (hsrc:∀j,j<m→W.cell? (a.add j)=some v) (h1:v.oneCell'=true:=by rfl) (ty:TypeId) :
  (Builtin.copy_ #[68,68] ty #[.slice (some ⟨w.heap.size,k,none⟩) (n-k) dc, .slice (some a) sl sc]).run Tryz.prog W = .ok (.int .i64 (m:Int)) (W.setRow w.heap.size (repR v (k+m) n).toArray):=by
 have hu:Tryz.prog.underlying 68=some (.slice 3):=by kernel_rfl
 have hi:Tryz.prog.info? 3=some Tryz.t3:=by kernel_rfl
 have hs:(Tryz.prog.info? 3).map (·.size)=some 1:=by rw[hi];rfl
 have hc:=run_copy_row (P:=Tryz.prog) W 68 68 ty 3 w.heap.size k (n-k) dc a sl sc _ 3 (replicate m v) hu hs h.row (by rw[length_replicate,hm]) (fun j x hj=>by
   rw[List.getElem?_replicate]at hj
   split at hj
   ·cases hj
    rename_i hjm;exact hsrc j hjm
   ·cases hj) (by rw[length_replicate,List.size_toArray,repR_len (by omega)];exact hk) (fun x hx=>by rw[List.eq_of_mem_replicate hx];exact h1)
 rw[hc,length_replicate];have e:=repR_step (v:=v) hk;show Result.ok (Value.int .i64 (m:Int)) (W.setRow w.heap.size ((repR v k n).take k++replicate m v++(repR v k n).drop (k+m)).toArray)=_;rw[e]
set_option maxHeartbeats 4000000 in
set_option maxRecDepth 1000000 in
theorem walk_Repeat (a:Addr) (cap:Nat) (v:Int) (n:Nat) (w:World) (hn:0<n) (hn2:n≤1001) (ha:w.cell? a=some (.int .i64 v)) (hb:a.block<w.heap.size) :
  Calls Tryz.prog 129 #[.slice (some a) 1 cap, .int .i64 n] w fun e w'=>e = .returned (.slice (some ⟨w.heap.size,0,none⟩) n n)∧RepW w 3 (repR (.int .i64 v) n n) w':=by
 have hMul:=walk_Mul n hn2 w;have e212:=Tryz.call153;have hu:Tryz.prog.underlying 68=some (.slice 3):=by kernel_rfl
 have hi:Tryz.prog.info? 3=some Tryz.t3:=by kernel_rfl
 have hs:(Tryz.prog.info? 3).map (·.size)=some 1:=by rw[hi];rfl
 obtain⟨W1,hW1⟩:∃W1,W1=w.alloc (.cells (madeCells (Value.int .i64 0).cells (((n:Int)).toNat*1)) 3):=⟨_,rfl⟩;have hmk:(Instr.makeSlice 68 (.int .i64 n) (.int .i64 n)).run Tryz.prog w = .ok (.slice (some ⟨w.heap.size,0,none⟩) n n) W1:=by
  have h:=run_make (P:=Tryz.prog) w 68 3 Tryz.t3 (.int .i64 0) hu hi rfl .i64 .i64 n n (by omega) (Int.le_refl _) (by show(8:Int)*n≤_;omega) (by omega);rw[hW1];exact h
 have h1:RepW w 3 (repR (.int .i64 v) 0 n) W1:=by
  have e:madeCells (Value.int .i64 0).cells (((n:Int)).toNat*1)=(repR (.int .i64 v) 0 n).toArray:=by
   rw[show (Value.int .i64 0).cells=#[Value.int .i64 0] from rfl,Int.toNat_natCast,Nat.mul_one]
   apply Array.ext'
   rw[toList_madeCells_one];unfold repR;rw[Nat.sub_zero];rfl
  rw[hW1,e];exact⟨by simp,fun b hb=>heap_alloc_old w _ hb,heap_alloc_new w _,rfl,rfl,rfl⟩
 have hcp:∀ty,(Builtin.copy_ #[68,68] ty #[.slice (some ⟨w.heap.size,0,none⟩) n n, .slice (some a) 1 cap]).run Tryz.prog W1 = .ok (.int .i64 (1:Int)) (W1.setRow w.heap.size (repR (.int .i64 v) 1 n).toArray):=fun ty=>copy_rep (a:=a) (m:=1) (sl:=1) (sc:=cap) (dc:=n) (k:=0) (ty:=ty) h1 (by omega) (by show Nat.min 1 (n-0)=1;exact Nat.min_eq_left (by omega)) (by omega) fun j hj=>by
  obtain rfl:j=0:=by omega
  rw[addr0,World.cell?_of_block (w:=w) (h1.old _ hb)];exact ha
 have h2:=h1.set (repR (.int .i64 v) 1 n);obtain⟨W2,hW2⟩:∃W2,W2=W1.setRow w.heap.size (repR (.int .i64 v) 1 n).toArray:=⟨_,rfl⟩;rw[← hW2]at h2 hcp;clear hW1 hW2 h1 hi hs;have hmix:=mixed
 go_enter Tryz.func129,Tryz.ntmps129
 go_wp2_with (first
  | (refine hMul.mono ?_;rintro e w' ⟨rfl,hw⟩;rw[hw])
  | (at_builtin;refine wpList_copy_runI _ rfl _ _ 68 68 rfl _ _ rfl rfl (hcp _) ?_))
 go_loopg [8] n (fun g s8 wx=>∃k:Nat,1≤k∧k≤n∧n-k≤g∧s8 = .int .i64 k∧RepW w 3 (repR (.int .i64 v) k n) wx)
 case atStart=>exact ⟨1,Nat.le_refl 1,hn,by omega,rfl,h2⟩
 case round =>
  obtain⟨k,k1,k2,k3,rfl,hr⟩:=hrel
  by_cases hk:(k:Int)<(n:Int)
  ·obtain ⟨m,hm⟩:∃m,Nat.min k (n-k)=m:=⟨_,rfl⟩;have m1:0<m∧m≤k∧m≤n-k:=by rw[← hm];exact ⟨Nat.lt_min.2 ⟨by omega,by omega⟩,Nat.min_le_left _ _,Nat.min_le_right _ _⟩
   obtain⟨m2,m3,m4⟩:=m1;have hcq:=fun ty=>copy_rep (a:=⟨w.heap.size,0,none⟩) (sl:=k) (sc:=n) (dc:=n-k) hr.drew (by omega) hm m2 (fun j hj=>by
    rw[Addr.add_lit,hr.drew.cell];rw[Nat.zero_add];exact repR_at (by omega)) rfl ty
   have hne:¬(n=k):=by omega
   have hkn:(k:Int)≤(n:Int):=by omega
   have hw1:IntKind.i64.wrap ((k:Int)+(m:Int))=(k:Int)+(m:Int):=by rw[IntKind.wrap_i64];omega
   have hr2:=hr.drew.set (repR (.int .i64 v) (k+m) n);have R:Aside (RepW w 3 (repR (.int .i64 v) (k+m) n) (wr.drew.setRow w.heap.size (repR (.int .i64 v) (k+m) n).toArray)):=hr2;clear hr hr2 hm h2 hMul
   go_wp2_with fail
   go_region_law_o (refine step_copy_runI rfl _ _ 68 68 rfl (.slice (some ⟨w.heap.size,k,none⟩) (n-k) (n-k)) (.slice (some ⟨w.heap.size,0,none⟩) k n) (by simp[Act.eval,Act.put]) (by simp[Act.eval,Act.put]) (hcq _) ?_)
   go_wp2
   go_roundg (n-(k+m))
   case measure=>omega
   case rel=>exact ⟨k+m,by omega,by omega,by omega,by simp,R.out⟩
  ·have hkn:k=n:=by omega
   subst hkn;have R:Aside (RepW w 3 (repR (.int .i64 v) k k) wr):=hr;clear hr h2 hMul
   go_wp2
   go_ret
   exact⟨rfl,R.out⟩
def rep1 (l:List Int) (n:Int):Bool:=decide (length l=1)&&(decide (1≤n)&&decide (n≤1001))
theorem s_Repeat (l:List Int) (n:Int) (hq:rep1 l n=true):Sat Tryz.prog 129 [ofD TIS l,ofD TI64 n] [] (.d (.one (.own 1000))) [(1000,some (.lis 3 TI64 (replicate n.toNat (l.getD 0 0))))]:=by
 intro w F β args H hds
 cases hds with | cons h1 h2 =>
 cases h2 with | cons h2 h3 =>
 cases h3
 unfold rep1 at hq;rw[andd,andd,dec_iff,dec_iff,dec_iff]at hq;obtain⟨q1,q2,q3⟩:=hq;have p1:length (α:=Den TI64) l=1:=q1;obtain⟨N,rfl⟩:∃N:Nat,n=(N:Int):=⟨n.toNat,by omega⟩;obtain⟨e2,_⟩:=h2;subst e2;obtain⟨a,cap,e1,g1,g2,g3⟩:=h1;simp only[List.cons.injEq,and_true]at e1;subst e1;rcases g3 with g3 | ⟨b,o,rfl,hF,g3⟩
 ·exact absurd (q1.symm.trans g3) (by decide)
 obtain⟨ys,y1,y2⟩:=g3 0 (by rw[p1];exact Nat.zero_lt_one);obtain⟨y,y3,y4⟩:=y2 0 Nat.zero_lt_one;obtain⟨rfl,y6⟩:=y1
 cases y3
 have hb:=H.low b hF;rw[p1];refine(walk_Repeat ⟨b,o,none⟩ cap (l.getD 0 0) N w (by omega) (by omega) y4 hb).mono ?_;rintro e w' ⟨rfl,R⟩;have hlen:length (α:=Den TI64) (replicate N (l.getD 0 0))=N:=length_replicate (n:=N) (a:=l.getD 0 0);have T:=H.turn (w':=w') (F':=F) 1000 (some (.lis 3 TI64 (replicate N (l.getD 0 0)))) (.slice (some ⟨w.heap.size,0,none⟩) N N) R.os R.tape R.output (by rw[R.size];omega) (fun _=>False) (fun _ h=>h.elim) (fun b hb _=>R.old b hb) (fun _ h=>h) (fun _ h => .inl h)
  (fun q0 o h0=>by cases h0) (fun Pr ob ho=>by
   cases ho
   refine⟨.inr ⟨w.heap.size,N,_, ?_,by omega, .new R.row, ?_,by unfold maxLen;omega, ?_,fun k hk j hj => ?_⟩,fun b hb => ?_⟩
   ·show setB β 1000 _ 1000=_;rw[hlen];exact if_pos rfl
   ·rw[hlen];exact Nat.le_refl _
   ·rw[List.size_toArray,repR_len (Nat.le_refl _)];exact (Nat.mul_one _).symm
   ·rw[hlen]at hk;have hj:j<1:=hj;obtain rfl:j=0:=by omega
    refine⟨.int .i64 (l.getD 0 0), ?_, ?_⟩
    ·show (repR _ N N).toArray[k*1+0]? = _;rw[List.getElem?_toArray,Nat.mul_one,Nat.add_zero];exact repR_at hk
    ·show Ro _ _ (.v (.int .i64 ((replicate N (l.getD 0 0)).getD k 0))) _;rw[show (replicate N (l.getD 0 0)).getD k 0=l.getD 0 0 by rw[zG,List.getElem?_replicate,if_pos hk];rfl];exact⟨rfl,y6⟩
   ·have hb:=Blk_slice.1 hb;simp only[blk]at hb
    split at hb
    ·cases hb
    ·cases hb;exact .inr (Nat.le_refl _))
 have e:look [(1000,some (.lis 3 TI64 (replicate N (l.getD 0 0)):Obj))]=setH (hOf []) 1000 (some (.lis 3 TI64 (replicate N (l.getD 0 0)))):=by
  funext i
  show(bif Nat.beq 1000 i then some _ else none)=if i=1000 then some _ else none
  by_cases hi:i=1000
  ·subst hi;rfl
  ·rw[if_neg hi]
   cases hc:Nat.beq 1000 i
   ·rfl
   ·exact absurd (zB hc).symm hi
 show ∃v F' β',_;rw[Int.toNat_natCast,e];refine⟨_,F,_,rfl,T.1,fun i hi=>absurd hi (Nat.not_lt_zero i),fun i o hi=>absurd hi (Nat.not_lt_zero i),fun _ _ _ hh=>(nomatch hh), ?_⟩;exact⟨rfl,⟨_,if_pos rfl⟩,fun _ _=>(if_pos rfl:setB β 1000 _ 1000=_).symm⟩
noncomputable def c_slices_Repeat_int_int:Con:=conN [TIS,TI64] fun(l:List Int) (n:Int)=>(some (rep1 l n), .d (.one (.own 1000)),[(1000,some (.lis 3 TI64 (replicate n.toNat (l.getD 0 0))))])
theorem k_slices_Repeat_int_int:ConOk Tryz.prog 129 c_slices_Repeat_int_int:=conN_ok Tryz.call129 fun l _ n _ hqq=>s_Repeat l n (pre_of hqq)
noncomputable def Γ53:GL:=(129,c_slices_Repeat_int_int)::Γ52
theorem Γ53ok:GO Γ53 := .cons k_slices_Repeat_int_int Γ52ok
abbrev TDs:Ty := .struct (.pair TG (.pair .str (.map TP TI64)))
abbrev DMap:Type:=List (Part×Int)
abbrev Dists:Type:=Gram×Str×DMap
def never:Int:=1073741824
def hasI (s:Str) (a:Str) (i j:Int):Bool:=anyI (fun p=>decide (([s.getD p.toNat 0]:Str)=a)) (j-i).toNat i
def costZ (s a:Str) (i j:Int):Int:=bif hasI s a i j then j-i-1 else(if 1<j-i then j-i else 1)
def getD' (m:DMap) (p:Part):Int:=(mget TP TI64 p m).getD never
def dofV (s:Str) (m:DMap) (a:Str) (i j:Int):Int:=bif bigS a then getD' m (a,i,j)else costZ s a i j
def cb_dof:Cx:=cxOf Γ53 Tryz.f96.ntmps [(7,[0,1,2,3,11])] [(0,[2,3]),(1,[0,1,2,3,11]),(1000000,[8])] [] []
abbrev st_dof (c:Dists) (a:Str) (i j p:Int):St:=⟨[(0, .d (ofD (.ref TDs) c)),(1,vS a),(2,vI i),(3,vI j),(11,vI p)],[]⟩
theorem x_impl_distances_of (c:Dists) (a:Str) (i j p:Int) (R:St→Option Fin) (K:Cont):evC (cb_dof.withLoops (look [])) (loopOf Tryz.f96 0) (st_dof c a i j p) (onward (headAt (cb_dof.withLoops (look [])) 7) R K)=(
branch (decide (p<j)) (
 need (inr p (W64 (p+1)) (length c.snd.fst)) <|
 branch (decide ((List.take ((W64 (p+1)).toNat-p.toNat) (List.drop p.toNat c.snd.fst))=a)) ( K (.ret) (.mk [(8,(vI (W64 (W64 (j-i)-1))))] [])) ( R (st_dof c a i j (W64 (p+1))))) ( K (.exit 0) (.mk [(2,vI i),(3,vI j)] []))):=by kernel_rfl
def cx0_dof:Cx:=(cb_dof).withLoops (look [])
def sh_dof:Sh:=([(0, .d (.ref TDs)),(1, .d .str),(2, .d TI64),(3, .d TI64),(11, .d TI64)],[])
def pre_dof (c:Dists) (_a:Str) (i j p:Int):Bool:=decide (0≤i)&&(decide (i≤p)&&(decide (p≤j)&&(decide (j≤(length c.2.1:Int))&&decide (length c.2.1≤1000))))
def res_dof (c:Dists) (a:Str) (i j p:Int) (K:Cont):Option Fin:=branch (hasI c.2.1 a p j) (K .ret ⟨[(8,vI (j-i-1))],[]⟩) (K (.exit 0) ⟨[(2,vI i),(3,vI j)],[]⟩)
def mu_dof (_c:Dists) (_a:Str) (_i j p:Int):Nat:=(j-p).toNat
theorem r_dof (c:Dists) (a:Str) (i j p:Int) (K:Cont) (hI:pre_dof c a i j p=true):(∀R:St→Option Fin,evC cx0_dof (loopOf Tryz.f96 0) (st_dof c a i j p) (onward (headAt cx0_dof 7) R K)=res_dof c a i j p K) ∨
  (∃(c':Dists) (a':Str) (i' j' p':Int),pre_dof c' a' i' j' p'=true∧mu_dof c' a' i' j' p'<mu_dof c a i j p∧res_dof c' a' i' j' p' K=res_dof c a i j p K∧∀R:St→Option Fin,evC cx0_dof (loopOf Tryz.f96 0) (st_dof c a i j p) (onward (headAt cx0_dof 7) R K)=R (st_dof c' a' i' j' p')):=by
 have hx:=fun R=>x_impl_distances_of c a i j p R K;simp only[pre_dof,andd,dec_iff]at hI;obtain⟨h0,h1,h2,h3,h4⟩:=hI
 by_cases hp:p<j
 ·have w:W64 (p+1)=p+1:=wrap_small (by omega) (by omega);have w2:W64 (W64 (j-i)-1)=j-i-1:=by
   rw[show W64 (j-i)=j-i from wrap_small (by omega) (by omega)];exact wrap_small (by omega) (by omega)
  obtain⟨m,hm⟩:∃m,(j-p).toNat=m+1:=⟨(j-p).toNat-1,by omega⟩;have hm2:(j-(p+1)).toNat=m:=by omega
  have hg:hasI c.2.1 a p j=(decide (([c.2.1.getD p.toNat 0]:Str)=a)||hasI c.2.1 a (p+1) j):=by
   unfold hasI;rw[hm,hm2];rfl
  rw[zT hp,w,w2,inr_iff.2 (by omega:0≤p∧p≤p+1∧p+1≤(length c.2.1:Int)),slice_one (by omega) (by omega)]at hx;change ∀R:St→Option Fin,_=branch (decide (([c.2.1.getD p.toNat 0]:Str)=a)) _ _ at hx
  cases hc:decide (([c.2.1.getD p.toNat 0]:Str)=a)
  ·right;rw[hc]at hx hg;refine⟨c,a,i,j,p+1, ?_, ?_, ?_,fun R=>hx R⟩
   ·simp only[pre_dof,andd,dec_iff];exact⟨h0,by omega,by omega,h3,h4⟩
   ·simp only[mu_dof];omega
   ·simp only[res_dof,hg,Bool.false_or]
  ·left;intro R;refine(hx R).trans ?_;rw[hc,Bool.true_or]at hg;rw[hc];simp only[res_dof,hg];rfl
 ·left;intro R;refine(hx R).trans ?_;have hg:hasI c.2.1 a p j=false:=by
   unfold hasI;rw[show (j-p).toNat=0 by omega];rfl
  rw[zF hp];simp only[res_dof,hg];rfl
def g_dof:St→Cont→Option Fin:=gP sh_dof (fun v=>match v with | ((c,a,i,j,p,()),())=>pre_dof c a i j p) (fun v K=>match v with | ((c,a,i,j,p,()),())=>res_dof c a i j p K)
def L_dof:LpL:=(7,g_dof)::[]
def cx_dof:Cx:=(cb_dof).withLoops (look L_dof)
theorem l_dof {L:LpL} (n:Nat) (h1:L.drop n=[]) (h2:idsFree (L.take n) (loopOf Tryz.f96 0)=true):LoopsTo g_dof (cb_dof) (loopOf Tryz.f96 0) 7 L :=
 with_drop h1 h2 (gP_ok (fun v=>match v with | ((c,a,i,j,p,()),())=>mu_dof c a i j p) fun v K hI=>by
  obtain⟨⟨c,a,i,j,p,⟨⟩⟩,⟨⟩⟩:=v;exact(r_dof c a i j p K hI).imp id fun⟨c',a',i',j',p',h⟩=>⟨((c',a',i',j',p',()),()),h⟩)
theorem y_impl_distances_of (c:Dists) (a:Str) (i:Int) (j:Int):evFn cx_dof Tryz.f96 true [ofD (.ref TDs) c,ofD .str a,ofD TI64 i,ofD TI64 j] []=(
branch (bigS a) (
 branch ((mget TP TI64 (a,i,j) c.2.2).isSome) ( some ((vI (Option.getD (α:=Int) (mget TP TI64 (a,i,j) c.2.2) 0)),[])) ( some ((vI 1073741824),[]))) (
 need (pre_dof c a i j i) <|
 branch (hasI c.2.1 a i j) ( some ((vI (j-i-1)),[])) ( some ((vI (if 1<W64 (j-i)then W64 (j-i)else 1)),[])))):=by kernel_rfl
theorem s_impl_distances_of (c:Dists) (_hc:Fit (.ref TDs) c) (a:Str) (_ha:Fit .str a) (i:Int) (_hi:Fit TI64 i) (j:Int) (_hj:Fit TI64 j) (hpre:(okIJ c.2.1 i j&&decide (length c.2.1≤1000))=true):Sat Tryz.prog 96 [ofD (.ref TDs) c,ofD .str a,ofD TI64 i,ofD TI64 j] [] (.d (ofD TI64 (dofV c.2.1 c.2.2 a i j))) [] :=
 fn_sound (cx:=cx_dof) Tryz.func96 rfl ttOk Γ53ok mixed (fun c hc=>LoopsOk.all (l:=[(7,loopOf Tryz.f96 0)]) (by cases hc;kernel_rfl) ⟨atLoop rfl (l_dof 1 rfl (by kernel_rfl)),trivial⟩) (ro:=true) (by
  rw[andd,dec_iff]at hpre;obtain⟨h1,h2⟩:=hpre;obtain⟨i0,i1,i2⟩:=okIJ_iff.1 h1;rw[y_impl_distances_of];unfold dofV
  cases hb:bigS a
  ·have kp:pre_dof c a i j i=true:=by
    simp only[pre_dof,andd,dec_iff];exact⟨i0,Int.le_refl _,i1,i2,h2⟩
   have w:W64 (j-i)=j-i:=wrap_small (by omega) (by omega);rw[kp,w];unfold costZ
   cases hasI c.2.1 a i j<;>rfl
  ·unfold getD';show branch ((mget TP TI64 (a,i,j) c.2.2).isSome) _ _=(some (.d (ofD TI64 ((mget TP TI64 (a,i,j) c.2.2).getD never)),[]):Option Fin)
   cases mget TP TI64 (a,i,j) c.2.2<;>rfl)
def c_impl_distances_of:Con:=conT [(.ref TDs), .str,TI64,TI64] fun(c:Dists) (a:Str) (i:Int) (j:Int)=>(some (okIJ c.2.1 i j&&decide (length c.2.1≤1000)), .d (ofD TI64 (dofV c.2.1 c.2.2 a i j)))
theorem k_impl_distances_of:ConOk Tryz.prog 96 c_impl_distances_of:=conT_ok Tryz.call96 fun c hc a ha i hi j hj hqq=>s_impl_distances_of c hc a ha i hi j hj (pre_of hqq)
def Γ54:GL:=(96,c_impl_distances_of)::Γ53
theorem Γ54ok:GO Γ54 := .cons k_impl_distances_of Γ53ok
def cb_drl:Cx:=cxOf Γ54 Tryz.f95.ntmps [(12,[0,1,2,3,10,11,12,13,14,24,25,34,35,36]),(8,[0,1,2,3,10,11,24,25,34,35,36]),(4,[0,1,2,3,9,24,25])] [(0,[1,2,3,9]),(1,[0,1,2,3,9,24,25]),(2,[0,1,2,3,11,24,25]),(3,[0,1,2,3,10,11,24,25,34,35,36]),(4,[0,1,2,3,10,11,24,25,34,35,36]),(5,[0,1,2,3,10,11,12,13,14,24,25,34,35,36]),(1000000,[8])] [] []
abbrev st_dr3 (c:Dists) (a:Str) (i j p k v z n q m x:Int) (nx be:List (Int)):St:=⟨[(0, .d (ofD (.ref TDs) c)),(1,vS a),(2,vI i),(3,vI j),(10,vI p),(11, ko0),(12,vI k),(13,vI v),(14,vI z),(24,vI n),(25,vI q),(34, ko1),(35,vI m),(36,vI x)],[(500000,some (.lis 3 TI64 nx)),(500001,some (.lis 3 TI64 be))]⟩
theorem x_impl_distances_rule_2 (c:Dists) (a:Str) (i j p k v z n q m x:Int) (nx be:List Int) (R:St→Option Fin) (K:Cont):evC (cb_drl.withLoops (look [])) (loopOf Tryz.f95 2) (st_dr3 c a i j p k v z n q m x nx be) (onward (headAt (cb_drl.withLoops (look [])) 12) R K)=(
branch (decide (z<(nx.length:Int))) (
 need (inb z nx.length) <|
 need (inr p (W64 (p+1)) a.length) <|
 need (okIJ c.snd.fst (W64 (i+k)) (W64 (i+z))&&decide ((length c.snd.fst)≤1000)) <|
 need (inb z nx.length) <| R (st_dr3 c a i j p k v (W64 (z+1)) n q m x (nx.set z.toNat (if W64 (v+dofV c.snd.fst c.snd.snd (List.take ((W64 (p+1)).toNat-p.toNat) (List.drop p.toNat a)) (W64 (i+k)) (W64 (i+z)))<nx.getD z.toNat 0 then W64 (v+dofV c.snd.fst c.snd.snd (List.take ((W64 (p+1)).toNat-p.toNat) (List.drop p.toNat a)) (W64 (i+k)) (W64 (i+z)))else nx.getD z.toNat 0)) be)) ( K (.exit 4) (.mk [(0,(.d (.one (.r (.rf TDs c))))),(1,vS a),(2,vI i),(3,vI j),(10,vI p),(11,ko0),(24,vI n),(25,vI q),(34,ko1),(35,vI m),(36,vI x)] [(500000,some (.lis 3 TI64 nx)),(500001,some (.lis 3 TI64 be))]))):=by kernel_rfl
def okV (e:Int):Bool:=decide (0≤e)&&decide (e≤never)
theorem okV_iff {e:Int}:okV e=true↔0≤e∧e≤1073741824:=by unfold okV never;rw[andd,dec_iff,dec_iff]
def okLs (l:List Int):Bool:=List.all l okV
def okDm (m:DMap):Bool:=List.all m fun e=>okV e.2
theorem mget_mem {x:Part} {v:Int}:∀ {m:DMap},mget TP TI64 x m=some v→∃e∈m,e.2=v
 | [],h=>by cases h
 | (a,u)::m,h=>by
  have h:(bif eqDen TP x a then some u else mget TP TI64 x m)=some v:=h
  cases hc:eqDen TP x a
  ·rw[hc]at h;obtain⟨e,he,hv⟩:=mget_mem h;exact⟨e,mem_cons_of_mem _ he,hv⟩
  ·rw[hc]at h;exact⟨(a,u),mem_cons_self,Option.some.inj h⟩
theorem getD_ok {m:DMap} {x:Part} (h:okDm m=true):0≤getD' m x∧getD' m x≤1073741824:=by
 unfold getD'
 cases hg:mget TP TI64 x m with
 |none =>
  show(0:Int)≤never∧never≤1073741824;exact⟨by decide,by decide⟩
 |some v =>
  obtain⟨e,he,rfl⟩:=mget_mem hg;exact okV_iff.1 (all_eq_true.1 h e he)
theorem dofV_ok {s a:Str} {m:DMap} {i j:Int} (h:okDm m=true) (i0:0≤i) (i1:i≤j) (i2:j≤(length s:Int)) (hs:length s≤1000):0≤dofV s m a i j∧dofV s m a i j≤1073741824:=by
 unfold dofV
 cases bigS a
 ·rw[cond_false];unfold costZ
  cases hh:hasI s a i j
  ·rw[cond_false];split<;>omega
  ·rw[cond_true];have:i<j:=by
    by_cases hlt:i<j
    ·exact hlt
    ·unfold hasI at hh;rw[show (j-i).toNat=0 by omega]at hh
     cases hh
   omega
 ·rw[cond_true];exact getD_ok h
def relN (f:Int→Int):Nat→Int→List Int→List Int
 |0,_,l=>l
 |n+1,z,l=>relN f n (z+1) (l.set z.toNat (if f z<l.getD z.toNat 0 then f z else l.getD z.toNat 0))
theorem relN_len {f:Int→Int}:∀ {n:Nat} {z:Int} {l:List Int},(relN f n z l).length=l.length
 |0,_,_=>rfl
 |n+1,z,l=>by
  unfold relN;rw[relN_len,length_set]
theorem okLs_set {l:List Int} {i:Nat} {x:Int} (h:okLs l=true) (hx:okV x=true):okLs (l.set i x)=true:=all_eq_true.2 fun e he=>by
 rcases List.mem_or_eq_of_mem_set he with he | rfl
 ·exact all_eq_true.1 h e he
 ·exact hx
theorem okLs_at {l:List Int} {i:Nat} (h:okLs l=true) (hi:i<l.length):0≤l.getD i 0∧l.getD i 0≤1073741824:=okV_iff.1 (all_eq_true.1 h _ (getD_mem hi))
theorem relN_ok {f:Int→Int}:∀ {n:Nat} {z:Int} {l:List Int},0≤z→z+n≤(l.length:Int)→okLs l=true→(∀y,z≤y→y<z+n→0≤f y)→okLs (relN f n z l)=true
 |0,_,_,_,_,h,_=>h
 |n+1,z,l,h0,h1,h,hf=>by
  unfold relN;have hz:=okLs_at (i:=z.toNat) h (by omega);refine relN_ok (by omega) (by rw[length_set];omega) (okLs_set h (okV_iff.2 ?_)) fun y y0 y1=>hf y (by omega) (by omega)
  split
  ·have:=hf z (Int.le_refl _) (by omega);omega
  ·exact hz
abbrev drF (s:Str) (m:DMap) (c:Str) (i k v:Int):Int→Int:=fun z=>v+dofV s m c (i+k) (i+z)
abbrev drH (nx be:List Int):Heap:=[(500000,some (.lis 3 TI64 nx)),(500001,some (.lis 3 TI64 be))]
def cx0_dr3:Cx:=(cb_drl).withLoops (look [])
def sh_dr3:Sh:=([(0, .d (.ref TDs)),(1, .d .str),(2, .d TI64),(3, .d TI64),(10, .d TI64),(11, .own 500000),(12, .d TI64),(13, .d TI64),(14, .d TI64),(24, .d TI64),(25, .d TI64),(34, .own 500001),(35, .d TI64),(36, .d TI64)],[(500000, .lis 3 TI64),(500001, .lis 3 TI64)])
def pre_dr3 (c:Dists) (a:Str) (i j p k v z _n _q _m _x:Int) (nx _be:List (Int)):Bool:=decide (0≤i)&&(decide (0≤k)&&(decide (k≤z)&&(decide ((length nx:Int)=j-i+1)&&(decide (j≤(length c.2.1:Int))&&(decide (length c.2.1≤1000)&&(decide (0≤p)&&(decide (p<(length a:Int))&&(decide (length a≤1000)&&(okDm c.2.2&&(okLs nx&&okV v))))))))))
def res_dr3 (c:Dists) (a:Str) (i j p k v z n q m x:Int) (nx be:List (Int)) (K:Cont):Option Fin:=K (.exit 4) ⟨[(0, .d (ofD (.ref TDs) c)),(1,vS a),(2,vI i),(3,vI j),(10,vI p),(11, ko0),(24,vI n),(25,vI q),(34, ko1),(35,vI m),(36,vI x)],drH (relN (drF c.2.1 c.2.2 [getD a p.toNat 0] i k v) (length nx-z.toNat) z nx) be⟩
def mu_dr3 (_c:Dists) (_a:Str) (_i _j _p _k _v z _n _q _m _x:Int) (nx _be:List (Int)):Nat:=length nx-z.toNat
theorem r_dr3 (c:Dists) (a:Str) (i j p k v z n q m x:Int) (nx be:List (Int)) (K:Cont) (hI:pre_dr3 c a i j p k v z n q m x nx be=true):(∀R:St→Option Fin,evC cx0_dr3 (loopOf Tryz.f95 2) (st_dr3 c a i j p k v z n q m x nx be) (onward (headAt cx0_dr3 12) R K)=res_dr3 c a i j p k v z n q m x nx be K) ∨
  (∃(c':Dists) (a':Str) (i' j' p' k' v' z' n' q' m' x':Int) (nx' be':List (Int)),pre_dr3 c' a' i' j' p' k' v' z' n' q' m' x' nx' be'=true∧mu_dr3 c' a' i' j' p' k' v' z' n' q' m' x' nx' be'<mu_dr3 c a i j p k v z n q m x nx be∧res_dr3 c' a' i' j' p' k' v' z' n' q' m' x' nx' be' K=res_dr3 c a i j p k v z n q m x nx be K∧∀R:St→Option Fin,evC cx0_dr3 (loopOf Tryz.f95 2) (st_dr3 c a i j p k v z n q m x nx be) (onward (headAt cx0_dr3 12) R K)=R (st_dr3 c' a' i' j' p' k' v' z' n' q' m' x' nx' be')):=by
 have hx:=fun R=>x_impl_distances_rule_2 c a i j p k v z n q m x nx be R K;simp only[pre_dr3,andd,dec_iff]at hI;obtain⟨h0,h1,h2,h3,h4,h5,h6,h7,h8,h9,h10,h11⟩:=hI
 by_cases hz:z<(length nx:Int)
 ·have w:W64 (z+1)=z+1:=wrap_small (by omega) (by omega);have w1:W64 (p+1)=p+1:=wrap_small (by omega) (by omega);have w2:W64 (i+k)=i+k:=wrap_small (by omega) (by omega);have w3:W64 (i+z)=i+z:=wrap_small (by omega) (by omega);obtain⟨v0,v1⟩:=okV_iff.1 h11;obtain⟨d0,d1⟩:=dofV_ok (s:=c.2.1) (a:=[getD a p.toNat 0]) (m:=c.2.2) (i:=i+k) (j:=i+z) h9 (by omega) (by omega) (by omega) h5;have w4:W64 (v+dofV c.2.1 c.2.2 [getD a p.toNat 0] (i+k) (i+z))=v+dofV c.2.1 c.2.2 [getD a p.toNat 0] (i+k) (i+z):=wrap_small (by omega) (by omega);have kk:(okIJ c.2.1 (i+k) (i+z)&&decide (length c.2.1≤1000))=true:=andd.2 ⟨okIJ_iff.2 ⟨by omega,by omega,by omega⟩,zT h5⟩;obtain⟨y,hy⟩:∃y,length nx-z.toNat=y+1:=⟨length nx-z.toNat-1,by omega⟩;have hz2:=okLs_at (i:=z.toNat) h10 (by omega);rw[zT hz,inb_ok (by omega:0≤z) hz,w,w1,w2,w3,inr_iff.2 (by omega:0≤p∧p≤p+1∧p+1≤(length a:Int)),slice_one h6 h7,kk,w4]at hx;right;refine⟨c,a,i,j,p,k,v,z+1,n,q,m,x,List.set nx z.toNat (if drF c.2.1 c.2.2 [getD a p.toNat 0] i k v z<getD nx z.toNat 0 then drF c.2.1 c.2.2 [getD a p.toNat 0] i k v z else getD nx z.toNat 0),be, ?_, ?_, ?_,fun R=>hx R⟩
  ·simp only[pre_dr3,andd,dec_iff];rw[length_set];refine⟨h0,h1,by omega,h3,h4,h5,h6,h7,h8,h9,okLs_set h10 (okV_iff.2 ?_),h11⟩;rw[show drF c.2.1 c.2.2 [getD a p.toNat 0] i k v z=v+dofV c.2.1 c.2.2 [getD a p.toNat 0] (i+k) (i+z)from rfl]
   split<;>omega
  ·simp only[mu_dr3];rw[length_set];omega
  ·simp only[res_dr3];rw[length_set,hy,show length nx-(z+1).toNat=y by omega];rfl
 ·left;intro R;refine(hx R).trans ?_;rw[zF hz];have e:length nx-z.toNat=0:=by omega
  simp only[res_dr3,e];rfl
def g_dr3:St→Cont→Option Fin:=gP sh_dr3 (fun v=>match v with | ((c,a,i,j,p,k,v,z,n,q,m,x,()),(nx,be,()))=>pre_dr3 c a i j p k v z n q m x nx be) (fun v K=>match v with | ((c,a,i,j,p,k,v,z,n,q,m,x,()),(nx,be,()))=>res_dr3 c a i j p k v z n q m x nx be K)
def L_dr3:LpL:=(12,g_dr3)::[]
theorem l_dr3 {L:LpL} (n:Nat) (h1:L.drop n=[]) (h2:idsFree (L.take n) (loopOf Tryz.f95 2)=true):LoopsTo g_dr3 (cb_drl) (loopOf Tryz.f95 2) 12 L :=
 with_drop h1 h2 (gP_ok (fun v=>match v with | ((c,a,i,j,p,k,v,z,n,q,m,x,()),(nx,be,()))=>mu_dr3 c a i j p k v z n q m x nx be) fun v K hI=>by
  obtain⟨⟨c,a,i,j,p,k,v,z,n,q,m,x,⟨⟩⟩,⟨nx,be,⟨⟩⟩⟩:=v;exact(r_dr3 c a i j p k v z n q m x nx be K hI).imp id fun⟨c',a',i',j',p',k',v',z',n',q',m',x',nx',be',h⟩=>⟨((c',a',i',j',p',k',v',z',n',q',m',x',()),(nx',be',())),h⟩)
theorem x_impl_distances_rule_1 (c:Dists) (a:Str) (i j p n q m x:Int) (nx be:List Int) (R:St→Option Fin) (K:Cont):evC (cb_drl.withLoops (look L_dr3)) (loopOf Tryz.f95 1) ⟨[(0, .d (ofD (.ref TDs) c)),(1,vS a),(2,vI i),(3,vI j),(10,vI p),(11, ko0),(24,vI n),(25,vI q),(34, ko1),(35,vI m),(36,vI x)],drH nx be⟩ (onward (headAt (cb_drl.withLoops (look L_dr3)) 8) R K)=(
branch (decide (x<m)) (
 need (inb x be.length) <|
 branch (decide (be.getD x.toNat 0=1073741824)) ( R (.mk [(0,(.d (.one (.r (.rf TDs c))))),(1,vS a),(2,vI i),(3,vI j),(10,vI p),(11,ko0),(24,vI n),(25,vI q),(34,ko1),(35,vI m),(36,vI (W64 (x+1)))] [(500000,some (.lis 3 TI64 nx)),(500001,some (.lis 3 TI64 be))])) (
 need (pre_dr3 c a i j p x (be.getD x.toNat 0) x n q m x nx be) <| R (.mk [(0,(.d (.one (.r (.rf TDs c))))),(1,vS a),(2,vI i),(3,vI j),(10,vI p),(11,ko0),(24,vI n),(25,vI q),(34,ko1),(35,vI m),(36,vI (W64 (x+1)))] [(500000,(.some (.lis 3 TI64 (relN (drF c.snd.fst c.snd.snd [getD a p.toNat 0] i x (be.getD x.toNat 0)) (nx.length-x.toNat) x nx)))),(500001,some (.lis 3 TI64 be))]))) ( K (.exit 2) (.mk [(0,(.d (.one (.r (.rf TDs c))))),(1,vS a),(2,vI i),(3,vI j),(11,ko0),(24,vI n),(25,vI q)] [(500000,some (.lis 3 TI64 nx))]))):=by kernel_rfl
def stepM (s:Str) (m:DMap) (c:Str) (i:Int) (be:List Int) (x:Int) (nx:List Int):List Int:=bif decide (be.getD x.toNat 0=1073741824)then nx else relN (drF s m c i x (be.getD x.toNat 0)) (nx.length-x.toNat) x nx
def midF (s:Str) (m:DMap) (c:Str) (i:Int) (be:List Int):Nat→Int→List Int→List Int
 |0,_,nx=>nx
 |n+1,x,nx=>midF s m c i be n (x+1) (stepM s m c i be x nx)
theorem stepM_len {s:Str} {m:DMap} {c:Str} {i:Int} {be nx:List Int} {x:Int}:(stepM s m c i be x nx).length=nx.length:=by
 unfold stepM
 cases decide (be.getD x.toNat 0=1073741824)
 ·exact relN_len
 ·rfl
theorem midF_len {s:Str} {m:DMap} {c:Str} {i:Int} {be:List Int}:∀ {n:Nat} {x:Int} {nx:List Int},(midF s m c i be n x nx).length=nx.length
 |0,_,_=>rfl
 |n+1,x,nx=>by
  unfold midF;rw[midF_len,stepM_len]
theorem stepM_ok {s:Str} {m:DMap} {c:Str} {i:Int} {be nx:List Int} {x:Int} (hm:okDm m=true) (hs:length s≤1000) (i0:0≤i) (hl:i+nx.length≤(length s:Int)+1) (x0:0≤x) (hx:x<(nx.length:Int)) (hb:okLs be=true) (hbl:be.length=nx.length) (hn:okLs nx=true):okLs (stepM s m c i be x nx)=true:=by
 unfold stepM
 cases decide (be.getD x.toNat 0=1073741824)
 ·have hv:=okLs_at (i:=x.toNat) hb (by omega);refine relN_ok x0 (by omega) hn fun y y0 y1 => ?_;have:=dofV_ok (s:=s) (a:=c) (m:=m) (i:=i+x) (j:=i+y) hm (by omega) (by omega) (by omega) hs;show 0≤be.getD x.toNat 0+dofV s m c (i+x) (i+y);omega
 ·exact hn
def cx0_dr2:Cx:=(cb_drl).withLoops (look L_dr3)
def sh_dr2:Sh:=([(0, .d (.ref TDs)),(1, .d .str),(2, .d TI64),(3, .d TI64),(10, .d TI64),(11, .own 500000),(24, .d TI64),(25, .d TI64),(34, .own 500001),(35, .d TI64),(36, .d TI64)],[(500000, .lis 3 TI64),(500001, .lis 3 TI64)])
abbrev st_dr2 (c:Dists) (a:Str) (i j p n q m x:Int) (nx be:List (Int)):St:=⟨[(0, .d (ofD (.ref TDs) c)),(1,vS a),(2,vI i),(3,vI j),(10,vI p),(11, ko0),(24,vI n),(25,vI q),(34, ko1),(35,vI m),(36,vI x)],[(500000,some (.lis 3 TI64 nx)),(500001,some (.lis 3 TI64 be))]⟩
def pre_dr2 (c:Dists) (a:Str) (i j p _n _q m x:Int) (nx be:List (Int)):Bool:=decide (0≤i)&&(decide (0≤x)&&(decide (m=(length be:Int))&&(decide (length be=length nx)&&(decide ((length nx:Int)=j-i+1)&&(decide (j≤(length c.2.1:Int))&&(decide (length c.2.1≤1000)&&(decide (0≤p)&&(decide (p<(length a:Int))&&(decide (length a≤1000)&&(okDm c.2.2&&(okLs nx&&okLs be)))))))))))
def res_dr2 (c:Dists) (a:Str) (i j p n q _m x:Int) (nx be:List (Int)) (K:Cont):Option Fin:=K (.exit 2) ⟨[(0, .d (ofD (.ref TDs) c)),(1,vS a),(2,vI i),(3,vI j),(11, ko0),(24,vI n),(25,vI q)],[(500000,some (.lis 3 TI64 (midF c.2.1 c.2.2 [getD a p.toNat 0] i be (length be-x.toNat) x nx)))]⟩
def mu_dr2 (_c:Dists) (_a:Str) (_i _j _p _n _q _m x:Int) (_nx be:List (Int)):Nat:=length be-x.toNat
theorem r_dr2 (c:Dists) (a:Str) (i j p n q m x:Int) (nx be:List (Int)) (K:Cont) (hI:pre_dr2 c a i j p n q m x nx be=true):(∀R:St→Option Fin,evC cx0_dr2 (loopOf Tryz.f95 1) (st_dr2 c a i j p n q m x nx be) (onward (headAt cx0_dr2 8) R K)=res_dr2 c a i j p n q m x nx be K) ∨
  (∃(c':Dists) (a':Str) (i' j' p' n' q' m' x':Int) (nx' be':List (Int)),pre_dr2 c' a' i' j' p' n' q' m' x' nx' be'=true∧mu_dr2 c' a' i' j' p' n' q' m' x' nx' be'<mu_dr2 c a i j p n q m x nx be∧res_dr2 c' a' i' j' p' n' q' m' x' nx' be' K=res_dr2 c a i j p n q m x nx be K∧∀R:St→Option Fin,evC cx0_dr2 (loopOf Tryz.f95 1) (st_dr2 c a i j p n q m x nx be) (onward (headAt cx0_dr2 8) R K)=R (st_dr2 c' a' i' j' p' n' q' m' x' nx' be')):=by
 have hx:=fun R=>x_impl_distances_rule_1 c a i j p n q m x nx be R K;simp only[pre_dr2,andd,dec_iff]at hI;obtain⟨h0,h1,rfl,h2,h3,h4,h5,h6,h7,h8,h9,h10,h11⟩:=hI
 by_cases hz:x<(length be:Int)
 ·have w:W64 (x+1)=x+1:=wrap_small (by omega) (by omega);obtain⟨y,hy⟩:∃y,length be-x.toNat=y+1:=⟨length be-x.toNat-1,by omega⟩;have hy2:length be-(x+1).toNat=y:=by omega
  have hv:=okLs_at (i:=x.toNat) h11 (by omega);have hok:=stepM_ok (c:=[getD a p.toNat 0]) (be:=be) (nx:=nx) (x:=x) h9 h5 h0 (by omega) h1 (by omega) h11 h2 h10;have kp:pre_dr3 c a i j p x (getD be x.toNat 0) x n q (length be:Int) x nx be=true:=by
   simp only[pre_dr3,andd,dec_iff];exact⟨h0,h1,Int.le_refl _,h3,h4,h5,h6,h7,h8,h9,h10,okV_iff.2 hv⟩
  rw[zT hz,inb_ok h1 hz,w,kp]at hx;right;refine⟨c,a,i,j,p,n,q,(length be:Int),x+1,stepM c.2.1 c.2.2 [getD a p.toNat 0] i be x nx,be, ?_, ?_, ?_,fun R=>(hx R).trans ?_⟩
  ·simp only[pre_dr2,andd,dec_iff];rw[stepM_len];exact⟨h0,by omega,trivial,h2,h3,h4,h5,h6,h7,h8,h9,hok,h11⟩
  ·simp only[mu_dr2];omega
  ·simp only[res_dr2,hy,hy2];rfl
  ·unfold stepM
   cases decide (getD be x.toNat 0=1073741824)<;>rfl
 ·left;intro R;refine(hx R).trans ?_;rw[zF hz];have e:length be-x.toNat=0:=by omega
  simp only[res_dr2,e];rfl
def g_dr2:St→Cont→Option Fin:=gP sh_dr2 (fun v=>match v with | ((c,a,i,j,p,n,q,m,x,()),(nx,be,()))=>pre_dr2 c a i j p n q m x nx be) (fun v K=>match v with | ((c,a,i,j,p,n,q,m,x,()),(nx,be,()))=>res_dr2 c a i j p n q m x nx be K)
def L_dr2:LpL:=(8,g_dr2)::L_dr3
theorem l_dr2 {L:LpL} (n:Nat) (h1:L.drop n=L_dr3) (h2:idsFree (L.take n) (loopOf Tryz.f95 1)=true):LoopsTo g_dr2 (cb_drl) (loopOf Tryz.f95 1) 8 L :=
 with_drop h1 h2 (gP_ok (fun v=>match v with | ((c,a,i,j,p,n,q,m,x,()),(nx,be,()))=>mu_dr2 c a i j p n q m x nx be) fun v K hI=>by
  obtain⟨⟨c,a,i,j,p,n,q,m,x,⟨⟩⟩,⟨nx,be,⟨⟩⟩⟩:=v;exact(r_dr2 c a i j p n q m x nx be K hI).imp id fun⟨c',a',i',j',p',n',q',m',x',nx',be',h⟩=>⟨((c',a',i',j',p',n',q',m',x',()),(nx',be',())),h⟩)
abbrev st_dr1 (c:Dists) (a:Str) (i j n q:Int) (be:List (Int)):St:=⟨[(0, .d (ofD (.ref TDs) c)),(1,vS a),(2,vI i),(3,vI j),(9, ko0),(24,vI n),(25,vI q)],[(500000,some (.lis 3 TI64 be))]⟩
theorem x_impl_distances_rule (c:Dists) (a:Str) (i j n q:Int) (be:List Int) (R:St→Option Fin) (K:Cont):evC (cb_drl.withLoops (look L_dr2)) (loopOf Tryz.f95 0) (st_dr1 c a i j n q be) (onward (headAt (cb_drl.withLoops (look L_dr2)) 4) R K)=(
branch (decide (q<n)) (
 need (decide ([1073741824].length=1)&&(decide (1≤W64 (W64 (j-i)+1))&&decide (W64 (W64 (j-i)+1)≤1001))) <|
 need (pre_dr2 c a i j q n q ((be.length:Int)) 0 (replicate (W64 (W64 (j-i)+1)).toNat ([1073741824].getD 0 0)) be) <| R (st_dr1 c a i j n (W64 (q+1)) (midF c.snd.fst c.snd.snd [getD a q.toNat 0] i be (be.length-(0:Int).toNat) 0 (replicate (W64 (W64 (j-i)+1)).toNat ([1073741824].getD 0 0))))) ( K (.exit 0) (.mk [(1,vS a),(2,vI i),(3,vI j),(9,ko0)] [(500000,some (.lis 3 TI64 be))]))):=by kernel_rfl
def outF (s:Str) (m:DMap) (i:Int):Str→List Int→List Int
 | [],be=>be
 |c::r,be=>outF s m i r (midF s m [c] i be be.length 0 (replicate be.length never))
theorem midF_ok {s:Str} {m:DMap} {c:Str} {i:Int} {be:List Int} (hm:okDm m=true) (hs:length s≤1000) (i0:0≤i) (hb:okLs be=true):∀ {n:Nat} {x:Int} {nx:List Int},i+nx.length≤(length s:Int)+1→0≤x→x+n≤(nx.length:Int)→be.length=nx.length→okLs nx=true→okLs (midF s m c i be n x nx)=true
 |0,_,_,_,_,_,_,h=>h
 |n+1,x,nx,hl,x0,hx,hbl,h=>by
  unfold midF;exact midF_ok hm hs i0 hb (by rw[stepM_len];exact hl) (by omega) (by rw[stepM_len];omega) (by rw[stepM_len];exact hbl) (stepM_ok hm hs i0 hl x0 (by omega) hb hbl h)
theorem okLs_rep {n:Nat}:okLs (replicate n never)=true:=all_eq_true.2 fun e he=>by
 rw[List.eq_of_mem_replicate he];decide
theorem outF_ok {s:Str} {m:DMap} {i:Int} (hm:okDm m=true) (hs:length s≤1000) (i0:0≤i):∀ {r:Str} {be:List Int},i+be.length≤(length s:Int)+1→okLs be=true→okLs (outF s m i r be)=true∧(outF s m i r be).length=be.length
 | [],_,_,h=>⟨h,rfl⟩
 |c::r,be,hl,h=>by
  have h1:=midF_ok (c:=[c]) (n:=be.length) (x:=0) (nx:=replicate be.length never) hm hs i0 h (by rw[length_replicate];exact hl) (Int.le_refl 0) (by rw[length_replicate];omega) (by rw[length_replicate]) okLs_rep;have h2:(midF s m [c] i be be.length 0 (replicate be.length never)).length=be.length:=by rw[midF_len,length_replicate]
  have:=outF_ok hm hs i0 (r:=r) (by rw[h2];exact hl) h1;unfold outF;exact⟨this.1,by rw[this.2,h2]⟩
def cx0_dr1:Cx:=(cb_drl).withLoops (look L_dr2)
def sh_dr1:Sh:=([(0, .d (.ref TDs)),(1, .d .str),(2, .d TI64),(3, .d TI64),(9, .own 500000),(24, .d TI64),(25, .d TI64)],[(500000, .lis 3 TI64)])
def pre_dr1 (c:Dists) (a:Str) (i j n q:Int) (be:List (Int)):Bool:=decide (0≤i)&&(decide (i≤j)&&(decide (0≤q)&&(decide (n=(length a:Int))&&(decide (length a≤1000)&&(decide ((length be:Int)=j-i+1)&&(decide (j≤(length c.2.1:Int))&&(decide (length c.2.1≤1000)&&(okDm c.2.2&&okLs be))))))))
def res_dr1 (c:Dists) (a:Str) (i j _n q:Int) (be:List (Int)) (K:Cont):Option Fin:=K (.exit 0) ⟨[(1,vS a),(2,vI i),(3,vI j),(9, ko0)],[(500000,some (.lis 3 TI64 (outF c.2.1 c.2.2 i (List.drop q.toNat a) be)))]⟩
def mu_dr1 (_c:Dists) (a:Str) (_i _j _n q:Int) (_be:List (Int)):Nat:=length a-q.toNat
theorem r_dr1 (c:Dists) (a:Str) (i j n q:Int) (be:List (Int)) (K:Cont) (hI:pre_dr1 c a i j n q be=true):(∀R:St→Option Fin,evC cx0_dr1 (loopOf Tryz.f95 0) (st_dr1 c a i j n q be) (onward (headAt cx0_dr1 4) R K)=res_dr1 c a i j n q be K) ∨
  (∃(c':Dists) (a':Str) (i' j' n' q':Int) (be':List (Int)),pre_dr1 c' a' i' j' n' q' be'=true∧mu_dr1 c' a' i' j' n' q' be'<mu_dr1 c a i j n q be∧res_dr1 c' a' i' j' n' q' be' K=res_dr1 c a i j n q be K∧∀R:St→Option Fin,evC cx0_dr1 (loopOf Tryz.f95 0) (st_dr1 c a i j n q be) (onward (headAt cx0_dr1 4) R K)=R (st_dr1 c' a' i' j' n' q' be')):=by
 have hx:=fun R=>x_impl_distances_rule c a i j n q be R K;simp only[pre_dr1,andd,dec_iff]at hI;obtain⟨h0,h1,h2,rfl,h3,h4,h5,h6,h7,h8⟩:=hI
 by_cases hq:q<(length a:Int)
 ·have w:W64 (q+1)=q+1:=wrap_small (by omega) (by omega);have w2:W64 (W64 (j-i)+1)=j-i+1:=by
   rw[show W64 (j-i)=j-i from wrap_small (by omega) (by omega)];exact wrap_small (by omega) (by omega)
  have e1:replicate (j-i+1).toNat (([1073741824]:List Int).getD 0 0)=replicate be.length never:=by
   rw[show (j-i+1).toNat=be.length by omega];rfl
  have kk:(decide (([1073741824]:List Int).length=1)&&(decide (1≤j-i+1)&&decide (j-i+1≤1001)))=true:=andd.2 ⟨rfl,andd.2 ⟨zT (by omega),zT (by omega)⟩⟩;have e2:be.length-(0:Int).toNat=be.length:=rfl;have kp:pre_dr2 c a i j q (length a:Int) q (be.length:Int) 0 (replicate be.length never) be=true:=by
   simp only[pre_dr2,andd,dec_iff];rw[length_replicate];exact⟨h0,Int.le_refl 0,trivial,rfl,h4,h5,h6,h2,hq,h3,h7,okLs_rep,h8⟩
  have hd:List.drop q.toNat a=getD a q.toNat 0::List.drop (q+1).toNat a:=by
   have hn:q.toNat<length a:=by omega
   rw[drop_eq_getElem_cons hn,show (q+1).toNat=q.toNat+1 by omega,zG,zE hn];rfl
  rw[zT hq,w,w2]at hx;change ∀R:St→Option Fin,_=branch true (need (decide (([1073741824]:List Int).length=1)&&(decide (1≤j-i+1)&&decide (j-i+1≤1001))) (need (pre_dr2 c a i j q (length a:Int) q (be.length:Int) 0 (replicate (j-i+1).toNat (([1073741824]:List Int).getD 0 0)) be) (R ⟨[(0, .d (ofD (.ref TDs) c)),(1,vS a),(2,vI i),(3,vI j),(9, ko0),(24,vI (length a:Int)),(25,vI (q+1))],[(500000,some (.lis 3 TI64 (midF c.2.1 c.2.2 [getD a q.toNat 0] i be (be.length-(0:Int).toNat) 0 (replicate (j-i+1).toNat (([1073741824]:List Int).getD 0 0)))))]⟩))) _ at hx;rw[kk,e1,e2,kp]at hx;right;refine⟨c,a,i,j,(length a:Int),q+1,midF c.2.1 c.2.2 [getD a q.toNat 0] i be be.length 0 (replicate be.length never), ?_, ?_, ?_,fun R=>hx R⟩
  ·simp only[pre_dr1,andd,dec_iff];rw[midF_len,length_replicate];exact⟨h0,h1,by omega,trivial,h3,h4,h5,h6,h7,midF_ok h7 h6 h0 h8 (by rw[length_replicate];omega) (Int.le_refl 0) (by rw[length_replicate];omega) (by rw[length_replicate]) okLs_rep⟩
  ·simp only[mu_dr1];omega
  ·simp only[res_dr1,hd];rfl
 ·left;intro R;refine(hx R).trans ?_;rw[zF hq];have e:List.drop q.toNat a=[]:=drop_eq_nil_of_le (by omega);simp only[res_dr1,e];rfl
def g_dr1:St→Cont→Option Fin:=gP sh_dr1 (fun v=>match v with | ((c,a,i,j,n,q,()),(be,()))=>pre_dr1 c a i j n q be) (fun v K=>match v with | ((c,a,i,j,n,q,()),(be,()))=>res_dr1 c a i j n q be K)
def L_dr1:LpL:=(4,g_dr1)::L_dr2
def cx_dr1:Cx:=(cb_drl).withLoops (look L_dr1)
theorem l_dr1 {L:LpL} (n:Nat) (h1:L.drop n=L_dr2) (h2:idsFree (L.take n) (loopOf Tryz.f95 0)=true):LoopsTo g_dr1 (cb_drl) (loopOf Tryz.f95 0) 4 L :=
 with_drop h1 h2 (gP_ok (fun v=>match v with | ((c,a,i,j,n,q,()),(be,()))=>mu_dr1 c a i j n q be) fun v K hI=>by
  obtain⟨⟨c,a,i,j,n,q,⟨⟩⟩,⟨be,⟨⟩⟩⟩:=v;exact(r_dr1 c a i j n q be K hI).imp id fun⟨c',a',i',j',n',q',be',h⟩=>⟨((c',a',i',j',n',q',()),(be',())),h⟩)
def ruleV (s:Str) (m:DMap) (r:Str) (i j:Int):Int:=bif decide (r=[])then j-i else(outF s m i r (List.set (replicate (j-i+1).toNat never) 0 0)).getD (j-i).toNat 0
theorem init_ok {n:Nat}:okLs (List.set (replicate n never) 0 0)=true:=okLs_set okLs_rep rfl
theorem ruleV_ok {s:Str} {m:DMap} {r:Str} {i j:Int} (hm:okDm m=true) (hs:length s≤1000) (i0:0≤i) (i1:i≤j) (i2:j≤(length s:Int)):0≤ruleV s m r i j:=by
 unfold ruleV
 cases decide (r=[])
 ·obtain ⟨h1,h2⟩:=outF_ok (r:=r) (be:=List.set (replicate (j-i+1).toNat never) 0 0) hm hs i0 (by rw[length_set,length_replicate];omega) init_ok;rw[length_set,length_replicate]at h2;exact(okLs_at h1 (by omega)).1
 ·rw[cond_true];omega
theorem y_impl_distances_rule (c:Dists) (a:Str) (i:Int) (j:Int):evFn cx_dr1 Tryz.f95 true [ofD (.ref TDs) c,ofD .str a,ofD TI64 i,ofD TI64 j] []=(
need (decide (([1073741824]:List Int).length=1)&&(decide (1≤W64 (W64 (j-i)+1))&&decide (W64 (W64 (j-i)+1)≤1001))) <|
need (inb 0 (replicate (W64 (W64 (j-i)+1)).toNat (([1073741824]:List Int).getD 0 0)).length) <|
need (pre_dr1 c a i j ((a.length:Int)) 0 ((replicate (W64 (W64 (j-i)+1)).toNat (([1073741824]:List Int).getD 0 0)).set ((0:Int).toNat) 0)) <|
branch (decide (a=[])) ( some ((vI (W64 (j-i))),[])) (
 need (inb (W64 (j-i)) (outF c.snd.fst c.snd.snd i a ((replicate (W64 (W64 (j-i)+1)).toNat (([1073741824]:List Int).getD 0 0)).set ((0:Int).toNat) 0)).length) <| some ((vI ((outF c.snd.fst c.snd.snd i a ((replicate (W64 (W64 (j-i)+1)).toNat (([1073741824]:List Int).getD 0 0)).set ((0:Int).toNat) 0)).getD (W64 (j-i)).toNat 0)),[]))):=by kernel_rfl
theorem s_impl_distances_rule (c:Dists) (_hc:Fit (.ref TDs) c) (a:Str) (_ha:Fit .str a) (i:Int) (_hi:Fit TI64 i) (j:Int) (_hj:Fit TI64 j) (hpre:(okIJ c.2.1 i j&&(decide (length c.2.1≤1000)&&(decide (length a≤1000)&&okDm c.2.2)))=true):Sat Tryz.prog 95 [ofD (.ref TDs) c,ofD .str a,ofD TI64 i,ofD TI64 j] [] (.d (ofD TI64 (ruleV c.2.1 c.2.2 a i j))) [] :=
 fn_sound (cx:=cx_dr1) Tryz.func95 rfl ttOk Γ54ok mixed (fun c hc=>LoopsOk.all (l:=[(4,loopOf Tryz.f95 0),(8,loopOf Tryz.f95 1),(12,loopOf Tryz.f95 2)]) (by cases hc;kernel_rfl) ⟨atLoop rfl (l_dr1 1 rfl (by kernel_rfl)),atLoop rfl (l_dr2 2 rfl (by kernel_rfl)),atLoop rfl (l_dr3 3 rfl (by kernel_rfl)),trivial⟩) (ro:=true) (by
  simp only[andd,dec_iff]at hpre;obtain⟨h1,h2,h3,h4⟩:=hpre;obtain⟨i0,i1,i2⟩:=okIJ_iff.1 h1;rw[y_impl_distances_rule];have w:W64 (j-i)=j-i:=wrap_small (by omega) (by omega);have w2:W64 (W64 (j-i)+1)=j-i+1:=by
   rw[w];exact wrap_small (by omega) (by omega)
  have kk:(decide (([1073741824]:List Int).length=1)&&(decide (1≤j-i+1)&&decide (j-i+1≤1001)))=true:=andd.2 ⟨rfl,andd.2 ⟨zT (by omega),zT (by omega)⟩⟩;have e1:(([1073741824]:List Int).getD 0 0)=never:=rfl;have hl:((replicate (j-i+1).toNat never).set (0:Int).toNat 0).length=(j-i+1).toNat:=by rw[length_set,length_replicate]
  have kb:inb 0 (replicate (j-i+1).toNat never).length=true:=by
   rw[length_replicate];exact inb_ok (by omega) (by omega)
  obtain⟨o1,o2⟩:=outF_ok (r:=a) (be:=(replicate (j-i+1).toNat never).set (0:Int).toNat 0) h4 h2 i0 (by rw[hl];omega) init_ok;have kp:pre_dr1 c a i j (a.length:Int) 0 ((replicate (j-i+1).toNat never).set (0:Int).toNat 0)=true:=by
   simp only[pre_dr1,andd,dec_iff];rw[hl];exact⟨i0,i1,Int.le_refl 0,trivial,h3,by omega,i2,h2,h4,init_ok⟩
  have kq:inb (j-i) (outF c.2.1 c.2.2 i a ((replicate (j-i+1).toNat never).set (0:Int).toNat 0)).length=true:=by
   rw[o2,hl];exact inb_ok (by omega) (by omega)
  rw[w2,w,kk,e1,kb,kp,kq];unfold ruleV
  cases decide (a=[])<;>rfl)
def c_impl_distances_rule:Con:=conT [(.ref TDs), .str,TI64,TI64] fun(c:Dists) (a:Str) (i:Int) (j:Int)=>(some (okIJ c.2.1 i j&&(decide (length c.2.1≤1000)&&(decide (length a≤1000)&&okDm c.2.2))), .d (ofD TI64 (ruleV c.2.1 c.2.2 a i j)))
theorem k_impl_distances_rule:ConOk Tryz.prog 95 c_impl_distances_rule:=conT_ok Tryz.call95 fun c hc a ha i hi j hj hqq=>s_impl_distances_rule c hc a ha i hi j hj (pre_of hqq)
def Γ55:GL:=(95,c_impl_distances_rule)::Γ54
theorem Γ55ok:GO Γ55 := .cons k_impl_distances_rule Γ54ok
def cb_far:Cx:=(cxOf Γ55 Tryz.f46.ntmps [(12,[1,2,5,6,7,8,32,33,34]),(9,[1,2,5,6,7,8]),(6,[1,2,5,6,7]),(3,[1,2,5,6])] [(0,[1,2,5]),(1,[1,2,5,6]),(2,[1,2,5,6]),(3,[1,2,5,6,7]),(4,[1,2,5,6,7]),(5,[1,2,5,6,7,8]),(6,[1,2,5,6,7,8]),(7,[1,2,5,6,7,8,32,33,34]),(1000000,[4])] [] [])
abbrev dsO (a:Str) (l:List Rule) (s:Str) (i:Nat):Option Obj:=some (.box 103 [.r (.v (.string (mk a))), .r (.li TRu l), .r (.v (.string (mk s))), .own i])
abbrev dsH (g:Gram) (a:Str) (l:List Rule) (s:Str) (m:DMap):Heap:=[(500000,some (boxD 25 TG g)),(500001,dsO a l s 500002),(500002,some (.map TP TI64 m))]
theorem x_impl_farFrom_3 (t s a:Str) (g:Gram) (l q:List Rule) (m:DMap) (b:Bool) (i j n k:Int) (R:St→Option Fin) (K:Cont):evC (cb_far.withLoops (look [])) (loopOf Tryz.f46 3) ⟨[(1,vS t),(2, kp0),(5, kp1),(6,vB b),(7,vI i),(8,vI j),(32, .d (ofD TRL l)),(33,vI n),(34,vI k)],[(500000,some (boxD 25 TG g)),(500001,dsO a q s 500002),(500002,some (.map TP TI64 m))]⟩ (onward (headAt (cb_far.withLoops (look [])) 12) R K)=(
branch (decide (k<n)) (
 need (inb k l.length) <|
 need (okIJ s i j&&(decide (s.length≤1000)&&(decide ((length (l.getD k.toNat d0).snd)≤1000)&&okDm m))) <|
 need (okIJ s i j&&decide (s.length≤1000)) <|
 branch (decide (ruleV s m (l.getD k.toNat d0).snd i j<dofV s m (l.getD k.toNat d0).fst i j)) ( R (.mk [(1,vS t),(2,kp0),(5,kp1),(6,vB true),(7,vI i),(8,vI j),(32,(.d (.one (.r (.li TRu l))))),(33,vI n),(34,vI (W64 (k+1)))] [(500000,some (boxD 25 TG g)),(500001,(.some (.box 103 [(.r (.v (Value.string (mk a)))),(.r (.li TRu q)),(.r (.v (Value.string (mk s)))),(.own 500002)]))),(500002,(.some (.map ty106 ty3 (mset ty106 ty3 ((l.getD k.toNat d0).fst,i,j) (ruleV s m (l.getD k.toNat d0).snd i j) m))))])) ( R (.mk [(1,vS t),(2,kp0),(5,kp1),(6,vB b),(7,vI i),(8,vI j),(32,(.d (.one (.r (.li TRu l))))),(33,vI n),(34,vI (W64 (k+1)))] [(500000,some (boxD 25 TG g)),(500001,(.some (.box 103 [(.r (.v (Value.string (mk a)))),(.r (.li TRu q)),(.r (.v (Value.string (mk s)))),(.own 500002)]))),(500002,(.some (.map TP TI64 m)))]))) ( K (.exit 6) (.mk [(1,vS t),(2,kp0),(5,kp1),(6,vB b),(7,vI i),(8,vI j)] [(500000,some (boxD 25 TG g)),(500001,(.some (.box 103 [(.r (.v (Value.string (mk a)))),(.r (.li TRu q)),(.r (.v (Value.string (mk s)))),(.own 500002)]))),(500002,(.some (.map TP TI64 m)))]))):=by kernel_rfl
def putD (q:Part) (v:Int) (m:DMap):DMap:=mset TP TI64 q v m
def stepRD (s:Str) (i j:Int) (r:Rule) (p:DMap×Bool):DMap×Bool:=bif decide (ruleV s p.1 r.2 i j<dofV s p.1 r.1 i j)then(putD (r.1,i,j) (ruleV s p.1 r.2 i j) p.1,true)else p
def rulesD (s:Str) (i j:Int):List Rule→DMap×Bool→DMap×Bool
 | [],p=>p
 |r::l,p=>rulesD s i j l (stepRD s i j r p)
def tosD (s:Str) (l:List Rule) (i:Int):Nat→Int→DMap×Bool→DMap×Bool
 |0,_,p=>p
 |n+1,j,p=>tosD s l i n (j+1) (rulesD s i j l p)
def fromsD (s:Str) (l:List Rule):Nat→DMap×Bool→DMap×Bool
 |0,p=>p
 |n+1,p=>fromsD s l n (tosD s l (n:Int) (s.length+1-n) (n:Int) p)
theorem rulesD_at {s:Str} {i j k:Int} {l:List Rule} {p:DMap×Bool} (h0:0≤k) (h1:k<(l.length:Int)):rulesD s i j (l.drop k.toNat) p=rulesD s i j (l.drop (k+1).toNat) (stepRD s i j (l.getD k.toNat d0) p):=by
 have hn:k.toNat<l.length:=by omega
 rw[drop_eq_getElem_cons hn,show (k+1).toNat=k.toNat+1 by omega,zG,zE hn];rfl
def stepVD (s:Str) (v:Vis) (p:DMap×Bool):DMap×Bool:=stepRD s v.1 v.2.1 v.2.2 p
theorem rulesD_vis {s:Str} {i j:Int}:∀ {l:List Rule} {p:DMap×Bool},rulesD s i j l p=foldG (stepVD s) (visR i j l) p
 | [],_=>rfl
 |r::l,p=>rulesD_vis (l:=l) (p:=stepRD s i j r p)
theorem tosD_vis {s:Str} {l:List Rule} {i:Int}:∀ {n:Nat} {j:Int} {p:DMap×Bool},tosD s l i n j p=foldG (stepVD s) (visT l i n j) p
 |0,_,_=>rfl
 |n+1,j,p=>by
  show tosD s l i n (j+1) (rulesD s i j l p)=foldG (stepVD s) (visR i j l++visT l i n (j+1)) p;rw[foldG_app,← rulesD_vis,tosD_vis]
theorem fromsD_vis {s:Str} {l:List Rule}:∀ {n:Nat} {p:DMap×Bool},fromsD s l n p=foldG (stepVD s) (visF s l n) p
 |0,_=>rfl
 |n+1,p=>by
  show fromsD s l n (tosD s l (n:Int) (s.length+1-n) (n:Int) p)=foldG (stepVD s) (visT l (n:Int) (s.length+1-n) (n:Int)++visF s l n) p;rw[foldG_app,← tosD_vis,fromsD_vis]
theorem okDm_set {q:Part} {v:Int} (hv:okV v=true):∀ {m:DMap},okDm m=true→okDm (putD q v m)=true
 | [],_=>by
  show(okV v&&true)=true;rw[hv];rfl
 | (a,u)::m,h=>by
  obtain⟨h1,h2⟩:=andd.1 (show (okV u&&okDm m)=true from h);show okDm (bif eqDen TP q a then(q,v)::m else(a,u)::putD q v m)=true
  cases eqDen TP q a
  ·exact andd.2 ⟨h1,okDm_set hv h2⟩
  ·exact andd.2 ⟨hv,h2⟩
theorem getD_cons {x a:Part} {u:Int} {m:DMap}:getD' ((a,u)::m) x=bif decide (x=a)then u else getD' m x:=by
 rw[← eqP_dec];show(bif eqDen TP x a then some u else mget TP TI64 x m).getD never=_
 cases eqDen TP x a<;>rfl
theorem getDm_set {q x:Part} {v:Int}:∀ {m:DMap},getD' (putD q v m) x=bif decide (x=q)then v else getD' m x
 | []=>getD_cons (m:=[])
 | (a,u)::m=>by
  have ih:=getDm_set (q:=q) (x:=x) (v:=v) (m:=m);show getD' (bif eqDen TP q a then(q,v)::m else(a,u)::putD q v m) x=_;rw[eqP_dec,getD_cons]
  by_cases h1:q=a
  ·subst h1;rw[zT rfl,cond_true,getD_cons]
   cases decide (x=q)<;>rfl
  ·rw[zF h1,cond_false];refine getD_cons.trans ?_
   by_cases h:x=a
   ·have hx:¬x=q:=fun e=>h1 (e.symm.trans h);rw[zF hx,zT h];rfl
   ·rw[zF h,cond_false,cond_false,ih]
theorem stepRD_ok {s:Str} {i j:Int} {r:Rule} {p:DMap×Bool} (hs:length s≤1000) (i0:0≤i) (i1:i≤j) (i2:j≤(length s:Int)) (hm:okDm p.1=true):okDm (stepRD s i j r p).1=true:=by
 unfold stepRD
 cases hc:decide (ruleV s p.1 r.2 i j<dofV s p.1 r.1 i j)
 ·exact hm
 ·have h1:=ruleV_ok (r:=r.2) hm hs i0 i1 i2;have h2:=dofV_ok (a:=r.1) hm i0 i1 i2 hs;have h3:=dec_iff.1 hc;exact okDm_set (okV_iff.2 ⟨h1,by omega⟩) hm
theorem rulesD_ok {s:Str} {i j:Int} (hs:length s≤1000) (i0:0≤i) (i1:i≤j) (i2:j≤(length s:Int)):∀ {l:List Rule} {p:DMap×Bool},okDm p.1=true→okDm (rulesD s i j l p).1=true
 | [],_,h=>h
 |r::l,p,h=>rulesD_ok (l:=l) (p:=stepRD s i j r p) hs i0 i1 i2 (stepRD_ok hs i0 i1 i2 h)
theorem tosD_ok {s:Str} {l:List Rule} {i:Int} (hs:length s≤1000) (i0:0≤i):∀ {n:Nat} {j:Int} {p:DMap×Bool},i≤j→j+n≤(length s:Int)+1→okDm p.1=true→okDm (tosD s l i n j p).1=true
 |0,_,_,_,_,h=>h
 |n+1,j,p,h1,h2,h=>tosD_ok (n:=n) (j:=j+1) (p:=rulesD s i j l p) hs i0 (by omega) (by omega) (rulesD_ok hs i0 h1 (by omega) h)
def okRd (l:List Rule):Bool:=decide (length l≤1000)&&List.all l (fun r=>decide (length r.2≤1000)&&bigS r.1)
theorem okRd_iff {l:List Rule}:okRd l=true↔l.length≤1000∧List.all l (fun r=>decide (length r.2≤1000)&&bigS r.1)=true:=by
 unfold okRd;rw[andd,dec_iff]
theorem okRd_at {l:List Rule} {r:Rule} (h:okRd l=true) (hr:r∈l):length r.2≤1000∧bigS r.1=true:=by
 obtain⟨h1,h2⟩:=andd.1 (all_eq_true.1 (okRd_iff.1 h).2 r hr);exact⟨dec_iff.1 h1,h2⟩
def ksD (v:Vis):List (Part×Int):=(List.range never.toNat).map fun(n:Nat)=>(keyV v,(n:Int))
def hasD (m:DMap) (x:Part×Int):Bool:=decide (getD' m x.1≤x.2)
def goodD (s:Str) (v:Vis):Prop:=0≤v.1∧v.1≤v.2.1∧v.2.1≤(length s:Int)∧bigS v.2.2.1=true
theorem stepVD_ok {s:Str} (hs:length s≤1000):StepOk (fun m=>okDm m=true) (goodD s) hasD ksD (stepVD s) where
 inv v p hG hI:=stepRD_ok hs hG.1 hG.2.1 hG.2.2.1 hI
 mono v p x hG hI h:=by
  obtain⟨g1,g2,g3,g4⟩:=hG;unfold stepVD stepRD
  cases hc:decide (ruleV s p.1 v.2.2.2 v.1 v.2.1<dofV s p.1 v.2.2.1 v.1 v.2.1)
  ·exact h
  ·show decide (getD' (putD (v.2.2.1,v.1,v.2.1) (ruleV s p.1 v.2.2.2 v.1 v.2.1) p.1) x.1≤x.2)=true;rw[getDm_set]
   by_cases he:x.1=(v.2.2.1,v.1,v.2.1)
   ·rw[zT he,cond_true];have h1:=dec_iff.1 hc;have h2:=dec_iff.1 h;unfold dofV at h1;rw[g4,cond_true,← he]at h1;exact zT (by omega)
   ·rw[zF he];exact h
 new v p hG hI h:=by
  obtain⟨g1,g2,g3,g4⟩:=hG;have h0:=ruleV_ok (r:=v.2.2.2) hI hs g1 g2 g3;have h2:=dofV_ok (a:=v.2.2.1) hI g1 g2 g3 hs;unfold stepVD stepRD at *
  cases hc:decide (ruleV s p.1 v.2.2.2 v.1 v.2.1<dofV s p.1 v.2.2.1 v.1 v.2.1)<;>rw[hc]at h
  ·exact .inl h
  ·have h1:=dec_iff.1 hc;refine .inr ⟨(keyV v,ruleV s p.1 v.2.2.2 v.1 v.2.1),List.mem_map.2 ⟨(ruleV s p.1 v.2.2.2 v.1 v.2.1).toNat,List.mem_range.2 ?_, ?_⟩, ?_, ?_⟩
   ·have:(never:Int)=1073741824:=rfl;omega
   ·rw[Int.toNat_of_nonneg h0]
   ·unfold dofV at h1;rw[g4,cond_true]at h1;exact zF (by show ¬getD' p.1 (v.2.2.1,v.1,v.2.1)≤_;omega)
   ·show decide (getD' (putD (v.2.2.1,v.1,v.2.1) (ruleV s p.1 v.2.2.2 v.1 v.2.1) p.1) (v.2.2.1,v.1,v.2.1)≤_)=true;rw[getDm_set,zT rfl,cond_true];exact zT (Int.le_refl _)
 quiet v p _ _ h:=by
  unfold stepVD stepRD at *
  cases hc:decide (ruleV s p.1 v.2.2.2 v.1 v.2.1<dofV s p.1 v.2.2.1 v.1 v.2.1)<;>rw[hc]at h
  ·exact ⟨h,rfl⟩
  ·cases h
def distM (s:Str) (l:List Rule):DMap:=runC hasD ksD (stepVD s) (visF s l (s.length+1)) []
theorem good_vis {s:Str} {l:List Rule} (h:okRd l=true):∀v∈visF s l (s.length+1),goodD s v:=fun v hv=>by
 obtain⟨v1,v2,v3,v4,v5⟩:=(mem_visF (Nat.le_refl _)).1 hv;exact⟨v1,v3,v4,(okRd_at h v5).2⟩
def cx0_d4:Cx:=(cb_far).withLoops (look [])
def sh_d4:Sh:=([(1, .d .str),(2, .ptr 500000 0),(5, .ptr 500001 0),(6, .d .bool),(7, .d TI64),(8, .d TI64),(32, .d TRL),(33, .d TI64),(34, .d TI64)],[(500000, .box 25 TG),(500001, .mix 103 [.d .str, .d TRL, .d .str, .own 500002]),(500002, .map TP TI64)])
abbrev st_d4 (t:Str) (b:Bool) (i j:Int) (l:List Rule) (n k:Int) (g:Gram) (a:Str) (q:List Rule) (s:Str) (m:List (Den TP×Den TI64)):St:=⟨[(1,vS t),(2, kp0),(5, kp1),(6,vB b),(7,vI i),(8,vI j),(32, .d (ofD TRL l)),(33,vI n),(34,vI k)],[(500000,some (boxD 25 TG g)),(500001,some (.box 103 ((cellsR .str a).map C.r++(cellsR TRL q).map C.r++(cellsR .str s).map C.r++[.own 500002]))),(500002,some (.map TP TI64 m))]⟩
def pre_d4 (_t:Str) (_b:Bool) (i j:Int) (l:List Rule) (n k:Int) (_g:Gram) (_a:Str) (_q:List Rule) (s:Str) (m:List (Den TP×Den TI64)):Bool:=decide (0≤k)&&(decide (n=(length l:Int))&&(okRd l&&(okIJ s i j&&(decide (length s≤1000)&&okDm m))))
def res_d4 (t:Str) (b:Bool) (i j:Int) (l:List Rule) (_n k:Int) (g:Gram) (a:Str) (q:List Rule) (s:Str) (m:List (Den TP×Den TI64)) (K:Cont):Option Fin:=K (.exit 6) ⟨[(1,vS t),(2, kp0),(5, kp1),(6,vB (rulesD s i j (List.drop k.toNat l) (m,b)).2),(7,vI i),(8,vI j)],dsH g a q s (rulesD s i j (List.drop k.toNat l) (m,b)).1⟩
def mu_d4 (_t:Str) (_b:Bool) (_i _j:Int) (l:List Rule) (_n k:Int) (_g:Gram) (_a:Str) (_q:List Rule) (_s:Str) (_m:List (Den TP×Den TI64)):Nat:=length l-k.toNat
theorem r_d4 (t:Str) (b:Bool) (i j:Int) (l:List Rule) (n k:Int) (g:Gram) (a:Str) (q:List Rule) (s:Str) (m:List (Den TP×Den TI64)) (K:Cont) (hI:pre_d4 t b i j l n k g a q s m=true):(∀R:St→Option Fin,evC cx0_d4 (loopOf Tryz.f46 3) (st_d4 t b i j l n k g a q s m) (onward (headAt cx0_d4 12) R K)=res_d4 t b i j l n k g a q s m K) ∨
  (∃(t':Str) (b':Bool) (i' j':Int) (l':List Rule) (n' k':Int) (g':Gram) (a':Str) (q':List Rule) (s':Str) (m':List (Den TP×Den TI64)),pre_d4 t' b' i' j' l' n' k' g' a' q' s' m'=true∧mu_d4 t' b' i' j' l' n' k' g' a' q' s' m'<mu_d4 t b i j l n k g a q s m∧res_d4 t' b' i' j' l' n' k' g' a' q' s' m' K=res_d4 t b i j l n k g a q s m K∧∀R:St→Option Fin,evC cx0_d4 (loopOf Tryz.f46 3) (st_d4 t b i j l n k g a q s m) (onward (headAt cx0_d4 12) R K)=R (st_d4 t' b' i' j' l' n' k' g' a' q' s' m')):=by
 have hx:=fun R=>x_impl_farFrom_3 t s a g l q m b i j n k R K;simp only[pre_d4,andd,dec_iff]at hI;obtain⟨h0,rfl,h2,h4,h5,h6⟩:=hI;obtain⟨i0,i1,i2⟩:=okIJ_iff.1 h4;have h3:=(okRd_iff.1 h2).1
 by_cases hk:k<(length l:Int)
 ·have w:W64 (k+1)=k+1:=wrap_small (by omega) (by omega);have hg:=rulesD_at (s:=s) (i:=i) (j:=j) (p:=(m,b)) h0 hk;have hmem:l.getD k.toNat d0∈l:=by
   have hn:k.toNat<length l:=by omega
   rw[getD_at hn];exact List.getElem_mem hn
  have hr:=(okRd_at h2 hmem).1;have k1:(okIJ s i j&&(decide (length s≤1000)&&(decide (length (l.getD k.toNat d0).2≤1000)&&okDm m)))=true:=andd.2 ⟨h4,andd.2 ⟨zT h5,andd.2 ⟨zT hr,h6⟩⟩⟩;have k2:(okIJ s i j&&decide (length s≤1000))=true:=andd.2 ⟨h4,zT h5⟩;have hok:=stepRD_ok (r:=l.getD k.toNat d0) (p:=(m,b)) h5 i0 i1 i2 h6;rw[zT hk,inb_ok h0 hk,w,k1,k2]at hx;change ∀R:St→Option Fin,_=branch (decide (ruleV s m (l.getD k.toNat d0).2 i j<dofV s m (l.getD k.toNat d0).1 i j)) _ _ at hx;have hst:stepRD s i j (l.getD k.toNat d0) (m,b)=bif decide (ruleV s m (l.getD k.toNat d0).2 i j<dofV s m (l.getD k.toNat d0).1 i j)then(putD ((l.getD k.toNat d0).1,i,j) (ruleV s m (l.getD k.toNat d0).2 i j) m,true)else(m,b):=rfl;right
  cases hc:decide (ruleV s m (l.getD k.toNat d0).2 i j<dofV s m (l.getD k.toNat d0).1 i j)
  ·rw[hc]at hx hst;rw[hst]at hg;refine⟨t,b,i,j,l,(length l:Int),k+1,g,a,q,s,m, ?_, ?_, ?_,fun R=>hx R⟩
   ·simp only[pre_d4,andd,dec_iff];exact⟨by omega,trivial,h2,h4,h5,h6⟩
   ·simp only[mu_d4];omega
   ·simp only[res_d4,hg];rfl
  ·rw[hc]at hx hst;rw[hst]at hg hok;refine⟨t,true,i,j,l,(length l:Int),k+1,g,a,q,s,putD ((l.getD k.toNat d0).1,i,j) (ruleV s m (l.getD k.toNat d0).2 i j) m, ?_, ?_, ?_,fun R=>hx R⟩
   ·simp only[pre_d4,andd,dec_iff];exact⟨by omega,trivial,h2,h4,h5,hok⟩
   ·simp only[mu_d4];omega
   ·simp only[res_d4,hg];rfl
 ·left;intro R;refine(hx R).trans ?_;rw[zF hk];have e:List.drop k.toNat l=[]:=drop_eq_nil_of_le (by omega);simp only[res_d4,e];rfl
def g_d4:St→Cont→Option Fin:=gP sh_d4 (fun v=>match v with | ((t,b,i,j,l,n,k,()),(g,(a,q,s,()),m,()))=>pre_d4 t b i j l n k g a q s m) (fun v K=>match v with | ((t,b,i,j,l,n,k,()),(g,(a,q,s,()),m,()))=>res_d4 t b i j l n k g a q s m K)
def L_d4:LpL:=(12,g_d4)::[]
theorem l_d4 {L:LpL} (n:Nat) (h1:L.drop n=[]) (h2:idsFree (L.take n) (loopOf Tryz.f46 3)=true):LoopsTo g_d4 (cb_far) (loopOf Tryz.f46 3) 12 L :=
 with_drop h1 h2 (gP_ok (fun v=>match v with | ((t,b,i,j,l,n,k,()),(g,(a,q,s,()),m,()))=>mu_d4 t b i j l n k g a q s m) fun v K hI=>by
  obtain⟨⟨t,b,i,j,l,n,k,⟨⟩⟩,⟨g,⟨a,q,s,⟨⟩⟩,m,⟨⟩⟩⟩:=v;exact(r_d4 t b i j l n k g a q s m K hI).imp id fun⟨t',b',i',j',l',n',k',g',a',q',s',m',h⟩=>⟨((t',b',i',j',l',n',k',()),(g',(a',q',s',()),m',())),h⟩)
theorem x_impl_farFrom_2 (t s a:Str) (g:Gram) (q:List Rule) (m:DMap) (b:Bool) (i j:Int) (R:St→Option Fin) (K:Cont):evC (cb_far.withLoops (look L_d4)) (loopOf Tryz.f46 2) ⟨[(1,vS t),(2, kp0),(5, kp1),(6,vB b),(7,vI i),(8,vI j)],[(500000,some (boxD 25 TG g)),(500001,dsO a q s 500002),(500002,some (.map TP TI64 m))]⟩ (onward (headAt (cb_far.withLoops (look L_d4)) 9) R K)=(
branch (decide (j≤(t.length:Int))) (
 need (pre_d4 t b i j g.snd ((length g.snd:Int)) 0 g a q s m) <| R (.mk [(1,vS t),(2,kp0),(5,kp1),(6,(vB (rulesD s i j g.snd (m,b)).snd)),(7,vI i),(8,vI (W64 (j+1)))] [(500000,some (boxD 25 TG g)),(500001,(.some (.box 103 [(.r (.v (Value.string (mk a)))),(.r (.li TRu q)),(.r (.v (Value.string (mk s)))),(.own 500002)]))),(500002,(.some (.map TP TI64 ((rulesD s i j g.snd (m,b)).fst))))])) ( K (.exit 4) (.mk [(1,vS t),(2,kp0),(5,kp1),(6,vB b),(7,vI i)] [(500000,some (boxD 25 TG g)),(500001,(.some (.box 103 [(.r (.v (Value.string (mk a)))),(.r (.li TRu q)),(.r (.v (Value.string (mk s)))),(.own 500002)]))),(500002,(.some (.map TP TI64 m)))]))):=by kernel_rfl
def cx0_d3:Cx:=(cb_far).withLoops (look L_d4)
def sh_d3:Sh:=([(1, .d .str),(2, .ptr 500000 0),(5, .ptr 500001 0),(6, .d .bool),(7, .d TI64),(8, .d TI64)],[(500000, .box 25 TG),(500001, .mix 103 [.d .str, .d TRL, .d .str, .own 500002]),(500002, .map TP TI64)])
abbrev st_d3 (t:Str) (b:Bool) (i j:Int) (g:Gram) (a:Str) (q:List Rule) (s:Str) (m:List (Den TP×Den TI64)):St:=⟨[(1,vS t),(2, kp0),(5, kp1),(6,vB b),(7,vI i),(8,vI j)],[(500000,some (boxD 25 TG g)),(500001,some (.box 103 ((cellsR .str a).map C.r++(cellsR TRL q).map C.r++(cellsR .str s).map C.r++[.own 500002]))),(500002,some (.map TP TI64 m))]⟩
def pre_d3 (t:Str) (_b:Bool) (i j:Int) (g:Gram) (_a:Str) (_q:List Rule) (s:Str) (m:List (Den TP×Den TI64)):Bool:=decide (0≤i)&&(decide (i≤j)&&(okRd g.2&&(decide (t=s)&&(decide (length s≤1000)&&(decide (j≤(length s:Int)+1)&&okDm m)))))
def res_d3 (t:Str) (b:Bool) (i j:Int) (g:Gram) (a:Str) (q:List Rule) (s:Str) (m:List (Den TP×Den TI64)) (K:Cont):Option Fin:=K (.exit 4) ⟨[(1,vS t),(2, kp0),(5, kp1),(6,vB (tosD s g.2 i ((s.length:Int)+1-j).toNat j (m,b)).2),(7,vI i)],dsH g a q s (tosD s g.2 i ((s.length:Int)+1-j).toNat j (m,b)).1⟩
def mu_d3 (_t:Str) (_b:Bool) (_i j:Int) (_g:Gram) (_a:Str) (_q:List Rule) (s:Str) (_m:List (Den TP×Den TI64)):Nat:=(length s+1)-j.toNat
theorem r_d3 (t:Str) (b:Bool) (i j:Int) (g:Gram) (a:Str) (q:List Rule) (s:Str) (m:List (Den TP×Den TI64)) (K:Cont) (hI:pre_d3 t b i j g a q s m=true):(∀R:St→Option Fin,evC cx0_d3 (loopOf Tryz.f46 2) (st_d3 t b i j g a q s m) (onward (headAt cx0_d3 9) R K)=res_d3 t b i j g a q s m K) ∨
  (∃(t':Str) (b':Bool) (i' j':Int) (g':Gram) (a':Str) (q':List Rule) (s':Str) (m':List (Den TP×Den TI64)),pre_d3 t' b' i' j' g' a' q' s' m'=true∧mu_d3 t' b' i' j' g' a' q' s' m'<mu_d3 t b i j g a q s m∧res_d3 t' b' i' j' g' a' q' s' m' K=res_d3 t b i j g a q s m K∧∀R:St→Option Fin,evC cx0_d3 (loopOf Tryz.f46 2) (st_d3 t b i j g a q s m) (onward (headAt cx0_d3 9) R K)=R (st_d3 t' b' i' j' g' a' q' s' m')):=by
 have hx:=fun R=>x_impl_farFrom_2 t s a g q m b i j R K;simp only[pre_d3,andd,dec_iff]at hI;obtain⟨h0,h1,h2,rfl,h4,h5,h6⟩:=hI
 by_cases hj:j≤(length t:Int)
 ·have w:W64 (j+1)=j+1:=wrap_small (by omega) (by omega);obtain⟨n,hn⟩:∃n,((length t:Int)+1-j).toNat=n+1:=⟨((length t:Int)+1-j).toNat-1,by omega⟩;have hn2:((length t:Int)+1-(j+1)).toNat=n:=by omega
  have hg:tosD t g.2 i (n+1) j (m,b)=tosD t g.2 i n (j+1) (rulesD t i j g.2 (m,b)):=rfl;have hok:=rulesD_ok (l:=g.2) (p:=(m,b)) h4 h0 h1 hj h6;have hp:pre_d4 t b i j g.2 ((length g.2:Int)) 0 g a q t m=true:=by
   simp only[pre_d4,andd,dec_iff];exact⟨by omega,trivial,h2,okIJ_iff.2 ⟨h0,h1,hj⟩,h4,h6⟩
  rw[zT hj,hp,w]at hx;right;refine⟨t,(rulesD t i j g.2 (m,b)).2,i,j+1,g,a,q,t,(rulesD t i j g.2 (m,b)).1, ?_, ?_, ?_,fun R=>hx R⟩
  ·simp only[pre_d3,andd,dec_iff];exact⟨by omega,by omega,h2,trivial,h4,by omega,hok⟩
  ·simp only[mu_d3];omega
  ·simp only[res_d3,hn,hn2,hg]
 ·left;intro R;refine(hx R).trans ?_;rw[zF hj];have e:((length t:Int)+1-j).toNat=0:=by omega
  simp only[res_d3,e];rfl
def g_d3:St→Cont→Option Fin:=gP sh_d3 (fun v=>match v with | ((t,b,i,j,()),(g,(a,q,s,()),m,()))=>pre_d3 t b i j g a q s m) (fun v K=>match v with | ((t,b,i,j,()),(g,(a,q,s,()),m,()))=>res_d3 t b i j g a q s m K)
def L_d3:LpL:=(9,g_d3)::L_d4
theorem l_d3 {L:LpL} (n:Nat) (h1:L.drop n=L_d4) (h2:idsFree (L.take n) (loopOf Tryz.f46 2)=true):LoopsTo g_d3 (cb_far) (loopOf Tryz.f46 2) 9 L :=
 with_drop h1 h2 (gP_ok (fun v=>match v with | ((t,b,i,j,()),(g,(a,q,s,()),m,()))=>mu_d3 t b i j g a q s m) fun v K hI=>by
  obtain⟨⟨t,b,i,j,⟨⟩⟩,⟨g,⟨a,q,s,⟨⟩⟩,m,⟨⟩⟩⟩:=v;exact(r_d3 t b i j g a q s m K hI).imp id fun⟨t',b',i',j',g',a',q',s',m',h⟩=>⟨((t',b',i',j',()),(g',(a',q',s',()),m',())),h⟩)
theorem x_impl_farFrom_1 (t s a:Str) (g:Gram) (q:List Rule) (m:DMap) (b:Bool) (i:Int) (R:St→Option Fin) (K:Cont):evC (cb_far.withLoops (look L_d3)) (loopOf Tryz.f46 1) ⟨[(1,vS t),(2, kp0),(5, kp1),(6,vB b),(7,vI i)],[(500000,some (boxD 25 TG g)),(500001,dsO a q s 500002),(500002,some (.map TP TI64 m))]⟩ (onward (headAt (cb_far.withLoops (look L_d3)) 6) R K)=(
branch (decide (0≤i)) (
 need (pre_d3 t b i i g a q s m) <| R (.mk [(1,vS t),(2,kp0),(5,kp1),(6,(vB (tosD s g.snd i ((s.length:Int)+1-i).toNat i (m,b)).snd)),(7,vI (W64 (i-1)))] [(500000,some (boxD 25 TG g)),(500001,(.some (.box 103 [(.r (.v (Value.string (mk a)))),(.r (.li TRu q)),(.r (.v (Value.string (mk s)))),(.own 500002)]))),(500002,(.some (.map TP TI64 ((tosD s g.snd i ((s.length:Int)+1-i).toNat i (m,b)).fst))))])) ( K (.exit 2) (.mk [(1,vS t),(2,kp0),(5,kp1),(6,vB b)] [(500000,some (boxD 25 TG g)),(500001,(.some (.box 103 [(.r (.v (Value.string (mk a)))),(.r (.li TRu q)),(.r (.v (Value.string (mk s)))),(.own 500002)]))),(500002,(.some (.map TP TI64 m)))]))):=by kernel_rfl
def cx0_d2:Cx:=(cb_far).withLoops (look L_d3)
def sh_d2:Sh:=([(1, .d .str),(2, .ptr 500000 0),(5, .ptr 500001 0),(6, .d .bool),(7, .d TI64)],[(500000, .box 25 TG),(500001, .mix 103 [.d .str, .d TRL, .d .str, .own 500002]),(500002, .map TP TI64)])
abbrev st_d2 (t:Str) (b:Bool) (i:Int) (g:Gram) (a:Str) (q:List Rule) (s:Str) (m:List (Den TP×Den TI64)):St:=⟨[(1,vS t),(2, kp0),(5, kp1),(6,vB b),(7,vI i)],[(500000,some (boxD 25 TG g)),(500001,some (.box 103 ((cellsR .str a).map C.r++(cellsR TRL q).map C.r++(cellsR .str s).map C.r++[.own 500002]))),(500002,some (.map TP TI64 m))]⟩
def pre_d2 (t:Str) (_b:Bool) (i:Int) (g:Gram) (_a:Str) (_q:List Rule) (s:Str) (m:List (Den TP×Den TI64)):Bool:=decide (-1≤i)&&(decide (i≤(length s:Int))&&(okRd g.2&&(decide (t=s)&&(decide (length s≤1000)&&okDm m))))
def res_d2 (t:Str) (b:Bool) (i:Int) (g:Gram) (a:Str) (q:List Rule) (s:Str) (m:List (Den TP×Den TI64)) (K:Cont):Option Fin:=K (.exit 2) ⟨[(1,vS t),(2, kp0),(5, kp1),(6,vB (fromsD s g.2 (i+1).toNat (m,b)).2)],dsH g a q s (fromsD s g.2 (i+1).toNat (m,b)).1⟩
def mu_d2 (_t:Str) (_b:Bool) (i:Int) (_g:Gram) (_a:Str) (_q:List Rule) (_s:Str) (_m:List (Den TP×Den TI64)):Nat:=(i+1).toNat
theorem r_d2 (t:Str) (b:Bool) (i:Int) (g:Gram) (a:Str) (q:List Rule) (s:Str) (m:List (Den TP×Den TI64)) (K:Cont) (hI:pre_d2 t b i g a q s m=true):(∀R:St→Option Fin,evC cx0_d2 (loopOf Tryz.f46 1) (st_d2 t b i g a q s m) (onward (headAt cx0_d2 6) R K)=res_d2 t b i g a q s m K) ∨
  (∃(t':Str) (b':Bool) (i':Int) (g':Gram) (a':Str) (q':List Rule) (s':Str) (m':List (Den TP×Den TI64)),pre_d2 t' b' i' g' a' q' s' m'=true∧mu_d2 t' b' i' g' a' q' s' m'<mu_d2 t b i g a q s m∧res_d2 t' b' i' g' a' q' s' m' K=res_d2 t b i g a q s m K∧∀R:St→Option Fin,evC cx0_d2 (loopOf Tryz.f46 1) (st_d2 t b i g a q s m) (onward (headAt cx0_d2 6) R K)=R (st_d2 t' b' i' g' a' q' s' m')):=by
 have hx:=fun R=>x_impl_farFrom_1 t s a g q m b i R K;simp only[pre_d2,andd,dec_iff]at hI;obtain⟨h0,h1,h2,rfl,h4,h6⟩:=hI
 by_cases hi:0≤i
 ·have w:W64 (i-1)=i-1:=wrap_small (by omega) (by omega);have hn:(i+1).toNat=i.toNat+1:=by omega
  have hn2:(i-1+1).toNat=i.toNat:=by omega
  have hg:fromsD t g.2 (i.toNat+1) (m,b)=fromsD t g.2 i.toNat (tosD t g.2 ((i.toNat:Nat):Int) (t.length+1-i.toNat) ((i.toNat:Nat):Int) (m,b)):=rfl;have e1:((i.toNat:Nat):Int)=i:=by omega
  have e2:((t.length:Int)+1-i).toNat=t.length+1-i.toNat:=by omega
  have hok:=tosD_ok (l:=g.2) (n:=t.length+1-i.toNat) (j:=i) (p:=(m,b)) h4 hi (Int.le_refl i) (by omega) h6;rw[e1]at hg;have hp:pre_d3 t b i i g a q t m=true:=by
   simp only[pre_d3,andd,dec_iff];exact⟨by omega,by omega,h2,trivial,h4,by omega,h6⟩
  rw[zT hi,hp,w,e2]at hx;right;refine⟨t,(tosD t g.2 i (t.length+1-i.toNat) i (m,b)).2,i-1,g,a,q,t,(tosD t g.2 i (t.length+1-i.toNat) i (m,b)).1, ?_, ?_, ?_,fun R=>hx R⟩
  ·simp only[pre_d2,andd,dec_iff];exact⟨by omega,by omega,h2,trivial,h4,hok⟩
  ·simp only[mu_d2];omega
  ·simp only[res_d2,hn,hn2,hg]
 ·left;intro R;refine(hx R).trans ?_;rw[zF hi];have e:(i+1).toNat=0:=by omega
  simp only[res_d2,e];rfl
def g_d2:St→Cont→Option Fin:=gP sh_d2 (fun v=>match v with | ((t,b,i,()),(g,(a,q,s,()),m,()))=>pre_d2 t b i g a q s m) (fun v K=>match v with | ((t,b,i,()),(g,(a,q,s,()),m,()))=>res_d2 t b i g a q s m K)
def L_d2:LpL:=(6,g_d2)::L_d3
theorem l_d2 {L:LpL} (n:Nat) (h1:L.drop n=L_d3) (h2:idsFree (L.take n) (loopOf Tryz.f46 1)=true):LoopsTo g_d2 (cb_far) (loopOf Tryz.f46 1) 6 L :=
 with_drop h1 h2 (gP_ok (fun v=>match v with | ((t,b,i,()),(g,(a,q,s,()),m,()))=>mu_d2 t b i g a q s m) fun v K hI=>by
  obtain⟨⟨t,b,i,⟨⟩⟩,⟨g,⟨a,q,s,⟨⟩⟩,m,⟨⟩⟩⟩:=v;exact(r_d2 t b i g a q s m K hI).imp id fun⟨t',b',i',g',a',q',s',m',h⟩=>⟨((t',b',i',()),(g',(a',q',s',()),m',())),h⟩)
theorem x_impl_farFrom (t s a:Str) (g:Gram) (q:List Rule) (m:DMap) (b:Bool) (R:St→Option Fin) (K:Cont):evC (cb_far.withLoops (look L_d2)) (loopOf Tryz.f46 0) ⟨[(1,vS t),(2, kp0),(5, kp1),(6,vB b)],[(500000,some (boxD 25 TG g)),(500001,dsO a q s 500002),(500002,some (.map TP TI64 m))]⟩ (onward (headAt (cb_far.withLoops (look L_d2)) 3) R K)=(
branch b (
 need (pre_d2 t false ((t.length:Int)) g a q s m) <| R (.mk [(1,vS t),(2,kp0),(5,kp1),(6,(vB (fromsD s g.snd ((t.length:Int)+1).toNat (m,false)).snd))] [(500000,some (boxD 25 TG g)),(500001,(.some (.box 103 [(.r (.v (Value.string (mk a)))),(.r (.li TRu q)),(.r (.v (Value.string (mk s)))),(.own 500002)]))),(500002,(.some (.map TP TI64 ((fromsD s g.snd ((t.length:Int)+1).toNat (m,false)).fst))))])) ( K (.exit 0) (.mk [(1,vS t),(2,kp0),(5,kp1)] [(500000,some (boxD 25 TG g)),(500001,(.some (.box 103 [(.r (.v (Value.string (mk a)))),(.r (.li TRu q)),(.r (.v (Value.string (mk s)))),(.own 500002)]))),(500002,(.some (.map TP TI64 m)))]))):=by kernel_rfl
def cx0_d1:Cx:=(cb_far).withLoops (look L_d2)
def sh_d1:Sh:=([(1, .d .str),(2, .ptr 500000 0),(5, .ptr 500001 0),(6, .d .bool)],[(500000, .box 25 TG),(500001, .mix 103 [.d .str, .d TRL, .d .str, .own 500002]),(500002, .map TP TI64)])
abbrev st_d1 (t:Str) (b:Bool) (g:Gram) (a:Str) (q:List Rule) (s:Str) (m:List (Den TP×Den TI64)):St:=⟨[(1,vS t),(2, kp0),(5, kp1),(6,vB b)],[(500000,some (boxD 25 TG g)),(500001,some (.box 103 ((cellsR .str a).map C.r++(cellsR TRL q).map C.r++(cellsR .str s).map C.r++[.own 500002]))),(500002,some (.map TP TI64 m))]⟩
def pre_d1 (t:Str) (_b:Bool) (g:Gram) (_a:Str) (_q:List Rule) (s:Str) (m:List (Den TP×Den TI64)):Bool:=okRd g.2&&(decide (t=s)&&(decide (length s≤1000)&&okDm m))
def res_d1 (t:Str) (b:Bool) (g:Gram) (a:Str) (q:List Rule) (s:Str) (m:List (Den TP×Den TI64)) (K:Cont):Option Fin:=K (.exit 0) ⟨[(1,vS t),(2, kp0),(5, kp1)],dsH g a q s (bif b then runC hasD ksD (stepVD s) (visF s g.2 (s.length+1)) m else m)⟩
def mu_d1 (_t:Str) (b:Bool) (g:Gram) (_a:Str) (_q:List Rule) (s:Str) (m:List (Den TP×Den TI64)):Nat:=2*missG hasD ((visF s g.2 (s.length+1)).flatMap ksD) m+(bif b then 1 else 0)
theorem r_d1 (t:Str) (b:Bool) (g:Gram) (a:Str) (q:List Rule) (s:Str) (m:List (Den TP×Den TI64)) (K:Cont) (hI:pre_d1 t b g a q s m=true):(∀R:St→Option Fin,evC cx0_d1 (loopOf Tryz.f46 0) (st_d1 t b g a q s m) (onward (headAt cx0_d1 3) R K)=res_d1 t b g a q s m K) ∨
  (∃(t':Str) (b':Bool) (g':Gram) (a':Str) (q':List Rule) (s':Str) (m':List (Den TP×Den TI64)),pre_d1 t' b' g' a' q' s' m'=true∧mu_d1 t' b' g' a' q' s' m'<mu_d1 t b g a q s m∧res_d1 t' b' g' a' q' s' m' K=res_d1 t b g a q s m K∧∀R:St→Option Fin,evC cx0_d1 (loopOf Tryz.f46 0) (st_d1 t b g a q s m) (onward (headAt cx0_d1 3) R K)=R (st_d1 t' b' g' a' q' s' m')):=by
 have hx:=fun R=>x_impl_farFrom t s a g q m b R K;simp only[pre_d1,andd,dec_iff]at hI;obtain⟨h2,rfl,h4,h6⟩:=hI;have hgood:=good_vis (s:=t) h2
 cases b
 ·left;intro R;refine(hx R).trans ?_;simp only[res_d1];rfl
 ·have hp:pre_d2 t false ((t.length:Int)) g a q t m=true:=by
   simp only[pre_d2,andd,dec_iff];exact⟨by omega,by omega,h2,trivial,h4,h6⟩
  have e:((t.length:Int)+1).toNat=t.length+1:=by omega
  rw[hp,e,fromsD_vis]at hx;have hg:=runC_at (stepVD_ok h4) (vs:=visF t g.2 (t.length+1)) (m:=m) hgood h6;have hok:=foldG_ok (stepVD_ok h4) (vs:=visF t g.2 (t.length+1)) (p:=(m,false)) hgood h6;right;refine⟨t,(foldG (stepVD t) (visF t g.2 (t.length+1)) (m,false)).2,g,a,q,t,(foldG (stepVD t) (visF t g.2 (t.length+1)) (m,false)).1, ?_, ?_, ?_,fun R=>hx R⟩
  ·simp only[pre_d1,andd,dec_iff];exact⟨h2,trivial,h4,hok⟩
  ·simp only[mu_d1]
   cases hc:(foldG (stepVD t) (visF t g.2 (t.length+1)) (m,false)).2
   ·obtain ⟨_,h5,_⟩:=foldG_quiet (stepVD_ok h4) hgood h6 hc;rw[h5,cond_true,cond_false];show 2*missG hasD _ m+0<2*missG hasD _ m+1;omega
   ·have:=miss_lt (stepVD_ok h4) hgood h6 hc;rw[cond_true];omega
  ·simp only[res_d1];exact congrArg (fun z:DMap=>K (.exit 0) ⟨[(1,vS t),(2, kp0),(5, kp1)],dsH g a q t z⟩) hg.symm
def g_d1:St→Cont→Option Fin:=gP sh_d1 (fun v=>match v with | ((t,b,()),(g,(a,q,s,()),m,()))=>pre_d1 t b g a q s m) (fun v K=>match v with | ((t,b,()),(g,(a,q,s,()),m,()))=>res_d1 t b g a q s m K)
def L_d1:LpL:=(3,g_d1)::L_d2
def cx_d1:Cx:=(cb_far).withLoops (look L_d1)
theorem l_d1 {L:LpL} (n:Nat) (h1:L.drop n=L_d2) (h2:idsFree (L.take n) (loopOf Tryz.f46 0)=true):LoopsTo g_d1 (cb_far) (loopOf Tryz.f46 0) 3 L :=
 with_drop h1 h2 (gP_ok (fun v=>match v with | ((t,b,()),(g,(a,q,s,()),m,()))=>mu_d1 t b g a q s m) fun v K hI=>by
  obtain⟨⟨t,b,⟨⟩⟩,⟨g,⟨a,q,s,⟨⟩⟩,m,⟨⟩⟩⟩:=v;exact(r_d1 t b g a q s m K hI).imp id fun⟨t',b',g',a',q',s',m',h⟩=>⟨((t',b',()),(g',(a',q',s',()),m',())),h⟩)
theorem y_impl_farFrom (g:Gram) (s:Str):evFn cx_d1 Tryz.f46 true [ofD TG g,ofD .str s] []=(
need (pre_d1 s true g g.fst g.snd s []) <|
need (okIJ s 0 (s.length:Int)&&decide (s.length≤1000)) <| some ((vI (dofV s (bif true then runC hasD ksD (stepVD s) (visF s g.snd (length s+1)) [] else []) g.fst 0 (s.length:Int))),[])):=by kernel_rfl
theorem s_impl_farFrom (g:Gram) (_hg:Fit TG g) (s:Str) (_hs:Fit .str s) (hpre:(okRd g.2&&decide (length s≤1000))=true):Sat Tryz.prog 46 [ofD TG g,ofD .str s] [] (.d (ofD TI64 (dofV s (distM s g.2) g.1 0 (s.length:Int)))) [] :=
 fn_sound (cx:=cx_d1) Tryz.func46 rfl ttOk Γ55ok mixed (fun c hc=>LoopsOk.all (l:=[(3,loopOf Tryz.f46 0),(6,loopOf Tryz.f46 1),(9,loopOf Tryz.f46 2),(12,loopOf Tryz.f46 3)]) (by cases hc;kernel_rfl) ⟨atLoop rfl (l_d1 1 rfl (by kernel_rfl)),atLoop rfl (l_d2 2 rfl (by kernel_rfl)),atLoop rfl (l_d3 3 rfl (by kernel_rfl)),atLoop rfl (l_d4 4 rfl (by kernel_rfl)),trivial⟩) (ro:=true) (by
  obtain⟨h1,h2⟩:=andd.1 hpre;have h3:=dec_iff.1 h2;have hp:pre_d1 s true g g.1 g.2 s []=true:=by
   simp only[pre_d1,andd,dec_iff];exact⟨h1,trivial,h3,rfl⟩
  have hk:(okIJ s 0 (s.length:Int)&&decide (s.length≤1000))=true:=andd.2 ⟨okIJ_iff.2 ⟨Int.le_refl 0,by omega,Int.le_refl _⟩,h2⟩;rw[y_impl_farFrom,hp,hk];rfl)
def c_impl_farFrom:Con:=conT [TG, .str] fun(g:Gram) (s:Str)=>(some (okRd g.2&&decide (length s≤1000)), .d (ofD TI64 (dofV s (distM s g.2) g.1 0 (s.length:Int))))
theorem k_impl_farFrom:ConOk Tryz.prog 46 c_impl_farFrom:=conT_ok Tryz.call46 fun g hg s hs hqq=>s_impl_farFrom g hg s hs (pre_of hqq)
def Γ56:GL:=(46,c_impl_farFrom)::Γ55
theorem Γ56ok:GO Γ56 := .cons k_impl_farFrom Γ55ok
def farV (g:Gram) (s:Str):Int:=dofV s (distM s g.2) g.1 0 (s.length:Int)
def mendV (g:Gram) (s:Str):Int:=bif both2 g s then bif decide ((1073741824:Int)≤farV g s)then -1 else farV g s else -1
theorem both2_iff {g:Gram} {s:Str}:both2 g s=true↔okG g=true∧areSm s 8=true:=by
 unfold both2
 cases okG g
 ·constructor
  ·intro h;cases h
  ·rintro ⟨h,_⟩;cases h
 ·exact ⟨fun h=>⟨rfl,h⟩,fun h=>h.2⟩
theorem okRd_G {g:Gram} (h:okG g=true):okRd g.2=true:=by
 obtain⟨_,h2,h3⟩:=okG_iff h;refine okRd_iff.2 ⟨by omega,all_eq_true.2 fun r hr => ?_⟩;obtain⟨h4,h5⟩:=h3 r hr;have:=(areS_iff h5).2;exact andd.2 ⟨zT (by omega),h4⟩
theorem y_impl_MendFar (g:Gram) (s:Str):evFn (cxOf Γ56 Tryz.f13.ntmps [] [] [] []) Tryz.f13 true [ofD TG g,ofD .str s] []=(
branch (!both2 g s) ( some ((vI (Int.neg 1)),[])) (
 need (okRd g.snd&&decide (s.length≤1000)) <|
 branch (decide (1073741824≤dofV s (distM s g.snd) g.fst 0 (s.length:Int))) ( some ((vI (Int.neg 1)),[])) ( some ((vI (dofV s (distM s g.snd) g.fst 0 (s.length:Int))),[])))):=by kernel_rfl
theorem s_impl_MendFar (g:Gram) (_hg:Fit TG g) (s:Str) (_hs:Fit .str s):Sat Tryz.prog 13 [ofD TG g,ofD .str s] [] (.d (ofD TI64 (mendV g s))) [] :=
 fn_sound (cx:=cxOf Γ56 Tryz.f13.ntmps [] [] [] []) Tryz.func13 rfl ttOk Γ56ok mixed (fun _ _=>LoopsOk.no fun _=>rfl) (ro:=true) (by
  rw[y_impl_MendFar];unfold mendV
  cases hb:both2 g s
  ·rfl
  ·obtain ⟨h1,h2⟩:=both2_iff.1 hb;have hk:(okRd g.2&&decide (s.length≤1000))=true:=by
    have:=(areSm_iff.1 h2).1;exact andd.2 ⟨okRd_G h1,zT (by omega)⟩
   rw[hk];show branch (decide ((1073741824:Int)≤farV g s)) _ _=(some (.d (ofD TI64 (bif decide ((1073741824:Int)≤farV g s)then(-1:Int)else farV g s)),[]):Option Fin)
   cases decide ((1073741824:Int)≤farV g s)<;>rfl)
def c_impl_MendFar:Con:=conT [TG, .str] fun(g:Gram) (s:Str)=>(none, .d (ofD TI64 (mendV g s)))
theorem k_impl_MendFar:ConOk Tryz.prog 13 c_impl_MendFar:=conT_ok Tryz.call13 fun g hg s hs _=>s_impl_MendFar g hg s hs
def Γ57:GL:=(13,c_impl_MendFar)::Γ56
theorem Γ57ok:GO Γ57 := .cons k_impl_MendFar Γ56ok
abbrev TI1:Ty := .list TI64
abbrev TI2:Ty := .list TI1
abbrev TI3:Ty := .list TI2
abbrev D3:Type:=List (List (List Int))
def atD (ch:D3) (k i j:Int):Int:=getD (getD (getD ch k.toNat []) i.toNat []) j.toNat 0
def okD5 (n:Nat) (ch:D3):Bool:=Nat.beq (length ch) 5&&List.all ch fun r=>Nat.beq (length r) n&&List.all r fun q=>Nat.beq (length q) n&&List.all q fun e=>decide (0≤e)&&decide (e≤100000)
def minI (a b:Int):Int:=bif decide (a<b)then a else b
theorem okD5_iff {n:Nat} {ch:D3}:okD5 n ch=true↔ch.length=5∧∀r∈ch,r.length=n∧∀q∈r,q.length=n∧∀e∈q,0≤e∧e≤100000:=by
 unfold okD5;rw[andd,all_eq_true]
 constructor
 ·rintro ⟨h1,h2⟩;refine⟨zB h1,fun r hr => ?_⟩;obtain⟨h3,h4⟩:=andd.1 (h2 r hr);refine⟨zB h3,fun q hq => ?_⟩;obtain⟨h5,h6⟩:=andd.1 (all_eq_true.1 h4 q hq);refine⟨zB h5,fun e he => ?_⟩;obtain⟨h7,h8⟩:=andd.1 (all_eq_true.1 h6 e he);exact⟨dec_iff.1 h7,dec_iff.1 h8⟩
 ·rintro ⟨h1,h2⟩;refine⟨by rw[h1];rfl,fun r hr => ?_⟩;obtain⟨h3,h4⟩:=h2 r hr;refine andd.2 ⟨by rw[h3];exact Nat.beq_refl n,all_eq_true.2 fun q hq => ?_⟩;obtain⟨h5,h6⟩:=h4 q hq;exact andd.2 ⟨by rw[h5];exact Nat.beq_refl n,all_eq_true.2 fun e he=>andd.2 ⟨zT (h6 e he).1,zT (h6 e he).2⟩⟩
theorem okD5_at {n:Nat} {ch:D3} (h:okD5 n ch=true) {k i:Int} (k0:0≤k) (k1:k<5) (i0:0≤i) (i1:i<(n:Int)):ch.length=5∧length (getD ch k.toNat [])=n∧length (getD (getD ch k.toNat []) i.toNat [])=n:=by
 obtain⟨h1,h2⟩:=okD5_iff.1 h;obtain⟨h3,h4⟩:=h2 (getD ch k.toNat []) (getD_mem (by omega));exact⟨h1,h3,(h4 _ (getD_mem (by omega))).1⟩
theorem atD_ok {n:Nat} {ch:D3} (h:okD5 n ch=true) {k i j:Int} (k0:0≤k) (k1:k<5) (i0:0≤i) (i1:i<(n:Int)) (j0:0≤j) (j1:j<(n:Int)):0≤atD ch k i j∧atD ch k i j≤100000:=by
 obtain⟨h1,h2⟩:=okD5_iff.1 h;obtain⟨h3,h4⟩:=h2 (getD ch k.toNat []) (getD_mem (by omega));obtain⟨h5,h6⟩:=h4 (getD (getD ch k.toNat []) i.toNat []) (getD_mem (by omega));exact h6 _ (getD_mem (by omega))
theorem y_spec_l8Min (a:Int) (b:Int):evFn (cxOf Γ57 Tryz.f154.ntmps [] [] [] []) Tryz.f154 true [ofD TI64 a,ofD TI64 b] []=(
branch (decide (a<b)) ( some ((vI a),[])) ( some ((vI b),[]))):=by kernel_rfl
theorem s_spec_l8Min (a:Int) (_ha:Fit TI64 a) (b:Int) (_hb:Fit TI64 b):Sat Tryz.prog 154 [ofD TI64 a,ofD TI64 b] [] (.d (ofD TI64 (minI a b))) [] :=
 fn_sound (cx:=cxOf Γ57 Tryz.f154.ntmps [] [] [] []) Tryz.func154 rfl ttOk Γ57ok mixed (fun _ _=>LoopsOk.no fun _=>rfl) (ro:=true) (by
  rw[y_spec_l8Min];unfold minI
  cases decide (a<b)<;>rfl)
def c_spec_l8Min:Con:=conT [TI64,TI64] fun(a:Int) (b:Int)=>(none, .d (ofD TI64 (minI a b)))
theorem k_spec_l8Min:ConOk Tryz.prog 154 c_spec_l8Min:=conT_ok Tryz.call154 fun a ha b hb _=>s_spec_l8Min a ha b hb
def Γ58:GL:=(154,c_spec_l8Min)::Γ57
theorem Γ58ok:GO Γ58 := .cons k_spec_l8Min Γ57ok
def smlD (s:Str) (c:Int) (i j:Int):Int:=bif decide (i=j)then 1 else bif inS (List.take (j.toNat-i.toNat) (List.drop i.toNat s)) c then j-i-1 else j-i
def ofS (s:Str) (ch:D3) (c i j:Int):Int:=bif smallI c then smlD s c i j else atD ch (c-65) i j
theorem y_spec_l8Small (s:Str) (c:Int) (i:Int) (j:Int):evFn (cxOf Γ58 Tryz.f172.ntmps [] [] [] []) Tryz.f172 true [ofD .str s,ofD (.int .u8) c,ofD TI64 i,ofD TI64 j] []=(
branch (decide (i=j)) ( some ((vI 1),[])) (
 need (inr i j s.length) <|
 branch (inS (List.take (j.toNat-i.toNat) (List.drop i.toNat s)) c) ( some ((vI (W64 (W64 (j-i)-1))),[])) ( some ((vI (W64 (j-i))),[])))):=by kernel_rfl
theorem s_spec_l8Small (s:Str) (_hs:Fit .str s) (c:Int) (_hc:Fit (.int .u8) c) (i:Int) (_hi:Fit TI64 i) (j:Int) (_hj:Fit TI64 j) (hpre:(okIJ s i j&&decide (length s≤1000))=true):Sat Tryz.prog 172 [ofD .str s,ofD (.int .u8) c,ofD TI64 i,ofD TI64 j] [] (.d (ofD TI64 (smlD s c i j))) [] :=
 fn_sound (cx:=cxOf Γ58 Tryz.f172.ntmps [] [] [] []) Tryz.func172 rfl ttOk Γ58ok mixed (fun _ _=>LoopsOk.no fun _=>rfl) (ro:=true) (by
  rw[andd,dec_iff]at hpre;obtain⟨h1,h2⟩:=hpre;obtain⟨i0,i1,i2⟩:=okIJ_iff.1 h1;rw[y_spec_l8Small];have w:W64 (j-i)=j-i:=wrap_small (by omega) (by omega);have w2:W64 (j-i-1)=j-i-1:=wrap_small (by omega) (by omega);rw[w,w2,inr_iff.2 ⟨i0,i1,i2⟩];unfold smlD
  cases decide (i=j)
  ·show branch (inS (List.take (j.toNat-i.toNat) (List.drop i.toNat s)) c) _ _=_
   cases inS (List.take (j.toNat-i.toNat) (List.drop i.toNat s)) c<;>rfl
  ·rfl)
def c_spec_l8Small:Con:=conT [.str,(.int .u8),TI64,TI64] fun(s:Str) (c:Int) (i:Int) (j:Int)=>(some (okIJ s i j&&decide (length s≤1000)), .d (ofD TI64 (smlD s c i j)))
theorem k_spec_l8Small:ConOk Tryz.prog 172 c_spec_l8Small:=conT_ok Tryz.call172 fun s hs c hc i hi j hj hqq=>s_spec_l8Small s hs c hc i hi j hj (pre_of hqq)
def Γ59:GL:=(172,c_spec_l8Small)::Γ58
theorem Γ59ok:GO Γ59 := .cons k_spec_l8Small Γ58ok
theorem y_spec_l8Of (ch:Den TI3) (s:Str) (c:Int) (i:Int) (j:Int):evFn (cxOf Γ59 Tryz.f155.ntmps [] [] [] []) Tryz.f155 true [ofD TI3 ch,ofD .str s,ofD (.int .u8) c,ofD TI64 i,ofD TI64 j] []=(
branch (smallI c) (
 need (okIJ s i j&&decide (s.length≤1000)) <| some ((vI (smlD s c i j)),[])) (
 need (inb (W64 (IntKind.u8.wrap (c-65))) ch.length) <|
 need (inb i (length (getD ch (W64 (IntKind.u8.wrap (c-65))).toNat (dflt TI2)))) <|
 need (inb j (length (getD (getD ch (W64 (IntKind.u8.wrap (c-65))).toNat (dflt TI2)) i.toNat (dflt TI1)))) <| some ((vI (getD (getD (getD ch (W64 (IntKind.u8.wrap (c-65))).toNat (dflt TI2)) i.toNat (dflt TI1)) j.toNat 0)),[]))):=by kernel_rfl
theorem s_l8Of (ch:D3) (s:Str) (c i j:Int) (hpre:(okD5 (length s+1) ch&&(signI c&&(okIJ s i j&&decide (length s≤1000))))=true):evFn (cxOf Γ59 Tryz.f155.ntmps [] [] [] []) Tryz.f155 true [ofD TI3 ch,ofD .str s,ofD (.int .u8) c,ofD TI64 i,ofD TI64 j] []=some (.d (ofD TI64 (ofS s ch c i j)),[]):=by
 simp only[andd,dec_iff]at hpre;obtain⟨h1,h2,h3,h4⟩:=hpre;obtain⟨i0,i1,i2⟩:=okIJ_iff.1 h3;refine(y_spec_l8Of ch s c i j).trans ?_;unfold ofS
 cases hsm:smallI c
 ·unfold signI at h2;rw[hsm,Bool.false_or,andd,dec_iff,dec_iff]at h2;have w2:W64 (IntKind.u8.wrap (c-65))=c-65:=by
   have e1:IntKind.u8.wrap (c-65)=c-65:=by
    show(c-65) % 256=_;exact Int.emod_eq_of_lt (by omega) (by omega)
   rw[e1];exact wrap_small (by omega) (by omega)
  obtain⟨l1,l2,l3⟩:=okD5_at h1 (k:=c-65) (i:=i) (by omega) (by omega) i0 (by omega);rw[w2];change need (inb (c-65) (length ch)) (need (inb i (length (getD ch (c-65).toNat []))) (need (inb j (length (getD (getD ch (c-65).toNat []) i.toNat []))) _))=_;rw[l1,l2,l3,inb_ok (by omega) (by omega),inb_ok (by omega) (by omega),inb_ok (by omega) (by omega)];rfl
 ·rw[andd.2 ⟨h3,zT h4⟩];rfl
theorem s_spec_l8Of (ch:Den TI3) (_hch:Fit TI3 ch) (s:Str) (_hs:Fit .str s) (c:Int) (_hc:Fit (.int .u8) c) (i:Int) (_hi:Fit TI64 i) (j:Int) (_hj:Fit TI64 j) (hpre:(okD5 (length s+1) ch&&(signI c&&(okIJ s i j&&decide (length s≤1000))))=true):Sat Tryz.prog 155 [ofD TI3 ch,ofD .str s,ofD (.int .u8) c,ofD TI64 i,ofD TI64 j] [] (.d (ofD TI64 (ofS s ch c i j))) [] :=
 fn_sound (cx:=cxOf Γ59 Tryz.f155.ntmps [] [] [] []) Tryz.func155 rfl ttOk Γ59ok mixed (fun _ _=>LoopsOk.no fun _=>rfl) (ro:=true) (by
  exact s_l8Of ch s c i j hpre)
def c_spec_l8Of:Con:=conT [TI3, .str,(.int .u8),TI64,TI64] fun(ch:Den TI3) (s:Str) (c:Int) (i:Int) (j:Int)=>(some (okD5 (length s+1) ch&&(signI c&&(okIJ s i j&&decide (length s≤1000)))), .d (ofD TI64 (ofS s ch c i j)))
theorem k_spec_l8Of:ConOk Tryz.prog 155 c_spec_l8Of:=conT_ok Tryz.call155 fun ch hch s hs c hc i hi j hj hqq=>s_spec_l8Of ch hch s hs c hc i hi j hj (pre_of hqq)
def Γ60:GL:=(155,c_spec_l8Of)::Γ59
theorem Γ60ok:GO Γ60 := .cons k_spec_l8Of Γ59ok
def cb_l8r:Cx:=cxOf Γ60 Tryz.f131.ntmps [(20,[0,1,2,3,9,10,12,13,14,15,16]),(16,[0,1,2,3,9,10,12,13,14]),(12,[0,1,2,3,9,10,12]),(4,[0,1,2,3,9,10,11])] [(3,[10]),(4,[0,1,2,3,9,10,12]),(5,[0,1,2,3,9,12,13]),(6,[0,1,2,3,9,10,12,13,14]),(7,[0,1,2,3,9,10,12,13,14,15]),(8,[0,1,2,3,9,10,12,13,14,15,16]),(0,[0,1,2,3,9,10]),(1,[0,1,2,3,9,10,11]),(2,[0,1,2,3,9,10,11]),(1000000,[8])] [] []
abbrev st_r4 (ch:Den TI3) (s a:Str) (i n k j b p:Int) (row nx:List (Int)):St:=⟨[(0, .d (ofD TI3 ch)),(1,vS s),(2,vS a),(3,vI i),(9,vI n),(10, ko0),(12,vI k),(13, ko1),(14,vI j),(15,vI b),(16,vI p)],[(500000,some (.lis 3 TI64 row)),(500001,some (.lis 3 TI64 nx))]⟩
theorem x_spec_l8Row_3 (ch:D3) (s a:Str) (i n k j b p:Int) (row nx:List Int) (R:St→Option Fin) (K:Cont):evC (cb_l8r.withLoops (look [])) (loopOf Tryz.f131 3) (st_r4 ch s a i n k j b p row nx) (onward (headAt (cb_l8r.withLoops (look [])) 20) R K)=(
branch (decide (p≤j)) (
 need (inb p row.length) <|
 need (inb k a.length) <|
 need (okD5 (length s+1) ch&&(signI (byteAt a k)&&(okIJ s p j&&decide (s.length≤1000)))) <| R (st_r4 ch s a i n k j (minI b (W64 (Int.add (row.getD p.toNat 0) (ofS s ch (byteAt a k) p j)))) (W64 (p+1)) row nx)) ( K (.exit 7) (.mk [(0,(.d (.one (.r (.li TI2 ch))))),(1,vS s),(2,vS a),(3,vI i),(9,vI n),(10,ko0),(12,vI k),(13,ko1),(14,vI j),(15,vI b)] [(500000,some (.lis 3 TI64 row)),(500001,some (.lis 3 TI64 nx))]))):=by kernel_rfl
theorem smlD_ok {s:Str} {c i j:Int} (h:okIJ s i j=true) (hs:length s≤1000):0≤smlD s c i j∧smlD s c i j≤100000:=by
 obtain⟨i0,i1,i2⟩:=okIJ_iff.1 h;unfold smlD
 by_cases hij:i=j
 ·rw[zT hij,cond_true];exact⟨by decide,by decide⟩
 ·rw[zF hij,cond_false]
  cases inS (List.take (j.toNat-i.toNat) (List.drop i.toNat s)) c
  ·rw[cond_false];omega
  ·rw[cond_true];omega
theorem ofS_ok {s:Str} {ch:D3} {c i j:Int} (h1:okD5 (length s+1) ch=true) (h2:signI c=true) (h3:okIJ s i j=true) (h4:length s≤1000):0≤ofS s ch c i j∧ofS s ch c i j≤100000:=by
 obtain⟨i0,i1,i2⟩:=okIJ_iff.1 h3;unfold ofS
 cases hsm:smallI c
 ·unfold signI at h2;rw[hsm,Bool.false_or,andd,dec_iff,dec_iff]at h2;exact atD_ok h1 (by omega) (by omega) i0 (by omega) (by omega) (by omega)
 ·exact smlD_ok h3 h4
theorem minI_ok {a b:Int} (h:0≤a∧a≤100000) (h2:0≤b):0≤minI a b∧minI a b≤100000:=by
 unfold minI
 cases hc:decide (a<b)
 ·rw[cond_false];have:=of_decide_eq_false hc;omega
 ·exact h
def bestF (f:Int→Int):Nat→Int→Int→Int
 |0,_,b=>b
 |n+1,p,b=>bestF f n (p+1) (minI b (f p))
theorem bestF_ok {f:Int→Int}:∀ {n:Nat} {p b:Int},(0≤b∧b≤100000)→(∀q,p≤q→q<p+n→0≤f q)→0≤bestF f n p b∧bestF f n p b≤100000
 |0,_,_,h,_=>h
 |n+1,p,b,h,hf=>bestF_ok (n:=n) (p:=p+1) (b:=minI b (f p)) (minI_ok h (hf p (Int.le_refl _) (by omega))) fun q q1 q2=>hf q (by omega) (by omega)
def okE (e:Int):Bool:=decide (0≤e)&&decide (e≤100000)
theorem okE_iff {e:Int}:okE e=true↔0≤e∧e≤100000:=by unfold okE;rw[andd,dec_iff,dec_iff]
def okL5 (l:List Int):Bool:=List.all l okE
theorem okL5_at {l:List Int} {i:Nat} (h:okL5 l=true) (hi:i<l.length):0≤l.getD i 0∧l.getD i 0≤100000:=okE_iff.1 (all_eq_true.1 h _ (getD_mem hi))
abbrev fRow (s:Str) (ch:D3) (row:List Int) (c j:Int):Int→Int:=fun p=>row.getD p.toNat 0+ofS s ch c p j
theorem byte_sign {a:Str} {k:Int} (h:List.all a sign=true) (k0:0≤k) (k1:k<(length a:Int)):signI (byteAt a k)=true:=sign_I (all_eq_true.1 h _ (getD_mem (by omega)))
abbrev rwH (row nx:List Int):Heap:=[(500000,some (.lis 3 TI64 row)),(500001,some (.lis 3 TI64 nx))]
def cx0_r4:Cx:=(cb_l8r).withLoops (look [])
def sh_r4:Sh:=([(0, .d TI3),(1, .d .str),(2, .d .str),(3, .d TI64),(9, .d TI64),(10, .own 500000),(12, .d TI64),(13, .own 500001),(14, .d TI64),(15, .d TI64),(16, .d TI64)],[(500000, .lis 3 TI64),(500001, .lis 3 TI64)])
def pre_r4 (ch:Den TI3) (s a:Str) (_i _n k j b p:Int) (row _nx:List (Int)):Bool:=decide (0≤p)&&(decide (j≤(length s:Int))&&(okD5 (length s+1) ch&&(List.all a sign&&(decide (0≤k)&&(decide (k<(length a:Int))&&(decide (length s≤1000)&&(decide (length row=length s+1)&&(okL5 row&&okE b))))))))
def res_r4 (ch:Den TI3) (s a:Str) (i n k j b p:Int) (row nx:List (Int)) (K:Cont):Option Fin:=K (.exit 7) ⟨[(0, .d (ofD TI3 ch)),(1,vS s),(2,vS a),(3,vI i),(9,vI n),(10, ko0),(12,vI k),(13, ko1),(14,vI j),(15,vI (bestF (fRow s ch row (byteAt a k) j) (j+1-p).toNat p b))],rwH row nx⟩
def mu_r4 (_ch:Den TI3) (_s _a:Str) (_i _n _k j _b p:Int) (_row _nx:List (Int)):Nat:=(j+1-p).toNat
theorem r_r4 (ch:Den TI3) (s a:Str) (i n k j b p:Int) (row nx:List (Int)) (K:Cont) (hI:pre_r4 ch s a i n k j b p row nx=true):(∀R:St→Option Fin,evC cx0_r4 (loopOf Tryz.f131 3) (st_r4 ch s a i n k j b p row nx) (onward (headAt cx0_r4 20) R K)=res_r4 ch s a i n k j b p row nx K) ∨
  (∃(ch':Den TI3) (s' a':Str) (i' n' k' j' b' p':Int) (row' nx':List (Int)),pre_r4 ch' s' a' i' n' k' j' b' p' row' nx'=true∧mu_r4 ch' s' a' i' n' k' j' b' p' row' nx'<mu_r4 ch s a i n k j b p row nx∧res_r4 ch' s' a' i' n' k' j' b' p' row' nx' K=res_r4 ch s a i n k j b p row nx K∧∀R:St→Option Fin,evC cx0_r4 (loopOf Tryz.f131 3) (st_r4 ch s a i n k j b p row nx) (onward (headAt cx0_r4 20) R K)=R (st_r4 ch' s' a' i' n' k' j' b' p' row' nx')):=by
 have hx:=fun R=>x_spec_l8Row_3 ch s a i n k j b p row nx R K;simp only[pre_r4,andd,dec_iff]at hI;obtain⟨h0,h1,h2,h3,h4,h5,h6,h7,h8,h9⟩:=hI
 by_cases hp:p≤j
 ·have w:W64 (p+1)=p+1:=wrap_small (by omega) (by omega);have kij:okIJ s p j=true:=okIJ_iff.2 ⟨h0,hp,h1⟩;have ksg:=byte_sign h3 h4 h5;have kk:(okD5 (length s+1) ch&&(signI (byteAt a k)&&(okIJ s p j&&decide (length s≤1000))))=true:=andd.2 ⟨h2,andd.2 ⟨ksg,andd.2 ⟨kij,zT h6⟩⟩⟩;obtain⟨r0,r1⟩:=okL5_at (i:=p.toNat) h8 (by omega);obtain⟨o0,o1⟩:=ofS_ok h2 ksg kij h6;have w2:W64 (Int.add (getD row p.toNat 0) (ofS s ch (byteAt a k) p j))=fRow s ch row (byteAt a k) j p:=wrap_small (n:=getD row p.toNat 0+ofS s ch (byteAt a k) p j) (by omega) (by omega);obtain⟨m,hm⟩:∃m,(j+1-p).toNat=m+1:=⟨(j+1-p).toNat-1,by omega⟩;have hm2:(j+1-(p+1)).toNat=m:=by omega
  have hmin:=minI_ok (okE_iff.1 h9) (show 0≤fRow s ch row (byteAt a k) j p by show 0≤getD row p.toNat 0+ofS s ch (byteAt a k) p j;omega);rw[zT hp,inb_ok h0 (by omega),inb_ok h4 h5,kk,w,w2]at hx;right;refine⟨ch,s,a,i,n,k,j,minI b (fRow s ch row (byteAt a k) j p),p+1,row,nx, ?_, ?_, ?_,fun R=>hx R⟩
  ·simp only[pre_r4,andd,dec_iff];exact⟨by omega,h1,h2,h3,h4,h5,h6,h7,h8,okE_iff.2 hmin⟩
  ·simp only[mu_r4];omega
  ·simp only[res_r4,hm,hm2];rfl
 ·left;intro R;refine(hx R).trans ?_;rw[zF hp];have e:(j+1-p).toNat=0:=by omega
  simp only[res_r4,e];rfl
def g_r4:St→Cont→Option Fin:=gP sh_r4 (fun v=>match v with | ((ch,s,a,i,n,k,j,b,p,()),(row,nx,()))=>pre_r4 ch s a i n k j b p row nx) (fun v K=>match v with | ((ch,s,a,i,n,k,j,b,p,()),(row,nx,()))=>res_r4 ch s a i n k j b p row nx K)
def L_r4:LpL:=(20,g_r4)::[]
theorem l_r4 {L:LpL} (n:Nat) (h1:L.drop n=[]) (h2:idsFree (L.take n) (loopOf Tryz.f131 3)=true):LoopsTo g_r4 (cb_l8r) (loopOf Tryz.f131 3) 20 L :=
 with_drop h1 h2 (gP_ok (fun v=>match v with | ((ch,s,a,i,n,k,j,b,p,()),(row,nx,()))=>mu_r4 ch s a i n k j b p row nx) fun v K hI=>by
  obtain⟨⟨ch,s,a,i,n,k,j,b,p,⟨⟩⟩,⟨row,nx,⟨⟩⟩⟩:=v;exact(r_r4 ch s a i n k j b p row nx K hI).imp id fun⟨ch',s',a',i',n',k',j',b',p',row',nx',h⟩=>⟨((ch',s',a',i',n',k',j',b',p',()),(row',nx',())),h⟩)
abbrev st_r3 (ch:Den TI3) (s a:Str) (i n k j:Int) (row nx:List (Int)):St:=⟨[(0, .d (ofD TI3 ch)),(1,vS s),(2,vS a),(3,vI i),(9,vI n),(10, ko0),(12,vI k),(13, ko1),(14,vI j)],[(500000,some (.lis 3 TI64 row)),(500001,some (.lis 3 TI64 nx))]⟩
theorem x_spec_l8Row_2 (ch:D3) (s a:Str) (i n k j:Int) (row nx:List Int) (R:St→Option Fin) (K:Cont):evC (cb_l8r.withLoops (look L_r4)) (loopOf Tryz.f131 2) (st_r3 ch s a i n k j row nx) (onward (headAt (cb_l8r.withLoops (look L_r4)) 16) R K)=(
branch (decide (j<n)) (
 need (pre_r4 ch s a i n k j 100000 i row nx) <|
 need (fits (nx.length+[bestF (fRow s ch row (byteAt a k) j) (j+1-i).toNat i 100000].length) Tryz.t3.bytes) <| R (st_r3 ch s a i n k (W64 (j+1)) row (nx.append [bestF (fRow s ch row (byteAt a k) j) (j+1-i).toNat i 100000]))) ( K (.exit 5) (.mk [(0,(.d (.one (.r (.li TI2 ch))))),(1,vS s),(2,vS a),(3,vI i),(9,vI n),(12,vI k),(13,ko0)] [(500000,some (.lis 3 TI64 nx))]))):=by kernel_rfl
def nextF (s:Str) (ch:D3) (row:List Int) (c i:Int):Nat→Int→List Int
 |0,_=>[]
 |n+1,j=>bestF (fRow s ch row c j) (j+1-i).toNat i 100000::nextF s ch row c i n (j+1)
theorem nextF_len {s:Str} {ch:D3} {row:List Int} {c i:Int}:∀ {n:Nat} {j:Int},(nextF s ch row c i n j).length=n
 |0,_=>rfl
 |n+1,j=>by
  unfold nextF;rw[length_cons,nextF_len]
theorem bestR_ok {s:Str} {ch:D3} {row:List Int} {c i j:Int} (h1:okD5 (length s+1) ch=true) (h2:signI c=true) (i0:0≤i) (j1:j≤(length s:Int)) (h4:length s≤1000) (hl:length row=length s+1) (hr:okL5 row=true):0≤bestF (fRow s ch row c j) (j+1-i).toNat i 100000∧bestF (fRow s ch row c j) (j+1-i).toNat i 100000≤100000:=by
 refine bestF_ok ⟨by decide,by decide⟩ fun q q0 q1 => ?_;have:=okL5_at (i:=q.toNat) hr (by omega);have:=ofS_ok (s:=s) (ch:=ch) (c:=c) (i:=q) (j:=j) h1 h2 (okIJ_iff.2 ⟨by omega,by omega,j1⟩) h4;show 0≤getD row q.toNat 0+ofS s ch c q j;omega
theorem nextF_ok {s:Str} {ch:D3} {row:List Int} {c i:Int} (h1:okD5 (length s+1) ch=true) (h2:signI c=true) (i0:0≤i) (h4:length s≤1000) (hl:length row=length s+1) (hr:okL5 row=true):∀ {n:Nat} {j:Int},j+n≤(length s:Int)+1→okL5 (nextF s ch row c i n j)=true
 |0,_,_=>rfl
 |n+1,j,hj=>by
  unfold nextF;exact andd.2 ⟨okE_iff.2 (bestR_ok h1 h2 i0 (by omega) h4 hl hr),nextF_ok h1 h2 i0 h4 hl hr (n:=n) (j:=j+1) (by omega)⟩
def cx0_r3:Cx:=(cb_l8r).withLoops (look L_r4)
def sh_r3:Sh:=([(0, .d TI3),(1, .d .str),(2, .d .str),(3, .d TI64),(9, .d TI64),(10, .own 500000),(12, .d TI64),(13, .own 500001),(14, .d TI64)],[(500000, .lis 3 TI64),(500001, .lis 3 TI64)])
def pre_r3 (ch:Den TI3) (s a:Str) (i n k j:Int) (row nx:List (Int)):Bool:=decide (0≤i)&&(decide (0≤j)&&(decide (n=(length s:Int)+1)&&(okD5 (length s+1) ch&&(List.all a sign&&(decide (0≤k)&&(decide (k<(length a:Int))&&(decide (length s≤1000)&&(decide (length row=length s+1)&&(okL5 row&&decide ((length nx:Int)=j))))))))))
def res_r3 (ch:Den TI3) (s a:Str) (i n k j:Int) (row nx:List (Int)) (K:Cont):Option Fin:=K (.exit 5) ⟨[(0, .d (ofD TI3 ch)),(1,vS s),(2,vS a),(3,vI i),(9,vI n),(12,vI k),(13, ko0)],[(500000,some (.lis 3 TI64 (nx++nextF s ch row (byteAt a k) i (n-j).toNat j)))]⟩
def mu_r3 (_ch:Den TI3) (_s _a:Str) (_i n _k j:Int) (_row _nx:List (Int)):Nat:=(n-j).toNat
theorem r_r3 (ch:Den TI3) (s a:Str) (i n k j:Int) (row nx:List (Int)) (K:Cont) (hI:pre_r3 ch s a i n k j row nx=true):(∀R:St→Option Fin,evC cx0_r3 (loopOf Tryz.f131 2) (st_r3 ch s a i n k j row nx) (onward (headAt cx0_r3 16) R K)=res_r3 ch s a i n k j row nx K) ∨
  (∃(ch':Den TI3) (s' a':Str) (i' n' k' j':Int) (row' nx':List (Int)),pre_r3 ch' s' a' i' n' k' j' row' nx'=true∧mu_r3 ch' s' a' i' n' k' j' row' nx'<mu_r3 ch s a i n k j row nx∧res_r3 ch' s' a' i' n' k' j' row' nx' K=res_r3 ch s a i n k j row nx K∧∀R:St→Option Fin,evC cx0_r3 (loopOf Tryz.f131 2) (st_r3 ch s a i n k j row nx) (onward (headAt cx0_r3 16) R K)=R (st_r3 ch' s' a' i' n' k' j' row' nx')):=by
 have hx:=fun R=>x_spec_l8Row_2 ch s a i n k j row nx R K;simp only[pre_r3,andd,dec_iff]at hI;obtain⟨h0,h1,hn,h2,h3,h4,h5,h6,h7,h8,h9⟩:=hI
 by_cases hj:j<n
 ·have w:W64 (j+1)=j+1:=wrap_small (by omega) (by omega);have hok:=bestR_ok (j:=j) h2 (byte_sign h3 h4 h5) h0 (by omega) h6 h7 h8;have hp:pre_r4 ch s a i n k j 100000 i row nx=true:=by
   simp only[pre_r4,andd,dec_iff];exact⟨h0,by omega,h2,h3,h4,h5,h6,h7,h8,rfl⟩
  have hf:fits (nx.length+[bestF (fRow s ch row (byteAt a k) j) (j+1-i).toNat i 100000].length) Tryz.t3.bytes=true:=fits_ok (by show nx.length+1≤_;omega) (by decide);obtain⟨m,hm⟩:∃m,(n-j).toNat=m+1:=⟨(n-j).toNat-1,by omega⟩;have hm2:(n-(j+1)).toNat=m:=by omega
  rw[zT hj,hp,hf,w]at hx;right;refine⟨ch,s,a,i,n,k,j+1,row,nx++[bestF (fRow s ch row (byteAt a k) j) (j+1-i).toNat i 100000], ?_, ?_, ?_,fun R=>hx R⟩
  ·simp only[pre_r3,andd,dec_iff];rw[length_append];exact⟨h0,by omega,hn,h2,h3,h4,h5,h6,h7,h8,by show((nx.length+1:Nat):Int)=_;omega⟩
  ·simp only[mu_r3];omega
  ·simp only[res_r3,hm,hm2,append_assoc];rfl
 ·left;intro R;refine(hx R).trans ?_;rw[zF hj];have e:(n-j).toNat=0:=by omega
  simp only[res_r3,e,nextF,List.append_nil];rfl
def g_r3:St→Cont→Option Fin:=gP sh_r3 (fun v=>match v with | ((ch,s,a,i,n,k,j,()),(row,nx,()))=>pre_r3 ch s a i n k j row nx) (fun v K=>match v with | ((ch,s,a,i,n,k,j,()),(row,nx,()))=>res_r3 ch s a i n k j row nx K)
def L_r3:LpL:=(16,g_r3)::L_r4
theorem l_r3 {L:LpL} (n:Nat) (h1:L.drop n=L_r4) (h2:idsFree (L.take n) (loopOf Tryz.f131 2)=true):LoopsTo g_r3 (cb_l8r) (loopOf Tryz.f131 2) 16 L :=
 with_drop h1 h2 (gP_ok (fun v=>match v with | ((ch,s,a,i,n,k,j,()),(row,nx,()))=>mu_r3 ch s a i n k j row nx) fun v K hI=>by
  obtain⟨⟨ch,s,a,i,n,k,j,⟨⟩⟩,⟨row,nx,⟨⟩⟩⟩:=v;exact(r_r3 ch s a i n k j row nx K hI).imp id fun⟨ch',s',a',i',n',k',j',row',nx',h⟩=>⟨((ch',s',a',i',n',k',j',()),(row',nx',())),h⟩)
abbrev st_r2 (ch:Den TI3) (s a:Str) (i n k:Int) (row:List (Int)):St:=⟨[(0, .d (ofD TI3 ch)),(1,vS s),(2,vS a),(3,vI i),(9,vI n),(10, ko0),(12,vI k)],[(500000,some (.lis 3 TI64 row))]⟩
theorem x_spec_l8Row_1 (ch:D3) (s a:Str) (i n k:Int) (row:List Int) (R:St→Option Fin) (K:Cont):evC (cb_l8r.withLoops (look L_r3)) (loopOf Tryz.f131 1) (st_r2 ch s a i n k row) (onward (headAt (cb_l8r.withLoops (look L_r3)) 12) R K)=(
branch (decide (k<(a.length:Int))) (
 need (pre_r3 ch s a i n k 0 row []) <| R (st_r2 ch s a i n (W64 (k+1)) (id (nextF s ch row (byteAt a k) i (n-0).toNat 0)))) ( K (.exit 3) (.mk [(10,ko0)] [(500000,some (.lis 3 TI64 row))]))):=by kernel_rfl
def rowsF (s:Str) (ch:D3) (i:Int):Str→List Int→List Int
 | [],row=>row
 |c::r,row=>rowsF s ch i r (nextF s ch row (c.toNat:Int) i (length s+1) 0)
theorem rowsF_ok {s:Str} {ch:D3} {i:Int} (h1:okD5 (length s+1) ch=true) (i0:0≤i) (h4:length s≤1000):∀ {r:Str} {row:List Int},List.all r sign=true→length row=length s+1→okL5 row=true→length (rowsF s ch i r row)=length s+1∧okL5 (rowsF s ch i r row)=true
 | [],_,_,hl,h=>⟨hl,h⟩
 |c::r,row,ha,hl,h=>by
  rw[List.all_cons,andd]at ha;unfold rowsF;exact rowsF_ok h1 i0 h4 (r:=r) ha.2 nextF_len (nextF_ok h1 (sign_I ha.1) i0 h4 hl h (by omega))
theorem rowsF_at {s:Str} {ch:D3} {i k:Int} {a:Str} {row:List Int} (k0:0≤k) (k1:k<(length a:Int)):rowsF s ch i (List.drop k.toNat a) row=rowsF s ch i (List.drop (k+1).toNat a) (nextF s ch row (byteAt a k) i (length s+1) 0):=by
 have hn:k.toNat<length a:=by omega
 have hb:byteAt a k=((a[k.toNat]).toNat:Int):=by
  unfold byteAt;rw[zG,zE hn];rfl
 rw[drop_eq_getElem_cons hn,show (k+1).toNat=k.toNat+1 by omega,hb];rfl
def cx0_r2:Cx:=(cb_l8r).withLoops (look L_r3)
def sh_r2:Sh:=([(0, .d TI3),(1, .d .str),(2, .d .str),(3, .d TI64),(9, .d TI64),(10, .own 500000),(12, .d TI64)],[(500000, .lis 3 TI64)])
def pre_r2 (ch:Den TI3) (s a:Str) (i n k:Int) (row:List (Int)):Bool:=decide (0≤i)&&(decide (0≤k)&&(decide (n=(length s:Int)+1)&&(okD5 (length s+1) ch&&(List.all a sign&&(decide (length a≤1000)&&(decide (length s≤1000)&&(decide (length row=length s+1)&&okL5 row)))))))
def res_r2 (ch:Den TI3) (s a:Str) (i _n k:Int) (row:List (Int)) (K:Cont):Option Fin:=K (.exit 3) ⟨[(10, ko0)],[(500000,some (.lis 3 TI64 (rowsF s ch i (List.drop k.toNat a) row)))]⟩
def mu_r2 (_ch:Den TI3) (_s a:Str) (_i _n k:Int) (_row:List (Int)):Nat:=length a-k.toNat
theorem r_r2 (ch:Den TI3) (s a:Str) (i n k:Int) (row:List (Int)) (K:Cont) (hI:pre_r2 ch s a i n k row=true):(∀R:St→Option Fin,evC cx0_r2 (loopOf Tryz.f131 1) (st_r2 ch s a i n k row) (onward (headAt cx0_r2 12) R K)=res_r2 ch s a i n k row K) ∨
  (∃(ch':Den TI3) (s' a':Str) (i' n' k':Int) (row':List (Int)),pre_r2 ch' s' a' i' n' k' row'=true∧mu_r2 ch' s' a' i' n' k' row'<mu_r2 ch s a i n k row∧res_r2 ch' s' a' i' n' k' row' K=res_r2 ch s a i n k row K∧∀R:St→Option Fin,evC cx0_r2 (loopOf Tryz.f131 1) (st_r2 ch s a i n k row) (onward (headAt cx0_r2 12) R K)=R (st_r2 ch' s' a' i' n' k' row')):=by
 have hx:=fun R=>x_spec_l8Row_1 ch s a i n k row R K;simp only[pre_r2,andd,dec_iff]at hI;obtain⟨h0,h1,hn,h2,h3,h4,h6,h7,h8⟩:=hI
 by_cases hk:k<(length a:Int)
 ·have w:W64 (k+1)=k+1:=wrap_small (by omega) (by omega);have hp:pre_r3 ch s a i n k 0 row []=true:=by
   simp only[pre_r3,andd,dec_iff];exact⟨h0,Int.le_refl 0,hn,h2,h3,h1,hk,h6,h7,h8,rfl⟩
  have hm:(n-0).toNat=length s+1:=by omega
  have hg:=rowsF_at (s:=s) (ch:=ch) (i:=i) (row:=row) h1 hk;have hok:=nextF_ok (n:=length s+1) (j:=0) h2 (byte_sign h3 h1 hk) h0 h6 h7 h8 (by omega);rw[zT hk,hp,w,hm]at hx;right;refine⟨ch,s,a,i,n,k+1,nextF s ch row (byteAt a k) i (length s+1) 0, ?_, ?_, ?_,fun R=>hx R⟩
  ·simp only[pre_r2,andd,dec_iff];exact⟨h0,by omega,hn,h2,h3,h4,h6,nextF_len,hok⟩
  ·simp only[mu_r2];omega
  ·simp only[res_r2,hg]
 ·left;intro R;refine(hx R).trans ?_;rw[zF hk];have e:List.drop k.toNat a=[]:=drop_eq_nil_of_le (by omega);simp only[res_r2,e];rfl
def g_r2:St→Cont→Option Fin:=gP sh_r2 (fun v=>match v with | ((ch,s,a,i,n,k,()),(row,()))=>pre_r2 ch s a i n k row) (fun v K=>match v with | ((ch,s,a,i,n,k,()),(row,()))=>res_r2 ch s a i n k row K)
def L_r2:LpL:=(12,g_r2)::L_r3
theorem l_r2 {L:LpL} (n:Nat) (h1:L.drop n=L_r3) (h2:idsFree (L.take n) (loopOf Tryz.f131 1)=true):LoopsTo g_r2 (cb_l8r) (loopOf Tryz.f131 1) 12 L :=
 with_drop h1 h2 (gP_ok (fun v=>match v with | ((ch,s,a,i,n,k,()),(row,()))=>mu_r2 ch s a i n k row) fun v K hI=>by
  obtain⟨⟨ch,s,a,i,n,k,⟨⟩⟩,⟨row,⟨⟩⟩⟩:=v;exact(r_r2 ch s a i n k row K hI).imp id fun⟨ch',s',a',i',n',k',row',h⟩=>⟨((ch',s',a',i',n',k',()),(row',())),h⟩)
abbrev st_r1 (ch:Den TI3) (s a:Str) (i n j:Int) (row:List (Int)):St:=⟨[(0, .d (ofD TI3 ch)),(1,vS s),(2,vS a),(3,vI i),(9,vI n),(10, ko0),(11,vI j)],[(500000,some (.lis 3 TI64 row))]⟩
theorem x_spec_l8Row (ch:D3) (s a:Str) (i n j:Int) (row:List Int) (R:St→Option Fin) (K:Cont):evC (cb_l8r.withLoops (look L_r2)) (loopOf Tryz.f131 0) (st_r1 ch s a i n j row) (onward (headAt (cb_l8r.withLoops (look L_r2)) 4) R K)=(
branch (decide (j<n)) (
 branch (bif decide (a=[])then decide (i≤j)else false) (
 need (fits (row.length+[W64 (j-i)].length) Tryz.t3.bytes) <| R (st_r1 ch s a i n (W64 (j+1)) (row.append [W64 (j-i)]))) (
 branch (decide (j=i)) (
  need (fits (row.length+[0].length) Tryz.t3.bytes) <| R (st_r1 ch s a i n (W64 (j+1)) (row.append [0]))) (
  need (fits (row.length+[100000].length) Tryz.t3.bytes) <| R (st_r1 ch s a i n (W64 (j+1)) (row.append [100000]))))) ( K (.exit 0) (.mk [(0,(.d (.one (.r (.li TI2 ch))))),(1,vS s),(2,vS a),(3,vI i),(9,vI n),(10,ko0)] [(500000,some (.lis 3 TI64 row))]))):=by kernel_rfl
def e0 (a:Str) (i j:Int):Int:=bif (bif decide (a=[])then decide (i≤j)else false)then j-i else bif decide (j=i)then 0 else 100000
def initF (a:Str) (i:Int):Nat→Int→List Int
 |0,_=>[]
 |n+1,j=>e0 a i j::initF a i n (j+1)
theorem initF_len {a:Str} {i:Int}:∀ {n:Nat} {j:Int},(initF a i n j).length=n
 |0,_=>rfl
 |n+1,j=>by
  unfold initF;rw[length_cons,initF_len]
theorem e0_ok {a:Str} {i j:Int} (i0:0≤i) (j1:j≤1000):0≤e0 a i j∧e0 a i j≤100000:=by
 unfold e0
 cases hc:(bif decide (a=[])then decide (i≤j)else false)
 ·rw[cond_false]
  cases decide (j=i)
  ·exact ⟨by decide,by decide⟩
  ·exact ⟨by decide,by decide⟩
 ·rw[cond_true]
  cases ha:decide (a=[])
  ·rw[ha]at hc;cases hc
  ·rw[ha,cond_true,dec_iff]at hc;omega
theorem initF_ok {a:Str} {i:Int} (i0:0≤i):∀ {n:Nat} {j:Int},j+n≤1001→okL5 (initF a i n j)=true
 |0,_,_=>rfl
 |n+1,j,h=>by
  unfold initF;exact andd.2 ⟨okE_iff.2 (e0_ok i0 (by omega)),initF_ok i0 (n:=n) (j:=j+1) (by omega)⟩
def cx0_r1:Cx:=(cb_l8r).withLoops (look L_r2)
def sh_r1:Sh:=([(0, .d TI3),(1, .d .str),(2, .d .str),(3, .d TI64),(9, .d TI64),(10, .own 500000),(11, .d TI64)],[(500000, .lis 3 TI64)])
def pre_r1 (_ch:Den TI3) (_s _a:Str) (i n j:Int) (row:List (Int)):Bool:=decide (0≤i)&&(decide (0≤j)&&(decide (n≤1001)&&decide ((length row:Int)=j)))
def res_r1 (ch:Den TI3) (s a:Str) (i n j:Int) (row:List (Int)) (K:Cont):Option Fin:=K (.exit 0) ⟨[(0, .d (ofD TI3 ch)),(1,vS s),(2,vS a),(3,vI i),(9,vI n),(10, ko0)],[(500000,some (.lis 3 TI64 (row++initF a i (n-j).toNat j)))]⟩
def mu_r1 (_ch:Den TI3) (_s _a:Str) (_i n j:Int) (_row:List (Int)):Nat:=(n-j).toNat
theorem r_r1 (ch:Den TI3) (s a:Str) (i n j:Int) (row:List (Int)) (K:Cont) (hI:pre_r1 ch s a i n j row=true):(∀R:St→Option Fin,evC cx0_r1 (loopOf Tryz.f131 0) (st_r1 ch s a i n j row) (onward (headAt cx0_r1 4) R K)=res_r1 ch s a i n j row K) ∨
  (∃(ch':Den TI3) (s' a':Str) (i' n' j':Int) (row':List (Int)),pre_r1 ch' s' a' i' n' j' row'=true∧mu_r1 ch' s' a' i' n' j' row'<mu_r1 ch s a i n j row∧res_r1 ch' s' a' i' n' j' row' K=res_r1 ch s a i n j row K∧∀R:St→Option Fin,evC cx0_r1 (loopOf Tryz.f131 0) (st_r1 ch s a i n j row) (onward (headAt cx0_r1 4) R K)=R (st_r1 ch' s' a' i' n' j' row')):=by
 have hx:=fun R=>x_spec_l8Row ch s a i n j row R K;simp only[pre_r1,andd,dec_iff]at hI;obtain⟨h0,h1,h2,h3⟩:=hI
 by_cases hj:j<n
 ·have w:W64 (j+1)=j+1:=wrap_small (by omega) (by omega);have w2:W64 (j-i)=j-i∨¬i≤j:=by
   by_cases hij:i≤j
   ·exact .inl (wrap_small (by omega) (by omega))
   ·exact .inr hij
  have hf:fits (row.length+1) Tryz.t3.bytes=true:=fits_ok (by omega) (by decide);obtain⟨m,hm⟩:∃m,(n-j).toNat=m+1:=⟨(n-j).toNat-1,by omega⟩;have hm2:(n-(j+1)).toNat=m:=by omega
  change ∀R:St→Option Fin,_=branch (decide (j<n)) (branch (bif decide (a=[])then decide (i≤j)else false) (need (fits (row.length+1) Tryz.t3.bytes) _) (branch (decide (j=i)) (need (fits (row.length+1) Tryz.t3.bytes) _) (need (fits (row.length+1) Tryz.t3.bytes) _))) _ at hx;rw[zT hj,hf,w]at hx;right;refine⟨ch,s,a,i,n,j+1,row++[e0 a i j], ?_, ?_, ?_,fun R=>(hx R).trans ?_⟩
  ·simp only[pre_r1,andd,dec_iff];rw[length_append];exact⟨h0,by omega,h2,by show((row.length+1:Nat):Int)=_;omega⟩
  ·simp only[mu_r1];omega
  ·simp only[res_r1,hm,hm2,append_assoc];rfl
  ·unfold e0
   cases hc:(bif decide (a=[])then decide (i≤j)else false)
   ·cases decide (j=i)<;>rfl
   ·rcases w2 with w2 | w2
    ·rw[w2];rfl
    ·rw[zF w2]at hc
     cases ha:decide (a=[])<;>rw[ha]at hc<;>cases hc
 ·left;intro R;refine(hx R).trans ?_;rw[zF hj];have e:(n-j).toNat=0:=by omega
  simp only[res_r1,e,initF,List.append_nil];rfl
def g_r1:St→Cont→Option Fin:=gP sh_r1 (fun v=>match v with | ((ch,s,a,i,n,j,()),(row,()))=>pre_r1 ch s a i n j row) (fun v K=>match v with | ((ch,s,a,i,n,j,()),(row,()))=>res_r1 ch s a i n j row K)
def L_r1:LpL:=(4,g_r1)::L_r2
def cx_r1:Cx:=(cb_l8r).withLoops (look L_r1)
theorem l_r1 {L:LpL} (n:Nat) (h1:L.drop n=L_r2) (h2:idsFree (L.take n) (loopOf Tryz.f131 0)=true):LoopsTo g_r1 (cb_l8r) (loopOf Tryz.f131 0) 4 L :=
 with_drop h1 h2 (gP_ok (fun v=>match v with | ((ch,s,a,i,n,j,()),(row,()))=>mu_r1 ch s a i n j row) fun v K hI=>by
  obtain⟨⟨ch,s,a,i,n,j,⟨⟩⟩,⟨row,⟨⟩⟩⟩:=v;exact(r_r1 ch s a i n j row K hI).imp id fun⟨ch',s',a',i',n',j',row',h⟩=>⟨((ch',s',a',i',n',j',()),(row',())),h⟩)
def rowV (s:Str) (ch:D3) (a:Str) (i:Int):List Int:=rowsF s ch i a (initF a i (length s+1) 0)
theorem y_spec_l8Row (ch:Den TI3) (s:Str) (a:Str) (i:Int):evFn cx_r1 Tryz.f131 false [ofD TI3 ch,ofD .str s,ofD .str a,ofD TI64 i] []=(
need (pre_r1 ch s a i (W64 ((s.length:Int)+1)) 0 []) <|
need (pre_r2 ch s a i (W64 ((s.length:Int)+1)) 0 (id (initF a i (W64 ((s.length:Int)+1)-0).toNat 0))) <| some ((.d (.one (.own 1000))),[(1000,(.some (.lis 3 TI64 (rowsF s ch i a (id (initF a i (W64 ((s.length:Int)+1)-0).toNat 0))))))])):=by kernel_rfl
theorem s_spec_l8Row (ch:Den TI3) (_hch:Fit TI3 ch) (s:Str) (_hs:Fit .str s) (a:Str) (_ha:Fit .str a) (i:Int) (_hi:Fit TI64 i) (hpre:(decide (0≤i)&&(okD5 (length s+1) ch&&(List.all a sign&&(decide (length a≤1000)&&decide (length s≤1000)))))=true):Sat Tryz.prog 131 [ofD TI3 ch,ofD .str s,ofD .str a,ofD TI64 i] [] (.d (.one (.own 1000))) ([(1000,some (.lis 3 TI64 (rowV s ch a i)))]) :=
 fn_sound (cx:=cx_r1) Tryz.func131 rfl ttOk Γ60ok mixed (fun c hc=>LoopsOk.all (l:=[(4,loopOf Tryz.f131 0),(12,loopOf Tryz.f131 1),(16,loopOf Tryz.f131 2),(20,loopOf Tryz.f131 3)]) (by cases hc;kernel_rfl) ⟨atLoop rfl (l_r1 1 rfl (by kernel_rfl)),atLoop rfl (l_r2 2 rfl (by kernel_rfl)),atLoop rfl (l_r3 3 rfl (by kernel_rfl)),atLoop rfl (l_r4 4 rfl (by kernel_rfl)),trivial⟩) (ro:=false) (by
  simp only[andd,dec_iff]at hpre;obtain⟨h0,h1,h2,h3,h4⟩:=hpre;have w:W64 ((length s:Int)+1)=(length s:Int)+1:=wrap_small (by omega) (by omega);have e1:((length s:Int)+1-0).toNat=length s+1:=by omega
  have p1:pre_r1 ch s a i ((length s:Int)+1) 0 []=true:=by
   simp only[pre_r1,andd,dec_iff];exact⟨h0,Int.le_refl 0,by omega,rfl⟩
  have p2:pre_r2 ch s a i ((length s:Int)+1) 0 (initF a i (length s+1) 0)=true:=by
   simp only[pre_r2,andd,dec_iff];exact⟨h0,Int.le_refl 0,trivial,h1,h2,h3,h4,initF_len,initF_ok h0 (by omega)⟩
  rw[y_spec_l8Row,w,e1];change need (pre_r1 ch s a i ((length s:Int)+1) 0 []) (need (pre_r2 ch s a i ((length s:Int)+1) 0 (initF a i (length s+1) 0)) _)=_;rw[p1,p2];rfl)
def c_spec_l8Row:Con:=conN [TI3, .str, .str,TI64] fun(ch:Den TI3) (s:Str) (a:Str) (i:Int)=>(some (decide (0≤i)&&(okD5 (length s+1) ch&&(List.all a sign&&(decide (length a≤1000)&&decide (length s≤1000))))), .d (.one (.own 1000)),[(1000,some (.lis 3 TI64 (rowV s ch a i)))])
theorem k_spec_l8Row:ConOk Tryz.prog 131 c_spec_l8Row:=conN_ok Tryz.call131 fun ch hch s hs a ha i hi hqq=>s_spec_l8Row ch hch s hs a ha i hi (pre_of hqq)
def Γ61:GL:=(131,c_spec_l8Row)::Γ60
theorem Γ61ok:GO Γ61 := .cons k_spec_l8Row Γ60ok
theorem rowV_ok {s:Str} {ch:D3} {a:Str} {i:Int} (h0:0≤i) (h1:okD5 (length s+1) ch=true) (h2:List.all a sign=true) (h4:length s≤1000):length (rowV s ch a i)=length s+1∧okL5 (rowV s ch a i)=true:=rowsF_ok h1 h0 h4 h2 initF_len (initF_ok h0 (by omega))
abbrev us3:List Nat:=[107,68,3]
abbrev us2:List Nat:=[68,3]
def cb_l8c:Cx:=cxOf Γ61 Tryz.f99.ntmps [(29,[1,2,5,6,12,13,14,15,16,17]),(25,[1,2,5,6,12,13,14,15]),(21,[1,2,5,6,12,13]),(18,[1,2,5,6,12]),(12,[1,2,5,6,7,8,9,10,11]),(8,[1,2,5,6,7,8,9]),(4,[1,2,5,6,7])] [(6,[6]),(7,[1,2,5,6,12]),(8,[1,2,5,6,12]),(9,[1,2,5,6,12,13]),(10,[1,2,5,6,12,13]),(11,[1,2,5,6,12,13,14,15]),(12,[1,2,5,6,12,13,14,15]),(13,[1,2,5,6,12,13,14,15,16,17]),(0,[1,2,5,6]),(1,[1,2,5,6,7]),(2,[1,2,5,6,7,8]),(3,[1,2,5,6,7,8,9]),(4,[1,2,5,6,7,8,9,10]),(5,[1,2,5,6,7,8,9,10,11]),(1000000,[4])] [] []
abbrev l8H (g:Gram) (ch:D3):Heap:=[(500000,some (boxD 25 TG g)),(500001,some (.deep us3 TI2 ch))]
theorem x_spec_l8Costs_6 (g:Gram) (ch:D3) (s:Str) (n ri k i j:Int) (b:Bool) (row:List Int) (R:St→Option Fin) (K:Cont):evC (cb_l8c.withLoops (look [])) (loopOf Tryz.f99 6) ⟨[(1,vS s),(2, kp0),(5,vI n),(6, .d (.one (.dsl 500001 []))),(12,vB b),(13,vI ri),(14,vI k),(15,vI i),(16, ko2),(17,vI j)],l8H g ch++[(500002,some (.lis 3 TI64 row))]⟩ (onward (headAt (cb_l8c.withLoops (look [])) 29) R K)=(
branch (decide (j<n)) (
 need (inb j row.length) <|
 need (inb k ch.length) <|
 need (inb i (getD ch k.toNat []).length) <|
 need (inb j ((getD ch k.toNat []).getD i.toNat []).length) <|
 branch (decide ((row.getD j.toNat 0)<(((getD ch k.toNat []).getD i.toNat []).getD j.toNat 0))) (
 need (inb k ch.length) <|
 need (inb i (getD ch k.toNat []).length) <|
 need (inb j row.length) <|
 need (inb j ((getD ch k.toNat []).getD i.toNat []).length) <| R (.mk [(1,vS s),(2,kp0),(5,vI n),(6,(.d (.one (.dsl 500001 ([]))))),(12,vB true),(13,vI ri),(14,vI k),(15,vI i),(16,ko2),(17,vI (W64 (j+1)))] [(500000,some (boxD 25 TG g)),(500001,(.some (.deep us3 TI2 (List.set ch k.toNat ((getD ch k.toNat []).set i.toNat (((getD ch k.toNat []).getD i.toNat []).set j.toNat (row.getD j.toNat 0))))))),(500002,some (.lis 3 TI64 row))])) ( R (.mk [(1,vS s),(2,kp0),(5,vI n),(6,(.d (.one (.dsl 500001 ([]))))),(12,vB b),(13,vI ri),(14,vI k),(15,vI i),(16,ko2),(17,vI (W64 (j+1)))] [(500000,some (boxD 25 TG g)),(500001,(.some (.deep us3 TI2 ch))),(500002,some (.lis 3 TI64 row))]))) ( K (.exit 12) (.mk [(1,vS s),(2,kp0),(5,vI n),(6,(.d (.one (.dsl 500001 ([]))))),(12,vB b),(13,vI ri),(14,vI k),(15,vI i)] [(500000,some (boxD 25 TG g)),(500001,(.some (.deep us3 TI2 ch)))]))):=by kernel_rfl
def setD (ch:D3) (k i j v:Int):D3:=List.set ch k.toNat (List.set (getD ch k.toNat []) i.toNat (List.set (getD (getD ch k.toNat []) i.toNat []) j.toNat v))
def atM (ch:D3) (a b c:Nat):Int:=getD (getD (getD ch a []) b []) c 0
theorem okD5_set {n:Nat} {ch:D3} (h:okD5 n ch=true) {k i j v:Int} (k0:0≤k) (k1:k<5) (i0:0≤i) (i1:i<(n:Int)) (hv:0≤v∧v≤100000):okD5 n (setD ch k i j v)=true:=by
 obtain⟨l1,l2,l3⟩:=okD5_at h k0 k1 i0 i1;obtain⟨h1,h2⟩:=okD5_iff.1 h;have h3:=h2 (getD ch k.toNat []) (getD_mem (by omega));refine okD5_iff.2 ⟨by unfold setD;rw[length_set];exact h1,fun r hr => ?_⟩;unfold setD at hr;rcases List.mem_or_eq_of_mem_set hr with hr | rfl
 ·exact h2 r hr
 ·refine ⟨by rw[length_set];exact l2,fun q hq => ?_⟩;rcases List.mem_or_eq_of_mem_set hq with hq | rfl
  ·exact h3.2 q hq
  ·refine ⟨by rw[length_set];exact l3,fun e he => ?_⟩;rcases List.mem_or_eq_of_mem_set he with he | rfl
   ·exact (h3.2 (getD (getD ch k.toNat []) i.toNat []) (getD_mem (by omega))).2 e he
   ·exact hv
theorem atM_set {n:Nat} {ch:D3} (h:okD5 n ch=true) {k i j v:Int} (k0:0≤k) (k1:k<5) (i0:0≤i) (i1:i<(n:Int)) (j0:0≤j) (j1:j<(n:Int)) {a b c:Nat}:atM (setD ch k i j v) a b c=if a=k.toNat∧b=i.toNat∧c=j.toNat then v else atM ch a b c:=by
 obtain⟨l1,l2,l3⟩:=okD5_at h k0 k1 i0 i1;unfold atM setD;rw[getD_set (by omega)]
 by_cases e1:k.toNat=a
 ·rw[if_pos e1,getD_set (by omega)]
  by_cases e2:i.toNat=b
  ·rw[if_pos e2,getD_set (by omega)]
   by_cases e3:j.toNat=c
   ·rw[if_pos e3,if_pos ⟨e1.symm,e2.symm,e3.symm⟩]
   ·rw[if_neg e3,if_neg (fun q=>e3 q.2.2.symm),e1,e2]
  ·rw[if_neg e2,if_neg (fun q=>e2 q.2.1.symm),e1]
 ·rw[if_neg e1,if_neg (fun q=>e1 q.1.symm)]
def minsL (k i:Int) (row:List Int):Nat→Int→D3×Bool→D3×Bool
 |0,_,p=>p
 |n+1,j,p=>minsL k i row n (j+1) (bif decide (row.getD j.toNat 0<atD p.1 k i j)then(setD p.1 k i j (row.getD j.toNat 0),true)else p)
abbrev MinsOk (n:Nat) (k i:Int) (row:List Int) (m:Nat) (j:Int) (p:D3×Bool):Prop :=
  okD5 n (minsL k i row m j p).1=true∧(∀a b c,atM (minsL k i row m j p).1 a b c≤atM p.1 a b c) ∧
  ((minsL k i row m j p).2=true→p.2=true∨∃c:Nat,c<n∧atM (minsL k i row m j p).1 k.toNat i.toNat c<atM p.1 k.toNat i.toNat c) ∧
  ((minsL k i row m j p).2=false→p.2=false∧minsL k i row m j p=p∧∀q,j≤q→q<j+m→atD p.1 k i q≤row.getD q.toNat 0) ∧
  (∀a b c,atM (minsL k i row m j p).1 a b c=atM p.1 a b c∨(a=k.toNat∧b=i.toNat∧(j≤(c:Int)∧(c:Int)<j+m)∧atM (minsL k i row m j p).1 a b c=row.getD c 0))
theorem mins_step {n:Nat} {k i:Int} {row:List Int} (k0:0≤k) (k1:k<5) (i0:0≤i) (i1:i<(n:Int)) (hr:okL5 row=true) (hl:row.length=n):∀ {m:Nat} {j:Int} {p:D3×Bool},0≤j→j+m≤(n:Int)→okD5 n p.1=true →
  MinsOk n k i row m j p
 |0,j,p,_,_,h=>⟨h,fun _ _ _=>Int.le_refl _,fun h => .inl h,fun h=>⟨h,rfl,fun q q0 q1=>by omega⟩,fun _ _ _ => .inl rfl⟩
 |m+1,j,p,j0,j1,h=>by
  unfold MinsOk minsL
  cases hc:decide (row.getD j.toNat 0<atD p.1 k i j)
  ·rw[cond_false];obtain⟨a1,a2,a3,a4,a5⟩:=mins_step k0 k1 i0 i1 hr hl (m:=m) (j:=j+1) (p:=p) (by omega) (by omega) h;refine⟨a1,a2,a3,fun hf => ?_,fun a b c => ?_⟩
   ·obtain ⟨b1,b2,b3⟩:=a4 hf;refine⟨b1,b2,fun q q0 q1 => ?_⟩
    by_cases hq:q=j
    ·have:=of_decide_eq_false hc;rw[hq];omega
    ·exact b3 q (by omega) (by omega)
   ·rcases a5 a b c with e | ⟨e1,e2,e3,e4⟩
    ·exact .inl e
    ·exact .inr ⟨e1,e2,⟨by omega,by omega⟩,e4⟩
  ·rw[cond_true];have hlt:=dec_iff.1 hc;have hv:=okL5_at (i:=j.toNat) hr (by omega);have hs:∀a b c,atM (setD p.1 k i j (row.getD j.toNat 0)) a b c=if a=k.toNat∧b=i.toNat∧c=j.toNat then row.getD j.toNat 0 else atM p.1 a b c:=fun a b c=>atM_set h k0 k1 i0 i1 j0 (by omega);obtain⟨a1,a2,a3,a4,a5⟩:=mins_step k0 k1 i0 i1 hr hl (m:=m) (j:=j+1) (p:=(setD p.1 k i j (row.getD j.toNat 0),true)) (by omega) (by omega) (okD5_set h k0 k1 i0 i1 hv);have hlt:row.getD j.toNat 0<atM p.1 k.toNat i.toNat j.toNat:=hlt;refine⟨a1,fun a b c=>Int.le_trans (a2 a b c) ?_,fun _ => .inr ⟨j.toNat,by omega,Int.lt_of_le_of_lt (a2 _ _ _) ?_⟩,fun hf => ?_,fun a b c => ?_⟩
   ·show atM (setD p.1 k i j (row.getD j.toNat 0)) a b c≤_;rw[hs]
    split
    ·rename_i hq;rw[hq.1,hq.2.1,hq.2.2];exact Int.le_of_lt hlt
    ·exact Int.le_refl _
   ·show atM (setD p.1 k i j (row.getD j.toNat 0)) _ _ _<_;rw[hs,if_pos ⟨rfl,rfl,rfl⟩];exact hlt
   ·cases (a4 hf).1
   ·rcases a5 a b c with e | ⟨e1,e2,e3,e4⟩
    ·rw[show (setD p.1 k i j (row.getD j.toNat 0),true).1=setD p.1 k i j (row.getD j.toNat 0)from rfl,hs]at e
     split at e
     ·rename_i hq;exact .inr ⟨hq.1,hq.2.1,⟨by omega,by omega⟩,by rw[e,hq.2.2]⟩
     ·exact .inl e
    ·exact .inr ⟨e1,e2,⟨by omega,by omega⟩,e4⟩
def stepF (s:Str) (v:VisE) (p:D3×Bool):D3×Bool:=minsL (keyK v.2) v.1 (rowV s p.1 v.2.2 v.1) ((length s:Int)+1-v.1).toNat v.1 p
def hasE (ch:D3) (x:Nat×Nat×Nat×Nat):Bool:=decide (atM ch x.1 x.2.1 x.2.2.1≤(x.2.2.2:Int))
def farN:Nat:=100001
def keysF (n:Nat) (v:VisE):List (Nat×Nat×Nat×Nat):=(List.range n).flatMap fun c=>(List.range farN).map fun(e:Nat)=>((keyK v.2).toNat,v.1.toNat,c,e)
theorem stepF_at {s:Str} {v:VisE} {p:D3×Bool} (hs:length s≤1000) (hv:goodE s v) (hp:okD5 (length s+1) p.1=true):MinsOk (length s+1) (keyK v.2) v.1 (rowV s p.1 v.2.2 v.1) ((length s:Int)+1-v.1).toNat v.1 p :=
 mins_step (n:=length s+1) (k:=keyK v.2) (i:=v.1) (row:=rowV s p.1 v.2.2 v.1) (keyK_in hv.2.2.1).1 (keyK_in hv.2.2.1).2.1 hv.1 (by have:=hv.2.1;omega) (rowV_ok hv.1 hp hv.2.2.2.2 hs).2 (rowV_ok hv.1 hp hv.2.2.2.2 hs).1 (m:=((length s:Int)+1-v.1).toNat) (j:=v.1) (p:=p) hv.1 (by have:=hv.2.1;omega) hp
theorem stepF_ok {s:Str} (hs:length s≤1000):StepOk (fun ch=>okD5 (s.length+1) ch=true) (goodE s) hasE (keysF (s.length+1)) (stepF s) where
 inv v p hv hp:=(stepF_at hs hv hp).1
 mono v p x hv hp h:=by
  have:=(stepF_at hs hv hp).2.1 x.1 x.2.1 x.2.2.1;exact zT (Int.le_trans this (dec_iff.1 h))
 new v p hv hp h:=by
  obtain⟨a1,a2,a3,a4,a5⟩:=stepF_at hs hv hp;rcases a3 h with h | ⟨c,hc,hlt⟩
  ·exact .inl h
  ·obtain ⟨k0,k1,_⟩:=keyK_in hv.2.2.1;have hb:=atD_ok (k:=keyK v.2) (i:=v.1) (j:=(c:Int)) a1 k0 k1 hv.1 (by have:=hv.2.1;omega) (by omega) (by omega);have hb:0≤atM (stepF s v p).1 (keyK v.2).toNat v.1.toNat c∧atM (stepF s v p).1 (keyK v.2).toNat v.1.toNat c≤100000:=hb;have hlt:atM (stepF s v p).1 (keyK v.2).toNat v.1.toNat c<atM p.1 (keyK v.2).toNat v.1.toNat c:=hlt;refine .inr ⟨((keyK v.2).toNat,v.1.toNat,c,(atM (stepF s v p).1 (keyK v.2).toNat v.1.toNat c).toNat),List.mem_flatMap.2 ⟨c,List.mem_range.2 hc,List.mem_map.2 ⟨_,List.mem_range.2 ?_,rfl⟩⟩,zF ?_,zT ?_⟩
   ·have:farN=100001:=rfl;omega
   ·show ¬atM p.1 (keyK v.2).toNat v.1.toNat c≤(((atM (stepF s v p).1 (keyK v.2).toNat v.1.toNat c).toNat:Nat):Int);omega
   ·show atM (stepF s v p).1 (keyK v.2).toNat v.1.toNat c≤(((atM (stepF s v p).1 (keyK v.2).toNat v.1.toNat c).toNat:Nat):Int);omega
 quiet v p hv hp h:=by
  obtain⟨b1,b2,_⟩:=(stepF_at hs hv hp).2.2.2.1 h;exact⟨b1,b2⟩
def cx0_j6:Cx:=(cb_l8c).withLoops (look [])
def sh_j6:Sh:=([(1, .d .str),(2, .ptr 500000 0),(5, .d TI64),(6, .deep 500001),(12, .d .bool),(13, .d TI64),(14, .d TI64),(15, .d TI64),(16, .own 500002),(17, .d TI64)],[(500000, .box 25 TG),(500001, .deep us3 TI2),(500002, .lis 3 TI64)])
abbrev st_j6 (s:Str) (n:Int) (b:Bool) (ri k i j:Int) (g:Gram) (ch:List (Den TI2)) (row:List (Int)):St:=⟨[(1,vS s),(2, kp0),(5,vI n),(6, .d (.one (.dsl 500001 []))),(12,vB b),(13,vI ri),(14,vI k),(15,vI i),(16, ko2),(17,vI j)],[(500000,some (boxD 25 TG g)),(500001,some (.deep us3 TI2 ch)),(500002,some (.lis 3 TI64 row))]⟩
def pre_j6 (s:Str) (n:Int) (_b:Bool) (_ri k i j:Int) (_g:Gram) (ch:List (Den TI2)) (row:List (Int)):Bool:=decide (0≤j)&&(decide (n=(length s:Int)+1)&&(decide (length s≤1000)&&(okD5 (length s+1) ch&&(decide (0≤k)&&(decide (k<5)&&(decide (0≤i)&&(decide (i≤(length s:Int))&&(decide (length row=length s+1)&&okL5 row))))))))
def res_j6 (s:Str) (n:Int) (b:Bool) (ri k i j:Int) (g:Gram) (ch:List (Den TI2)) (row:List (Int)) (K:Cont):Option Fin:=K (.exit 12) ⟨[(1,vS s),(2, kp0),(5,vI n),(6, .d (.one (.dsl 500001 []))),(12,vB (minsL k i row (n-j).toNat j (ch,b)).2),(13,vI ri),(14,vI k),(15,vI i)],l8H g (minsL k i row (n-j).toNat j (ch,b)).1⟩
def mu_j6 (_s:Str) (n:Int) (_b:Bool) (_ri _k _i j:Int) (_g:Gram) (_ch:List (Den TI2)) (_row:List (Int)):Nat:=(n-j).toNat
theorem r_j6 (s:Str) (n:Int) (b:Bool) (ri k i j:Int) (g:Gram) (ch:List (Den TI2)) (row:List (Int)) (K:Cont) (hI:pre_j6 s n b ri k i j g ch row=true):(∀R:St→Option Fin,evC cx0_j6 (loopOf Tryz.f99 6) (st_j6 s n b ri k i j g ch row) (onward (headAt cx0_j6 29) R K)=res_j6 s n b ri k i j g ch row K) ∨
  (∃(s':Str) (n':Int) (b':Bool) (ri' k' i' j':Int) (g':Gram) (ch':List (Den TI2)) (row':List (Int)),pre_j6 s' n' b' ri' k' i' j' g' ch' row'=true∧mu_j6 s' n' b' ri' k' i' j' g' ch' row'<mu_j6 s n b ri k i j g ch row∧res_j6 s' n' b' ri' k' i' j' g' ch' row' K=res_j6 s n b ri k i j g ch row K∧∀R:St→Option Fin,evC cx0_j6 (loopOf Tryz.f99 6) (st_j6 s n b ri k i j g ch row) (onward (headAt cx0_j6 29) R K)=R (st_j6 s' n' b' ri' k' i' j' g' ch' row')):=by
 have hx:=fun R=>x_spec_l8Costs_6 g ch s n ri k i j b row R K;simp only[pre_j6,andd,dec_iff]at hI;obtain⟨h0,rfl,hs,h1,k0,k1,i0,i1,h2,h3⟩:=hI
 by_cases hj:j<(length s:Int)+1
 ·have w:W64 (j+1)=j+1:=wrap_small (by omega) (by omega);obtain⟨l1,l2,l3⟩:=okD5_at h1 k0 k1 i0 (by omega);have hv:=okL5_at (i:=j.toNat) h3 (by omega);obtain⟨m,hm⟩:∃m,((length s:Int)+1-j).toNat=m+1:=⟨((length s:Int)+1-j).toNat-1,by omega⟩;have hm2:((length s:Int)+1-(j+1)).toNat=m:=by omega
  have hg:minsL k i row (m+1) j (ch,b)=minsL k i row m (j+1) (bif decide (row.getD j.toNat 0<atD ch k i j)then(setD ch k i j (row.getD j.toNat 0),true)else(ch,b)):=rfl;rw[zT hj,l1,l2,l3,h2,inb_ok h0 (by omega),inb_ok k0 (by omega),inb_ok i0 (by omega),w]at hx;change ∀R:St→Option Fin,_=branch (decide (row.getD j.toNat 0<atD ch k i j)) _ _ at hx;right
  cases hc:decide (row.getD j.toNat 0<atD ch k i j)
  ·rw[hc]at hx hg;refine⟨s,(length s:Int)+1,b,ri,k,i,j+1,g,ch,row, ?_, ?_, ?_,fun R=>hx R⟩
   ·simp only[pre_j6,andd,dec_iff];exact⟨by omega,trivial,hs,h1,k0,k1,i0,i1,h2,h3⟩
   ·simp only[mu_j6];omega
   ·simp only[res_j6,hm,hm2,hg];rfl
  ·rw[hc]at hx hg;refine⟨s,(length s:Int)+1,true,ri,k,i,j+1,g,setD ch k i j (row.getD j.toNat 0),row, ?_, ?_, ?_,fun R=>hx R⟩
   ·simp only[pre_j6,andd,dec_iff];exact⟨by omega,trivial,hs,okD5_set h1 k0 k1 i0 (by omega) hv,k0,k1,i0,i1,h2,h3⟩
   ·simp only[mu_j6];omega
   ·simp only[res_j6,hm,hm2,hg];rfl
 ·left;intro R;refine(hx R).trans ?_;rw[zF hj];have e:((length s:Int)+1-j).toNat=0:=by omega
  simp only[res_j6,e];rfl
def g_j6:St→Cont→Option Fin:=gP sh_j6 (fun v=>match v with | ((s,n,b,ri,k,i,j,()),(g,ch,row,()))=>pre_j6 s n b ri k i j g ch row) (fun v K=>match v with | ((s,n,b,ri,k,i,j,()),(g,ch,row,()))=>res_j6 s n b ri k i j g ch row K)
def L_j6:LpL:=(29,g_j6)::[]
theorem l_j6 {L:LpL} (n:Nat) (h1:L.drop n=[]) (h2:idsFree (L.take n) (loopOf Tryz.f99 6)=true):LoopsTo g_j6 (cb_l8c) (loopOf Tryz.f99 6) 29 L :=
 with_drop h1 h2 (gP_ok (fun v=>match v with | ((s,n,b,ri,k,i,j,()),(g,ch,row,()))=>mu_j6 s n b ri k i j g ch row) fun v K hI=>by
  obtain⟨⟨s,n,b,ri,k,i,j,⟨⟩⟩,⟨g,ch,row,⟨⟩⟩⟩:=v;exact(r_j6 s n b ri k i j g ch row K hI).imp id fun⟨s',n',b',ri',k',i',j',g',ch',row',h⟩=>⟨((s',n',b',ri',k',i',j',()),(g',ch',row',())),h⟩)
theorem x_spec_l8Costs_5 (g:Gram) (ch:D3) (s:Str) (n ri k i:Int) (b:Bool) (R:St→Option Fin) (K:Cont):evC (cb_l8c.withLoops (look L_j6)) (loopOf Tryz.f99 5) ⟨[(1,vS s),(2, kp0),(5,vI n),(6, .d (.one (.dsl 500001 []))),(12,vB b),(13,vI ri),(14,vI k),(15,vI i)],l8H g ch⟩ (onward (headAt (cb_l8c.withLoops (look L_j6)) 25) R K)=(
branch (decide (i<n)) (
 need (inb ri (length g.snd)) <|
 need (decide (0≤i)&&(okD5 (length s+1) ch&&(List.all (getD g.snd ri.toNat d0).snd sign&&(decide ((length (getD g.snd ri.toNat d0).snd)≤1000)&&decide (s.length≤1000))))) <|
 need (pre_j6 s n b ri k i i g ch (rowV s ch (getD g.snd ri.toNat d0).snd i)) <| R (.mk [(1,vS s),(2,kp0),(5,vI n),(6,(.d (.one (.dsl 500001 ([]))))),(12,(vB (minsL k i (rowV s ch (getD g.snd ri.toNat d0).snd i) (n-i).toNat i (ch,b)).snd)),(13,vI ri),(14,vI k),(15,vI (W64 (i+1)))] [(500000,some (boxD 25 TG g)),(500001,(.some (.deep us3 TI2 ((minsL k i (rowV s ch (getD g.snd ri.toNat d0).snd i) (n-i).toNat i (ch,b)).fst))))])) ( K (.exit 10) (.mk [(1,vS s),(2,kp0),(5,vI n),(6,(.d (.one (.dsl 500001 ([]))))),(12,vB b),(13,vI ri)] [(500000,some (boxD 25 TG g)),(500001,(.some (.deep us3 TI2 ch)))]))):=by kernel_rfl
def cx0_j5:Cx:=(cb_l8c).withLoops (look L_j6)
def sh_j5:Sh:=([(1, .d .str),(2, .ptr 500000 0),(5, .d TI64),(6, .deep 500001),(12, .d .bool),(13, .d TI64),(14, .d TI64),(15, .d TI64)],[(500000, .box 25 TG),(500001, .deep us3 TI2)])
abbrev st_j5 (s:Str) (n:Int) (b:Bool) (ri k i:Int) (g:Gram) (ch:List (Den TI2)):St:=⟨[(1,vS s),(2, kp0),(5,vI n),(6, .d (.one (.dsl 500001 []))),(12,vB b),(13,vI ri),(14,vI k),(15,vI i)],[(500000,some (boxD 25 TG g)),(500001,some (.deep us3 TI2 ch))]⟩
def pre_j5 (s:Str) (n:Int) (_b:Bool) (ri k i:Int) (g:Gram) (ch:List (Den TI2)):Bool:=decide (0≤i)&&(decide (i≤n)&&(decide (n=(length s:Int)+1)&&(okD5 (length s+1) ch&&(okRp g.2&&(decide (0≤ri)&&(decide (ri<(length g.2:Int))&&(decide (k=keyK (getD g.2 ri.toNat d0))&&decide (length s≤1000))))))))
def res_j5 (s:Str) (n:Int) (b:Bool) (ri _k i:Int) (g:Gram) (ch:List (Den TI2)) (K:Cont):Option Fin:=K (.exit 10) ⟨[(1,vS s),(2, kp0),(5,vI n),(6, .d (.one (.dsl 500001 []))),(12,vB (foldG (stepF s) (fromsE (getD g.2 ri.toNat d0) (n-i).toNat i) (ch,b)).2),(13,vI ri)],l8H g (foldG (stepF s) (fromsE (getD g.2 ri.toNat d0) (n-i).toNat i) (ch,b)).1⟩
def mu_j5 (_s:Str) (n:Int) (_b:Bool) (_ri _k i:Int) (_g:Gram) (_ch:List (Den TI2)):Nat:=(n-i).toNat
theorem r_j5 (s:Str) (n:Int) (b:Bool) (ri k i:Int) (g:Gram) (ch:List (Den TI2)) (K:Cont) (hI:pre_j5 s n b ri k i g ch=true):(∀R:St→Option Fin,evC cx0_j5 (loopOf Tryz.f99 5) (st_j5 s n b ri k i g ch) (onward (headAt cx0_j5 25) R K)=res_j5 s n b ri k i g ch K) ∨
  (∃(s':Str) (n':Int) (b':Bool) (ri' k' i':Int) (g':Gram) (ch':List (Den TI2)),pre_j5 s' n' b' ri' k' i' g' ch'=true∧mu_j5 s' n' b' ri' k' i' g' ch'<mu_j5 s n b ri k i g ch∧res_j5 s' n' b' ri' k' i' g' ch' K=res_j5 s n b ri k i g ch K∧∀R:St→Option Fin,evC cx0_j5 (loopOf Tryz.f99 5) (st_j5 s n b ri k i g ch) (onward (headAt cx0_j5 25) R K)=R (st_j5 s' n' b' ri' k' i' g' ch')):=by
 have hx:=fun R=>x_spec_l8Costs_5 g ch s n ri k i b R K;simp only[pre_j5,andd,dec_iff]at hI;obtain⟨h0,h1,rfl,h3,h4,h5,h6,rfl,h8⟩:=hI
 by_cases hi:i<(length s:Int)+1
 ·have w:W64 (i+1)=i+1:=wrap_small (by omega) (by omega);obtain⟨q1,q2,q3⟩:=(okRp_iff.1 h4).2 _ (getD_mem (d:=d0) (by omega:ri.toNat<length g.2));obtain⟨k0,k1,_⟩:=keyK_in q1;have hrow:=rowV_ok (i:=i) h0 h3 q3 h8;have kk:(decide (0≤i)&&(okD5 (length s+1) ch&&(List.all (getD g.2 ri.toNat d0).2 sign&&(decide ((length (getD g.2 ri.toNat d0).2)≤1000)&&decide (s.length≤1000)))))=true:=andd.2 ⟨zT h0,andd.2 ⟨h3,andd.2 ⟨q3,andd.2 ⟨zT (by omega),zT h8⟩⟩⟩⟩;have kp:pre_j6 s ((length s:Int)+1) b ri (keyK (getD g.2 ri.toNat d0)) i i g ch (rowV s ch (getD g.2 ri.toNat d0).2 i)=true:=by
   simp only[pre_j6,andd,dec_iff];exact⟨h0,trivial,h8,h3,k0,k1,h0,by omega,hrow.1,hrow.2⟩
  obtain⟨m,hm⟩:∃m,((length s:Int)+1-i).toNat=m+1:=⟨((length s:Int)+1-i).toNat-1,by omega⟩;have hm2:((length s:Int)+1-(i+1)).toNat=m:=by omega
  have hg:foldG (stepF s) (fromsE (getD g.2 ri.toNat d0) (m+1) i) (ch,b)=foldG (stepF s) (fromsE (getD g.2 ri.toNat d0) m (i+1)) (stepF s (i,getD g.2 ri.toNat d0) (ch,b)):=rfl;rw[zT hi,inb_ok h5 h6,kk,kp,w]at hx;right;refine⟨s,(length s:Int)+1,(stepF s (i,getD g.2 ri.toNat d0) (ch,b)).2,ri,keyK (getD g.2 ri.toNat d0),i+1,g,(stepF s (i,getD g.2 ri.toNat d0) (ch,b)).1, ?_, ?_, ?_,fun R=>hx R⟩
  ·simp only[pre_j5,andd,dec_iff];exact⟨by omega,by omega,trivial,(stepF_ok h8).inv (i,getD g.2 ri.toNat d0) (ch,b) ⟨h0,by show i≤_;omega,q1,q2,q3⟩ h3,h4,h5,h6,trivial,h8⟩
  ·simp only[mu_j5];omega
  ·simp only[res_j5,hm,hm2,hg]
 ·left;intro R;refine(hx R).trans ?_;rw[zF hi];have e:((length s:Int)+1-i).toNat=0:=by omega
  simp only[res_j5,e];rfl
def g_j5:St→Cont→Option Fin:=gP sh_j5 (fun v=>match v with | ((s,n,b,ri,k,i,()),(g,ch,()))=>pre_j5 s n b ri k i g ch) (fun v K=>match v with | ((s,n,b,ri,k,i,()),(g,ch,()))=>res_j5 s n b ri k i g ch K)
def L_j5:LpL:=(25,g_j5)::L_j6
theorem l_j5 {L:LpL} (n:Nat) (h1:L.drop n=L_j6) (h2:idsFree (L.take n) (loopOf Tryz.f99 5)=true):LoopsTo g_j5 (cb_l8c) (loopOf Tryz.f99 5) 25 L :=
 with_drop h1 h2 (gP_ok (fun v=>match v with | ((s,n,b,ri,k,i,()),(g,ch,()))=>mu_j5 s n b ri k i g ch) fun v K hI=>by
  obtain⟨⟨s,n,b,ri,k,i,⟨⟩⟩,⟨g,ch,⟨⟩⟩⟩:=v;exact(r_j5 s n b ri k i g ch K hI).imp id fun⟨s',n',b',ri',k',i',g',ch',h⟩=>⟨((s',n',b',ri',k',i',()),(g',ch',())),h⟩)
theorem x_spec_l8Costs_4 (g:Gram) (ch:D3) (s:Str) (n ri:Int) (b:Bool) (R:St→Option Fin) (K:Cont):evC (cb_l8c.withLoops (look L_j5)) (loopOf Tryz.f99 4) ⟨[(1,vS s),(2, kp0),(5,vI n),(6, .d (.one (.dsl 500001 []))),(12,vB b),(13,vI ri)],l8H g ch⟩ (onward (headAt (cb_l8c.withLoops (look L_j5)) 21) R K)=(
branch (decide (ri<(length g.snd:Int))) (
 need (inb ri (length g.snd)) <|
 need (inb 0 (length (getD g.snd ri.toNat d0).fst)) <|
 need (pre_j5 s n b ri (W64 (IntKind.u8.wrap (byteAt (getD g.snd ri.toNat d0).fst 0-65))) 0 g ch) <| R (.mk [(1,vS s),(2,kp0),(5,vI n),(6,(.d (.one (.dsl 500001 ([]))))),(12,(vB (foldG (stepF s) (fromsE (g.snd.getD ri.toNat d0) (n-0).toNat 0) (ch,b)).snd)),(13,vI (W64 (ri+1)))] [(500000,some (boxD 25 TG g)),(500001,(.some (.deep us3 TI2 ((foldG (stepF s) (fromsE (g.snd.getD ri.toNat d0) (n-0).toNat 0) (ch,b)).fst))))])) ( K (.exit 8) (.mk [(1,vS s),(2,kp0),(5,vI n),(6,(.d (.one (.dsl 500001 ([]))))),(12,vB b)] [(500000,some (boxD 25 TG g)),(500001,(.some (.deep us3 TI2 ch)))]))):=by kernel_rfl
def cx0_j4:Cx:=(cb_l8c).withLoops (look L_j5)
def sh_j4:Sh:=([(1, .d .str),(2, .ptr 500000 0),(5, .d TI64),(6, .deep 500001),(12, .d .bool),(13, .d TI64)],[(500000, .box 25 TG),(500001, .deep us3 TI2)])
abbrev st_j4 (s:Str) (n:Int) (b:Bool) (ri:Int) (g:Gram) (ch:List (Den TI2)):St:=⟨[(1,vS s),(2, kp0),(5,vI n),(6, .d (.one (.dsl 500001 []))),(12,vB b),(13,vI ri)],[(500000,some (boxD 25 TG g)),(500001,some (.deep us3 TI2 ch))]⟩
def pre_j4 (s:Str) (n:Int) (_b:Bool) (ri:Int) (g:Gram) (ch:List (Den TI2)):Bool:=decide (0≤ri)&&(decide (n=(length s:Int)+1)&&(okD5 (length s+1) ch&&(okRp g.2&&decide (length s≤1000))))
def res_j4 (s:Str) (n:Int) (b:Bool) (ri:Int) (g:Gram) (ch:List (Den TI2)) (K:Cont):Option Fin:=K (.exit 8) ⟨[(1,vS s),(2, kp0),(5,vI n),(6, .d (.one (.dsl 500001 []))),(12,vB (foldG (stepF s) (visE (length s+1) (List.drop ri.toNat g.2)) (ch,b)).2)],l8H g (foldG (stepF s) (visE (length s+1) (List.drop ri.toNat g.2)) (ch,b)).1⟩
def mu_j4 (_s:Str) (_n:Int) (_b:Bool) (ri:Int) (g:Gram) (_ch:List (Den TI2)):Nat:=length g.2-ri.toNat
theorem r_j4 (s:Str) (n:Int) (b:Bool) (ri:Int) (g:Gram) (ch:List (Den TI2)) (K:Cont) (hI:pre_j4 s n b ri g ch=true):(∀R:St→Option Fin,evC cx0_j4 (loopOf Tryz.f99 4) (st_j4 s n b ri g ch) (onward (headAt cx0_j4 21) R K)=res_j4 s n b ri g ch K) ∨
  (∃(s':Str) (n':Int) (b':Bool) (ri':Int) (g':Gram) (ch':List (Den TI2)),pre_j4 s' n' b' ri' g' ch'=true∧mu_j4 s' n' b' ri' g' ch'<mu_j4 s n b ri g ch∧res_j4 s' n' b' ri' g' ch' K=res_j4 s n b ri g ch K∧∀R:St→Option Fin,evC cx0_j4 (loopOf Tryz.f99 4) (st_j4 s n b ri g ch) (onward (headAt cx0_j4 21) R K)=R (st_j4 s' n' b' ri' g' ch')):=by
 have hx:=fun R=>x_spec_l8Costs_4 g ch s n ri b R K;simp only[pre_j4,andd,dec_iff]at hI;obtain⟨h0,rfl,h3,h4,h8⟩:=hI;obtain⟨g1,g2⟩:=okRp_iff.1 h4
 by_cases hi:ri<(length g.2:Int)
 ·have w:W64 (ri+1)=ri+1:=wrap_small (by omega) (by omega);obtain⟨q1,q2,q3⟩:=g2 _ (getD_mem (d:=d0) (by omega:ri.toNat<length g.2));have hl:inb 0 (length (getD g.2 ri.toNat d0).1)=true:=by
   obtain⟨c,e,_⟩:=bigS_one q1;rw[e];rfl
  have kp:pre_j5 s ((length s:Int)+1) b ri (keyK (getD g.2 ri.toNat d0)) 0 g ch=true:=by
   simp only[pre_j5,andd,dec_iff];exact⟨Int.le_refl 0,by omega,trivial,h3,h4,h0,hi,trivial,h8⟩
  have e0:((length s:Int)+1-0).toNat=length s+1:=by omega
  have hg:=visE_at (n:=length s+1) h0 hi;rw[zT hi,inb_ok h0 hi,hl,key_wrap q1,kp,w,e0]at hx;right;refine⟨s,(length s:Int)+1,(foldG (stepF s) (fromsE (getD g.2 ri.toNat d0) (length s+1) 0) (ch,b)).2,ri+1,g,(foldG (stepF s) (fromsE (getD g.2 ri.toNat d0) (length s+1) 0) (ch,b)).1, ?_, ?_, ?_,fun R=>hx R⟩
  ·simp only[pre_j4,andd,dec_iff];refine⟨by omega,trivial,foldG_ok (stepF_ok h8) (p:=(ch,b)) (fun v hv => ?_) h3,h4,h8⟩;obtain⟨e1,e2,e3⟩:=mem_fromsE.1 hv;exact⟨e2,by omega,by rw[e1];exact q1,by rw[e1];exact q2,by rw[e1];exact q3⟩
  ·simp only[mu_j4];omega
  ·simp only[res_j4,hg,foldG_app]
 ·left;intro R;refine(hx R).trans ?_;rw[zF hi];have e:List.drop ri.toNat g.2=[]:=drop_eq_nil_of_le (by omega);simp only[res_j4,e];rfl
def g_j4:St→Cont→Option Fin:=gP sh_j4 (fun v=>match v with | ((s,n,b,ri,()),(g,ch,()))=>pre_j4 s n b ri g ch) (fun v K=>match v with | ((s,n,b,ri,()),(g,ch,()))=>res_j4 s n b ri g ch K)
def L_j4:LpL:=(21,g_j4)::L_j5
theorem l_j4 {L:LpL} (n:Nat) (h1:L.drop n=L_j5) (h2:idsFree (L.take n) (loopOf Tryz.f99 4)=true):LoopsTo g_j4 (cb_l8c) (loopOf Tryz.f99 4) 21 L :=
 with_drop h1 h2 (gP_ok (fun v=>match v with | ((s,n,b,ri,()),(g,ch,()))=>mu_j4 s n b ri g ch) fun v K hI=>by
  obtain⟨⟨s,n,b,ri,⟨⟩⟩,⟨g,ch,⟨⟩⟩⟩:=v;exact(r_j4 s n b ri g ch K hI).imp id fun⟨s',n',b',ri',g',ch',h⟩=>⟨((s',n',b',ri',()),(g',ch',())),h⟩)
theorem x_spec_l8Costs_3 (g:Gram) (ch:D3) (s:Str) (n:Int) (b:Bool) (R:St→Option Fin) (K:Cont):evC (cb_l8c.withLoops (look L_j4)) (loopOf Tryz.f99 3) ⟨[(1,vS s),(2, kp0),(5,vI n),(6, .d (.one (.dsl 500001 []))),(12,vB b)],l8H g ch⟩ (onward (headAt (cb_l8c.withLoops (look L_j4)) 18) R K)=(
branch b (
 need (pre_j4 s n false 0 g ch) <| R (.mk [(1,vS s),(2,kp0),(5,vI n),(6,(.d (.one (.dsl 500001 ([]))))),(12,(vB (foldG (stepF s) (visE (length s+1) g.snd) (ch,false)).snd))] [(500000,some (boxD 25 TG g)),(500001,(.some (.deep us3 TI2 ((foldG (stepF s) (visE (length s+1) g.snd) (ch,false)).fst))))])) ( K (.exit 6) (.mk [(6,(.d (.one (.dsl 500000 ([])))))] [(500000,(.some (.deep us3 TI2 ch)))]))):=by kernel_rfl
def cx0_j3:Cx:=(cb_l8c).withLoops (look L_j4)
def sh_j3:Sh:=([(1, .d .str),(2, .ptr 500000 0),(5, .d TI64),(6, .deep 500001),(12, .d .bool)],[(500000, .box 25 TG),(500001, .deep us3 TI2)])
abbrev st_j3 (s:Str) (n:Int) (b:Bool) (g:Gram) (ch:List (Den TI2)):St:=⟨[(1,vS s),(2, kp0),(5,vI n),(6, .d (.one (.dsl 500001 []))),(12,vB b)],[(500000,some (boxD 25 TG g)),(500001,some (.deep us3 TI2 ch))]⟩
def pre_j3 (s:Str) (n:Int) (_b:Bool) (g:Gram) (ch:List (Den TI2)):Bool:=decide (n=(length s:Int)+1)&&(okD5 (length s+1) ch&&(okRp g.2&&decide (length s≤1000)))
def res_j3 (s:Str) (_n:Int) (b:Bool) (g:Gram) (ch:List (Den TI2)) (K:Cont):Option Fin:=K (.exit 6) ⟨[(6, .d (.one (.dsl 500000 [])))],[(500000,some (.deep us3 TI2 (bif b then runC hasE (keysF (length s+1)) (stepF s) (visE (length s+1) g.2) ch else ch)))]⟩
def mu_j3 (s:Str) (_n:Int) (b:Bool) (g:Gram) (ch:List (Den TI2)):Nat:=2*missG hasE ((visE (length s+1) g.2).flatMap (keysF (length s+1))) ch+(bif b then 1 else 0)
theorem r_j3 (s:Str) (n:Int) (b:Bool) (g:Gram) (ch:List (Den TI2)) (K:Cont) (hI:pre_j3 s n b g ch=true):(∀R:St→Option Fin,evC cx0_j3 (loopOf Tryz.f99 3) (st_j3 s n b g ch) (onward (headAt cx0_j3 18) R K)=res_j3 s n b g ch K) ∨
  (∃(s':Str) (n':Int) (b':Bool) (g':Gram) (ch':List (Den TI2)),pre_j3 s' n' b' g' ch'=true∧mu_j3 s' n' b' g' ch'<mu_j3 s n b g ch∧res_j3 s' n' b' g' ch' K=res_j3 s n b g ch K∧∀R:St→Option Fin,evC cx0_j3 (loopOf Tryz.f99 3) (st_j3 s n b g ch) (onward (headAt cx0_j3 18) R K)=R (st_j3 s' n' b' g' ch')):=by
 have hx:=fun R=>x_spec_l8Costs_3 g ch s n b R K;simp only[pre_j3,andd,dec_iff]at hI;obtain⟨rfl,h3,h4,h8⟩:=hI
 cases b
 ·left;intro R;refine(hx R).trans ?_;simp only[res_j3];rfl
 ·have hv:=good_visE (s:=s) h4;have hp:pre_j4 s ((length s:Int)+1) false 0 g ch=true:=by
   simp only[pre_j4,andd,dec_iff];exact⟨Int.le_refl 0,trivial,h3,h4,h8⟩
  rw[hp]at hx;have hg:=runC_at (stepF_ok h8) (vs:=visE (length s+1) g.2) (m:=ch) hv h3;right;refine⟨s,(length s:Int)+1,(foldG (stepF s) (visE (length s+1) g.2) (ch,false)).2,g,(foldG (stepF s) (visE (length s+1) g.2) (ch,false)).1, ?_, ?_, ?_,fun R=>hx R⟩
  ·simp only[pre_j3,andd,dec_iff];exact⟨trivial,foldG_ok (stepF_ok h8) (p:=(ch,false)) hv h3,h4,h8⟩
  ·simp only[mu_j3]
   cases hc:(foldG (stepF s) (visE (length s+1) g.2) (ch,false)).2
   ·obtain ⟨_,h5,_⟩:=foldG_quiet (stepF_ok h8) (p:=(ch,false)) hv h3 hc;rw[h5,cond_true,cond_false];show 2*missG hasE _ ch+0<2*missG hasE _ ch+1;omega
   ·have:=miss_lt (stepF_ok h8) hv h3 hc;rw[cond_true];omega
  ·simp only[res_j3];exact congrArg (fun z:D3=>K (.exit 6) ⟨[(6, .d (.one (.dsl 500000 [])))],[(500000,some (.deep us3 TI2 z))]⟩) hg.symm
def g_j3:St→Cont→Option Fin:=gP sh_j3 (fun v=>match v with | ((s,n,b,()),(g,ch,()))=>pre_j3 s n b g ch) (fun v K=>match v with | ((s,n,b,()),(g,ch,()))=>res_j3 s n b g ch K)
def L_j3:LpL:=(18,g_j3)::L_j4
theorem l_j3 {L:LpL} (n:Nat) (h1:L.drop n=L_j4) (h2:idsFree (L.take n) (loopOf Tryz.f99 3)=true):LoopsTo g_j3 (cb_l8c) (loopOf Tryz.f99 3) 18 L :=
 with_drop h1 h2 (gP_ok (fun v=>match v with | ((s,n,b,()),(g,ch,()))=>mu_j3 s n b g ch) fun v K hI=>by
  obtain⟨⟨s,n,b,⟨⟩⟩,⟨g,ch,⟨⟩⟩⟩:=v;exact(r_j3 s n b g ch K hI).imp id fun⟨s',n',b',g',ch',h⟩=>⟨((s',n',b',()),(g',ch',())),h⟩)
theorem x_spec_l8Costs_2 (g:Gram) (ch:D3) (rs:List (List Int)) (s:Str) (n i k j:Int) (row:List Int) (R:St→Option Fin) (K:Cont):evC (cb_l8c.withLoops (look L_j3)) (loopOf Tryz.f99 2) ⟨[(1,vS s),(2, kp0),(5,vI n),(6, .d (.one (.dsl 500001 []))),(7,vI i),(8, .d (.one (.dsl 500002 []))),(9,vI k),(10, ko3),(11,vI j)],l8H g ch++[(500002,some (.deep us2 TI1 rs)),(500003,some (.lis 3 TI64 row))]⟩ (onward (headAt (cb_l8c.withLoops (look L_j3)) 12) R K)=(
branch (decide (j<n)) (
 need (inb j row.length) <| R (.mk [(1,vS s),(2,kp0),(5,vI n),(6,(.d (.one (.dsl 500001 ([]))))),(7,vI i),(8,(.d (.one (.dsl 500002 ([]))))),(9,vI k),(10,ko3),(11,vI (W64 (j+1)))] [(500000,some (boxD 25 TG g)),(500001,(.some (.deep us3 TI2 ch))),(500002,(.some (.deep us2 TI1 rs))),(500003,(.some (.lis 3 TI64 (row.set j.toNat 100000))))])) ( K (.exit 4) (.mk [(1,vS s),(2,kp0),(5,vI n),(6,(.d (.one (.dsl 500001 ([]))))),(7,vI i),(8,(.d (.one (.dsl 500002 ([]))))),(9,vI k),(10,ko3)] [(500000,some (boxD 25 TG g)),(500001,(.some (.deep us3 TI2 ch))),(500002,(.some (.deep us2 TI1 rs))),(500003,some (.lis 3 TI64 row))]))):=by kernel_rfl
def fillF:Nat→Int→List Int→List Int
 |0,_,l=>l
 |n+1,j,l=>fillF n (j+1) (l.set j.toNat 100000)
theorem fillF_eq:∀ {n:Nat} {j:Nat} {l:List Int},l.length=j+n→fillF n (j:Int) l=l.take j++replicate n 100000
 |0,j,l,h=>by
  unfold fillF;rw[List.take_of_length_le (by omega),List.replicate_zero,List.append_nil]
 |n+1,j,l,h=>by
  unfold fillF;have e:((j:Int)+1)=((j+1:Nat):Int):=by omega
  rw[e,fillF_eq (by rw[length_set];omega),Int.toNat_natCast,List.replicate_succ];have h2:(l.set j 100000).take (j+1)=l.take j++[100000]:=by
   apply List.ext_getElem?
   intro q;rw[List.getElem?_append,getElem?_take,List.getElem?_set,length_take]
   by_cases q1:q<j
   ·rw[if_pos (by omega),if_neg (by omega),if_pos (by omega),getElem?_take,if_pos q1]
   ·by_cases q2:q=j
    ·rw[if_pos (by omega),if_pos q2.symm,if_pos (by omega),if_neg (by omega),q2,show j-min j l.length=0 by omega];rfl
    ·rw[if_neg (by omega),if_neg (by omega),show q-min j l.length=(q-j-1)+1 by omega];rfl
  rw[h2,append_assoc];rfl
theorem fill_all {n:Nat}:fillF n 0 (replicate n 0)=replicate n 100000:=by
 have:=fillF_eq (n:=n) (j:=0) (l:=replicate n 0) (by rw[length_replicate];omega);rw[List.take_zero,List.nil_append]at this;exact this
def cx0_j2:Cx:=(cb_l8c).withLoops (look L_j3)
def sh_j2:Sh:=([(1, .d .str),(2, .ptr 500000 0),(5, .d TI64),(6, .deep 500001),(7, .d TI64),(8, .deep 500002),(9, .d TI64),(10, .own 500003),(11, .d TI64)],[(500000, .box 25 TG),(500001, .deep us3 TI2),(500002, .deep us2 TI1),(500003, .lis 3 TI64)])
abbrev st_j2 (s:Str) (n i k j:Int) (g:Gram) (ch:List (Den TI2)) (rs:List (Den TI1)) (row:List (Int)):St:=⟨[(1,vS s),(2, kp0),(5,vI n),(6, .d (.one (.dsl 500001 []))),(7,vI i),(8, .d (.one (.dsl 500002 []))),(9,vI k),(10, ko3),(11,vI j)],[(500000,some (boxD 25 TG g)),(500001,some (.deep us3 TI2 ch)),(500002,some (.deep us2 TI1 rs)),(500003,some (.lis 3 TI64 row))]⟩
def pre_j2 (_s:Str) (n _i _k j:Int) (_g:Gram) (_ch:List (Den TI2)) (_rs:List (Den TI1)) (row:List (Int)):Bool:=decide (0≤j)&&(decide (n≤1001)&&decide ((length row:Int)=n))
def res_j2 (s:Str) (n i k j:Int) (g:Gram) (ch:List (Den TI2)) (rs:List (Den TI1)) (row:List (Int)) (K:Cont):Option Fin:=K (.exit 4) ⟨[(1,vS s),(2, kp0),(5,vI n),(6, .d (.one (.dsl 500001 []))),(7,vI i),(8, .d (.one (.dsl 500002 []))),(9,vI k),(10, ko3)],l8H g ch++[(500002,some (.deep us2 TI1 rs)),(500003,some (.lis 3 TI64 (fillF (n-j).toNat j row)))]⟩
def mu_j2 (_s:Str) (n _i _k j:Int) (_g:Gram) (_ch:List (Den TI2)) (_rs:List (Den TI1)) (_row:List (Int)):Nat:=(n-j).toNat
theorem r_j2 (s:Str) (n i k j:Int) (g:Gram) (ch:List (Den TI2)) (rs:List (Den TI1)) (row:List (Int)) (K:Cont) (hI:pre_j2 s n i k j g ch rs row=true):(∀R:St→Option Fin,evC cx0_j2 (loopOf Tryz.f99 2) (st_j2 s n i k j g ch rs row) (onward (headAt cx0_j2 12) R K)=res_j2 s n i k j g ch rs row K) ∨
  (∃(s':Str) (n' i' k' j':Int) (g':Gram) (ch':List (Den TI2)) (rs':List (Den TI1)) (row':List (Int)),pre_j2 s' n' i' k' j' g' ch' rs' row'=true∧mu_j2 s' n' i' k' j' g' ch' rs' row'<mu_j2 s n i k j g ch rs row∧res_j2 s' n' i' k' j' g' ch' rs' row' K=res_j2 s n i k j g ch rs row K∧∀R:St→Option Fin,evC cx0_j2 (loopOf Tryz.f99 2) (st_j2 s n i k j g ch rs row) (onward (headAt cx0_j2 12) R K)=R (st_j2 s' n' i' k' j' g' ch' rs' row')):=by
 have hx:=fun R=>x_spec_l8Costs_2 g ch rs s n i k j row R K;simp only[pre_j2,andd,dec_iff]at hI;obtain⟨h0,h1,h2⟩:=hI
 by_cases hj:j<n
 ·have w:W64 (j+1)=j+1:=wrap_small (by omega) (by omega);obtain⟨m,hm⟩:∃m,(n-j).toNat=m+1:=⟨(n-j).toNat-1,by omega⟩;have hm2:(n-(j+1)).toNat=m:=by omega
  rw[zT hj,inb_ok h0 (by omega),w]at hx;right;refine⟨s,n,i,k,j+1,g,ch,rs,row.set j.toNat 100000, ?_, ?_, ?_,fun R=>hx R⟩
  ·simp only[pre_j2,andd,dec_iff];rw[length_set];exact⟨by omega,h1,h2⟩
  ·simp only[mu_j2];omega
  ·simp only[res_j2,hm,hm2,fillF]
 ·left;intro R;refine(hx R).trans ?_;rw[zF hj];have e:(n-j).toNat=0:=by omega
  simp only[res_j2,e,fillF];rfl
def g_j2:St→Cont→Option Fin:=gP sh_j2 (fun v=>match v with | ((s,n,i,k,j,()),(g,ch,rs,row,()))=>pre_j2 s n i k j g ch rs row) (fun v K=>match v with | ((s,n,i,k,j,()),(g,ch,rs,row,()))=>res_j2 s n i k j g ch rs row K)
def L_j2:LpL:=(12,g_j2)::L_j3
theorem l_j2 {L:LpL} (n:Nat) (h1:L.drop n=L_j3) (h2:idsFree (L.take n) (loopOf Tryz.f99 2)=true):LoopsTo g_j2 (cb_l8c) (loopOf Tryz.f99 2) 12 L :=
 with_drop h1 h2 (gP_ok (fun v=>match v with | ((s,n,i,k,j,()),(g,ch,rs,row,()))=>mu_j2 s n i k j g ch rs row) fun v K hI=>by
  obtain⟨⟨s,n,i,k,j,⟨⟩⟩,⟨g,ch,rs,row,⟨⟩⟩⟩:=v;exact(r_j2 s n i k j g ch rs row K hI).imp id fun⟨s',n',i',k',j',g',ch',rs',row',h⟩=>⟨((s',n',i',k',j',()),(g',ch',rs',row',())),h⟩)
theorem x_spec_l8Costs_1 (g:Gram) (ch:D3) (rs:List (List Int)) (s:Str) (n i k:Int) (R:St→Option Fin) (K:Cont):evC (cb_l8c.withLoops (look L_j2)) (loopOf Tryz.f99 1) ⟨[(1,vS s),(2, kp0),(5,vI n),(6, .d (.one (.dsl 500001 []))),(7,vI i),(8, .d (.one (.dsl 500002 []))),(9,vI k)],l8H g ch++[(500002,some (.deep us2 TI1 rs))]⟩ (onward (headAt (cb_l8c.withLoops (look L_j2)) 8) R K)=(
branch (decide (k<n)) (
 need (decide (0≤n∧n≤n∧n*(Tryz.t3.bytes:Int)≤140737488355328∧n≤9223372036854775807)) <|
 need (pre_j2 s n i k 0 g ch rs (replicate n.toNat 0)) <|
 need (fits (rs.length+[fillF (n-0).toNat 0 (replicate n.toNat 0)].length) Tryz.t68.bytes) <| R (.mk [(1,vS s),(2,kp0),(5,vI n),(6,(.d (.one (.dsl 500001 ([]))))),(7,vI i),(8,(.d (.one (.dsl 500002 ([]))))),(9,vI (W64 (k+1)))] [(500000,some (boxD 25 TG g)),(500001,(.some (.deep us3 TI2 ch))),(500002,(.some (.deep us2 TI1 (rs.append [fillF (n-0).toNat 0 (replicate n.toNat 0)]))))])) ( K (.exit 2) (.mk [(1,vS s),(2,kp0),(5,vI n),(6,(.d (.one (.dsl 500001 ([]))))),(7,vI i),(8,(.d (.one (.dsl 500002 ([])))))] [(500000,some (boxD 25 TG g)),(500001,(.some (.deep us3 TI2 ch))),(500002,(.some (.deep us2 TI1 rs)))]))):=by kernel_rfl
def appL (α:Type) (a b:List α):List α:=a++b
theorem appL_len (α:Type) (a b:List α):(appL α a b).length=a.length+b.length:=length_append
theorem appL_assoc (α:Type) (a b c:List α):appL α (appL α a b) c=appL α a (appL α b c):=append_assoc a b c
theorem appL_nil (α:Type) (a:List α):appL α a []=a:=List.append_nil a
theorem intsBytes:Tryz.t68.bytes=24:=by kernel_rfl
theorem intssBytes:Tryz.t107.bytes=24:=by kernel_rfl
def cx0_j1:Cx:=(cb_l8c).withLoops (look L_j2)
def sh_j1:Sh:=([(1, .d .str),(2, .ptr 500000 0),(5, .d TI64),(6, .deep 500001),(7, .d TI64),(8, .deep 500002),(9, .d TI64)],[(500000, .box 25 TG),(500001, .deep us3 TI2),(500002, .deep us2 TI1)])
abbrev st_j1 (s:Str) (n i k:Int) (g:Gram) (ch:List (Den TI2)) (rs:List (Den TI1)):St:=⟨[(1,vS s),(2, kp0),(5,vI n),(6, .d (.one (.dsl 500001 []))),(7,vI i),(8, .d (.one (.dsl 500002 []))),(9,vI k)],[(500000,some (boxD 25 TG g)),(500001,some (.deep us3 TI2 ch)),(500002,some (.deep us2 TI1 rs))]⟩
def pre_j1 (_s:Str) (n _i k:Int) (_g:Gram) (_ch:List (Den TI2)) (rs:List (Den TI1)):Bool:=decide (0≤k)&&(decide (k≤n)&&(decide (n≤1001)&&decide (length rs=k.toNat)))
def res_j1 (s:Str) (n i k:Int) (g:Gram) (ch:List (Den TI2)) (rs:List (Den TI1)) (K:Cont):Option Fin:=K (.exit 2) ⟨[(1,vS s),(2, kp0),(5,vI n),(6, .d (.one (.dsl 500001 []))),(7,vI i),(8, .d (.one (.dsl 500002 [])))],l8H g ch++[(500002,some (.deep us2 TI1 (appL (List Int) rs (replicate (n-k).toNat (replicate n.toNat 100000)))))]⟩
def mu_j1 (_s:Str) (n _i k:Int) (_g:Gram) (_ch:List (Den TI2)) (_rs:List (Den TI1)):Nat:=(n-k).toNat
theorem r_j1 (s:Str) (n i k:Int) (g:Gram) (ch:List (Den TI2)) (rs:List (Den TI1)) (K:Cont) (hI:pre_j1 s n i k g ch rs=true):(∀R:St→Option Fin,evC cx0_j1 (loopOf Tryz.f99 1) (st_j1 s n i k g ch rs) (onward (headAt cx0_j1 8) R K)=res_j1 s n i k g ch rs K) ∨
  (∃(s':Str) (n' i' k':Int) (g':Gram) (ch':List (Den TI2)) (rs':List (Den TI1)),pre_j1 s' n' i' k' g' ch' rs'=true∧mu_j1 s' n' i' k' g' ch' rs'<mu_j1 s n i k g ch rs∧res_j1 s' n' i' k' g' ch' rs' K=res_j1 s n i k g ch rs K∧∀R:St→Option Fin,evC cx0_j1 (loopOf Tryz.f99 1) (st_j1 s n i k g ch rs) (onward (headAt cx0_j1 8) R K)=R (st_j1 s' n' i' k' g' ch' rs')):=by
 have hx:=fun R=>x_spec_l8Costs_1 g ch rs s n i k R K;simp only[pre_j1,andd,dec_iff]at hI;obtain⟨h0,h1,h2,h3⟩:=hI
 by_cases hk:k<n
 ·have w:W64 (k+1)=k+1:=wrap_small (by omega) (by omega);have k1:decide (0≤n∧n≤n∧n*(Tryz.t3.bytes:Int)≤140737488355328∧n≤9223372036854775807)=true:=by
   rw[intBytes];exact zT ⟨by omega,Int.le_refl _,by omega,by omega⟩
  have kp:pre_j2 s n i k 0 g ch rs (replicate n.toNat 0)=true:=by
   simp only[pre_j2,andd,dec_iff];rw[length_replicate];exact⟨Int.le_refl 0,h2,by omega⟩
  have k2:fits (length rs+[replicate n.toNat (100000:Int)].length) Tryz.t68.bytes=true:=by
   rw[intsBytes];exact zT (by rw[length_singleton];omega)
  obtain⟨m,hm⟩:∃m,(n-k).toNat=m+1:=⟨(n-k).toNat-1,by omega⟩;have hm2:(n-(k+1)).toNat=m:=by omega
  have e0:(n-0).toNat=n.toNat:=by omega
  rw[zT hk,k1,kp,w,e0,fill_all]at hx;change ∀R:St→Option Fin,_=branch true (need true (need true (need (fits (length rs+[replicate n.toNat (100000:Int)].length) Tryz.t68.bytes) _))) _ at hx;rw[k2]at hx;right;refine⟨s,n,i,k+1,g,ch,appL (List Int) rs [replicate n.toNat 100000], ?_, ?_, ?_,fun R=>hx R⟩
  ·simp only[pre_j1,andd,dec_iff];refine⟨by omega,by omega,h2,(appL_len (List Int) rs _).trans ?_⟩;show length (α:=List Int) rs+1=_;have h3:length (α:=List Int) rs=k.toNat:=h3;omega
  ·simp only[mu_j1];omega
  ·simp only[res_j1,hm,hm2];exact congrArg (fun z:List (List Int)=>K (.exit 2) ⟨[(1,vS s),(2, kp0),(5,vI n),(6, .d (.one (.dsl 500001 []))),(7,vI i),(8, .d (.one (.dsl 500002 [])))],l8H g ch++[(500002,some (.deep us2 TI1 z))]⟩) (appL_assoc (List Int) rs [replicate n.toNat 100000] (replicate m (replicate n.toNat 100000)))
 ·left;intro R;refine(hx R).trans ?_;rw[zF hk];have e:(n-k).toNat=0:=by omega
  simp only[res_j1,e];exact congrArg (fun z:List (List Int)=>K (.exit 2) ⟨[(1,vS s),(2, kp0),(5,vI n),(6, .d (.one (.dsl 500001 []))),(7,vI i),(8, .d (.one (.dsl 500002 [])))],l8H g ch++[(500002,some (.deep us2 TI1 z))]⟩) (appL_nil (List Int) rs).symm
def g_j1:St→Cont→Option Fin:=gP sh_j1 (fun v=>match v with | ((s,n,i,k,()),(g,ch,rs,()))=>pre_j1 s n i k g ch rs) (fun v K=>match v with | ((s,n,i,k,()),(g,ch,rs,()))=>res_j1 s n i k g ch rs K)
def L_j1:LpL:=(8,g_j1)::L_j2
theorem l_j1 {L:LpL} (n:Nat) (h1:L.drop n=L_j2) (h2:idsFree (L.take n) (loopOf Tryz.f99 1)=true):LoopsTo g_j1 (cb_l8c) (loopOf Tryz.f99 1) 8 L :=
 with_drop h1 h2 (gP_ok (fun v=>match v with | ((s,n,i,k,()),(g,ch,rs,()))=>mu_j1 s n i k g ch rs) fun v K hI=>by
  obtain⟨⟨s,n,i,k,⟨⟩⟩,⟨g,ch,rs,⟨⟩⟩⟩:=v;exact(r_j1 s n i k g ch rs K hI).imp id fun⟨s',n',i',k',g',ch',rs',h⟩=>⟨((s',n',i',k',()),(g',ch',rs',())),h⟩)
theorem x_spec_l8Costs (g:Gram) (ch:D3) (s:Str) (n i:Int) (R:St→Option Fin) (K:Cont):evC (cb_l8c.withLoops (look L_j1)) (loopOf Tryz.f99 0) ⟨[(1,vS s),(2, kp0),(5,vI n),(6, .d (.one (.dsl 500001 []))),(7,vI i)],l8H g ch⟩ (onward (headAt (cb_l8c.withLoops (look L_j1)) 4) R K)=(
branch (decide (i<5)) (
 need (pre_j1 s n i 0 g ch []) <|
 need (fits (length ch+[appL (List Int) [] (replicate (n-0).toNat (replicate n.toNat 100000))].length) Tryz.t107.bytes) <| R (.mk [(1,vS s),(2,kp0),(5,vI n),(6,(.d (.one (.dsl 500001 ([]))))),(7,vI (W64 (i+1)))] [(500000,some (boxD 25 TG g)),(500001,(.some (.deep us3 TI2 (List.append ch [appL (List Int) [] (replicate (n-0).toNat (replicate n.toNat 100000))]))))])) ( K (.exit 0) (.mk [(1,vS s),(2,kp0),(5,vI n),(6,(.d (.one (.dsl 500001 ([])))))] [(500000,some (boxD 25 TG g)),(500001,(.some (.deep us3 TI2 ch)))]))):=by kernel_rfl
def cx0_j0:Cx:=(cb_l8c).withLoops (look L_j1)
def sh_j0:Sh:=([(1, .d .str),(2, .ptr 500000 0),(5, .d TI64),(6, .deep 500001),(7, .d TI64)],[(500000, .box 25 TG),(500001, .deep us3 TI2)])
abbrev st_j0 (s:Str) (n i:Int) (g:Gram) (ch:List (Den TI2)):St:=⟨[(1,vS s),(2, kp0),(5,vI n),(6, .d (.one (.dsl 500001 []))),(7,vI i)],[(500000,some (boxD 25 TG g)),(500001,some (.deep us3 TI2 ch))]⟩
def pre_j0 (_s:Str) (n i:Int) (_g:Gram) (ch:List (Den TI2)):Bool:=decide (0≤i)&&(decide (i≤5)&&(decide (0≤n)&&(decide (n≤1001)&&decide (length ch=i.toNat))))
def res_j0 (s:Str) (n i:Int) (g:Gram) (ch:List (Den TI2)) (K:Cont):Option Fin:=K (.exit 0) ⟨[(1,vS s),(2, kp0),(5,vI n),(6, .d (.one (.dsl 500001 [])))],l8H g (appL (List (List Int)) ch (replicate (5-i).toNat (replicate n.toNat (replicate n.toNat 100000))))⟩
def mu_j0 (_s:Str) (_n i:Int) (_g:Gram) (_ch:List (Den TI2)):Nat:=(5-i).toNat
theorem r_j0 (s:Str) (n i:Int) (g:Gram) (ch:List (Den TI2)) (K:Cont) (hI:pre_j0 s n i g ch=true):(∀R:St→Option Fin,evC cx0_j0 (loopOf Tryz.f99 0) (st_j0 s n i g ch) (onward (headAt cx0_j0 4) R K)=res_j0 s n i g ch K) ∨
  (∃(s':Str) (n' i':Int) (g':Gram) (ch':List (Den TI2)),pre_j0 s' n' i' g' ch'=true∧mu_j0 s' n' i' g' ch'<mu_j0 s n i g ch∧res_j0 s' n' i' g' ch' K=res_j0 s n i g ch K∧∀R:St→Option Fin,evC cx0_j0 (loopOf Tryz.f99 0) (st_j0 s n i g ch) (onward (headAt cx0_j0 4) R K)=R (st_j0 s' n' i' g' ch')):=by
 have hx:=fun R=>x_spec_l8Costs g ch s n i R K;simp only[pre_j0,andd,dec_iff]at hI;obtain⟨h0,h1,h2,h3,h4⟩:=hI
 by_cases hk:i<5
 ·have w:W64 (i+1)=i+1:=wrap_small (by omega) (by omega);have kp:pre_j1 s n i 0 g ch []=true:=by
   simp only[pre_j1,andd,dec_iff];exact⟨Int.le_refl 0,h2,h3,rfl⟩
  have k2:fits (length ch+[replicate n.toNat (replicate n.toNat (100000:Int))].length) Tryz.t107.bytes=true:=by
   rw[intssBytes];exact zT (by rw[length_singleton];omega)
  obtain⟨m,hm⟩:∃m,(5-i).toNat=m+1:=⟨(5-i).toNat-1,by omega⟩;have hm2:(5-(i+1)).toNat=m:=by omega
  have e0:(n-0).toNat=n.toNat:=by omega
  rw[zT hk,kp,w,e0]at hx;change ∀R:St→Option Fin,_=branch true (need true (need (fits (length ch+[replicate n.toNat (replicate n.toNat (100000:Int))].length) Tryz.t107.bytes) _)) _ at hx;rw[k2]at hx;right;refine⟨s,n,i+1,g,appL (List (List Int)) ch [replicate n.toNat (replicate n.toNat 100000)], ?_, ?_, ?_,fun R=>hx R⟩
  ·simp only[pre_j0,andd,dec_iff];refine⟨by omega,by omega,h2,h3,(appL_len (List (List Int)) ch _).trans ?_⟩;show length (α:=List (List Int)) ch+1=_;have h4:length (α:=List (List Int)) ch=i.toNat:=h4;omega
  ·simp only[mu_j0];omega
  ·simp only[res_j0,hm,hm2];exact congrArg (fun z:D3=>K (.exit 0) ⟨[(1,vS s),(2, kp0),(5,vI n),(6, .d (.one (.dsl 500001 [])))],l8H g z⟩) (appL_assoc (List (List Int)) ch [replicate n.toNat (replicate n.toNat 100000)] (replicate m (replicate n.toNat (replicate n.toNat 100000))))
 ·left;intro R;refine(hx R).trans ?_;rw[zF hk];have e:(5-i).toNat=0:=by omega
  simp only[res_j0,e];exact congrArg (fun z:D3=>K (.exit 0) ⟨[(1,vS s),(2, kp0),(5,vI n),(6, .d (.one (.dsl 500001 [])))],l8H g z⟩) (appL_nil (List (List Int)) ch).symm
def g_j0:St→Cont→Option Fin:=gP sh_j0 (fun v=>match v with | ((s,n,i,()),(g,ch,()))=>pre_j0 s n i g ch) (fun v K=>match v with | ((s,n,i,()),(g,ch,()))=>res_j0 s n i g ch K)
def L_j0:LpL:=(4,g_j0)::L_j1
def cx_j0:Cx:=(cb_l8c).withLoops (look L_j0)
theorem l_j0 {L:LpL} (n:Nat) (h1:L.drop n=L_j1) (h2:idsFree (L.take n) (loopOf Tryz.f99 0)=true):LoopsTo g_j0 (cb_l8c) (loopOf Tryz.f99 0) 4 L :=
 with_drop h1 h2 (gP_ok (fun v=>match v with | ((s,n,i,()),(g,ch,()))=>mu_j0 s n i g ch) fun v K hI=>by
  obtain⟨⟨s,n,i,⟨⟩⟩,⟨g,ch,⟨⟩⟩⟩:=v;exact(r_j0 s n i g ch K hI).imp id fun⟨s',n',i',g',ch',h⟩=>⟨((s',n',i',()),(g',ch',())),h⟩)
def farC (n:Nat):D3:=replicate 5 (replicate n (replicate n 100000))
theorem far_ok {n:Nat}:okD5 n (farC n)=true:=okD5_iff.2 ⟨length_replicate,fun r hr=>by
 obtain rfl:=List.eq_of_mem_replicate hr;refine⟨length_replicate,fun q hq => ?_⟩;obtain rfl:=List.eq_of_mem_replicate hq;refine⟨length_replicate,fun e he => ?_⟩;obtain rfl:=List.eq_of_mem_replicate he;exact⟨by decide,by decide⟩⟩
def costC (s:Str) (l:List Rule):D3:=runC hasE (keysF (s.length+1)) (stepF s) (visE (s.length+1) l) (farC (s.length+1))
theorem y_spec_l8Costs (g:Gram) (s:Str):evFn cx_j0 Tryz.f99 false [ofD TG g,ofD .str s] []=(
need (pre_j0 s (W64 ((s.length:Int)+1)) 0 g []) <|
need (pre_j3 s (W64 ((s.length:Int)+1)) true g (appL (List (List Int)) [] (replicate ((5:Int)-0).toNat (replicate (W64 ((s.length:Int)+1)).toNat (replicate (W64 ((s.length:Int)+1)).toNat 100000))))) <| some ((.d (.one (.dsl 1000 ([])))),[(1000,(.some (.deep us3 TI2 (bif true then runC hasE (keysF (length s+1)) (stepF s) (visE (length s+1) g.snd) (appL (List (List Int)) [] (replicate ((5:Int)-0).toNat (replicate (W64 ((s.length:Int)+1)).toNat (replicate (W64 ((s.length:Int)+1)).toNat 100000))))else appL (List (List Int)) [] (replicate ((5:Int)-0).toNat (replicate (W64 ((s.length:Int)+1)).toNat (replicate (W64 ((s.length:Int)+1)).toNat 100000)))))))])):=by kernel_rfl
theorem s_spec_l8Costs (g:Gram) (_hg:Fit TG g) (s:Str) (_hs:Fit .str s) (hpre:(okRp g.2&&decide (length s≤1000))=true):Sat Tryz.prog 99 [ofD TG g,ofD .str s] [] (.d (.one (.dsl 1000 []))) ([(1000,some (.deep us3 TI2 (costC s g.2)))]) :=
 fn_sound (cx:=cx_j0) Tryz.func99 rfl ttOk Γ61ok mixed (fun c hc=>LoopsOk.all (l:=[(4,loopOf Tryz.f99 0),(8,loopOf Tryz.f99 1),(12,loopOf Tryz.f99 2),(18,loopOf Tryz.f99 3),(21,loopOf Tryz.f99 4),(25,loopOf Tryz.f99 5),(29,loopOf Tryz.f99 6)]) (by cases hc;kernel_rfl) ⟨atLoop rfl (l_j0 1 rfl (by kernel_rfl)),atLoop rfl (l_j1 2 rfl (by kernel_rfl)),atLoop rfl (l_j2 3 rfl (by kernel_rfl)),atLoop rfl (l_j3 4 rfl (by kernel_rfl)),atLoop rfl (l_j4 5 rfl (by kernel_rfl)),atLoop rfl (l_j5 6 rfl (by kernel_rfl)),atLoop rfl (l_j6 7 rfl (by kernel_rfl)),trivial⟩) (ro:=false) (by
  obtain⟨h1,h2⟩:=andd.1 hpre;have h2:=dec_iff.1 h2;have w:W64 ((length s:Int)+1)=(length s:Int)+1:=wrap_small (by omega) (by omega);have e1:((length s:Int)+1).toNat=length s+1:=by omega
  have e2:((5:Int)-0).toNat=5:=rfl;have p0:pre_j0 s ((length s:Int)+1) 0 g []=true:=by
   simp only[pre_j0,andd,dec_iff];exact⟨Int.le_refl 0,by omega,by omega,by omega,rfl⟩
  have p2:pre_j3 s ((length s:Int)+1) true g (farC (length s+1))=true:=by
   simp only[pre_j3,andd,dec_iff];exact⟨trivial,far_ok,h1,h2⟩
  rw[y_spec_l8Costs,w,e1,e2];change need (pre_j0 s ((length s:Int)+1) 0 g []) (need (pre_j3 s ((length s:Int)+1) true g (farC (length s+1))) _)=_;rw[p0,p2];rfl)
def c_spec_l8Costs:Con:=conN [TG, .str] fun(g:Gram) (s:Str)=>(some (okRp g.2&&decide (length s≤1000)), .d (.one (.dsl 1000 [])),[(1000,some (.deep us3 TI2 (costC s g.2)))])
theorem k_spec_l8Costs:ConOk Tryz.prog 99 c_spec_l8Costs:=conN_ok Tryz.call99 fun g hg s hs hqq=>s_spec_l8Costs g hg s hs (pre_of hqq)
def Γ62:GL:=(99,c_spec_l8Costs)::Γ61
theorem Γ62ok:GO Γ62 := .cons k_spec_l8Costs Γ61ok
theorem costC_ok {s:Str} {l:List Rule} (h:okRp l=true) (hs:length s≤1000):okD5 (length s+1) (costC s l)=true:=(runC_end (stepF_ok hs) (J:=fun _=>True) (good_visE (s:=s) h) (fun _ _ _ _=>trivial) (m:=farC (length s+1)) far_ok trivial).1
def startC (g:Gram) (s:Str):Int:=atD (costC s g.2) (byteAt g.1 0-65) 0 (s.length:Int)
theorem y_spec_l8Start (g:Gram) (s:Str):evFn (cxOf Γ62 Tryz.f48.ntmps [] [] [] []) Tryz.f48 true [ofD TG g,ofD .str s] []=(
need (okRp g.snd&&decide (s.length≤1000)) <|
need (inb 0 (length g.fst)) <|
need (inb (W64 (IntKind.u8.wrap (byteAt g.fst 0-65))) (length (costC s g.snd))) <|
need (inb 0 (getD (costC s g.snd) (W64 (IntKind.u8.wrap (byteAt g.fst 0-65))).toNat []).length) <|
need (inb ((s.length:Int)) ((getD (costC s g.snd) (W64 (IntKind.u8.wrap (byteAt g.fst 0-65))).toNat []).getD ((0:Int).toNat) []).length) <| some ((vI (((getD (costC s g.snd) (W64 (IntKind.u8.wrap (byteAt g.fst 0-65))).toNat []).getD ((0:Int).toNat) []).getD ((s.length:Int)).toNat 0)),[])):=by kernel_rfl
theorem s_spec_l8Start (g:Gram) (_hg:Fit TG g) (s:Str) (_hs:Fit .str s) (hpre:(okG g&&decide (length s≤1000))=true):Sat Tryz.prog 48 [ofD TG g,ofD .str s] [] (.d (ofD TI64 (startC g s))) [] :=
 fn_sound (cx:=cxOf Γ62 Tryz.f48.ntmps [] [] [] []) Tryz.func48 rfl ttOk Γ62ok mixed (fun _ _=>LoopsOk.no fun _=>rfl) (ro:=true) (by
  obtain⟨h1,h2⟩:=andd.1 hpre;have h3:=dec_iff.1 h2;obtain⟨c,hc,hb⟩:=bigS_one (okG_big h1);have hk:=key_wrap (r:=(g.1,[])) (okG_big h1);have hk:W64 (IntKind.u8.wrap (byteAt g.1 0-65))=byteAt g.1 0-65:=hk;obtain⟨k0,k1,_⟩:=keyK_in (r:=(g.1,[])) (okG_big h1);have k0:0≤byteAt g.1 0-65:=k0;have k1:byteAt g.1 0-65<5:=k1;obtain⟨l1,l2,l3⟩:=okD5_at (costC_ok (s:=s) (ok_rp h1) h3) (k:=byteAt g.1 0-65) (i:=0) k0 k1 (Int.le_refl 0) (by omega);have hl:inb 0 (length g.1)=true:=by rw[hc];rfl
  have kk:(okRp g.2&&decide (length s≤1000))=true:=andd.2 ⟨ok_rp h1,h2⟩;rw[y_spec_l8Start,kk,hl,hk,l1,l2,l3,inb_ok k0 (by omega),inb_ok (Int.le_refl 0) (by omega),inb_ok (by omega) (by omega)];rfl)
def c_spec_l8Start:Con:=conT [TG, .str] fun(g:Gram) (s:Str)=>(some (okG g&&decide (length s≤1000)), .d (ofD TI64 (startC g s)))
theorem k_spec_l8Start:ConOk Tryz.prog 48 c_spec_l8Start:=conT_ok Tryz.call48 fun g hg s hs hqq=>s_spec_l8Start g hg s hs (pre_of hqq)
def Γ63:GL:=(48,c_spec_l8Start)::Γ62
theorem Γ63ok:GO Γ63 := .cons k_spec_l8Start Γ62ok
end
end Go.Proofs.YtmeiebnfmhddnaaGreatDoor.Ev
