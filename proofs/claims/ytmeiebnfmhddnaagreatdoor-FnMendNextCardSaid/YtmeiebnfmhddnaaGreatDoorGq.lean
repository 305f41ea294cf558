/-
  Sets of signs: ascending, each once.
-/
import Derived.Test.YtmeiebnfmhddnaaGreatDoorGp
namespace Go.Proofs.YtmeiebnfmhddnaaGreatDoor.Ev
open Go
abbrev hP (f:FuncId) (c:Int):Bool:=pF f (chrS c)
theorem dlL_fil (f:FuncId):∀(m:Nat) (l:List Int) (i j:Nat),i<j→j+m=l.length→(dlL f m l i j).1.take (dlL f m l i j).2=l.take i++(l.drop j).filter (hP f)
 |0,l,i,j,h1,h2=>by
  rw[List.drop_eq_nil_of_le (by omega)]
  show l.take i=_
  simp
 |m+1,l,i,j,h1,h2=>by
  rw[drop_at (show j<l.length by omega)]
  unfold dlL
  cases hc:pF f (chrS (l.getD j 0))
  ·simp only[cond_false]
   rw[dlL_fil f m l i (j+1) (by omega) (by omega),List.filter_cons_of_neg (by show ¬pF f (chrS (l.getD j 0))=true;rw[hc];exact Bool.false_ne_true)]
  ·simp only[cond_true]
   rw[dlL_fil f m (l.set i (l.getD j 0)) (i+1) (j+1) (by omega) (by rw[List.length_set];omega),List.filter_cons_of_pos (p:=hP f) (a:=l.getD j 0) hc]
   have e2:(l.set i (l.getD j 0)).drop (j+1)=l.drop (j+1):=List.drop_set_of_lt (by omega)
   have e3:(l.set i (l.getD j 0)).take (i+1)=l.take i++[l.getD j 0]:=by
    rw[List.take_succ_eq_append_getElem (by rw[List.length_set];omega),List.take_set_of_le (Nat.le_refl _)]
    simp
   rw[e2,e3]
   simp
theorem ixV_none {f:FuncId}:∀ {l:List Int} {k:Nat},ixV f l k=none→l.filter (hP f)=l
 | [],_,_=>rfl
 |x::l,k,h=>by
  unfold ixV at h
  cases hc:pF f (chrS x)<;>rw[hc]at h
  ·cases h
  ·rw[List.filter_cons_of_pos (by simp[hP,hc]),ixV_none (k:=k+1) h]
theorem ixV_some {f:FuncId}:∀ {l:List Int} {k q:Nat},ixV f l k=some q→(l.take (q-k)).filter (hP f)=l.take (q-k)∧hP f (l.getD (q-k) 0)=false
 | [],_,_,h=>by cases h
 |x::l,k,q,h=>by
  unfold ixV at h
  cases hc:pF f (chrS x)<;>rw[hc]at h
  ·cases h
   rw[Nat.sub_self]
   exact⟨rfl,hc⟩
  ·have hlt:=ixV_lt (l:=l) (k:=k+1) h
   obtain⟨h1,h2⟩:=ixV_some (l:=l) (k:=k+1) h
   rw[show q-k=q-(k+1)+1 by omega,List.take_succ_cons,List.filter_cons_of_pos (by simp[hP,hc]),h1]
   exact⟨rfl,h2⟩
theorem delV_eq {f:FuncId} {l:List Int} (hl:l.length≤1000000):delV f l=l.filter (hP f):=by
 unfold delV
 cases hv:ixV f l 0 with
 |none =>
  have h1:ixI f l = -1:=by unfold ixI;rw[hv];rfl
  rw[decide_eq_true h1]
  exact(ixV_none hv).symm
 |some q =>
  have h1:ixI f l=(q:Int):=by unfold ixI;rw[hv];rfl
  have hlt:=ixV_lt hv
  obtain⟨h2,h3⟩:=ixV_some hv
  rw[h1,decide_eq_false (show ¬(q:Int) = -1 by omega)]
  have w:W64 ((q:Int)+1)=q+1:=wrap_small (by omega) (by omega)
  have e0:dlE f l (q:Int)=dlL f (l.length-(q+1)) l q (q+1):=by
   show dlL f (l.length-(W64 ((q:Int)+1)).toNat) l (q:Int).toNat (W64 ((q:Int)+1)).toNat=_
   rw[w,show ((q:Int)+1).toNat=q+1 by omega,show (q:Int).toNat=q by omega]
  rw[e0]
  obtain⟨c1,c2,c3⟩:=dlL_len f (l.length-(q+1)) l q (q+1)
  have e1:=dlL_fil f (l.length-(q+1)) l q (q+1) (by omega) (by omega)
  generalize dlL f (l.length-(q+1)) l q (q+1)=r at c1 c2 c3 e1
  show List.take r.2 (clrL (e:=TU8) r.1 r.2)=_
  have e2:List.take r.2 (clrL (e:=TU8) r.1 r.2)=r.1.take r.2:=by
   show List.take r.2 (List.take r.2 r.1++List.replicate (r.1.length-r.2) (0:Int))=_
   rw[List.take_append_of_le_length (by rw[List.length_take];omega),List.take_take,Nat.min_self]
  rw[e2,e1]
  have h2':(l.take q).filter (hP f)=l.take q:=h2
  have h3':hP f (l.getD q 0)=false:=h3
  have e3:l=l.take q++l.getD q 0::l.drop (q+1):=by rw[← drop_at (show q<l.length by omega),List.take_append_drop]
  conv=>rhs;rw[e3]
  rw[List.filter_append,h2',List.filter_cons_of_neg (by rw[h3'];exact Bool.false_ne_true)]
/-! ### sets of signs -/
abbrev Asc (s:Str):Prop:=s.Pairwise fun a b=>a.toNat<b.toNat
theorem asc_ext:∀ {s t:Str},Asc s→Asc t→(∀c,c∈s↔c∈t)→s=t
 | [],[],_,_,_=>rfl
 | [],b::t,_,_,h=>absurd ((h b).2 List.mem_cons_self) (by simp)
 |a::s,[],_,_,h=>absurd ((h a).1 List.mem_cons_self) (by simp)
 |a::s,b::t,hs,ht,h=>by
  obtain⟨s1,s2⟩:=List.pairwise_cons.1 hs
  obtain⟨t1,t2⟩:=List.pairwise_cons.1 ht
  have hab:a=b:=by
   rcases List.mem_cons.1 ((h a).1 List.mem_cons_self)with h1 | h1
   ·exact h1
   ·rcases List.mem_cons.1 ((h b).2 List.mem_cons_self)with h2 | h2
    ·exact h2.symm
    ·have:=t1 a h1;have:=s1 b h2;omega
  subst hab
  refine congrArg (a::·) (asc_ext s2 t2 fun c=>⟨fun hc => ?_,fun hc => ?_⟩)
  ·rcases List.mem_cons.1 ((h c).1 (List.mem_cons_of_mem _ hc))with h1 | h1
   ·subst h1;have:=s1 c hc;omega
   ·exact h1
  ·rcases List.mem_cons.1 ((h c).2 (List.mem_cons_of_mem _ hc))with h1 | h1
   ·subst h1;have:=t1 c hc;omega
   ·exact h1
def addS (c:UInt8):Str→Str
 | []=>[c]
 |x::s=>bif Nat.blt x.toNat c.toNat then x::addS c s else bif Nat.beq x.toNat c.toNat then x::s else c::x::s
theorem addS_mem {c y:UInt8}:∀ {s:Str},y∈addS c s↔y=c∨y∈s
 | []=>by simp[addS]
 |x::s=>by
  unfold addS
  cases h1:Nat.blt x.toNat c.toNat
  ·cases h2:Nat.beq x.toNat c.toNat
   ·simp
   ·have e:x=c:=UInt8.toNat_inj.1 (Nat.eq_of_beq_eq_true h2)
    subst e
    simp
  ·simp only[cond_true,List.mem_cons,addS_mem (s:=s)]
   constructor
   ·rintro (h | h | h)
    ·exact .inr (.inl h)
    ·exact .inl h
    ·exact .inr (.inr h)
   ·rintro (h | h | h)
    ·exact .inr (.inl h)
    ·exact .inl h
    ·exact .inr (.inr h)
theorem addS_asc {c:UInt8}:∀ {s:Str},Asc s→Asc (addS c s)
 | [],_=>by simp[addS,Asc]
 |x::s,h=>by
  obtain⟨h1,h2⟩:=List.pairwise_cons.1 h
  unfold addS
  cases e1:Nat.blt x.toNat c.toNat
  ·cases e2:Nat.beq x.toNat c.toNat
   ·have hc:c.toNat<x.toNat:=by
     have n1:¬x.toNat<c.toNat:=fun hh=>by
      have hb:Nat.blt x.toNat c.toNat=true:=Nat.ble_eq_true_of_le hh
      rw[hb]at e1;cases e1
     have n2:x.toNat≠c.toNat:=fun hh=>by rw[hh,Nat.beq_refl]at e2;cases e2
     omega
    refine List.pairwise_cons.2 ⟨fun y hy => ?_,h⟩
    rcases List.mem_cons.1 hy with rfl | hy
    ·exact hc
    ·have:=h1 y hy;omega
   ·exact h
  ·have hx:x.toNat<c.toNat:=Nat.le_of_ble_eq_true e1
   refine List.pairwise_cons.2 ⟨fun y hy => ?_,addS_asc h2⟩
   rcases addS_mem.1 hy with rfl | hy
   ·exact hx
   ·exact h1 y hy
theorem addS_len {c:UInt8}:∀ {s:Str},(addS c s).length≤s.length+1
 | []=>Nat.le_refl _
 |x::s=>by
  unfold addS
  have:=addS_len (c:=c) (s:=s)
  cases Nat.blt x.toNat c.toNat
  ·cases Nat.beq x.toNat c.toNat<;>simp
  ·simp only[cond_true,List.length_cons];omega
def putS (p:UInt8→Bool) (o:Str):Str→Str
 | []=>o
 |x::s=>putS p (bif p x then addS x o else o) s
theorem putS_mem {p:UInt8→Bool} {y:UInt8}:∀ {s o:Str},y∈putS p o s↔y∈o∨(y∈s∧p y=true)
 | [],o=>by simp[putS]
 |x::s,o=>by
  unfold putS
  rw[putS_mem]
  cases hp:p x
  ·simp only[cond_false,List.mem_cons]
   constructor
   ·rintro (h | h)
    ·exact .inl h
    ·exact .inr ⟨.inr h.1,h.2⟩
   ·rintro (h | ⟨rfl | h,h2⟩)
    ·exact .inl h
    ·rw[hp]at h2;cases h2
    ·exact .inr ⟨h,h2⟩
  ·simp only[cond_true,addS_mem,List.mem_cons]
   constructor
   ·rintro ((rfl | h) | h)
    ·exact .inr ⟨.inl rfl,hp⟩
    ·exact .inl h
    ·exact .inr ⟨.inr h.1,h.2⟩
   ·rintro (h | ⟨rfl | h,h2⟩)
    ·exact .inl (.inr h)
    ·exact .inl (.inl rfl)
    ·exact .inr ⟨h,h2⟩
theorem putS_asc {p:UInt8→Bool}:∀ {s o:Str},Asc o→Asc (putS p o s)
 | [],_,h=>h
 |x::s,o,h=>by
  unfold putS
  refine putS_asc ?_
  cases p x
  ·exact h
  ·exact addS_asc h
def setS (p:UInt8→Bool) (s:Str):Str:=putS p [] s
theorem setS_mem {p:UInt8→Bool} {y:UInt8} {s:Str}:y∈setS p s↔y∈s∧p y=true:=by
 unfold setS
 rw[putS_mem]
 simp
theorem setS_asc {p:UInt8→Bool} {s:Str}:Asc (setS p s):=putS_asc .nil
theorem setS_eq {p:UInt8→Bool} {s t:Str} (ha:Asc t) (h:∀y,y∈t↔y∈s∧p y=true):t=setS p s:=asc_ext ha setS_asc fun y=>by rw[h,setS_mem]
theorem chr_big:∀n:Nat,n<256→bigS (chrS (n:Int))=(Nat.ble 65 n&&Nat.ble n 69):=by decide +kernel
theorem chr_small:∀n:Nat,n<256→smallS (chrS (n:Int))=(Nat.ble 97 n&&Nat.ble n 100):=by decide +kernel
def pB (f:FuncId):UInt8→Bool:=bif Nat.beq f 42 then bigc else bif Nat.beq f 55 then small else fun _=>true
theorem pB_eq {f:FuncId} (h:(holdF f).isSome=true) (c:UInt8):hP f (c.toNat:Int)=pB f c:=by
 unfold hP pF pB
 unfold holdF at h ⊢
 cases h1:Nat.beq f 42
 ·cases h2:Nat.beq f 55
  ·cases h3:isUni f
   ·rw[h1,h2,h3]at h;cases h
   ·rfl
  ·exact chr_small c.toNat c.toNat_lt
 ·exact chr_big c.toNat c.toNat_lt
noncomputable def setV (f:FuncId) (s:Str):Str:=byteL (delV f (cptV (sortL (intL s))))
theorem cpt_len (s:Str):(cptV (sortL (intL s))).length≤s.length:=by
 have ha:=cptV_asc (sortL_sorted (intL s))
 have hnd:(cptV (sortL (intL s))).Nodup:=ha.imp fun hh=>by omega
 have:=hnd.length_le_of_subset (l₂:=sortL (intL s)) fun x hx=>cptV_mem.1 hx
 rw[sortL_len]at this
 have h2:(intL s).length=s.length:=by unfold intL;rw[List.length_map]
 omega
theorem setV_eq {f:FuncId} {s:Str} (h:(holdF f).isSome=true) (hl:s.length<50):setV f s=setS (pB f) s:=by
 have h0:∀n∈cptV (sortL (intL s)),∃b∈s,n=(b.toNat:Int):=fun n hn=>by
  have:=(sortL_perm _).mem_iff.1 (cptV_mem.1 hn)
  unfold intL at this
  obtain⟨b,h1,h2⟩:=List.mem_map.1 this
  exact⟨b,h1,h2.symm⟩
 have hlen:(cptV (sortL (intL s))).length≤1000000:=by have:=cpt_len s;omega
 unfold setV
 rw[delV_eq hlen]
 have h1:∀n∈(cptV (sortL (intL s))).filter (hP f),∃b∈s,n=(b.toNat:Int):=fun n hn=>h0 n (List.mem_filter.1 hn).1
 refine setS_eq ?_ fun y=>⟨fun hy => ?_,fun hy => ?_⟩
 ·show (byteL _).Pairwise _
  unfold byteL
  rw[List.pairwise_map]
  refine((cptV_asc (sortL_sorted (intL s))).filter _).imp_of_mem fun {a b} ha hb hab => ?_
  obtain⟨x,_,rfl⟩:=h1 a ha
  obtain⟨z,_,rfl⟩:=h1 b hb
  rw[byteL_nat,byteL_nat]
  omega
 ·unfold byteL at hy
  obtain⟨n,hn,rfl⟩:=List.mem_map.1 hy
  obtain⟨b,hb,rfl⟩:=h1 n hn
  have:=(List.mem_filter.1 hn).2
  rw[byteL_nat]
  exact⟨hb,by rw[← pB_eq h];exact this⟩
 ·unfold byteL
  refine List.mem_map.2 ⟨(y.toNat:Int),List.mem_filter.2 ⟨?_,by rw[pB_eq h];exact hy.2⟩,byteL_nat y⟩
  refine cptV_mem.2 ((sortL_perm _).mem_iff.2 ?_)
  unfold intL
  exact List.mem_map.2 ⟨y,hy.1,rfl⟩
end Go.Proofs.YtmeiebnfmhddnaaGreatDoor.Ev
