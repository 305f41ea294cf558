/-
  What Compact makes of an ascending list: each once, in order.
-/
import Derived.Test.YtmeiebnfmhddnaaGreatDoorGm
namespace Go.Proofs.YtmeiebnfmhddnaaGreatDoor.Ev
open Go
def dd:Int→List Int→List Int
 |_,[]=>[]
 |a,x::l=>bif decide (x=a)then dd a l else x::dd x l
theorem drop_at {l:List Int} {p:Nat} (h:p<l.length):l.drop p=l.getD p 0::l.drop (p+1):=by
 rw[List.drop_eq_getElem_cons h,getD_at h]
theorem cpL_dd:∀(m:Nat) (l:List Int) (k p:Nat),k<p→p+m=l.length→(cpL m l k p).1.take (cpL m l k p).2=l.take k++dd (l.getD (p-1) 0) (l.drop p)
 |0,l,k,p,h1,h2=>by
  rw[List.drop_eq_nil_of_le (by omega)]
  show l.take k=_
  simp[dd]
 |m+1,l,k,p,h1,h2=>by
  rw[drop_at (show p<l.length by omega)]
  unfold cpL dd
  cases hc:decide (l.getD p 0=l.getD (p-1) 0)
  ·simp only[cond_false]
   rw[cpL_dd m (l.set k (l.getD p 0)) (k+1) (p+1) (by omega) (by rw[List.length_set];omega)]
   have e1:(l.set k (l.getD p 0)).getD (p+1-1) 0=l.getD p 0:=by
    rw[List.getD_eq_getElem?_getD,List.getElem?_set_ne (by omega),← List.getD_eq_getElem?_getD];rfl
   have e2:(l.set k (l.getD p 0)).drop (p+1)=l.drop (p+1):=List.drop_set_of_lt (by omega)
   have e3:(l.set k (l.getD p 0)).take (k+1)=l.take k++[l.getD p 0]:=by
    rw[List.take_succ_eq_append_getElem (by rw[List.length_set];omega),List.take_set_of_le (Nat.le_refl _)]
    simp
   rw[e1,e2,e3]
   simp
  ·simp only[cond_true]
   rw[cpL_dd m l k (p+1) (by omega) (by omega)]
   have:=of_decide_eq_true hc
   rw[show p+1-1=p by omega,this]
def ddV (l:List Int) (k:Nat):List Int:=l.take k++dd (l.getD (k-1) 0) (l.drop k)
theorem ddV_step {l:List Int} {k:Nat} (hk:1≤k) (h:k<l.length) (hc:decide (l.getD k 0=l.getD (k-1) 0)=false):ddV l k=ddV l (k+1):=by
 have e:dd (l.getD (k-1) 0) (l.getD k 0::l.drop (k+1))=l.getD k 0::dd (l.getD k 0) (l.drop (k+1)):=by rw[dd,hc];rfl
 unfold ddV
 rw[drop_at h,e,show k+1-1=k by omega,List.take_succ_eq_append_getElem h,← getD_at h 0,List.append_assoc];rfl
theorem cpO_eq {l:List Int} {q:Nat} (h1:1≤q) (h:q<l.length) (hc:decide (l.getD q 0=l.getD (q-1) 0)=true):cpO l q=ddV l q:=by
 obtain⟨c1,c2,c3⟩:(cpE l q).1.length=l.length∧q≤(cpE l q).2∧(cpE l q).2≤q+(l.length-(q+1)):=cpL_len _ _ _ _
 have e:cpO l q=(cpE l q).1.take (cpE l q).2:=by
  show List.take (cpE l q).2 (List.take (cpE l q).2 (cpE l q).1++List.replicate ((cpE l q).1.length-(cpE l q).2) (0:Int))=_
  rw[List.take_append_of_le_length (by rw[List.length_take];omega),List.take_take,Nat.min_self]
 rw[e]
 show(cpL (l.length-(q+1)) l q (q+1)).1.take _=_
 rw[cpL_dd _ l q (q+1) (by omega) (by omega)]
 unfold ddV
 have hq:=of_decide_eq_true hc
 rw[drop_at h,show q+1-1=q by omega]
 conv=>rhs;unfold dd
 rw[hc,← hq];rfl
theorem dupF_eq (l:List Int):∀(m k:Nat),1≤k→k+m=l.length→(match dupF l m k with | some q=>cpO l q | none=>l)=ddV l k
 |0,k,h1,h2=>by
  show l=_
  unfold ddV
  rw[List.drop_eq_nil_of_le (by omega),List.take_of_length_le (by omega)];simp[dd]
 |m+1,k,h1,h2=>by
  unfold dupF
  cases hc:decide (l.getD k 0=l.getD (k-1) 0)
  ·simp only[cond_false]
   rw[dupF_eq l m (k+1) (by omega) (by omega),← ddV_step h1 (by omega) hc]
  ·simp only[cond_true]
   exact cpO_eq h1 (by omega) hc
theorem cptV_eq (l:List Int):cptV l=ddV l 1:=by
 unfold cptV
 by_cases h:(l.length:Int)<2
 ·rw[decide_eq_true h]
  match l,h with
  | [],_=>rfl
  | [x],_=>rfl
  |x::y::l,h=>simp at h;omega
 ·rw[decide_eq_false h]
  exact dupF_eq l (l.length-1) 1 (Nat.le_refl _) (by omega)
theorem cptV_cons (x:Int) (l:List Int):cptV (x::l)=x::dd x l:=by rw[cptV_eq];rfl
theorem dd_sub {y:Int}:∀ {a:Int} {l:List Int},y∈dd a l→y∈l
 |_,[],h=>h
 |a,x::l,h=>by
  unfold dd at h
  cases hc:decide (x=a)<;>rw[hc]at h
  ·rcases List.mem_cons.1 h with h | h
   ·exact h ▸ List.mem_cons_self
   ·exact List.mem_cons_of_mem _ (dd_sub h)
  ·exact List.mem_cons_of_mem _ (dd_sub h)
theorem dd_mem {y:Int}:∀ {a:Int} {l:List Int},y∈l→y=a∨y∈dd a l
 |a,x::l,h=>by
  unfold dd
  cases hc:decide (x=a)
  ·rcases List.mem_cons.1 h with h | h
   ·exact .inr (h ▸ List.mem_cons_self)
   ·rcases dd_mem (a:=x) h with h | h
    ·exact .inr (h ▸ List.mem_cons_self)
    ·exact .inr (List.mem_cons_of_mem _ h)
  ·have hx:=of_decide_eq_true hc
   rcases List.mem_cons.1 h with h | h
   ·exact .inl (h.trans hx)
   ·exact dd_mem h
theorem dd_asc:∀ {a:Int} {l:List Int},(a::l).Pairwise (· ≤ ·)→(a::dd a l).Pairwise (· < ·)
 |a,[],_=>by simp[dd]
 |a,x::l,h=>by
  rw[List.pairwise_cons,List.pairwise_cons]at h
  obtain⟨h1,h2,h3⟩:=h
  unfold dd
  cases hc:decide (x=a)
  ·have hx:=of_decide_eq_false hc
   have hax:=h1 x List.mem_cons_self
   have ih:=dd_asc (a:=x) (l:=l) (List.pairwise_cons.2 ⟨h2,h3⟩)
   refine List.pairwise_cons.2 ⟨fun y hy => ?_,ih⟩
   rcases List.mem_cons.1 hy with rfl | hy
   ·omega
   ·have:=(List.pairwise_cons.1 ih).1 y hy
    omega
  ·have hx:=of_decide_eq_true hc
   exact dd_asc (a:=a) (l:=l) (List.pairwise_cons.2 ⟨fun y hy=>h1 y (List.mem_cons_of_mem _ hy),h3⟩)
theorem cptV_mem {y:Int} {l:List Int}:y∈cptV l↔y∈l:=by
 cases l with
 |nil=>rw[cptV_eq];rfl
 |cons x l =>
  rw[cptV_cons]
  refine⟨fun h => ?_,fun h => ?_⟩
  ·rcases List.mem_cons.1 h with h | h
   ·exact h ▸ List.mem_cons_self
   ·exact List.mem_cons_of_mem _ (dd_sub h)
  ·rcases List.mem_cons.1 h with h | h
   ·exact h ▸ List.mem_cons_self
   ·rcases dd_mem (a:=x) h with h | h
    ·exact h ▸ List.mem_cons_self
    ·exact List.mem_cons_of_mem _ h
theorem cptV_asc {l:List Int} (h:l.Pairwise (· ≤ ·)):(cptV l).Pairwise (· < ·):=by
 cases l with
 |nil=>rw[cptV_eq];exact .nil
 |cons x l=>rw[cptV_cons];exact dd_asc h
end Go.Proofs.YtmeiebnfmhddnaaGreatDoor.Ev
