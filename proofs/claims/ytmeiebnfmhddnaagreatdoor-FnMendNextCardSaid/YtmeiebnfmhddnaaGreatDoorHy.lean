/-
  FnMendNext, FnMendTwice, FnMendOwn: the laws.
-/
import Derived.Test.YtmeiebnfmhddnaaGreatDoorHx
namespace Go.Proofs.YtmeiebnfmhddnaaGreatDoor.Ev
open Go
theorem both2_mk {g:Gram} {s:Str} (h:okG g=true) (h1:longOk s=true) (h2:List.length s≤8):both2 g s=true:=both2_iff.2 ⟨h,areSm_iff.2 ⟨by omega,List.all_eq_true.2 (longOk_iff.1 h1).1⟩⟩
theorem mend_short {g:Gram} {s:Str} (h:okG g=true) (hp:prodG g) (h1:longOk s=true) (h2:List.length s≤8):mendV g s=farV g s∧canB g s=true:=by
 have hc:=canB_iff.2 ⟨both2_mk h h1 h2,hp⟩
 rcases mend_cases (g:=g) (s:=s)with⟨_,h4⟩ | ⟨_,h4,_⟩
 ·rw[hc]at h4;cases h4
 ·exact ⟨h4,hc⟩
theorem both_long {g:Gram} {s:Str} (h:both2 g s=true):longOk s=true:=by
 obtain⟨h1,h2⟩:=areSm_iff.1 (both2_iff.1 h).2
 exact longOk_iff.2 ⟨List.all_eq_true.1 h2,by omega⟩
theorem next_facts {g:Gram} {s:Str}:(nextV g s=none∧mendV g s≤0)∨∃e,nextV g s=some e∧0<mendV g s∧mendV g s<100000∧(EdDo s e).2=true∧(8<List.length (EdDo s e).1∨mendV g (EdDo s e).1=mendV g s-1):=by
 unfold nextV
 by_cases hd:mendV g s≤0
 ·rw[decide_eq_true hd];exact .inl ⟨rfl,hd⟩
 ·rw[decide_eq_false hd,cond_false]
  rcases mend_cases (g:=g) (s:=s)with⟨h1,h2⟩ | ⟨h1,h2,h3,h4,h5,h6,h7⟩
  ·omega
  ·have hs:=both_long h4
   have hf:=(far_both h5 (by omega:List.length s≤1000) h7).2.2.1
   have hc:=near_some h5 h7 hs (by omega) (by omega:0<farV g s)
   rw[h2]
   have hsome:okN (farV g) s (farV g s) ((nearV (farV g) g s (farV g s)).getD ed0)=true:=nearN_some (getD_some (d:=ed0) hc)
   obtain⟨d1,d2⟩:=far_dec h5 (by omega:List.length s≤1000) h7 rfl hsome
   refine .inr ⟨_,getD_some (d:=ed0) hc,by omega,hf,d1, ?_⟩
   by_cases hl:8<List.length (EdDo s ((nearV (farV g) g s (farV g s)).getD ed0)).1
   ·exact .inl hl
   ·exact .inr (by rw[(mend_short h5 h7 (EdDo_short d1).1 (by omega)).1,d2])
theorem y_laws_FnMendNext (l:List Int):evFn (cxOf Γ92 Tryz.f4.ntmps [] [] [] []) Tryz.f4 true [ofD TB l] []=(
branch (decide (1048576<(l.length:Int))) ( some ((vB true),[])) (
 branch (bif bif bif !(decide (((nextV (F_spec_DrawMendNext l).fst (F_spec_DrawMendNext l).snd).getD ed0).fst=((sNextV (F_spec_DrawMendNext l).fst (F_spec_DrawMendNext l).snd).getD ed0).fst)&&(decide (((nextV (F_spec_DrawMendNext l).fst (F_spec_DrawMendNext l).snd).getD ed0).snd.fst=((sNextV (F_spec_DrawMendNext l).fst (F_spec_DrawMendNext l).snd).getD ed0).snd.fst)&&(decide (((nextV (F_spec_DrawMendNext l).fst (F_spec_DrawMendNext l).snd).getD ed0).snd.snd=((sNextV (F_spec_DrawMendNext l).fst (F_spec_DrawMendNext l).snd).getD ed0).snd.snd)&&true)))then true else !decide ((nextV (F_spec_DrawMendNext l).fst (F_spec_DrawMendNext l).snd).isSome=(sNextV (F_spec_DrawMendNext l).fst (F_spec_DrawMendNext l).snd).isSome)then true else bif !(nextV (F_spec_DrawMendNext l).fst (F_spec_DrawMendNext l).snd).isSome then decide (0<mendV (F_spec_DrawMendNext l).fst (F_spec_DrawMendNext l).snd)else false then true else bif (nextV (F_spec_DrawMendNext l).fst (F_spec_DrawMendNext l).snd).isSome then decide (mendV (F_spec_DrawMendNext l).fst (F_spec_DrawMendNext l).snd≤0)else false) ( some ((vB false),[])) (
 branch (!(nextV (F_spec_DrawMendNext l).fst (F_spec_DrawMendNext l).snd).isSome) ( some ((vB (decide (((nextV (F_spec_DrawMendNext l).fst (F_spec_DrawMendNext l).snd).getD ed0).fst=0)&&(decide (((nextV (F_spec_DrawMendNext l).fst (F_spec_DrawMendNext l).snd).getD ed0).snd.fst=0)&&(decide (((nextV (F_spec_DrawMendNext l).fst (F_spec_DrawMendNext l).snd).getD ed0).snd.snd=[])&&true)))),[])) ( some ((vB (bif (EdDo (F_spec_DrawMendNext l).snd ((nextV (F_spec_DrawMendNext l).fst (F_spec_DrawMendNext l).snd).getD ed0)).snd then bif decide (8<(List.length (EdDo (F_spec_DrawMendNext l).snd ((nextV (F_spec_DrawMendNext l).fst (F_spec_DrawMendNext l).snd).getD ed0)).fst:Int))then true else decide (mendV (F_spec_DrawMendNext l).fst (EdDo (F_spec_DrawMendNext l).snd ((nextV (F_spec_DrawMendNext l).fst (F_spec_DrawMendNext l).snd).getD ed0)).fst=W64 (mendV (F_spec_DrawMendNext l).fst (F_spec_DrawMendNext l).snd-1))else false)),[]))))):=by kernel_rfl
theorem s_laws_FnMendNext (l:List Int) (_hl:Fit TB l):Sat Tryz.prog 4 [ofD TB l] [] (.d (ofD .bool true)) [] :=
 fn_sound (cx:=cxOf Γ92 Tryz.f4.ntmps [] [] [] []) Tryz.func4 rfl ttOk Γ92ok mixed (fun _ _=>LoopsOk.no fun _=>rfl) (ro:=true) (by
  rw[y_laws_FnMendNext]
  generalize F_spec_DrawMendNext l=v
  obtain⟨g,s⟩:=v
  dsimp only
  rw[← next_same]
  rcases next_facts (g:=g) (s:=s)with⟨h1,h2⟩ | ⟨e,h1,h2,h3,h4,h5⟩
  ·rw[h1,decide_eq_false (by omega:¬ 0<mendV g s)]
   cases decide (1048576<(List.length l:Int))<;>rfl
  ·have w:W64 (mendV g s-1)=mendV g s-1:=wrap_small (by omega) (by omega)
   have hx:(bif (EdDo s e).2 then bif decide (8<(List.length (EdDo s e).1:Int))then true else decide (mendV g (EdDo s e).1=mendV g s-1)else false)=true:=by
    rw[h4,cond_true]
    rcases h5 with h5 | h5
    ·rw[decide_eq_true (by omega:8<(List.length (EdDo s e).1:Int))];rfl
    ·rw[decide_eq_true h5];cases decide (8<(List.length (EdDo s e).1:Int))<;>rfl
   rw[h1,w]
   show branch (decide (1048576<(List.length l:Int))) _ (branch (bif bif bif !(decide (e.1=e.1)&&(decide (e.2.1=e.2.1)&&(decide (e.2.2=e.2.2)&&true)))then true else !decide (true=true)then true else bif !true then decide (0<mendV g s)else false then true else bif true then decide (mendV g s≤0)else false) _ (branch (!true) _ (some (vB (bif (EdDo s e).2 then bif decide (8<(List.length (EdDo s e).1:Int))then true else decide (mendV g (EdDo s e).1=mendV g s-1)else false),[]))))=_
   rw[hx,decide_eq_true (rfl:e.1=e.1),decide_eq_true (rfl:e.2.1=e.2.1),decide_eq_true (rfl:e.2.2=e.2.2),decide_eq_false (by omega:¬mendV g s≤0)]
   cases decide (1048576<(List.length l:Int))<;>rfl)
end Go.Proofs.YtmeiebnfmhddnaaGreatDoor.Ev
