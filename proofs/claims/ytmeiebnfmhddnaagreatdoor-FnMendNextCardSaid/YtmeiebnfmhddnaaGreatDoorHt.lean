/-
  FnMendFar: the law.
-/
import Derived.Test.YtmeiebnfmhddnaaGreatDoorHs
namespace Go.Proofs.YtmeiebnfmhddnaaGreatDoor.Ev
open Go
theorem mend_cases {g:Gram} {s:Str}:(mendV g s = -1∧canB g s=false)∨(canB g s=true∧mendV g s=farV g s∧0≤farV g s∧both2 g s=true∧okG g=true∧List.length s≤8∧prodG g):=by
 cases hc:canB g s
 ·refine .inl ⟨?_,rfl⟩
  rw[mend_same]
  unfold sMendV
  rw[hc];rfl
 ·obtain ⟨h1,h2⟩:=canB_iff.1 hc
  obtain⟨h3,h4⟩:=both2_iff.1 h1
  have hl:=(areSm_iff.1 h4).1
  obtain⟨a1,a2,_⟩:=far_both h3 (by omega:List.length s≤1000) h2
  refine .inr ⟨rfl, ?_,a2,h1,h3,by omega,h2⟩
  rw[mend_same]
  unfold sMendV
  rw[hc,cond_true,a1]
end Go.Proofs.YtmeiebnfmhddnaaGreatDoor.Ev
