/-
  FnAllSame: the first text on which two grammars part is that of the reference, it is the same from either side, and there is none where both are one.
  Conditions: none beyond the row's own: the listed tables of Go's library read as its text lays them, which the card ties to the program's text.
-/
import Derived.ProofKit
import Derived.OpenShut
import Derived.ShutString
import Derived.ChangeOld
import Derived.Below
import Derived.SizedLaws
import Derived.LaidMore
import Derived.Lay
import Derived.SevenTiedAt
import Derived.Stop.Joined
import Derived.Test.YtmeiebnfmhddnaaGreatDoorTie
import Derived.Test.YtmeiebnfmhddnaaGreatDoorCards
import Derived.Test.YtmeiebnfmhddnaaGreatDoorRows
import Derived.Test.YtmeiebnfmhddnaaGreatDoorHgb
import Derived.Test.YtmeiebnfmhddnaaGreatDoorLowFnAllSame
namespace Go.Proofs.YtmeiebnfmhddnaaGreatDoor.fnAllSame
open Go.ChangeShapes Go.WideShapes Go.ChangeAt Go.RowKit Go.Proofs.YtmeiebnfmhddnaaGreatDoor.Ev
set_option maxHeartbeats 4000000 in
theorem closed : joinedFacts Tryz.pinned.checked.prog 10 Tryz.f10 Rows.fnAllSameSpec Rows.fnAllSameRow = true := by
  unfold joinedFacts
  simp only [Bool.and_eq_true]
  repeat' (apply And.intro)
  all_goals as_aux_lemma => kernel_rfl
set_option maxHeartbeats 4000000 in
theorem over : Rows.fnAllSameRow.holds Tryz.pinned (OpenSpec.ofChange Rows.fnAllSameSpec) :=
  OpenClaim.holds_of_wide 10 Tryz.f10 rfl rfl rfl rfl rfl rfl rfl ⟨rfl, rfl, rfl, rfl, rfl⟩ rfl rfl rfl rfl rfl (by as_aux_lemma => kernel_rfl) Tryz.func10 closed
    (of_decide_eq_true (by as_aux_lemma => kernel_rfl)) (by unfold Func.isWrapper; first | (rw [if_pos (by decide +kernel)]; as_aux_lemma => kernel_rfl) | (rw [if_neg (by decide +kernel)]; exact ⟨rfl, rfl⟩))
    (fun os started H enc _ => lifted os started H enc)
set_option maxHeartbeats 4000000 in
theorem proved : Rows.FnAllSameCardSaid :=
  Claim7.holds_tied_plain_at .later [] [.data, .pinned] true (true, "bef5045932b83f32403de518cfb1b0f987a8043e7b16326b13fde38a533381bc") false over (fun _ h => by cases h) (by as_aux_lemma => kernel_rfl) (fun _ h => by cases h) fnAllSame_row_tie rfl ⟨rfl, rfl⟩ (by as_aux_lemma => kernel_rfl) rfl
    (fun f fn hf hfn => by
      obtain rfl : f = 10 := Option.some.inj ((show Tryz.prog.funcNamed "loop.example/construer/laws.FnAllSame" = some 10 by as_aux_lemma => kernel_rfl).symm.trans hf) |>.symm
      obtain rfl : fn = Tryz.f10 := (Option.some.inj (Tryz.func10.symm.trans hfn)).symm
      exact ⟨by as_aux_lemma => kernel_rfl, fun j t ht => by
        have hall : (Tryz.f10.params.toList.all fun u => !Tryz.prog.wantsStandIn u) = true := by as_aux_lemma => kernel_rfl
        have hm : t ∈ Tryz.f10.params.toList := by simpa using Array.mem_of_getElem? ht
        exact (show Tryz.prog.wantsStandIn t = false by simpa using List.all_eq_true.1 hall t hm)⟩)
    (by as_aux_lemma => kernel_rfl)
#print axioms proved
end Go.Proofs.YtmeiebnfmhddnaaGreatDoor.fnAllSame
namespace Go.Proofs.YtmeiebnfmhddnaaGreatDoor
/-- The row, under a short name, for the claim. -/
theorem fnAllSame_holds : Rows.FnAllSameCardSaid := fnAllSame.proved
end Go.Proofs.YtmeiebnfmhddnaaGreatDoor
