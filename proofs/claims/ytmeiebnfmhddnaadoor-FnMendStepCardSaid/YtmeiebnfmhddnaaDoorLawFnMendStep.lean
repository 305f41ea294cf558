/-
  FnMendStep: one edit changes the distance to the language by no more than one.
  Conditions: none beyond the row's own: the listed tables of Go's library read as its text lays them, which the card ties to the program's text.
-/
import Derived.ProofKit
import Derived.OpenShut
import Derived.ShutString
import Derived.ChangeOld
import Derived.Below
import Derived.SizedLaws
import Derived.LaidMore
import Derived.Lay
import Derived.SevenTiedAt
import Derived.Stop.Joined
import Derived.Test.YtmeiebnfmhddnaaDoorTie
import Derived.Test.YtmeiebnfmhddnaaDoorCards
import Derived.Test.YtmeiebnfmhddnaaDoorRows
import Derived.Test.YtmeiebnfmhddnaaDoorHms
import Derived.Test.YtmeiebnfmhddnaaDoorLowFnMendStep
namespace Go.Proofs.YtmeiebnfmhddnaaDoor.fnMendStep
open Go.ChangeShapes Go.WideShapes Go.ChangeAt Go.RowKit Go.Proofs.YtmeiebnfmhddnaaDoor.Ev
set_option maxHeartbeats 4000000 in
theorem closed : joinedFacts Tryd.pinned.checked.prog 3 Tryd.f3 Rows.fnMendStepSpec Rows.fnMendStepRow = true := by
  unfold joinedFacts
  simp only [Bool.and_eq_true]
  repeat' (apply And.intro)
  all_goals as_aux_lemma => kernel_rfl
set_option maxHeartbeats 4000000 in
theorem over : Rows.fnMendStepRow.holds Tryd.pinned (OpenSpec.ofChange Rows.fnMendStepSpec) :=
  OpenClaim.holds_of_wide 3 Tryd.f3 rfl rfl rfl rfl rfl rfl rfl ⟨rfl, rfl, rfl, rfl, rfl⟩ rfl rfl rfl rfl rfl (by as_aux_lemma => kernel_rfl) Tryd.func3 closed
    (of_decide_eq_true (by as_aux_lemma => kernel_rfl)) (by unfold Func.isWrapper; first | (rw [if_pos (by decide +kernel)]; as_aux_lemma => kernel_rfl) | (rw [if_neg (by decide +kernel)]; exact ⟨rfl, rfl⟩))
    (fun os started H enc _ => lifted os started H enc)
set_option maxHeartbeats 4000000 in
theorem proved : Rows.FnMendStepCardSaid :=
  Claim7.holds_tied_plain_at .later [] [.data, .pinned] true (true, "b2b5ea40d50f477dbe89cd4654a9971e3bb948f9ce0a8e22311a7a178d25ead9") false over (fun _ h => by cases h) (by as_aux_lemma => kernel_rfl) (fun _ h => by cases h) fnMendStep_row_tie rfl ⟨rfl, rfl⟩ (by as_aux_lemma => kernel_rfl) rfl
    (fun f fn hf hfn => by
      obtain rfl : f = 3 := Option.some.inj ((show Tryd.prog.funcNamed "loop.example/construer/laws.FnMendStep" = some 3 by as_aux_lemma => kernel_rfl).symm.trans hf) |>.symm
      obtain rfl : fn = Tryd.f3 := (Option.some.inj (Tryd.func3.symm.trans hfn)).symm
      exact ⟨by as_aux_lemma => kernel_rfl, fun j t ht => by
        have hall : (Tryd.f3.params.toList.all fun u => !Tryd.prog.wantsStandIn u) = true := by as_aux_lemma => kernel_rfl
        have hm : t ∈ Tryd.f3.params.toList := by simpa using Array.mem_of_getElem? ht
        exact (show Tryd.prog.wantsStandIn t = false by simpa using List.all_eq_true.1 hall t hm)⟩)
    (by as_aux_lemma => kernel_rfl)
#print axioms proved
end Go.Proofs.YtmeiebnfmhddnaaDoor.fnMendStep
namespace Go.Proofs.YtmeiebnfmhddnaaDoor
/-- The row, under a short name, for the claim. -/
theorem fnMendStep_holds : Rows.FnMendStepCardSaid := fnMendStep.proved
end Go.Proofs.YtmeiebnfmhddnaaDoor
