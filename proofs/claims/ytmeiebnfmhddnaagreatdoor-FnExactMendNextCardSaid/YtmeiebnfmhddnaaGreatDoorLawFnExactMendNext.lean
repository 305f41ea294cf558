/-
  FnExactMendNext: the next edit of a repair is told exactly as by the reference, and nothing of the input changes.
  Conditions: none beyond the row's own: the listed tables of Go's library read as its text lays them, which the card ties to the program's text.
-/
import Derived.ProofKit
import Derived.OpenShut
import Derived.ShutString
import Derived.ChangeOld
import Derived.Below
import Derived.SizedLaws
import Derived.LaidMore
import Derived.Lay
import Derived.SevenTiedAt
import Derived.Stop.Joined
import Derived.Test.YtmeiebnfmhddnaaGreatDoorTie
import Derived.Test.YtmeiebnfmhddnaaGreatDoorCards
import Derived.Test.YtmeiebnfmhddnaaGreatDoorRows
import Derived.Test.YtmeiebnfmhddnaaGreatDoorHza
import Derived.Test.YtmeiebnfmhddnaaGreatDoorLowFnExactMendNext
namespace Go.Proofs.YtmeiebnfmhddnaaGreatDoor.fnExactMendNext
open Go.ChangeShapes Go.WideShapes Go.ChangeAt Go.RowKit Go.Proofs.YtmeiebnfmhddnaaGreatDoor.Ev
set_option maxHeartbeats 4000000 in
theorem closed : joinedFacts Tryz.pinned.checked.prog 8 Tryz.f8 Rows.fnExactMendNextSpec Rows.fnExactMendNextRow = true := by
  unfold joinedFacts
  simp only [Bool.and_eq_true]
  repeat' (apply And.intro)
  all_goals as_aux_lemma => kernel_rfl
set_option maxHeartbeats 4000000 in
theorem over : Rows.fnExactMendNextRow.holds Tryz.pinned (OpenSpec.ofChange Rows.fnExactMendNextSpec) :=
  OpenClaim.holds_of_wide 8 Tryz.f8 rfl rfl rfl rfl rfl rfl rfl ⟨rfl, rfl, rfl, rfl, rfl⟩ rfl rfl rfl rfl rfl (by as_aux_lemma => kernel_rfl) Tryz.func8 closed
    (of_decide_eq_true (by as_aux_lemma => kernel_rfl)) (by unfold Func.isWrapper; first | (rw [if_pos (by decide +kernel)]; as_aux_lemma => kernel_rfl) | (rw [if_neg (by decide +kernel)]; exact ⟨rfl, rfl⟩))
    (fun os started H enc _ => lifted os started H enc)
set_option maxHeartbeats 4000000 in
theorem proved : Rows.FnExactMendNextCardSaid :=
  Claim7.holds_tied_plain_at .later [] [.data, .pinned] true (true, "bef5045932b83f32403de518cfb1b0f987a8043e7b16326b13fde38a533381bc") false over (fun _ h => by cases h) (by as_aux_lemma => kernel_rfl) (fun _ h => by cases h) fnExactMendNext_row_tie rfl ⟨rfl, rfl⟩ (by as_aux_lemma => kernel_rfl) rfl
    (fun f fn hf hfn => by
      obtain rfl : f = 8 := Option.some.inj ((show Tryz.prog.funcNamed "loop.example/construer/laws.FnExactMendNext" = some 8 by as_aux_lemma => kernel_rfl).symm.trans hf) |>.symm
      obtain rfl : fn = Tryz.f8 := (Option.some.inj (Tryz.func8.symm.trans hfn)).symm
      exact ⟨by as_aux_lemma => kernel_rfl, fun j t ht => by
        have hall : (Tryz.f8.params.toList.all fun u => !Tryz.prog.wantsStandIn u) = true := by as_aux_lemma => kernel_rfl
        have hm : t ∈ Tryz.f8.params.toList := by simpa using Array.mem_of_getElem? ht
        exact (show Tryz.prog.wantsStandIn t = false by simpa using List.all_eq_true.1 hall t hm)⟩)
    (by as_aux_lemma => kernel_rfl)
#print axioms proved
end Go.Proofs.YtmeiebnfmhddnaaGreatDoor.fnExactMendNext
namespace Go.Proofs.YtmeiebnfmhddnaaGreatDoor
/-- The row, under a short name, for the claim. -/
theorem fnExactMendNext_holds : Rows.FnExactMendNextCardSaid := fnExactMendNext.proved
end Go.Proofs.YtmeiebnfmhddnaaGreatDoor
