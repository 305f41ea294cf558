/-
  FnGramPlain: the rules without unit rules are those of the reference, are well-formed and have no unit rule, and the same texts come of the start.
  Conditions: none beyond the row's own: the listed tables of Go's library read as its text lays them, which the card ties to the program's text.
-/
import Derived.ProofKit
import Derived.OpenShut
import Derived.ShutString
import Derived.ChangeOld
import Derived.Below
import Derived.SizedLaws
import Derived.LaidMore
import Derived.Lay
import Derived.SevenTiedAt
import Derived.Stop.Joined
import Derived.Test.YtmeiebnfmhddnaaGreatDoorTie
import Derived.Test.YtmeiebnfmhddnaaGreatDoorCards
import Derived.Test.YtmeiebnfmhddnaaGreatDoorRows
import Derived.Test.YtmeiebnfmhddnaaGreatDoorHhb
import Derived.Test.YtmeiebnfmhddnaaGreatDoorLowFnGramPlain
namespace Go.Proofs.YtmeiebnfmhddnaaGreatDoor.fnGramPlain
open Go.ChangeShapes Go.WideShapes Go.ChangeAt Go.RowKit Go.Proofs.YtmeiebnfmhddnaaGreatDoor.Ev
set_option maxHeartbeats 4000000 in
theorem closed : joinedFacts Tryz.pinned.checked.prog 11 Tryz.f11 Rows.fnGramPlainSpec Rows.fnGramPlainRow = true := by
  unfold joinedFacts
  simp only [Bool.and_eq_true]
  repeat' (apply And.intro)
  all_goals as_aux_lemma => kernel_rfl
set_option maxHeartbeats 4000000 in
theorem over : Rows.fnGramPlainRow.holds Tryz.pinned (OpenSpec.ofChange Rows.fnGramPlainSpec) :=
  OpenClaim.holds_of_wide 11 Tryz.f11 rfl rfl rfl rfl rfl rfl rfl ⟨rfl, rfl, rfl, rfl, rfl⟩ rfl rfl rfl rfl rfl (by as_aux_lemma => kernel_rfl) Tryz.func11 closed
    (of_decide_eq_true (by as_aux_lemma => kernel_rfl)) (by unfold Func.isWrapper; first | (rw [if_pos (by decide +kernel)]; as_aux_lemma => kernel_rfl) | (rw [if_neg (by decide +kernel)]; exact ⟨rfl, rfl⟩))
    (fun os started H enc _ => lifted os started H enc)
set_option maxHeartbeats 4000000 in
theorem proved : Rows.FnGramPlainCardSaid :=
  Claim7.holds_tied_plain_at .later [] [.data, .pinned] true (true, "bef5045932b83f32403de518cfb1b0f987a8043e7b16326b13fde38a533381bc") false over (fun _ h => by cases h) (by as_aux_lemma => kernel_rfl) (fun _ h => by cases h) fnGramPlain_row_tie rfl ⟨rfl, rfl⟩ (by as_aux_lemma => kernel_rfl) rfl
    (fun f fn hf hfn => by
      obtain rfl : f = 11 := Option.some.inj ((show Tryz.prog.funcNamed "loop.example/construer/laws.FnGramPlain" = some 11 by as_aux_lemma => kernel_rfl).symm.trans hf) |>.symm
      obtain rfl : fn = Tryz.f11 := (Option.some.inj (Tryz.func11.symm.trans hfn)).symm
      exact ⟨by as_aux_lemma => kernel_rfl, fun j t ht => by
        have hall : (Tryz.f11.params.toList.all fun u => !Tryz.prog.wantsStandIn u) = true := by as_aux_lemma => kernel_rfl
        have hm : t ∈ Tryz.f11.params.toList := by simpa using Array.mem_of_getElem? ht
        exact (show Tryz.prog.wantsStandIn t = false by simpa using List.all_eq_true.1 hall t hm)⟩)
    (by as_aux_lemma => kernel_rfl)
#print axioms proved
end Go.Proofs.YtmeiebnfmhddnaaGreatDoor.fnGramPlain
namespace Go.Proofs.YtmeiebnfmhddnaaGreatDoor
/-- The row, under a short name, for the claim. -/
theorem fnGramPlain_holds : Rows.FnGramPlainCardSaid := fnGramPlain.proved
end Go.Proofs.YtmeiebnfmhddnaaGreatDoor
