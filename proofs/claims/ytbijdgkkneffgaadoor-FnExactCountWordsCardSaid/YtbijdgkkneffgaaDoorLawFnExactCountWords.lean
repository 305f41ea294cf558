/-
  Over every argument the program's CountWords returns what the reference's returns.
  Conditions: none beyond the row's own: the listed tables of Go's library read as its text lays them, which the card ties to the program's text.
-/
import Derived.ProofKit
import Derived.OpenShut
import Derived.ShutString
import Derived.ChangeOld
import Derived.Below
import Derived.SizedLaws
import Derived.LaidMore
import Derived.Lay
import Derived.SevenTiedAt
import Derived.Stop.Joined
import Derived.Test.YtbijdgkkneffgaaDoorTie
import Derived.Test.YtbijdgkkneffgaaDoorCards
import Derived.Test.YtbijdgkkneffgaaDoorRows
import Derived.Test.YtbijdgkkneffgaaDoorHle
import Derived.Test.YtbijdgkkneffgaaDoorLowFnExactCountWords
namespace Go.Proofs.YtbijdgkkneffgaaDoor.fnExactCountWords
open Go.ChangeShapes Go.WideShapes Go.ChangeAt Go.RowKit Go.Proofs.YtbijdgkkneffgaaDoor.Ev
set_option maxHeartbeats 4000000 in
theorem closed : joinedFacts Tryd.pinned.checked.prog 8 Tryd.f8 Rows.fnExactCountWordsSpec Rows.fnExactCountWordsRow = true := by
  unfold joinedFacts
  simp only [Bool.and_eq_true]
  repeat' (apply And.intro)
  all_goals as_aux_lemma => kernel_rfl
set_option maxHeartbeats 4000000 in
theorem over : Rows.fnExactCountWordsRow.holds Tryd.pinned (OpenSpec.ofChange Rows.fnExactCountWordsSpec) :=
  OpenClaim.holds_of_wide 8 Tryd.f8 rfl rfl rfl rfl rfl rfl rfl ⟨rfl, rfl, rfl, rfl, rfl⟩ rfl rfl rfl rfl rfl (by as_aux_lemma => kernel_rfl) Tryd.func8 closed
    (of_decide_eq_true (by as_aux_lemma => kernel_rfl)) (by unfold Func.isWrapper; first | (rw [if_pos (by decide +kernel)]; as_aux_lemma => kernel_rfl) | (rw [if_neg (by decide +kernel)]; exact ⟨rfl, rfl⟩))
    (fun os started H enc _ => lifted os started H enc)
set_option maxHeartbeats 4000000 in
theorem proved : Rows.FnExactCountWordsCardSaid :=
  Claim7.holds_tied_plain_at .later [] [.data, .pinned] true (true, "afe0db229758acd0e06c227d963a51e64e5af1f210eef7478b6e328a9fafc955") false over (fun _ h => by cases h) (by as_aux_lemma => kernel_rfl) (fun _ h => by cases h) fnExactCountWords_row_tie rfl ⟨rfl, rfl⟩ (by as_aux_lemma => kernel_rfl) rfl
    (fun f fn hf hfn => by
      obtain rfl : f = 8 := Option.some.inj ((show Tryd.prog.funcNamed "loop.example/construer/laws.FnExactCountWords" = some 8 by as_aux_lemma => kernel_rfl).symm.trans hf) |>.symm
      obtain rfl : fn = Tryd.f8 := (Option.some.inj (Tryd.func8.symm.trans hfn)).symm
      exact ⟨by as_aux_lemma => kernel_rfl, fun j t ht => by
        have hall : (Tryd.f8.params.toList.all fun u => !Tryd.prog.wantsStandIn u) = true := by as_aux_lemma => kernel_rfl
        have hm : t ∈ Tryd.f8.params.toList := by simpa using Array.mem_of_getElem? ht
        exact (show Tryd.prog.wantsStandIn t = false by simpa using List.all_eq_true.1 hall t hm)⟩)
    (by as_aux_lemma => kernel_rfl)
#print axioms proved
end Go.Proofs.YtbijdgkkneffgaaDoor.fnExactCountWords
namespace Go.Proofs.YtbijdgkkneffgaaDoor
/-- The row, under a short name, for the claim. -/
theorem fnExactCountWords_holds : Rows.FnExactCountWordsCardSaid := fnExactCountWords.proved
end Go.Proofs.YtbijdgkkneffgaaDoor
