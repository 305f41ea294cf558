/-
  FnAutoBent holds: a walk that is not right lets nothing by, and nothing is made of it.
  Conditions: none beyond the row's own: the listed tables of Go's library read as its text lays them, which the card ties to the program's text.
-/
import Derived.ProofKit
import Derived.OpenShut
import Derived.ShutString
import Derived.ChangeOld
import Derived.Below
import Derived.SizedLaws
import Derived.LaidMore
import Derived.Lay
import Derived.SevenTiedAt
import Derived.Stop.Joined
import Derived.Test.YtkhhclpkljikkaaDoorTie
import Derived.Test.YtkhhclpkljikkaaDoorCards
import Derived.Test.YtkhhclpkljikkaaDoorRows
import Derived.Test.YtkhhclpkljikkaaDoorHie
import Derived.Test.YtkhhclpkljikkaaDoorLowFnAutoBent
namespace Go.Proofs.YtkhhclpkljikkaaDoor.fnAutoBent
open Go.ChangeShapes Go.WideShapes Go.ChangeAt Go.RowKit Go.Proofs.YtkhhclpkljikkaaDoor.Ev
set_option maxHeartbeats 4000000 in
theorem closed : joinedFacts Tryd.pinned.checked.prog 5 Tryd.f5 Rows.fnAutoBentSpec Rows.fnAutoBentRow = true := by
  unfold joinedFacts
  simp only [Bool.and_eq_true]
  repeat' (apply And.intro)
  all_goals as_aux_lemma => kernel_rfl
set_option maxHeartbeats 4000000 in
theorem over : Rows.fnAutoBentRow.holds Tryd.pinned (OpenSpec.ofChange Rows.fnAutoBentSpec) :=
  OpenClaim.holds_of_wide 5 Tryd.f5 rfl rfl rfl rfl rfl rfl rfl ⟨rfl, rfl, rfl, rfl, rfl⟩ rfl rfl rfl rfl rfl (by as_aux_lemma => kernel_rfl) Tryd.func5 closed
    (of_decide_eq_true (by as_aux_lemma => kernel_rfl)) (by unfold Func.isWrapper; first | (rw [if_pos (by decide +kernel)]; as_aux_lemma => kernel_rfl) | (rw [if_neg (by decide +kernel)]; exact ⟨rfl, rfl⟩))
    (fun os started H enc _ => lifted os started H enc)
set_option maxHeartbeats 4000000 in
theorem proved : Rows.FnAutoBentCardSaid :=
  Claim7.holds_tied_plain_at .later [] [.data, .pinned] true (true, "c338ab35d5a3b504b5535347292c17ddfd72c6043aa50a3c7d6504f7fbb766d8") false over (fun _ h => by cases h) (by as_aux_lemma => kernel_rfl) (fun _ h => by cases h) fnAutoBent_row_tie rfl ⟨rfl, rfl⟩ (by as_aux_lemma => kernel_rfl) rfl
    (fun f fn hf hfn => by
      obtain rfl : f = 5 := Option.some.inj ((show Tryd.prog.funcNamed "loop.example/construer/laws.FnAutoBent" = some 5 by as_aux_lemma => kernel_rfl).symm.trans hf) |>.symm
      obtain rfl : fn = Tryd.f5 := (Option.some.inj (Tryd.func5.symm.trans hfn)).symm
      exact ⟨by as_aux_lemma => kernel_rfl, fun j t ht => by
        have hall : (Tryd.f5.params.toList.all fun u => !Tryd.prog.wantsStandIn u) = true := by as_aux_lemma => kernel_rfl
        have hm : t ∈ Tryd.f5.params.toList := by simpa using Array.mem_of_getElem? ht
        exact (show Tryd.prog.wantsStandIn t = false by simpa using List.all_eq_true.1 hall t hm)⟩)
    (by as_aux_lemma => kernel_rfl)
#print axioms proved
end Go.Proofs.YtkhhclpkljikkaaDoor.fnAutoBent
namespace Go.Proofs.YtkhhclpkljikkaaDoor
/-- The row, under a short name, for the claim. -/
theorem fnAutoBent_holds : Rows.FnAutoBentCardSaid := fnAutoBent.proved
end Go.Proofs.YtkhhclpkljikkaaDoor
