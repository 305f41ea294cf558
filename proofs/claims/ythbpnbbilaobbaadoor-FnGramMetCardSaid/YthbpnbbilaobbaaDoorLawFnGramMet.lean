/-
  FnGramMet: the signs that are met from the start are told, and these are closed under the rules.
  Conditions: none beyond the row's own: the listed tables of Go's library read as its text lays them, which the card ties to the program's text.
-/
import Derived.ProofKit
import Derived.OpenShut
import Derived.ShutString
import Derived.ChangeOld
import Derived.Below
import Derived.SizedLaws
import Derived.LaidMore
import Derived.Lay
import Derived.SevenTiedAt
import Derived.Stop.Joined
import Derived.Test.YthbpnbbilaobbaaDoorTie
import Derived.Test.YthbpnbbilaobbaaDoorCards
import Derived.Test.YthbpnbbilaobbaaDoorRows
import Derived.Test.YthbpnbbilaobbaaDoorGt
import Derived.Test.YthbpnbbilaobbaaDoorLowFnGramMet
namespace Go.Proofs.YthbpnbbilaobbaaDoor.fnGramMet
open Go.ChangeShapes Go.WideShapes Go.ChangeAt Go.RowKit Go.Proofs.YthbpnbbilaobbaaDoor.Ev
set_option maxHeartbeats 4000000 in
theorem closed : joinedFacts Tryd.pinned.checked.prog 9 Tryd.f9 Rows.fnGramMetSpec Rows.fnGramMetRow = true := by
  unfold joinedFacts
  simp only [Bool.and_eq_true]
  repeat' (apply And.intro)
  all_goals as_aux_lemma => kernel_rfl
set_option maxHeartbeats 4000000 in
theorem over : Rows.fnGramMetRow.holds Tryd.pinned (OpenSpec.ofChange Rows.fnGramMetSpec) :=
  OpenClaim.holds_of_wide 9 Tryd.f9 rfl rfl rfl rfl rfl rfl rfl ⟨rfl, rfl, rfl, rfl, rfl⟩ rfl rfl rfl rfl rfl (by as_aux_lemma => kernel_rfl) Tryd.func9 closed
    (of_decide_eq_true (by as_aux_lemma => kernel_rfl)) (by unfold Func.isWrapper; first | (rw [if_pos (by decide +kernel)]; as_aux_lemma => kernel_rfl) | (rw [if_neg (by decide +kernel)]; exact ⟨rfl, rfl⟩))
    (fun os started H enc _ => lifted os started H enc)
set_option maxHeartbeats 4000000 in
theorem proved : Rows.FnGramMetCardSaid :=
  Claim7.holds_tied_plain_at .later [] [.data, .pinned] true (true, "416b4cfd34d48820597dcfb3795d0a5d401292a1235608777b892c9b2d715fdf") false over (fun _ h => by cases h) (by as_aux_lemma => kernel_rfl) (fun _ h => by cases h) fnGramMet_row_tie rfl ⟨rfl, rfl⟩ (by as_aux_lemma => kernel_rfl) rfl
    (fun f fn hf hfn => by
      obtain rfl : f = 9 := Option.some.inj ((show Tryd.prog.funcNamed "loop.example/construer/laws.FnGramMet" = some 9 by as_aux_lemma => kernel_rfl).symm.trans hf) |>.symm
      obtain rfl : fn = Tryd.f9 := (Option.some.inj (Tryd.func9.symm.trans hfn)).symm
      exact ⟨by as_aux_lemma => kernel_rfl, fun j t ht => by
        have hall : (Tryd.f9.params.toList.all fun u => !Tryd.prog.wantsStandIn u) = true := by as_aux_lemma => kernel_rfl
        have hm : t ∈ Tryd.f9.params.toList := by simpa using Array.mem_of_getElem? ht
        exact (show Tryd.prog.wantsStandIn t = false by simpa using List.all_eq_true.1 hall t hm)⟩)
    (by as_aux_lemma => kernel_rfl)
#print axioms proved
end Go.Proofs.YthbpnbbilaobbaaDoor.fnGramMet
namespace Go.Proofs.YthbpnbbilaobbaaDoor
/-- The row, under a short name, for the claim. -/
theorem fnGramMet_holds : Rows.FnGramMetCardSaid := fnGramMet.proved
end Go.Proofs.YthbpnbbilaobbaaDoor
