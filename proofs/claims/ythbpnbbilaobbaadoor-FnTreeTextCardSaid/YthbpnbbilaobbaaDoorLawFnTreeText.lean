/-
  Trees are read back as written.
  Conditions: none beyond the row's own: the listed tables of Go's library read as its text lays them, which the card ties to the program's text.
-/
import Derived.ProofKit
import Derived.OpenShut
import Derived.ShutString
import Derived.ChangeOld
import Derived.Below
import Derived.SizedLaws
import Derived.LaidMore
import Derived.Lay
import Derived.SevenTiedAt
import Derived.Stop.Joined
import Derived.Test.YthbpnbbilaobbaaDoorTie
import Derived.Test.YthbpnbbilaobbaaDoorCards
import Derived.Test.YthbpnbbilaobbaaDoorRows
import Derived.Test.YthbpnbbilaobbaaDoorGzd
import Derived.Test.YthbpnbbilaobbaaDoorLowFnTreeText
namespace Go.Proofs.YthbpnbbilaobbaaDoor.fnTreeText
open Go.ChangeShapes Go.WideShapes Go.ChangeAt Go.RowKit Go.Proofs.YthbpnbbilaobbaaDoor.Ev
set_option maxHeartbeats 4000000 in
theorem closed : joinedFacts Tryd.pinned.checked.prog 7 Tryd.f7 Rows.fnTreeTextSpec Rows.fnTreeTextRow = true := by
  unfold joinedFacts
  simp only [Bool.and_eq_true]
  repeat' (apply And.intro)
  all_goals as_aux_lemma => kernel_rfl
set_option maxHeartbeats 4000000 in
theorem over : Rows.fnTreeTextRow.holds Tryd.pinned (OpenSpec.ofChange Rows.fnTreeTextSpec) :=
  OpenClaim.holds_of_wide 7 Tryd.f7 rfl rfl rfl rfl rfl rfl rfl ⟨rfl, rfl, rfl, rfl, rfl⟩ rfl rfl rfl rfl rfl (by as_aux_lemma => kernel_rfl) Tryd.func7 closed
    (of_decide_eq_true (by as_aux_lemma => kernel_rfl)) (by unfold Func.isWrapper; first | (rw [if_pos (by decide +kernel)]; as_aux_lemma => kernel_rfl) | (rw [if_neg (by decide +kernel)]; exact ⟨rfl, rfl⟩))
    (fun os started H enc _ => lifted os started H enc)
set_option maxHeartbeats 4000000 in
theorem proved : Rows.FnTreeTextCardSaid :=
  Claim7.holds_tied_plain_at .later [] [.data, .data, .data, .data, .pinned] true (true, "416b4cfd34d48820597dcfb3795d0a5d401292a1235608777b892c9b2d715fdf") false over (fun _ h => by cases h) (by as_aux_lemma => kernel_rfl) (fun _ h => by cases h) fnTreeText_row_tie rfl ⟨rfl, rfl⟩ (by as_aux_lemma => kernel_rfl) rfl
    (fun f fn hf hfn => by
      obtain rfl : f = 7 := Option.some.inj ((show Tryd.prog.funcNamed "loop.example/construer/laws.FnTreeText" = some 7 by as_aux_lemma => kernel_rfl).symm.trans hf) |>.symm
      obtain rfl : fn = Tryd.f7 := (Option.some.inj (Tryd.func7.symm.trans hfn)).symm
      exact ⟨by as_aux_lemma => kernel_rfl, fun j t ht => by
        have hall : (Tryd.f7.params.toList.all fun u => !Tryd.prog.wantsStandIn u) = true := by as_aux_lemma => kernel_rfl
        have hm : t ∈ Tryd.f7.params.toList := by simpa using Array.mem_of_getElem? ht
        exact (show Tryd.prog.wantsStandIn t = false by simpa using List.all_eq_true.1 hall t hm)⟩)
    (by as_aux_lemma => kernel_rfl)
#print axioms proved
end Go.Proofs.YthbpnbbilaobbaaDoor.fnTreeText
namespace Go.Proofs.YthbpnbbilaobbaaDoor
/-- The row, under a short name, for the claim. -/
theorem fnTreeText_holds : Rows.FnTreeTextCardSaid := fnTreeText.proved
end Go.Proofs.YthbpnbbilaobbaaDoor
