/-
  FnGramBent: guards, sameness of grammars.
-/
import Derived.Test.YtbijdgkkneffgaaDoorGf
namespace Go.Proofs.YtbijdgkkneffgaaDoor.Ev
open Go
noncomputable def c_impl_GramOkB : Con := conT [TG] fun g => (some (!okG g), .d (ofD .bool false))
theorem k_impl_GramOkB : ConOk Tryd.prog 65 c_impl_GramOkB := conT_ok Tryd.call65 fun g hg hqq => by
 have h := pre_of hqq
 have := s_impl_GramOk g hg
 rw [Bool.not_eq_true'] at h
 rw [h] at this
 exact this
noncomputable def Γ27 : List (Nat × Con) := (65, c_impl_GramOkB) :: Γ26
theorem Γ27ok : EnvOk Tryd.prog (look Γ27) := .cons k_impl_GramOkB Γ26ok
theorem s_impl_GramSmallsB (g : Gram) (_hg : Fit TG g) (hpre : (!okG g) = true) : Sat Tryd.prog 120 [ofD TG g] [] (.d (ofD .str [])) [] :=
 fn_sound (cx := cxOf Γ27 Tryd.f120.ntmps [] [] [] []) Tryd.func120 rfl ttOk Γ27ok mixed (fun _ _ => LoopsOk.no fun _ => rfl) (ro := true) (by
  have y : evFn (cxOf Γ27 Tryd.f120.ntmps [] [] [] []) Tryd.f120 true [ofD TG g] [] = need (!okG g) (some (.d (ofD .str []), [])) := by kernel_rfl
  rw [y, hpre]; rfl)
noncomputable def c_impl_GramSmallsB : Con := conT [TG] fun (g : Gram) => (some (!okG g), .d (ofD .str []))
theorem k_impl_GramSmallsB : ConOk Tryd.prog 120 c_impl_GramSmallsB := conT_ok Tryd.call120 fun g hg hqq => s_impl_GramSmallsB g hg (pre_of hqq)
noncomputable def Γ28 : List (Nat × Con) := (120, c_impl_GramSmallsB) :: Γ27
theorem Γ28ok : EnvOk Tryd.prog (look Γ28) := .cons k_impl_GramSmallsB Γ27ok
noncomputable def c_impl_GramOkZ : Con := c_impl_GramOk
theorem k_impl_GramOkZ : ConOk Tryd.prog 65 c_impl_GramOkZ := k_impl_GramOk
noncomputable def Γ29 : List (Nat × Con) := (65, c_impl_GramOkZ) :: Γ28
theorem Γ29ok : EnvOk Tryd.prog (look Γ29) := .cons k_impl_GramOkZ Γ28ok
def eqRs : List Rule → List Rule → Bool
 | [], [] => true
 | a :: l, b :: m => eqRu a b && eqRs l m
 | _, _ => false
theorem eqRs_iff : ∀ {l m : List Rule}, eqRs l m = true ↔ l = m
 | [], [] => ⟨fun _ => rfl, fun _ => rfl⟩
 | a :: l, b :: m => by simp only [eqRs, andd, eqRu_iff, eqRs_iff, List.cons.injEq]
 | [], b :: m => ⟨fun h => (nomatch h), fun h => (nomatch h)⟩
 | a :: l, [] => ⟨fun h => (nomatch h), fun h => (nomatch h)⟩
end Go.Proofs.YtbijdgkkneffgaaDoor.Ev
