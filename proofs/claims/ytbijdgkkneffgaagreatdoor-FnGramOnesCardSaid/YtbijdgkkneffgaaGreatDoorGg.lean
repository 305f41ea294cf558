/-
  FnGramBent: guards, sameness of grammars.
-/
import Derived.Test.YtbijdgkkneffgaaGreatDoorGf
namespace Go.Proofs.YtbijdgkkneffgaaGreatDoor.Ev
open Go
noncomputable def c_impl_GramOkB : Con := conT [TG] fun g => (some (!okG g), .d (ofD .bool false))
theorem k_impl_GramOkB : ConOk Tryz.prog 22 c_impl_GramOkB := conT_ok Tryz.call22 fun g hg hqq => by
 have h := pre_of hqq
 have := s_impl_GramOk g hg
 rw [Bool.not_eq_true'] at h
 rw [h] at this
 exact this
noncomputable def Γ29 : List (Nat × Con) := (22, c_impl_GramOkB) :: Γ28
theorem Γ29ok : EnvOk Tryz.prog (look Γ29) := .cons k_impl_GramOkB Γ28ok
theorem s_impl_GramSmallsB (g : Gram) (_hg : Fit TG g) (hpre : (!okG g) = true) : Sat Tryz.prog 32 [ofD TG g] [] (.d (ofD .str [])) [] :=
 fn_sound (cx := cxOf Γ29 Tryz.f32.ntmps [] [] [] []) Tryz.func32 rfl ttOk Γ29ok mixed (fun _ _ => LoopsOk.no fun _ => rfl) (ro := true) (by
  have y : evFn (cxOf Γ29 Tryz.f32.ntmps [] [] [] []) Tryz.f32 true [ofD TG g] [] = need (!okG g) (some (.d (ofD .str []), [])) := by kernel_rfl
  rw [y, hpre]; rfl)
noncomputable def c_impl_GramSmallsB : Con := conT [TG] fun (g : Gram) => (some (!okG g), .d (ofD .str []))
theorem k_impl_GramSmallsB : ConOk Tryz.prog 32 c_impl_GramSmallsB := conT_ok Tryz.call32 fun g hg hqq => s_impl_GramSmallsB g hg (pre_of hqq)
noncomputable def Γ30 : List (Nat × Con) := (32, c_impl_GramSmallsB) :: Γ29
theorem Γ30ok : EnvOk Tryz.prog (look Γ30) := .cons k_impl_GramSmallsB Γ29ok
noncomputable def c_impl_GramOkZ : Con := c_impl_GramOk
theorem k_impl_GramOkZ : ConOk Tryz.prog 22 c_impl_GramOkZ := k_impl_GramOk
noncomputable def Γ31 : List (Nat × Con) := (22, c_impl_GramOkZ) :: Γ30
theorem Γ31ok : EnvOk Tryz.prog (look Γ31) := .cons k_impl_GramOkZ Γ30ok
def eqRs : List Rule → List Rule → Bool
 | [], [] => true
 | a :: l, b :: m => eqRu a b && eqRs l m
 | _, _ => false
theorem eqRs_iff : ∀ {l m : List Rule}, eqRs l m = true ↔ l = m
 | [], [] => ⟨fun _ => rfl, fun _ => rfl⟩
 | a :: l, b :: m => by simp only [eqRs, andd, eqRu_iff, eqRs_iff, List.cons.injEq]
 | [], b :: m => ⟨fun h => (nomatch h), fun h => (nomatch h)⟩
 | a :: l, [] => ⟨fun h => (nomatch h), fun h => (nomatch h)⟩
end Go.Proofs.YtbijdgkkneffgaaGreatDoor.Ev
