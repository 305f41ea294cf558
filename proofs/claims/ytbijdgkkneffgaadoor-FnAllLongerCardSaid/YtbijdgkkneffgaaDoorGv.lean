/-
  Draws of grammars and texts.
-/
import Derived.Test.YtbijdgkkneffgaaDoorGu
namespace Go.Proofs.YtbijdgkkneffgaaDoor.Ev
open Go
theorem y_impl_TextOk (s : Str) : evFn (cxOf Γ58 Tryd.f97.ntmps [] [] [] []) Tryd.f97 true [ofD .str s] [] = (
some ((vB (areSm s 8)), [])) := by kernel_rfl
theorem s_impl_TextOk (s : Str) (_hs : Fit .str s) : Sat Tryd.prog 97 [ofD .str s] [] (.d (ofD .bool (areSm s 8))) [] :=
 fn_sound (cx := cxOf Γ58 Tryd.f97.ntmps [] [] [] []) Tryd.func97 rfl ttOk Γ58ok mixed (fun _ _ => LoopsOk.no fun _ => rfl) (ro := true) (by
  rw [y_impl_TextOk]; rfl)
noncomputable def c_impl_TextOk : Con := conT [.str] fun (s : Str) => (none, .d (ofD .bool (areSm s 8)))
theorem k_impl_TextOk : ConOk Tryd.prog 97 c_impl_TextOk := conT_ok Tryd.call97 fun s hs _ => s_impl_TextOk s hs
noncomputable def Γ59 : List (Nat × Con) := (97, c_impl_TextOk) :: Γ58
theorem Γ59ok : EnvOk Tryd.prog (look Γ59) := .cons k_impl_TextOk Γ58ok
def both2 (g : Gram) (s : Str) : Bool := bif okG g then areSm s 8 else false
theorem s_impl_areBoth (g : Gram) (_hg : Fit TG g) (s : Str) (_hs : Fit .str s) : Sat Tryd.prog 56 [ofD TG g, ofD .str s] [] (.d (ofD .bool (both2 g s))) [] :=
 fn_sound (cx := cxOf Γ59 Tryd.f56.ntmps [] [] [] []) Tryd.func56 rfl ttOk Γ59ok mixed (fun _ _ => LoopsOk.no fun _ => rfl) (ro := true) (by
  have y : evFn (cxOf Γ59 Tryd.f56.ntmps [] [] [] []) Tryd.f56 true [ofD TG g, ofD .str s] [] = some (vB (both2 g s), []) := by kernel_rfl
  rw [y]; rfl)
noncomputable def c_impl_areBoth : Con := conT [TG, .str] fun (g : Gram) (s : Str) => (none, .d (ofD .bool (both2 g s)))
theorem k_impl_areBoth : ConOk Tryd.prog 56 c_impl_areBoth := conT_ok Tryd.call56 fun g hg s hs _ => s_impl_areBoth g hg s hs
noncomputable def Γ60 : List (Nat × Con) := (56, c_impl_areBoth) :: Γ59
theorem Γ60ok : EnvOk Tryd.prog (look Γ60) := .cons k_impl_areBoth Γ59ok
noncomputable def c_impl_areBothB : Con := conT [TG, .str] fun (g : Gram) (s : Str) => (some (!both2 g s), .d (ofD .bool false))
theorem k_impl_areBothB : ConOk Tryd.prog 56 c_impl_areBothB := conT_ok Tryd.call56 fun g hg s hs hqq => by
 have h := pre_of hqq
 have := s_impl_areBoth g hg s hs
 rw [Bool.not_eq_true'] at h
 rw [h] at this
 exact this
noncomputable def Γ61 : List (Nat × Con) := (56, c_impl_areBothB) :: Γ60
theorem Γ61ok : EnvOk Tryd.prog (look Γ61) := .cons k_impl_areBothB Γ60ok
noncomputable def c_impl_areBothZ : Con := c_impl_areBoth
theorem k_impl_areBothZ : ConOk Tryd.prog 56 c_impl_areBothZ := k_impl_areBoth
noncomputable def Γ62 : List (Nat × Con) := (56, c_impl_areBothZ) :: Γ61
theorem Γ62ok : EnvOk Tryd.prog (look Γ62) := .cons k_impl_areBothZ Γ61ok
end Go.Proofs.YtbijdgkkneffgaaDoor.Ev
