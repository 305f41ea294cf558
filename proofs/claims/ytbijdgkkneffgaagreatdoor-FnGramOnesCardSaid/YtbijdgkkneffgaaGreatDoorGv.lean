/-
  Draws of grammars and texts.
-/
import Derived.Test.YtbijdgkkneffgaaGreatDoorGu
namespace Go.Proofs.YtbijdgkkneffgaaGreatDoor.Ev
open Go
theorem y_impl_TextOk (s : Str) : evFn (cxOf Γ67 Tryz.f72.ntmps [] [] [] []) Tryz.f72 true [ofD .str s] [] = (
some ((vB (areSm s 8)), [])) := by kernel_rfl
theorem s_impl_TextOk (s : Str) (_hs : Fit .str s) : Sat Tryz.prog 72 [ofD .str s] [] (.d (ofD .bool (areSm s 8))) [] :=
 fn_sound (cx := cxOf Γ67 Tryz.f72.ntmps [] [] [] []) Tryz.func72 rfl ttOk Γ67ok mixed (fun _ _ => LoopsOk.no fun _ => rfl) (ro := true) (by
  rw [y_impl_TextOk]; rfl)
noncomputable def c_impl_TextOk : Con := conT [.str] fun (s : Str) => (none, .d (ofD .bool (areSm s 8)))
theorem k_impl_TextOk : ConOk Tryz.prog 72 c_impl_TextOk := conT_ok Tryz.call72 fun s hs _ => s_impl_TextOk s hs
noncomputable def Γ68 : List (Nat × Con) := (72, c_impl_TextOk) :: Γ67
theorem Γ68ok : EnvOk Tryz.prog (look Γ68) := .cons k_impl_TextOk Γ67ok
def both2 (g : Gram) (s : Str) : Bool := bif okG g then areSm s 8 else false
theorem s_impl_areBoth (g : Gram) (_hg : Fit TG g) (s : Str) (_hs : Fit .str s) : Sat Tryz.prog 34 [ofD TG g, ofD .str s] [] (.d (ofD .bool (both2 g s))) [] :=
 fn_sound (cx := cxOf Γ68 Tryz.f34.ntmps [] [] [] []) Tryz.func34 rfl ttOk Γ68ok mixed (fun _ _ => LoopsOk.no fun _ => rfl) (ro := true) (by
  have y : evFn (cxOf Γ68 Tryz.f34.ntmps [] [] [] []) Tryz.f34 true [ofD TG g, ofD .str s] [] = some (vB (both2 g s), []) := by kernel_rfl
  rw [y]; rfl)
noncomputable def c_impl_areBoth : Con := conT [TG, .str] fun (g : Gram) (s : Str) => (none, .d (ofD .bool (both2 g s)))
theorem k_impl_areBoth : ConOk Tryz.prog 34 c_impl_areBoth := conT_ok Tryz.call34 fun g hg s hs _ => s_impl_areBoth g hg s hs
noncomputable def Γ69 : List (Nat × Con) := (34, c_impl_areBoth) :: Γ68
theorem Γ69ok : EnvOk Tryz.prog (look Γ69) := .cons k_impl_areBoth Γ68ok
noncomputable def c_impl_areBothB : Con := conT [TG, .str] fun (g : Gram) (s : Str) => (some (!both2 g s), .d (ofD .bool false))
theorem k_impl_areBothB : ConOk Tryz.prog 34 c_impl_areBothB := conT_ok Tryz.call34 fun g hg s hs hqq => by
 have h := pre_of hqq
 have := s_impl_areBoth g hg s hs
 rw [Bool.not_eq_true'] at h
 rw [h] at this
 exact this
noncomputable def Γ70 : List (Nat × Con) := (34, c_impl_areBothB) :: Γ69
theorem Γ70ok : EnvOk Tryz.prog (look Γ70) := .cons k_impl_areBothB Γ69ok
noncomputable def c_impl_areBothZ : Con := c_impl_areBoth
theorem k_impl_areBothZ : ConOk Tryz.prog 34 c_impl_areBothZ := k_impl_areBoth
noncomputable def Γ71 : List (Nat × Con) := (34, c_impl_areBothZ) :: Γ70
theorem Γ71ok : EnvOk Tryz.prog (look Γ71) := .cons k_impl_areBothZ Γ70ok
end Go.Proofs.YtbijdgkkneffgaaGreatDoor.Ev
