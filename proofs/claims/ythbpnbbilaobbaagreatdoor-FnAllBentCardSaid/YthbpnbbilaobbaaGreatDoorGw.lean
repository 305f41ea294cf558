/-
  FnAllBent.
-/
import Derived.Test.YthbpnbbilaobbaaGreatDoorGv
namespace Go.Proofs.YthbpnbbilaobbaaGreatDoor.Ev
open Go
noncomputable def c_impl_areBothC : Con := c_impl_areBothB
theorem k_impl_areBothC : ConOk Tryz.prog 40 c_impl_areBothC := k_impl_areBothB
noncomputable def Γ52 : List (Nat × Con) := (40, c_impl_areBothC) :: Γ51
theorem Γ52ok : EnvOk Tryz.prog (look Γ52) := .cons k_impl_areBothC Γ51ok

theorem s_impl_AllIsB (g : Gram) (_hg : Fit TG g) (s : Str) (_hs : Fit .str s) (hpre : (!both2 g s) = true) : Sat Tryz.prog 14 [ofD TG g, ofD .str s] [] (.d (ofD .bool false)) [] :=
  fn_sound (cx := ((cxOf Γ52 Tryz.f14.ntmps [] [] [] []).parted [1])) Tryz.func14 rfl ttOk Γ52ok mixed (fun _ _ => LoopsOk.no fun _ => rfl) (ro := true) (by
    have y : evFn ((cxOf Γ52 Tryz.f14.ntmps [] [] [] []).parted [1]) Tryz.f14 true [ofD TG g, ofD .str s] [] = need (!both2 g s) (some (vB false, [])) := by kernel_rfl
    rw [y, hpre]; rfl)
noncomputable def c_impl_AllIsB : Con := conT [TG, .str] fun (g : Gram) (s : Str) => (some (!both2 g s), .d (ofD .bool false))
theorem k_impl_AllIsB : ConOk Tryz.prog 14 c_impl_AllIsB := conT_ok Tryz.call14 fun g hg s hs hqq => s_impl_AllIsB g hg s hs (pre_of hqq)
noncomputable def Γ53 : List (Nat × Con) := (14, c_impl_AllIsB) :: Γ52
theorem Γ53ok : EnvOk Tryz.prog (look Γ53) := .cons k_impl_AllIsB Γ52ok

theorem y_impl_AllTrees (g : Gram) (s : Str) : evFn (cxOf Γ53 Tryz.f21.ntmps [] [] [] []) Tryz.f21 true [ofD TG g, ofD .str s] [] = (
need (!both2 g s) <| some ((.d (.one (.r (.li (ty105) ([]))))), [])) := by kernel_rfl
theorem s_impl_AllTreesB (g : Gram) (_hg : Fit TG g) (s : Str) (_hs : Fit .str s) (hpre : (!both2 g s) = true) : Sat Tryz.prog 21 [ofD TG g, ofD .str s] [] (.d (ofD (ty42) ([] : List GTree))) [] :=
  fn_sound (cx := (cxOf Γ53 Tryz.f21.ntmps [] [] [] [])) Tryz.func21 rfl ttOk Γ53ok mixed (fun _ _ => LoopsOk.no fun _ => rfl) (ro := true) (by
    rw [y_impl_AllTrees, hpre]; rfl)
noncomputable def c_impl_AllTreesB : Con := conT [TG, .str] fun (g : Gram) (s : Str) => (some (!both2 g s), .d (ofD (ty42) ([] : List GTree)))
theorem k_impl_AllTreesB : ConOk Tryz.prog 21 c_impl_AllTreesB := conT_ok Tryz.call21 fun g hg s hs hqq => s_impl_AllTreesB g hg s hs (pre_of hqq)
noncomputable def Γ54 : List (Nat × Con) := (21, c_impl_AllTreesB) :: Γ53
theorem Γ54ok : EnvOk Tryz.prog (look Γ54) := .cons k_impl_AllTreesB Γ53ok

theorem y_impl_AllParts (g : Gram) (s : Str) : evFn (cxOf Γ54 Tryz.f22.ntmps [] [] [] []) Tryz.f22 true [ofD TG g, ofD .str s] [] = (
need (!both2 g s) <| some ((.d (.one (.r (.li (ty73) ([]))))), [])) := by kernel_rfl
theorem s_impl_AllPartsB (g : Gram) (_hg : Fit TG g) (s : Str) (_hs : Fit .str s) (hpre : (!both2 g s) = true) : Sat Tryz.prog 22 [ofD TG g, ofD .str s] [] (.d (ofD (ty44) ([] : List (Str × Int × Int)))) [] :=
  fn_sound (cx := (cxOf Γ54 Tryz.f22.ntmps [] [] [] [])) Tryz.func22 rfl ttOk Γ54ok mixed (fun _ _ => LoopsOk.no fun _ => rfl) (ro := true) (by
    rw [y_impl_AllParts, hpre]; rfl)
noncomputable def c_impl_AllPartsB : Con := conT [TG, .str] fun (g : Gram) (s : Str) => (some (!both2 g s), .d (ofD (ty44) ([] : List (Str × Int × Int))))
theorem k_impl_AllPartsB : ConOk Tryz.prog 22 c_impl_AllPartsB := conT_ok Tryz.call22 fun g hg s hs hqq => s_impl_AllPartsB g hg s hs (pre_of hqq)
noncomputable def Γ55 : List (Nat × Con) := (22, c_impl_AllPartsB) :: Γ54
theorem Γ55ok : EnvOk Tryz.prog (look Γ55) := .cons k_impl_AllPartsB Γ54ok

def tree_AllBent (c a b : Bool) : Option Fin := branch c yes (branch (bif !decide (a = a) then true else bif a then b else false) (some (vB (decide (a = a)), []))
  (need (!(bif b then a else false)) <| need (bif decide ((!false) = true) then !(bif b then a else false) else true) <| need (bif decide ((bif !false then decide ((([] : Str).length : Int) = 0) else false) = true) then !(bif b then a else false) else true) yes))
theorem s_laws_FnAllBent (l : List Int) (_hl : Fit TB l) : Sat Tryz.prog 5 [ofD TB l] [] (.d (ofD .bool true)) [] :=
  fn_sound (cx := cxOf Γ55 Tryz.f5.ntmps [] [] [] []) Tryz.func5 rfl ttOk Γ55ok mixed (fun _ _ => LoopsOk.no fun _ => rfl) (ro := true) (by
    have y : evFn (cxOf Γ55 Tryz.f5.ntmps [] [] [] []) Tryz.f5 true [ofD TB l] [] = tree_AllBent (decide (1048576 < (l.length : Int))) (areSm (F_spec_DrawAllTrees l).2 8) (okG (F_spec_DrawAllTrees l).1) := by kernel_rfl
    rw [y]
    cases decide (1048576 < (l.length : Int)) <;> cases areSm (F_spec_DrawAllTrees l).2 8 <;> cases okG (F_spec_DrawAllTrees l).1 <;> rfl)
noncomputable def c_laws_FnAllBent : Con := conT [TB] fun (_l : List Int) => (none, .d (ofD .bool true))
theorem k_laws_FnAllBent : ConOk Tryz.prog 5 c_laws_FnAllBent := conT_ok Tryz.call5 fun l hl _ => s_laws_FnAllBent l hl
end Go.Proofs.YthbpnbbilaobbaaGreatDoor.Ev

-- G=55