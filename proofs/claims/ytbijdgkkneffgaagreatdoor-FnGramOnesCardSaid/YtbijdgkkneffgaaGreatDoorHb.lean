/-
  What is derived, the program's side.
-/
import Derived.Test.YtbijdgkkneffgaaGreatDoorHa
namespace Go.Proofs.YtbijdgkkneffgaaGreatDoor.Ev
open Go
theorem y_impl_isDerived (g : Gram) (s : Str) : evFn (cxOf Γ76 Tryz.f33.ntmps [] [] [] []) Tryz.f33 true [ofD TG g, ofD .str s] [] = (
need (okRs g.snd && s.length.ble 1000) <|
need (okIJ s 0 (s.length : Int)) <| some ((vB (derB s (chartM s g.snd) g.fst 0 (s.length : Int))), [])) := by kernel_rfl
theorem s_impl_isDerived (g : Gram) (_hg : Fit TG g) (s : Str) (_hs : Fit .str s) (hpre : (okRs g.2 && Nat.ble (List.length s) 1000) = true) : Sat Tryz.prog 33 [ofD TG g, ofD .str s] [] (.d (ofD .bool (derB s (chartM s g.2) g.1 0 (List.length s : Int)))) [] :=
 fn_sound (cx := cxOf Γ76 Tryz.f33.ntmps [] [] [] []) Tryz.func33 rfl ttOk Γ76ok mixed (fun _ _ => LoopsOk.no fun _ => rfl) (ro := true) (by
  have h : okIJ s 0 (List.length s : Int) = true := okIJ_iff.2 ⟨by omega, by omega, by omega⟩
  rw [y_impl_isDerived, hpre, h]; rfl)
noncomputable def c_impl_isDerived : Con := conT [TG, .str] fun (g : Gram) (s : Str) => (some (okRs g.2 && Nat.ble (List.length s) 1000), .d (ofD .bool (derB s (chartM s g.2) g.1 0 (List.length s : Int))))
theorem k_impl_isDerived : ConOk Tryz.prog 33 c_impl_isDerived := conT_ok Tryz.call33 fun g hg s hs hqq => s_impl_isDerived g hg s hs (pre_of hqq)
noncomputable def Γ77 : List (Nat × Con) := (33, c_impl_isDerived) :: Γ76
theorem Γ77ok : EnvOk Tryz.prog (look Γ77) := .cons k_impl_isDerived Γ76ok
theorem getD_mem {α : Type} {l : List α} {i : Nat} {d : α} (h : i < l.length) : l.getD i d ∈ l := by
 rw [List.getD_eq_getElem?_getD, List.getElem?_eq_getElem h]; exact List.getElem_mem h
theorem big_not_small {a : Str} (h : bigS a = true) : smallS a = false := by
 obtain ⟨c, e, hc⟩ := bigS_one h
 cases hs : smallS a
 ·rfl
 ·obtain ⟨c', e', hc'⟩ := smallS_one hs
  rw [e] at e'
  cases (List.cons.inj e').1
  exact absurd ⟨hc, hc'⟩ (big_small c)
theorem areSm_iff {s : Str} {n : Int} : areSm s n = true ↔ (s.length : Int) ≤ n ∧ s.all small = true := by
 unfold areSm
 rw [b2, andd, dec_iff]
theorem both_iff {g : Gram} {s : Str} (h : both2 g s = true) : okG g = true ∧ s.length ≤ 8 ∧ s.all small = true := by
 unfold both2 at h
 rw [b2, andd, areSm_iff] at h
 exact ⟨h.1, by omega, h.2.2⟩
def isD (g : Gram) (s : Str) : Bool := derB s (chartM s g.2) g.1 0 (s.length : Int)
theorem isD_iff {g : Gram} {s : Str} (h : bigS g.1 = true) : isD g s = true ↔ DerG s g.2 g.1 0 (s.length : Int) := by
 unfold isD derB
 rw [big_not_small h, cond_false]
 exact chartM_iff
theorem ok_rs {g : Gram} (h : okG g = true) : okRs g.2 = true := by
 obtain ⟨_, h2, h3⟩ := okG_iff h
 refine okRs_iff.2 ⟨by omega, List.all_eq_true.2 fun r hr => blt_iff.2 ?_⟩
 have := (areS_iff (h3 r hr).2).2
 omega
theorem s_impl_AllIs (g : Gram) (_hg : Fit TG g) (s : Str) (_hs : Fit .str s) : Sat Tryz.prog 13 [ofD TG g, ofD .str s] [] (.d (ofD .bool (both2 g s && isD g s))) [] :=
 fn_sound (cx := cxOf Γ77 Tryz.f13.ntmps [] [] [] []) Tryz.func13 rfl ttOk Γ77ok mixed (fun _ _ => LoopsOk.no fun _ => rfl) (ro := true) (by
  have y : evFn (cxOf Γ77 Tryz.f13.ntmps [] [] [] []) Tryz.f13 true [ofD TG g, ofD .str s] [] = need (bif decide (both2 g s = true) then okRs g.2 && Nat.ble (List.length s) 1000 else true) (some (vB (bif both2 g s then isD g s else false), [])) := by kernel_rfl
  rw [y]
  cases hb : both2 g s
  ·rfl
  ·obtain ⟨h1, h2⟩ := both_iff hb
   rw [ok_rs h1, ble_iff.2 (by omega : List.length s ≤ 1000)]; rfl)
noncomputable def c_impl_AllIs : Con := conT [TG, .str] fun (g : Gram) (s : Str) => (none, .d (ofD .bool (both2 g s && isD g s)))
theorem k_impl_AllIs : ConOk Tryz.prog 13 c_impl_AllIs := conT_ok Tryz.call13 fun g hg s hs _ => s_impl_AllIs g hg s hs
noncomputable def Γ78 : List (Nat × Con) := (13, c_impl_AllIs) :: Γ77
theorem Γ78ok : EnvOk Tryz.prog (look Γ78) := .cons k_impl_AllIs Γ77ok
end Go.Proofs.YtbijdgkkneffgaaGreatDoor.Ev
