/-
  The laws of histories.
-/
import Derived.Test.YtnbkolhmacikaaaLt
namespace Go.Proofs.Ytnbkolhmacikaaa.Ev
open Go
theorem sameH_self (h : Hist) : sameH h h = true := by unfold sameH; rw [decide_eq_true rfl, eqL_self, eqL_self]; rfl
theorem len_w {n m : Nat} (h : n + m ≤ 4000000) : W64 ((n : Int) + (m : Int)) = (n : Int) + (m : Int) := wrap_small (by omega) (by omega)
theorem eqL_comm : ∀ l m : List Edit, eqL l m = eqL m l
  | [], [] => rfl
  | [], _ :: _ => rfl
  | _ :: _, [] => rfl
  | a :: l, b :: m => by
    have h1 : eqE a b = eqE b a := by
      unfold eqE
      rw [decide_eq_decide.2 (show a.1 = b.1 ↔ b.1 = a.1 from eq_comm), decide_eq_decide.2 (show a.2.1 = b.2.1 ↔ b.2.1 = a.2.1 from eq_comm), decide_eq_decide.2 (show a.2.2 = b.2.2 ↔ b.2.2 = a.2.2 from eq_comm)]
    simp only [eqL, h1, eqL_comm l m]
theorem sameH_comm (a b : Hist) : sameH a b = sameH b a := by
  unfold sameH
  rw [decide_eq_decide.2 (show a.1 = b.1 ↔ b.1 = a.1 from eq_comm), eqL_comm a.2.1, eqL_comm a.2.2]
theorem sameH_text {a b : Hist} (h : a.1.length ≠ b.1.length) : sameH a b = false := by
  unfold sameH
  rw [decide_eq_false fun e => h (by rw [e])]; rfl
theorem sameH_next {a b : Hist} (h : a.2.2.length ≠ b.2.2.length) : sameH a b = false := by
  unfold sameH
  have : eqL a.2.2 b.2.2 = false := by
    cases hq : eqL a.2.2 b.2.2
    · rfl
    · exact absurd (eqL_len hq) h
  rw [this]
  cases (bif decide (a.1 = b.1) then eqL a.2.1 b.2.1 else false) <;> rfl
def tree_HistSame (c : Bool) (a b : Hist) : Option Fin := branch c yes (branch (bif bif !(sameH a b == sameH a b) then true else !(sameH a b == sameH b a) then true else !sameH a a) no (need (decide (a.1.length + 1 ≤ 9223372036854775807)) (need (fits (0 + a.2.2.length) 32) (need (fits (a.2.2.length + 1) 32)
  (some (vB (bif !sameH a (a.1 ++ [97], a.2) then !sameH a (a.1, a.2.1, a.2.2 ++ [(0, 0, [])]) else false), []))))))
theorem s_laws_FnHistSame (l : List Int) (hl : Fit TB l) : Sat Try.prog 4 [ofD TB l] [] (.d (ofD .bool true)) [] :=
  fn_sound (cx := cxOf Γ37 Try.f4.ntmps [] [] [] []) Try.func4 rfl ttOk Γ37ok mixed (fun c hc => LoopsOk.nil (by cases hc; kernel_rfl)) (ro := true) (by
    have y : evFn (cxOf Γ37 Try.f4.ntmps [] [] [] []) Try.f4 true [ofD TB l] [] = tree_HistSame (decide (1048576 < (l.length : Int))) (F_spec_DrawHistSame l).1 (F_spec_DrawHistSame l).2 := by kernel_rfl
    rw [y]
    have hs := p_spec_DrawHistSame l hl
    generalize (F_spec_DrawHistSame l).1 = a at hs ⊢
    generalize (F_spec_DrawHistSame l).2 = b
    obtain ⟨h1, h2, h3⟩ := hs
    unfold tree_HistSame
    cases decide (1048576 < (l.length : Int))
    · rw [sameH_comm b a, sameH_self, beq_self_eq_true, decide_eq_true (by omega : a.1.length + 1 ≤ 9223372036854775807), fits_small (by omega), show fits (a.2.2.length + 1) 32 = true from decide_eq_true (by omega),
        sameH_text (a := a) (b := (a.1 ++ [97], a.2)) (by simp), sameH_next (a := a) (b := (a.1, a.2.1, a.2.2 ++ [(0, 0, [])])) (by simp)]
      rfl
    · rfl)
noncomputable def c_laws_FnHistSame : Con := conT [TB] fun (_l : List Int) => (none, .d (ofD .bool true))
theorem k_laws_FnHistSame : ConOk Try.prog 4 c_laws_FnHistSame := conT_ok Try.call4 fun l hl _ => s_laws_FnHistSame l hl
end Go.Proofs.Ytnbkolhmacikaaa.Ev
