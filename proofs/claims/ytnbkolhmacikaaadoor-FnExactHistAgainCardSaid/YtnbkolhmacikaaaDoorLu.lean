/-
  The laws of histories.
-/
import Derived.Test.YtnbkolhmacikaaaDoorLt
namespace Go.Proofs.YtnbkolhmacikaaaDoor.Ev
open Go
theorem sameH_self (h : Hist) : sameH h h = true := by unfold sameH; rw [decide_eq_true rfl, eqL_self, eqL_self]; rfl
theorem len_w {n m : Nat} (h : n + m ≤ 4000000) : W64 ((n : Int) + (m : Int)) = (n : Int) + (m : Int) := wrap_small (by omega) (by omega)
def tree_HistNew (c : Bool) (s : Str) : Option Fin := branch c yes (branch (!sameH (newH s) (newH s)) no (need (smallH (newH s)) (need (smallH (newH s)) (some (vB (bif bif bif bif bif okHist (newH s) then !(backH (newH s)).2 else false then !(againH (newH s)).2 else false then decide (firstH (newH s) = (newH s).1) else false then decide (lastH (newH s) = (newH s).1) else false then (bif decide ((newH s).1 = s) then true else decide ((newH s).1 = [])) else false), [])))))
theorem s_laws_FnHistNew (l : List Int) (_hl : Fit TB l) : Sat Tryd.prog 7 [ofD TB l] [] (.d (ofD .bool true)) [] :=
  fn_sound (cx := cxOf Γ63 Tryd.f7.ntmps [] [] [] []) Tryd.func7 rfl ttOk Γ63ok mixed (fun c hc => LoopsOk.nil (by cases hc; kernel_rfl)) (ro := true) (by
    have y : evFn (cxOf Γ63 Tryd.f7.ntmps [] [] [] []) Tryd.f7 true [ofD TB l] [] = tree_HistNew (decide (1048576 < (l.length : Int))) (F_spec_DrawHistNew l) := by kernel_rfl
    rw [y]
    generalize F_spec_DrawHistNew l = s
    unfold tree_HistNew
    cases decide (1048576 < (l.length : Int))
    · rw [sameH_self, sizeH_small (new_size s)]
      have key : ∀ t : Str, longOk t = true → okHist (t, [], []) = true ∧ backH (t, [], []) = ((t, [], []), false) ∧ againH (t, [], []) = ((t, [], []), false) ∧ firstH (t, [], []) = t ∧ lastH (t, [], []) = t := by
        intro t ht
        have ho : okHist (t, [], []) = true := by unfold okHist; rw [ht]; rfl
        have hb := backH_none ho rfl
        exact ⟨ho, hb, by unfold againH swapH; rw [hb], by unfold firstH; rw [ho]; rfl, by unfold lastH; rw [ho]; rfl⟩
      have hn : newH s = ((newH s).1, [], []) ∧ longOk (newH s).1 = true ∧ (bif decide ((newH s).1 = s) then true else decide ((newH s).1 = [])) = true := by
        unfold newH
        cases hq : longOk s
        · exact ⟨rfl, rfl, by simp⟩
        · exact ⟨rfl, hq, by simp⟩
      obtain ⟨h1, h2, h3⟩ := hn
      rw [h3]
      rw [h1]
      obtain ⟨k1, k2, k3, k4, k5⟩ := key (newH s).1 h2
      rw [k1, k2, k3, k4, k5, decide_eq_true rfl]; rfl
    · rfl)
noncomputable def c_laws_FnHistNew : Con := conT [TB] fun (_l : List Int) => (none, .d (ofD .bool true))
theorem k_laws_FnHistNew : ConOk Tryd.prog 7 c_laws_FnHistNew := conT_ok Tryd.call7 fun l hl _ => s_laws_FnHistNew l hl
def tree_HistOk (c : Bool) (h : Hist) : Option Fin := branch c yes (branch (!(okHist h == okHist h)) no (need (smallH h) (need (smallH h) (need (smallH h) (need (smallH h) (
  branch (bif bif bif !((backH h).2 == (backH h).2) then true else !((againH h).2 == (againH h).2) then true else !sameH (backH h).1 (backH h).1 then true else !sameH (againH h).1 (againH h).1) no (
  branch (!okHist h) (some (vB (bif bif bif !(backH h).2 then !(againH h).2 else false then sameH (backH h).1 nilH else false then decide (firstH h = []) else false), []))
  (some (vB (bif bif bif bif bif okHist (backH h).1 then okHist (againH h).1 else false then decide (W64 (((backH h).1.2.1.length : Int) + ((backH h).1.2.2.length : Int)) = W64 ((h.2.1.length : Int) + (h.2.2.length : Int))) else false then decide (W64 (((againH h).1.2.1.length : Int) + ((againH h).1.2.2.length : Int)) = W64 ((h.2.1.length : Int) + (h.2.2.length : Int))) else false then (backH h).2 == decide (0 < (h.2.1.length : Int)) else false then (againH h).2 == decide (0 < (h.2.2.length : Int)) else false), [])))))))))
theorem s_laws_FnHistOk (l : List Int) (hl : Fit TB l) : Sat Tryd.prog 9 [ofD TB l] [] (.d (ofD .bool true)) [] :=
  fn_sound (cx := cxOf Γ63 Tryd.f9.ntmps [] [] [] []) Tryd.func9 rfl ttOk Γ63ok mixed (fun c hc => LoopsOk.nil (by cases hc; kernel_rfl)) (ro := true) (by
    have y : evFn (cxOf Γ63 Tryd.f9.ntmps [] [] [] []) Tryd.f9 true [ofD TB l] [] = tree_HistOk (decide (1048576 < (l.length : Int))) (F_spec_DrawHistAgain l) := by kernel_rfl
    rw [y]
    have hs := szN_small (p_spec_DrawHistAgain l hl) (by omega)
    generalize F_spec_DrawHistAgain l = h at hs ⊢
    unfold tree_HistOk
    cases decide (1048576 < (l.length : Int))
    · rw [sameH_self, sameH_self, beq_self_eq_true, beq_self_eq_true, beq_self_eq_true, hs]
      cases ho : okHist h
      · rw [backH_bad ho, again_bad ho]
        have : firstH h = [] := by unfold firstH; rw [ho]; rfl
        rw [this]; rfl
      · obtain ⟨b1, b2, b3, b4, _⟩ := back_keeps hs ho
        obtain ⟨a1, a2, a3, a4, _⟩ := again_keeps hs ho
        have e1 : ((backH h).1.2.1.length : Int) + ((backH h).1.2.2.length : Int) = (h.2.1.length : Int) + (h.2.2.length : Int) := by omega
        have e2 : ((againH h).1.2.1.length : Int) + ((againH h).1.2.2.length : Int) = (h.2.1.length : Int) + (h.2.2.length : Int) := by omega
        have e3 : decide (0 < (h.2.1.length : Int)) = decide (0 < h.2.1.length) := by rw [decide_eq_decide]; omega
        have e4 : decide (0 < (h.2.2.length : Int)) = decide (0 < h.2.2.length) := by rw [decide_eq_decide]; omega
        rw [b1, a1, e1, e2, b4, a4, e3, e4, decide_eq_true rfl, beq_self_eq_true, beq_self_eq_true]; rfl
    · rfl)
noncomputable def c_laws_FnHistOk : Con := conT [TB] fun (_l : List Int) => (none, .d (ofD .bool true))
theorem k_laws_FnHistOk : ConOk Tryd.prog 9 c_laws_FnHistOk := conT_ok Tryd.call9 fun l hl _ => s_laws_FnHistOk l hl
def tree_HistCut (c : Bool) (h : Hist) (e : Edit) : Option Fin := branch c yes (need (smallH h) (need (smallH h) (branch (bif !((doH h e).2 == (doH h e).2) then true else !(doH h e).2) (some (vB ((doH h e).2 == (doH h e).2), []))
  (need (smallH (doH h e).1) (some (vB (bif bif !(againH (doH h e).1).2 then decide (lastH (doH h e).1 = (doH h e).1.1) else false then decide (((doH h e).1.2.1.length : Int) = W64 ((h.2.1.length : Int) + 1)) else false), []))))))
theorem s_laws_FnHistCut (l : List Int) (hl : Fit TB l) : Sat Tryd.prog 10 [ofD TB l] [] (.d (ofD .bool true)) [] :=
  fn_sound (cx := cxOf Γ63 Tryd.f10.ntmps [] [] [] []) Tryd.func10 rfl ttOk Γ63ok mixed (fun c hc => LoopsOk.nil (by cases hc; kernel_rfl)) (ro := true) (by
    have y : evFn (cxOf Γ63 Tryd.f10.ntmps [] [] [] []) Tryd.f10 true [ofD TB l] [] = tree_HistCut (decide (1048576 < (l.length : Int))) (F_spec_DrawHistDo l).1 (F_spec_DrawHistDo l).2 := by kernel_rfl
    rw [y]
    have hs := szN_small (p_spec_DrawHistDo l hl) (by omega)
    generalize (F_spec_DrawHistDo l).1 = h at hs ⊢
    generalize (F_spec_DrawHistDo l).2 = e
    unfold tree_HistCut
    cases decide (1048576 < (l.length : Int))
    · rw [beq_self_eq_true, hs]
      cases hd : (doH h e).2
      · rfl
      · obtain ⟨g1, g2, g3, g4, g5⟩ := do_back hs hd
        obtain ⟨h1, h2, h3, h4⟩ := doH_ok hd
        have e1 : (doH h e).1.2.2 = [] := by rw [h4]
        have e2 : (againH (doH h e).1).2 = false := by
          have := (again_keeps g2 g1).2.2.2.1
          rw [this, e1]; rfl
        have e3 : lastH (doH h e).1 = (doH h e).1.1 := by unfold lastH; rw [g1, e1]; rfl
        have e4 : ((doH h e).1.2.1.length : Int) = (h.2.1.length : Int) + 1 := by rw [h4]; simp
        rw [g2, e2, e3, e4, show W64 ((h.2.1.length : Int) + 1) = (h.2.1.length : Int) + 1 from wrap_small (by omega) (by omega), decide_eq_true rfl, decide_eq_true rfl]; rfl
    · rfl)
noncomputable def c_laws_FnHistCut : Con := conT [TB] fun (_l : List Int) => (none, .d (ofD .bool true))
theorem k_laws_FnHistCut : ConOk Tryd.prog 10 c_laws_FnHistCut := conT_ok Tryd.call10 fun l hl _ => s_laws_FnHistCut l hl
def tree_HistTwo (c : Bool) (h : Hist) (e f : Edit) : Option Fin := branch c yes (need (smallH h) (need (smallH h) (branch (bif !((doH h e).2 == (doH h e).2) then true else !(doH h e).2) (some (vB ((doH h e).2 == (doH h e).2), []))
  (need (smallH (doH h e).1) (branch (!(doH (doH h e).1 f).2) (some (vB (sameH (doH (doH h e).1 f).1 (doH h e).1), [])) (need (smallH (doH (doH h e).1 f).1) (need (smallH (backH (doH (doH h e).1 f).1).1)
  (some (vB (bif bif decide ((backH (doH (doH h e).1 f).1).1.1 = (doH h e).1.1) then decide ((backH (backH (doH (doH h e).1 f).1).1).1.1 = h.1) else false then decide (((backH (backH (doH (doH h e).1 f).1).1).1.2.2.length : Int) = 2) else false), [])))))))))
theorem two_back {h : Hist} {e f : Edit} (hs : smallH h = true) (hd : (doH h e).2 = true) (hf : (doH (doH h e).1 f).2 = true) :
    smallH (doH (doH h e).1 f).1 = true ∧ smallH (backH (doH (doH h e).1 f).1).1 = true ∧ (backH (doH (doH h e).1 f).1).1.1 = (doH h e).1.1 ∧ (backH (backH (doH (doH h e).1 f).1).1).1.1 = h.1 ∧ (backH (backH (doH (doH h e).1 f).1).1).1.2.2.length = 2 := by
  obtain ⟨g1, g2, g3, g4, g5⟩ := do_back hs hd
  obtain ⟨k1, k2, k3, k4, k5⟩ := do_back g2 hf
  obtain ⟨h1, h2, h3, h4⟩ := doH_ok hd
  rw [k3]
  have e0 := h4
  generalize doH h e = q at *
  obtain ⟨⟨t, p, n⟩, b⟩ := q
  simp only [Prod.mk.injEq] at e0
  obtain ⟨rfl, rfl, rfl⟩ := e0
  have hk : smallH ((EdDo h.1 e).1, h.2.1 ++ [(EdBack h.1 e).1], [f]) = true := by
    have := smallH_iff.1 g2
    exact smallH_iff.2 ⟨this.1, by simp⟩
  have hb := back_step (h := ((EdDo h.1 e).1, h.2.1 ++ [(EdBack h.1 e).1], [f])) hk k4 rfl
  rcases backH_cases k4 with ⟨q1, _⟩ | ⟨l, e', q1, q2⟩
  · exact absurd q1 (by simp)
  · obtain ⟨rfl, rfl⟩ : l = h.2.1 ∧ e' = (EdBack h.1 e).1 := by
      have q1 : h.2.1 ++ [(EdBack h.1 e).1] = l ++ [e'] := q1
      have := List.append_inj' q1 rfl
      exact ⟨this.1.symm, (List.cons.inj this.2).1.symm⟩
    refine ⟨k2, hk, rfl, ?_, ?_⟩
    · rw [q2]; show (EdDo (EdDo h.1 e).1 (EdBack h.1 e).1).1 = h.1; rw [(take_back h2).1]
    · rw [q2]; rfl
theorem s_laws_FnHistTwo (l : List Int) (hl : Fit TB l) (m : List Int) (_hm : Fit TB m) : Sat Tryd.prog 11 [ofD TB l, ofD TB m] [] (.d (ofD .bool true)) [] :=
  fn_sound (cx := cxOf Γ63 Tryd.f11.ntmps [] [] [] []) Tryd.func11 rfl ttOk Γ63ok mixed (fun c hc => LoopsOk.nil (by cases hc; kernel_rfl)) (ro := true) (by
    have y : evFn (cxOf Γ63 Tryd.f11.ntmps [] [] [] []) Tryd.f11 true [ofD TB l, ofD TB m] [] = tree_HistTwo (bif decide (1048576 < (l.length : Int)) then true else decide (1048576 < (m.length : Int))) (F_spec_DrawHistDo l).1 (F_spec_DrawHistDo l).2 (F_spec_DrawHistDo m).2 := by kernel_rfl
    rw [y]
    have hs := szN_small (p_spec_DrawHistDo l hl) (by omega)
    generalize (F_spec_DrawHistDo l).1 = h at hs ⊢
    generalize (F_spec_DrawHistDo l).2 = e
    generalize (F_spec_DrawHistDo m).2 = f
    generalize (bif decide (1048576 < (l.length : Int)) then true else decide (1048576 < (m.length : Int))) = c
    unfold tree_HistTwo
    cases c
    · rw [beq_self_eq_true, hs]
      cases hd : (doH h e).2
      · rfl
      · obtain ⟨g1, g2, g3, g4, g5⟩ := do_back hs hd
        rw [g2]
        cases hf : (doH (doH h e).1 f).2
        · rw [doH_not g1 hf, sameH_self]; rfl
        · obtain ⟨q1, q2, q3, q4, q5⟩ := two_back hs hd hf
          rw [q1, q2, q3, q4, q5, decide_eq_true rfl, decide_eq_true rfl]; rfl
    · rfl)
noncomputable def c_laws_FnHistTwo : Con := conT [TB, TB] fun (_l : List Int) (_m : List Int) => (none, .d (ofD .bool true))
theorem k_laws_FnHistTwo : ConOk Tryd.prog 11 c_laws_FnHistTwo := conT_ok Tryd.call11 fun l hl m hm _ => s_laws_FnHistTwo l hl m hm
def tree_HistBack (c : Bool) (h : Hist) (e : Edit) : Option Fin := branch c yes (need (smallH h) (need (smallH h) (branch (bif bif !((doH h e).2 == (doH h e).2) then true else !sameH (doH h e).1 (doH h e).1 then true else !(doH h e).2) (some (vB (bif (doH h e).2 == (doH h e).2 then sameH (doH h e).1 (doH h e).1 else false), []))
  (need (smallH (doH h e).1) (need (smallH (backH (doH h e).1).1) (some (vB (bif bif bif bif (backH (doH h e).1).2 then decide ((backH (doH h e).1).1.1 = h.1) else false then decide (((backH (doH h e).1).1.2.1.length : Int) = (h.2.1.length : Int)) else false then (againH (backH (doH h e).1).1).2 else false then sameH (againH (backH (doH h e).1).1).1 (doH h e).1 else false), [])))))))
theorem s_laws_FnHistBack (l : List Int) (hl : Fit TB l) : Sat Tryd.prog 14 [ofD TB l] [] (.d (ofD .bool true)) [] :=
  fn_sound (cx := cxOf Γ63 Tryd.f14.ntmps [] [] [] []) Tryd.func14 rfl ttOk Γ63ok mixed (fun c hc => LoopsOk.nil (by cases hc; kernel_rfl)) (ro := true) (by
    have y : evFn (cxOf Γ63 Tryd.f14.ntmps [] [] [] []) Tryd.f14 true [ofD TB l] [] = tree_HistBack (decide (1048576 < (l.length : Int))) (F_spec_DrawHistDo l).1 (F_spec_DrawHistDo l).2 := by kernel_rfl
    rw [y]
    have hs := szN_small (p_spec_DrawHistDo l hl) (by omega)
    generalize (F_spec_DrawHistDo l).1 = h at hs ⊢
    generalize (F_spec_DrawHistDo l).2 = e
    unfold tree_HistBack
    cases decide (1048576 < (l.length : Int))
    · rw [beq_self_eq_true, sameH_self, hs]
      cases hd : (doH h e).2
      · rfl
      · obtain ⟨g1, g2, g3, g4, g5⟩ := do_back hs hd
        have hk : smallH (h.1, h.2.1, [e]) = true := by
          have := smallH_iff.1 hs
          exact smallH_iff.2 ⟨this.1, by simp⟩
        rw [g2, g3, do_again hs hd, hk, sameH_self, decide_eq_true rfl, decide_eq_true rfl]; rfl
    · rfl)
noncomputable def c_laws_FnHistBack : Con := conT [TB] fun (_l : List Int) => (none, .d (ofD .bool true))
theorem k_laws_FnHistBack : ConOk Tryd.prog 14 c_laws_FnHistBack := conT_ok Tryd.call14 fun l hl _ => s_laws_FnHistBack l hl
def tree_HistFirst (c : Bool) (h : Hist) (e : Edit) : Option Fin := branch c yes (branch (bif !decide (firstH h = firstH h) then true else !okHist h) (some (vB (decide (firstH h = firstH h)), [])) (need (smallH h) (need (smallH h) (need (smallH h) (some (vB (bif bif decide (firstH (doH h e).1 = firstH h) then decide (firstH (backH h).1 = firstH h) else false then decide (firstH (againH h).1 = firstH h) else false), []))))))
theorem s_laws_FnHistFirst (l : List Int) (hl : Fit TB l) : Sat Tryd.prog 15 [ofD TB l] [] (.d (ofD .bool true)) [] :=
  fn_sound (cx := cxOf Γ63 Tryd.f15.ntmps [] [] [] []) Tryd.func15 rfl ttOk Γ63ok mixed (fun c hc => LoopsOk.nil (by cases hc; kernel_rfl)) (ro := true) (by
    have y : evFn (cxOf Γ63 Tryd.f15.ntmps [] [] [] []) Tryd.f15 true [ofD TB l] [] = tree_HistFirst (decide (1048576 < (l.length : Int))) (F_spec_DrawHistDo l).1 (F_spec_DrawHistDo l).2 := by kernel_rfl
    rw [y]
    have hs := szN_small (p_spec_DrawHistDo l hl) (by omega)
    generalize (F_spec_DrawHistDo l).1 = h at hs ⊢
    generalize (F_spec_DrawHistDo l).2 = e
    unfold tree_HistFirst
    cases decide (1048576 < (l.length : Int))
    · rw [decide_eq_true rfl]
      cases ho : okHist h
      · rfl
      · have e1 : firstH (doH h e).1 = firstH h := by
          cases hd : (doH h e).2
          · rw [doH_not ho hd]
          · exact (do_back hs hd).2.2.2.2
        rw [hs, e1, (back_keeps hs ho).2.2.2.2.1, (again_keeps hs ho).2.2.2.2.1, decide_eq_true rfl]; rfl
    · rfl)
noncomputable def c_laws_FnHistFirst : Con := conT [TB] fun (_l : List Int) => (none, .d (ofD .bool true))
theorem k_laws_FnHistFirst : ConOk Tryd.prog 15 c_laws_FnHistFirst := conT_ok Tryd.call15 fun l hl _ => s_laws_FnHistFirst l hl
def tree_HistBent (c : Bool) (h : Hist) (e : Edit) : Option Fin := branch c yes (branch (bif !(okHist h == okHist h) then true else okHist h) (some (vB (okHist h == okHist h), [])) (need (smallH h) (need (smallH h) (need (bif decide ((bif bif bif !(doH h e).2 then !(backH h).2 else false then sameH (doH h e).1 nilH else false then sameH (backH h).1 nilH else false) = true) then decide ((firstH h).length + (lastH h).length ≤ 9223372036854775807) else true)
  (some (vB (bif bif bif bif !(doH h e).2 then !(backH h).2 else false then sameH (doH h e).1 nilH else false then sameH (backH h).1 nilH else false then decide (firstH h ++ lastH h = []) else false), []))))))
theorem s_laws_FnHistBent (l : List Int) (hl : Fit TB l) : Sat Tryd.prog 17 [ofD TB l] [] (.d (ofD .bool true)) [] :=
  fn_sound (cx := cxOf Γ63 Tryd.f17.ntmps [] [] [] []) Tryd.func17 rfl ttOk Γ63ok mixed (fun c hc => LoopsOk.nil (by cases hc; kernel_rfl)) (ro := true) (by
    have y : evFn (cxOf Γ63 Tryd.f17.ntmps [] [] [] []) Tryd.f17 true [ofD TB l] [] = tree_HistBent (decide (1048576 < (l.length : Int))) (F_spec_DrawHistDo l).1 (F_spec_DrawHistDo l).2 := by kernel_rfl
    rw [y]
    have hs := szN_small (p_spec_DrawHistDo l hl) (by omega)
    generalize (F_spec_DrawHistDo l).1 = h at hs ⊢
    generalize (F_spec_DrawHistDo l).2 = e
    unfold tree_HistBent
    cases decide (1048576 < (l.length : Int))
    · rw [beq_self_eq_true]
      cases ho : okHist h
      · have e1 : firstH h = [] := by unfold firstH; rw [ho]; rfl
        have e2 : lastH h = [] := by unfold lastH; rw [ho]; rfl
        rw [hs, doH_bad ho, backH_bad ho, e1, e2]; rfl
      · rfl
    · rfl)
noncomputable def c_laws_FnHistBent : Con := conT [TB] fun (_l : List Int) => (none, .d (ofD .bool true))
theorem k_laws_FnHistBent : ConOk Tryd.prog 17 c_laws_FnHistBent := conT_ok Tryd.call17 fun l hl _ => s_laws_FnHistBent l hl
theorem s_laws_FnExactHistOk (h : Hist) (hh : Fit TH h) : Sat Tryd.prog 4 [ofD TH h] [] (.d (ofD .bool true)) [] :=
  fn_sound (cx := cxOf Γ63 Tryd.f4.ntmps [] [] [] []) Tryd.func4 rfl ttOk Γ63ok mixed (fun c hc => LoopsOk.nil (by cases hc; kernel_rfl)) (ro := true) (by
    have y : evFn (cxOf Γ63 Tryd.f4.ntmps [] [] [] []) Tryd.f4 true [ofD TH h] [] = branch (decide (szH h 1048576 < 0)) yes (need (okH h) (need (okH h) (branch (!(okHist h == okHist h)) no (need (okH h) (branch (!eqH h h) no yes))))) := by kernel_rfl
    rw [y]
    by_cases h1 : szH h 1048576 < 0
    · rw [decide_eq_true h1]; rfl
    · rw [decide_eq_false h1, (szH_ok hh (by omega) (by omega) h1).1, eqH_self]
      have : (!(okHist h == okHist h)) = false := by simp
      rw [this]; rfl)
noncomputable def c_laws_FnExactHistOk : Con := conT [TH] fun (_h : Hist) => (none, .d (ofD .bool true))
theorem k_laws_FnExactHistOk : ConOk Tryd.prog 4 c_laws_FnExactHistOk := conT_ok Tryd.call4 fun h hh _ => s_laws_FnExactHistOk h hh
theorem s_laws_FnExactHistFirst (h : Hist) (hh : Fit TH h) : Sat Tryd.prog 5 [ofD TH h] [] (.d (ofD .bool true)) [] :=
  fn_sound (cx := cxOf Γ63 Tryd.f5.ntmps [] [] [] []) Tryd.func5 rfl ttOk Γ63ok mixed (fun c hc => LoopsOk.nil (by cases hc; kernel_rfl)) (ro := true) (by
    have y : evFn (cxOf Γ63 Tryd.f5.ntmps [] [] [] []) Tryd.f5 true [ofD TH h] [] = branch (decide (szH h 1048576 < 0)) yes (need (okH h) (need (okH h) (branch (!decide (firstH h = firstH h)) no (need (okH h) (branch (!eqH h h) no yes))))) := by kernel_rfl
    rw [y]
    by_cases h1 : szH h 1048576 < 0
    · rw [decide_eq_true h1]; rfl
    · rw [decide_eq_false h1, (szH_ok hh (by omega) (by omega) h1).1, eqH_self]
      have : (!decide (firstH h = firstH h)) = false := by simp
      rw [this]; rfl)
noncomputable def c_laws_FnExactHistFirst : Con := conT [TH] fun (_h : Hist) => (none, .d (ofD .bool true))
theorem k_laws_FnExactHistFirst : ConOk Tryd.prog 5 c_laws_FnExactHistFirst := conT_ok Tryd.call5 fun h hh _ => s_laws_FnExactHistFirst h hh
theorem s_laws_FnExactHistLast (h : Hist) (hh : Fit TH h) : Sat Tryd.prog 6 [ofD TH h] [] (.d (ofD .bool true)) [] :=
  fn_sound (cx := cxOf Γ63 Tryd.f6.ntmps [] [] [] []) Tryd.func6 rfl ttOk Γ63ok mixed (fun c hc => LoopsOk.nil (by cases hc; kernel_rfl)) (ro := true) (by
    have y : evFn (cxOf Γ63 Tryd.f6.ntmps [] [] [] []) Tryd.f6 true [ofD TH h] [] = branch (decide (szH h 1048576 < 0)) yes (need (okH h) (need (okH h) (branch (!decide (lastH h = lastH h)) no (need (okH h) (branch (!eqH h h) no yes))))) := by kernel_rfl
    rw [y]
    by_cases h1 : szH h 1048576 < 0
    · rw [decide_eq_true h1]; rfl
    · rw [decide_eq_false h1, (szH_ok hh (by omega) (by omega) h1).1, eqH_self]
      have : (!decide (lastH h = lastH h)) = false := by simp
      rw [this]; rfl)
noncomputable def c_laws_FnExactHistLast : Con := conT [TH] fun (_h : Hist) => (none, .d (ofD .bool true))
theorem k_laws_FnExactHistLast : ConOk Tryd.prog 6 c_laws_FnExactHistLast := conT_ok Tryd.call6 fun h hh _ => s_laws_FnExactHistLast h hh
end Go.Proofs.YtnbkolhmacikaaaDoor.Ev
