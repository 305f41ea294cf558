/-
  Histories: what the functions compute.
-/
import Derived.Test.YtnbkolhmacikaaaDoorLr
namespace Go.Proofs.YtnbkolhmacikaaaDoor.Ev
open Go
abbrev TUP (a b : Ty) (x : Den a × Den b) : T := .tup [ofD a x.1, ofD b x.2]
theorem fits_small {n : Nat} (h : n ≤ 4194304) : fits (0 + n) 32 = true := decide_eq_true (by omega)
theorem both_same (x : Option Fin) : both x x = x := by unfold both; rw [if_pos rfl]
theorem y_spec_HistNew (s : Str) : evFn (cxOf Γ30 Tryd.f18.ntmps [] [] [] []) Tryd.f18 true [ofD .str s] [] = branch (!longOk s) (some (.d (ofD TH ([], [], [])), [])) (some (.d (ofD TH (s, [], [])), [])) := by kernel_rfl
theorem s_spec_HistNew (s : Str) (_hs : Fit .str s) : Sat Tryd.prog 18 [ofD .str s] [] (.d (ofD TH (newH s))) [] :=
  fn_sound (cx := cxOf Γ30 Tryd.f18.ntmps [] [] [] []) Tryd.func18 rfl ttOk Γ30ok mixed (fun c hc => LoopsOk.nil (by cases hc; kernel_rfl)) (ro := true) (by
    rw [y_spec_HistNew]; unfold newH
    cases longOk s <;> rfl)
noncomputable def c_spec_HistNew : Con := conT [.str] fun (s : Str) => (none, .d (ofD TH (newH s)))
theorem k_spec_HistNew : ConOk Tryd.prog 18 c_spec_HistNew := conT_ok Tryd.call18 fun s hs _ => s_spec_HistNew s hs
noncomputable def Γ31 : List (Nat × Con) := (18, c_spec_HistNew) :: Γ30
theorem Γ31ok : EnvOk Tryd.prog (look Γ31) := .cons k_spec_HistNew Γ30ok

theorem y_impl_HistNew (s : Str) : evFn (cxOf Γ31 Tryd.f19.ntmps [] [] [] []) Tryd.f19 true [ofD .str s] [] = branch (!areSm s 20) (some (.d (ofD TH ([], [], [])), [])) (some (.d (ofD TH (s, [], [])), [])) := by kernel_rfl
theorem s_impl_HistNew (s : Str) (_hs : Fit .str s) : Sat Tryd.prog 19 [ofD .str s] [] (.d (ofD TH (newH s))) [] :=
  fn_sound (cx := cxOf Γ31 Tryd.f19.ntmps [] [] [] []) Tryd.func19 rfl ttOk Γ31ok mixed (fun c hc => LoopsOk.nil (by cases hc; kernel_rfl)) (ro := true) (by
    rw [y_impl_HistNew, areSm_20]; unfold newH
    cases longOk s <;> rfl)
noncomputable def c_impl_HistNew : Con := conT [.str] fun (s : Str) => (none, .d (ofD TH (newH s)))
theorem k_impl_HistNew : ConOk Tryd.prog 19 c_impl_HistNew := conT_ok Tryd.call19 fun s hs _ => s_impl_HistNew s hs
noncomputable def Γ32 : List (Nat × Con) := (19, c_impl_HistNew) :: Γ31
theorem Γ32ok : EnvOk Tryd.prog (look Γ32) := .cons k_impl_HistNew Γ31ok

theorem y_spec_HistOk (h : Hist) : evFn (cxOf Γ32 Tryd.f24.ntmps [] [] [] []) Tryd.f24 true [ofD TH h] [] = some (vB (bif (bif (bif longOk h.1 then lenH h else false) then (play h.1 h.2.1).2 else false) then (play h.1 h.2.2).2 else false), []) := by kernel_rfl
theorem s_spec_HistOk (h : Hist) (_hh : Fit TH h) : Sat Tryd.prog 24 [ofD TH h] [] (.d (ofD .bool (okHist h))) [] :=
  fn_sound (cx := cxOf Γ32 Tryd.f24.ntmps [] [] [] []) Tryd.func24 rfl ttOk Γ32ok mixed (fun c hc => LoopsOk.nil (by cases hc; kernel_rfl)) (ro := true) (by
    rw [y_spec_HistOk]; unfold okHist
    cases longOk h.1 <;> cases lenH h <;> cases (play h.1 h.2.1).2 <;> cases (play h.1 h.2.2).2 <;> rfl)
noncomputable def c_spec_HistOk : Con := conT [TH] fun (h : Hist) => (none, .d (ofD .bool (okHist h)))
theorem k_spec_HistOk : ConOk Tryd.prog 24 c_spec_HistOk := conT_ok Tryd.call24 fun h hh _ => s_spec_HistOk h hh
noncomputable def Γ33 : List (Nat × Con) := (24, c_spec_HistOk) :: Γ32
theorem Γ33ok : EnvOk Tryd.prog (look Γ33) := .cons k_spec_HistOk Γ32ok

theorem y_impl_HistOk (h : Hist) : evFn (cxOf Γ33 Tryd.f26.ntmps [] [] [] []) Tryd.f26 true [ofD TH h] [] = branch (bif !areSm h.1 20 then true else decide (10 < W64 ((h.2.1.length : Int) + (h.2.2.length : Int)))) (some (vB false, [])) (some (vB (bif (play h.1 h.2.1).2 then (play h.1 h.2.2).2 else false), [])) := by kernel_rfl
theorem s_impl_HistOk (h : Hist) (_hh : Fit TH h) : Sat Tryd.prog 26 [ofD TH h] [] (.d (ofD .bool (okHist h))) [] :=
  fn_sound (cx := cxOf Γ33 Tryd.f26.ntmps [] [] [] []) Tryd.func26 rfl ttOk Γ33ok mixed (fun c hc => LoopsOk.nil (by cases hc; kernel_rfl)) (ro := true) (by
    rw [y_impl_HistOk, areSm_20]
    have e : decide (10 < W64 ((h.2.1.length : Int) + (h.2.2.length : Int))) = !lenH h := by
      unfold lenH
      by_cases g : IntKind.i64.wrap ((h.2.1.length : Int) + (h.2.2.length : Int)) ≤ 10
      · rw [decide_eq_true g, decide_eq_false (by simp only [W64]; omega)]; rfl
      · rw [decide_eq_false g, decide_eq_true (by simp only [W64]; omega)]; rfl
    rw [e]; unfold okHist
    cases longOk h.1 <;> cases lenH h <;> cases (play h.1 h.2.1).2 <;> cases (play h.1 h.2.2).2 <;> rfl)
noncomputable def c_impl_HistOk : Con := conT [TH] fun (h : Hist) => (none, .d (ofD .bool (okHist h)))
theorem k_impl_HistOk : ConOk Tryd.prog 26 c_impl_HistOk := conT_ok Tryd.call26 fun h hh _ => s_impl_HistOk h hh
noncomputable def Γ34 : List (Nat × Con) := (26, c_impl_HistOk) :: Γ33
theorem Γ34ok : EnvOk Tryd.prog (look Γ34) := .cons k_impl_HistOk Γ33ok

theorem y_cloneEdit (l : List Edit) : evFn (cxOf Γ34 Tryd.f76.ntmps [] [] [] []) Tryd.f76 false [ofD TL l] [] =
  branch (Nat.blt 0 l.length) (need (fits (0 + l.length) 32) (some (.d (.one (.own 1000)), [(1000, some (.lis 46 TE l))]))) (both (some (.d (.one (.own 1000)), [(1000, some (.lis 46 TE []))])) (need (fits (0 + l.length) 32) (some (.d (.one (.own 1000)), [(1000, some (.lis 46 TE l))])))) := by kernel_rfl
theorem s_slices_Clone_impl_Edit_impl_Edit (l : List Edit) (_hl : Fit TL l) (hpre : (Nat.ble (List.length l) 1048576) = true) : Sat Tryd.prog 76 [ofD TL l] [] (.d (.one (.own 1000))) ([(1000, some (.lis 46 TE l))]) :=
  fn_sound (cx := cxOf Γ34 Tryd.f76.ntmps [] [] [] []) Tryd.func76 rfl ttOk Γ34ok mixed (fun c hc => LoopsOk.nil (by cases hc; kernel_rfl)) (ro := false) (by
    have hs : l.length ≤ 1048576 := Nat.le_of_ble_eq_true hpre
    rw [y_cloneEdit, fits_small (by omega)]
    cases l with
    | nil => exact both_same _
    | cons a l => rfl)
noncomputable def c_slices_Clone_impl_Edit_impl_Edit : Con := conN [TL] fun (l : List Edit) => (some (Nat.ble (List.length l) 1048576), .d (.one (.own 1000)), [(1000, some (.lis 46 TE l))])
theorem k_slices_Clone_impl_Edit_impl_Edit : ConOk Tryd.prog 76 c_slices_Clone_impl_Edit_impl_Edit := conN_ok Tryd.call76 fun l hl hqq => s_slices_Clone_impl_Edit_impl_Edit l hl (pre_of hqq)
noncomputable def Γ35 : List (Nat × Con) := (76, c_slices_Clone_impl_Edit_impl_Edit) :: Γ34
theorem Γ35ok : EnvOk Tryd.prog (look Γ35) := .cons k_slices_Clone_impl_Edit_impl_Edit Γ34ok

abbrev ownH (h : Hist) : D := .agg [.r (.v (.string (mk h.1))), .own 1000, .own 1001]
abbrev memH (h : Hist) : Heap := [(1000, some (.lis 46 TE h.2.1)), (1001, some (.lis 46 TE h.2.2))]
theorem y_spec_l14Copy (h : Hist) : evFn (cxOf Γ35 Tryd.f60.ntmps [] [] [] []) Tryd.f60 false [ofD TH h] [] = need (fits (0 + h.2.1.length) 32) (need (fits (0 + h.2.2.length) 32) (some (.d (ownH h), memH h))) := by kernel_rfl
theorem s_spec_l14Copy (h : Hist) (_hh : Fit TH h) (hpre : (smallH h) = true) : Sat Tryd.prog 60 [ofD TH h] [] (.d (ownH h)) (memH h) :=
  fn_sound (cx := cxOf Γ35 Tryd.f60.ntmps [] [] [] []) Tryd.func60 rfl ttOk Γ35ok mixed (fun c hc => LoopsOk.nil (by cases hc; kernel_rfl)) (ro := false) (by
    have hs := smallH_iff.1 hpre
    rw [y_spec_l14Copy, fits_small (by omega), fits_small (by omega)]; rfl)
noncomputable def c_spec_l14Copy : Con := conN [TH] fun (h : Hist) => (some (smallH h), .d (ownH h), memH h)
theorem k_spec_l14Copy : ConOk Tryd.prog 60 c_spec_l14Copy := conN_ok Tryd.call60 fun h hh hqq => s_spec_l14Copy h hh (pre_of hqq)
noncomputable def Γ36 : List (Nat × Con) := (60, c_spec_l14Copy) :: Γ35
theorem Γ36ok : EnvOk Tryd.prog (look Γ36) := .cons k_spec_l14Copy Γ35ok

theorem s_impl_ownHist (h : Hist) (_hh : Fit TH h) (hpre : (smallH h) = true) : Sat Tryd.prog 55 [ofD TH h] [] (.d (ownH h)) (memH h) :=
  fn_sound (cx := cxOf Γ36 Tryd.f55.ntmps [] [] [] []) Tryd.func55 rfl ttOk Γ36ok mixed (fun c hc => LoopsOk.nil (by cases hc; kernel_rfl)) (ro := false) (by
    have y : evFn (cxOf Γ36 Tryd.f55.ntmps [] [] [] []) Tryd.f55 false [ofD TH h] [] = need (Nat.ble h.2.1.length 1048576) (need (Nat.ble h.2.2.length 1048576) (some (.d (ownH h), memH h))) := by kernel_rfl
    unfold smallH at hpre
    rw [Bool.and_eq_true] at hpre
    rw [y, hpre.1, hpre.2]; rfl)
noncomputable def c_impl_ownHist : Con := conN [TH] fun (h : Hist) => (some (smallH h), .d (ownH h), memH h)
theorem k_impl_ownHist : ConOk Tryd.prog 55 c_impl_ownHist := conN_ok Tryd.call55 fun h hh hqq => s_impl_ownHist h hh (pre_of hqq)
noncomputable def Γ37 : List (Nat × Con) := (55, c_impl_ownHist) :: Γ36
theorem Γ37ok : EnvOk Tryd.prog (look Γ37) := .cons k_impl_ownHist Γ36ok

theorem s_impl_exchanged (h : Hist) (_hh : Fit TH h) : Sat Tryd.prog 58 [ofD TH h] [] (.d (ofD TH (swapH h))) [] :=
  fn_sound (cx := cxOf Γ37 Tryd.f58.ntmps [] [] [] []) Tryd.func58 rfl ttOk Γ37ok mixed (fun c hc => LoopsOk.nil (by cases hc; kernel_rfl)) (ro := true) (by
    kernel_rfl)
noncomputable def c_impl_exchanged : Con := conT [TH] fun (h : Hist) => (none, .d (ofD TH (swapH h)))
theorem k_impl_exchanged : ConOk Tryd.prog 58 c_impl_exchanged := conT_ok Tryd.call58 fun h hh _ => s_impl_exchanged h hh
noncomputable def Γ38 : List (Nat × Con) := (58, c_impl_exchanged) :: Γ37
theorem Γ38ok : EnvOk Tryd.prog (look Γ38) := .cons k_impl_exchanged Γ37ok

abbrev histR (x : Hist × Bool) : T := .tup [ofD TH x.1, ofD .bool x.2]
abbrev nilH : Hist := ([], [], [])
theorem lenH_le {h : Hist} (hs : smallH h = true) (ho : okHist h = true) : h.2.1.length + h.2.2.length ≤ 10 := (lenH_iff hs).1 (okHist_iff.1 ho).2.1
theorem do_tree {h : Hist} {e : Edit} (_hs : smallH h = true) {f1 f2 : Bool} (c : Bool) (hc : okHist h = true → c = (!((EdDo h.1 e).2 && decide ((h.2.1.length : Int) < 10)))) (h1 : okHist h = true → f1 = true) (h2 : okHist h = true → f2 = true) :
  branch (!okHist h) (some ((histR (nilH, false), []) : Fin)) (branch c (some (histR (h, false), [])) (need f1 (need f2 (some (histR (((EdDo h.1 e).1, h.2.1 ++ [(EdBack h.1 e).1], []), true), []))))) = some (histR (doH h e), []) := by
  unfold doH
  cases ho : okHist h
  · rfl
  · rw [hc ho, h1 ho, h2 ho]
    cases (EdDo h.1 e).2 && decide ((h.2.1.length : Int) < 10) <;> rfl
theorem y_spec_HistDo (h : Hist) (e : Edit) : evFn (cxOf Γ38 Tryd.f36.ntmps [] [] [] []) Tryd.f36 true [ofD TH h, ofD TE e] [] =
  branch (!okHist h) (some ((histR (nilH, false), []) : Fin)) (branch (bif !(EdDo h.1 e).2 then true else decide (10 ≤ (h.2.1.length : Int))) (need (smallH h) (some (histR (h, false), []))) (need (fits (0 + h.2.1.length) 32) (need (fits (h.2.1.length + 1) 32) (some (histR (((EdDo h.1 e).1, h.2.1 ++ [(EdBack h.1 e).1], []), true), []))))) := by kernel_rfl
theorem s_spec_HistDo (h : Hist) (_hh : Fit TH h) (e : Edit) (_he : Fit TE e) (hpre : (smallH h) = true) : Sat Tryd.prog 36 [ofD TH h, ofD TE e] [] (histR (doH h e)) [] :=
  fn_sound (cx := cxOf Γ38 Tryd.f36.ntmps [] [] [] []) Tryd.func36 rfl ttOk Γ38ok mixed (fun c hc => LoopsOk.nil (by cases hc; kernel_rfl)) (ro := true) (by
    rw [y_spec_HistDo, hpre]
    refine do_tree hpre _ (fun ho => ?_) (fun ho => fits_small (by have := lenH_le hpre ho; omega)) (fun ho => by have := lenH_le hpre ho; exact decide_eq_true (by omega))
    have : decide (10 ≤ (h.2.1.length : Int)) = !decide ((h.2.1.length : Int) < 10) := by
      by_cases g : (h.2.1.length : Int) < 10
      · rw [decide_eq_true g, decide_eq_false (by omega)]; rfl
      · rw [decide_eq_false g, decide_eq_true (by omega)]; rfl
    rw [this]
    cases (EdDo h.1 e).2 <;> cases decide ((h.2.1.length : Int) < 10) <;> rfl)
noncomputable def c_spec_HistDo : Con := conT [TH, TE] fun (h : Hist) (e : Edit) => (some (smallH h), histR (doH h e))
theorem k_spec_HistDo : ConOk Tryd.prog 36 c_spec_HistDo := conT_ok Tryd.call36 fun h hh e he hqq => s_spec_HistDo h hh e he (pre_of hqq)
noncomputable def Γ39 : List (Nat × Con) := (36, c_spec_HistDo) :: Γ38
theorem Γ39ok : EnvOk Tryd.prog (look Γ39) := .cons k_spec_HistDo Γ38ok

theorem y_impl_HistDo (h : Hist) (e : Edit) : evFn (cxOf Γ39 Tryd.f38.ntmps [] [] [] []) Tryd.f38 true [ofD TH h, ofD TE e] [] =
  branch (!okHist h) (some ((histR (nilH, false), []) : Fin)) (need (smallH h) (branch (bif !(EdDo h.1 e).2 then true else decide ((h.2.1.length : Int) = 10)) (some (histR (h, false), [])) (need (fits (h.2.1.length + 1) 32) (some (histR (((EdDo h.1 e).1, h.2.1 ++ [(EdBack h.1 e).1], []), true), []))))) := by kernel_rfl
theorem len_eq10 {h : Hist} {e : Edit} (hs : smallH h = true) (ho : okHist h = true) : (bif !(EdDo h.1 e).2 then true else decide ((h.2.1.length : Int) = 10)) = !((EdDo h.1 e).2 && decide ((h.2.1.length : Int) < 10)) := by
  have hl := lenH_le hs ho
  have : decide ((h.2.1.length : Int) = 10) = !decide ((h.2.1.length : Int) < 10) := by
    by_cases g : (h.2.1.length : Int) < 10
    · rw [decide_eq_true g, decide_eq_false (by omega)]; rfl
    · rw [decide_eq_false g, decide_eq_true (by omega)]; rfl
  rw [this]
  cases (EdDo h.1 e).2 <;> cases decide ((h.2.1.length : Int) < 10) <;> rfl
theorem s_impl_HistDo (h : Hist) (_hh : Fit TH h) (e : Edit) (_he : Fit TE e) (hpre : (smallH h) = true) : Sat Tryd.prog 38 [ofD TH h, ofD TE e] [] (histR (doH h e)) [] :=
  fn_sound (cx := cxOf Γ39 Tryd.f38.ntmps [] [] [] []) Tryd.func38 rfl ttOk Γ39ok mixed (fun c hc => LoopsOk.nil (by cases hc; kernel_rfl)) (ro := true) (by
    rw [y_impl_HistDo, hpre]
    exact do_tree hpre (f1 := true) _ (fun ho => len_eq10 hpre ho) (fun _ => rfl) (fun ho => by have := lenH_le hpre ho; exact decide_eq_true (by omega)))
noncomputable def c_impl_HistDo : Con := conT [TH, TE] fun (h : Hist) (e : Edit) => (some (smallH h), histR (doH h e))
theorem k_impl_HistDo : ConOk Tryd.prog 38 c_impl_HistDo := conT_ok Tryd.call38 fun h hh e he hqq => s_impl_HistDo h hh e he (pre_of hqq)
noncomputable def Γ40 : List (Nat × Con) := (38, c_impl_HistDo) :: Γ39
theorem Γ40ok : EnvOk Tryd.prog (look Γ40) := .cons k_impl_HistDo Γ39ok

def stepR (s : Str) (l m : List Edit) : T := .tup [ofD .str (EdDo s (l.getLast?.getD e0)).1, ofD TL l.dropLast, ofD TL (m ++ [(EdBack s (l.getLast?.getD e0)).1])]
theorem y_spec_l14Step (s : Str) (l m : List Edit) : evFn (cxOf Γ40 Tryd.f63.ntmps [] [] [] []) Tryd.f63 true [ofD .str s, ofD TL l, ofD TL m] [] =
  need (inb (W64 ((l.length : Int) - 1)) l.length) (need (inb (W64 ((l.length : Int) - 1)) l.length) (need (inr 0 (W64 ((l.length : Int) - 1)) l.length) (need (fits (0 + (l.take (W64 ((l.length : Int) - 1)).toNat).length) 32) (need (fits (0 + m.length) 32) (need (fits (m.length + 1) 32)
   (some (.tup [ofD .str (EdDo s (l.getD (W64 ((l.length : Int) - 1)).toNat e0)).1, ofD TL (l.take (W64 ((l.length : Int) - 1)).toNat), ofD TL (m ++ [(EdBack s (l.getD (W64 ((l.length : Int) - 1)).toNat e0)).1])], []))))))) := by kernel_rfl
theorem last_get {l : List Edit} (hl : l ≠ []) (hn : l.length ≤ 1048576) : W64 ((l.length : Int) - 1) = (l.length : Int) - 1 ∧ ((l.length : Int) - 1).toNat = l.length - 1 ∧ 0 < l.length ∧ l.getD (l.length - 1) e0 = l.getLast?.getD e0 ∧ l.take (l.length - 1) = l.dropLast := by
  have hp : 0 < l.length := List.length_pos_iff.2 hl
  refine ⟨wrap_small (by omega) (by omega), by omega, hp, ?_, List.dropLast_eq_take.symm⟩
  rw [List.getLast?_eq_getElem?, List.getD_eq_getElem?_getD]
theorem s_spec_l14Step (s : Str) (_hs : Fit .str s) (l : List Edit) (_hl : Fit TL l) (m : List Edit) (_hm : Fit TL m) (hpre : (Nat.ble (List.length l) 1048576 && (Nat.ble (List.length m) 1048576 && Nat.blt 0 (List.length l))) = true) : Sat Tryd.prog 63 [ofD .str s, ofD TL l, ofD TL m] [] (stepR s l m) [] :=
  fn_sound (cx := cxOf Γ40 Tryd.f63.ntmps [] [] [] []) Tryd.func63 rfl ttOk Γ40ok mixed (fun c hc => LoopsOk.nil (by cases hc; kernel_rfl)) (ro := true) (by
    simp only [Bool.and_eq_true, Nat.ble_eq, Nat.blt_eq] at hpre
    obtain ⟨p1, p2, p3⟩ := hpre
    obtain ⟨e1, e2, e3, e4, e5⟩ := last_get (List.length_pos_iff.1 p3) p1
    have l1 : (l.take (l.length - 1)).length ≤ 1048576 := by rw [List.length_take]; omega
    have p4 : 0 < l.length := p3
    unfold stepR
    rw [y_spec_l14Step, e1, e2, e4, ← e5, inb_ok (by omega) (by omega), show inr 0 ((l.length : Int) - 1) l.length = true from decide_eq_true ⟨by omega, by omega, by omega⟩, fits_small (by omega), fits_small (by omega), show fits (m.length + 1) 32 = true from decide_eq_true (by omega)]
    rfl)
noncomputable def c_spec_l14Step : Con := conT [.str, TL, TL] fun (s : Str) (l : List Edit) (m : List Edit) => (some (Nat.ble (List.length l) 1048576 && (Nat.ble (List.length m) 1048576 && Nat.blt 0 (List.length l))), stepR s l m)
theorem k_spec_l14Step : ConOk Tryd.prog 63 c_spec_l14Step := conT_ok Tryd.call63 fun s hs l hl m hm hqq => s_spec_l14Step s hs l hl m hm (pre_of hqq)
noncomputable def Γ41 : List (Nat × Con) := (63, c_spec_l14Step) :: Γ40
theorem Γ41ok : EnvOk Tryd.prog (look Γ41) := .cons k_spec_l14Step Γ40ok

theorem backH_eq {h : Hist} (ho : okHist h = true) (hl : h.2.1 ≠ []) : backH h = (((EdDo h.1 (h.2.1.getLast?.getD e0)).1, h.2.1.dropLast, h.2.2 ++ [(EdBack h.1 (h.2.1.getLast?.getD e0)).1]), true) := by
  rcases backH_cases ho with ⟨h1, _⟩ | ⟨l, e, h1, h2⟩
  · exact absurd h1 hl
  · rw [h2, h1]; simp
theorem backH_none {h : Hist} (ho : okHist h = true) (hl : h.2.1 = []) : backH h = (h, false) := by
  rcases backH_cases ho with ⟨_, h2⟩ | ⟨l, e, h1, h2⟩
  · exact h2
  · rw [hl] at h1; exact absurd h1.symm (by simp)
theorem y_spec_HistBack (h : Hist) : evFn (cxOf Γ41 Tryd.f40.ntmps [] [] [] []) Tryd.f40 true [ofD TH h] [] =
  branch (!okHist h) (some ((histR (nilH, false), []) : Fin)) (branch (decide ((h.2.1.length : Int) = 0)) (need (smallH h) (some (histR (h, false), []))) (need (Nat.ble h.2.1.length 1048576 && (Nat.ble h.2.2.length 1048576 && Nat.blt 0 h.2.1.length)) (some (histR (((EdDo h.1 (h.2.1.getLast?.getD e0)).1, h.2.1.dropLast, h.2.2 ++ [(EdBack h.1 (h.2.1.getLast?.getD e0)).1]), true), [])))) := by kernel_rfl
theorem s_spec_HistBack (h : Hist) (_hh : Fit TH h) (hpre : (smallH h) = true) : Sat Tryd.prog 40 [ofD TH h] [] (histR (backH h)) [] :=
  fn_sound (cx := cxOf Γ41 Tryd.f40.ntmps [] [] [] []) Tryd.func40 rfl ttOk Γ41ok mixed (fun c hc => LoopsOk.nil (by cases hc; kernel_rfl)) (ro := true) (by
    have hs := smallH_iff.1 hpre
    rw [y_spec_HistBack, hpre]
    cases ho : okHist h
    · rw [backH_bad ho]; rfl
    · by_cases hl : h.2.1 = []
      · rw [backH_none ho hl, hl]; rfl
      · have hp : 0 < h.2.1.length := List.length_pos_iff.2 hl
        rw [backH_eq ho hl, decide_eq_false (by omega : ¬ (h.2.1.length : Int) = 0), Nat.ble_eq_true_of_le hs.1, Nat.ble_eq_true_of_le hs.2, show Nat.blt 0 h.2.1.length = true by rw [Nat.blt_eq]; exact hp]; rfl)
noncomputable def c_spec_HistBack : Con := conT [TH] fun (h : Hist) => (some (smallH h), histR (backH h))
theorem k_spec_HistBack : ConOk Tryd.prog 40 c_spec_HistBack := conT_ok Tryd.call40 fun h hh hqq => s_spec_HistBack h hh (pre_of hqq)
noncomputable def Γ42 : List (Nat × Con) := (40, c_spec_HistBack) :: Γ41
theorem Γ42ok : EnvOk Tryd.prog (look Γ42) := .cons k_spec_HistBack Γ41ok

theorem y_impl_HistBack (h : Hist) : evFn (cxOf Γ42 Tryd.f33.ntmps [] [] [] []) Tryd.f33 true [ofD TH h] [] =
  branch (!okHist h) (some ((histR (nilH, false), []) : Fin)) (need (smallH h) (branch (decide (W64 ((h.2.1.length : Int) - 1) < 0)) (some (histR (h, false), [])) (need (inb (W64 ((h.2.1.length : Int) - 1)) h.2.1.length) (need (inr 0 (W64 ((h.2.1.length : Int) - 1)) h.2.1.length) (need (fits (h.2.2.length + 1) 32)
    (some (histR (((EdDo h.1 (h.2.1.getD (W64 ((h.2.1.length : Int) - 1)).toNat e0)).1, h.2.1.take (W64 ((h.2.1.length : Int) - 1)).toNat, h.2.2 ++ [(EdBack h.1 (h.2.1.getD (W64 ((h.2.1.length : Int) - 1)).toNat e0)).1]), true), []))))))) := by kernel_rfl
theorem s_impl_HistBack (h : Hist) (_hh : Fit TH h) (hpre : (smallH h) = true) : Sat Tryd.prog 33 [ofD TH h] [] (histR (backH h)) [] :=
  fn_sound (cx := cxOf Γ42 Tryd.f33.ntmps [] [] [] []) Tryd.func33 rfl ttOk Γ42ok mixed (fun c hc => LoopsOk.nil (by cases hc; kernel_rfl)) (ro := true) (by
    have hs := smallH_iff.1 hpre
    rw [y_impl_HistBack, hpre]
    cases ho : okHist h
    · rw [backH_bad ho]; rfl
    · by_cases hl : h.2.1 = []
      · rw [backH_none ho hl, hl]; rfl
      · obtain ⟨e1, e2, e3, e4, e5⟩ := last_get hl hs.1
        rw [backH_eq ho hl, e1, e2, e4, e5, decide_eq_false (by omega : ¬ (h.2.1.length : Int) - 1 < 0), inb_ok (by omega) (by omega), show inr 0 ((h.2.1.length : Int) - 1) h.2.1.length = true from decide_eq_true ⟨by omega, by omega, by omega⟩, show fits (h.2.2.length + 1) 32 = true from decide_eq_true (by omega)]
        rfl)
noncomputable def c_impl_HistBack : Con := conT [TH] fun (h : Hist) => (some (smallH h), histR (backH h))
theorem k_impl_HistBack : ConOk Tryd.prog 33 c_impl_HistBack := conT_ok Tryd.call33 fun h hh hqq => s_impl_HistBack h hh (pre_of hqq)
noncomputable def Γ43 : List (Nat × Con) := (33, c_impl_HistBack) :: Γ42
theorem Γ43ok : EnvOk Tryd.prog (look Γ43) := .cons k_impl_HistBack Γ42ok

theorem y_spec_HistAgain (h : Hist) : evFn (cxOf Γ43 Tryd.f41.ntmps [] [] [] []) Tryd.f41 true [ofD TH h] [] =
  branch (!okHist h) (some ((histR (nilH, false), []) : Fin)) (branch (decide ((h.2.2.length : Int) = 0)) (need (smallH h) (some (histR (h, false), []))) (need (Nat.ble h.2.2.length 1048576 && (Nat.ble h.2.1.length 1048576 && Nat.blt 0 h.2.2.length)) (some (histR (((EdDo h.1 (h.2.2.getLast?.getD e0)).1, h.2.1 ++ [(EdBack h.1 (h.2.2.getLast?.getD e0)).1], h.2.2.dropLast), true), [])))) := by kernel_rfl
theorem s_spec_HistAgain (h : Hist) (_hh : Fit TH h) (hpre : (smallH h) = true) : Sat Tryd.prog 41 [ofD TH h] [] (histR (againH h)) [] :=
  fn_sound (cx := cxOf Γ43 Tryd.f41.ntmps [] [] [] []) Tryd.func41 rfl ttOk Γ43ok mixed (fun c hc => LoopsOk.nil (by cases hc; kernel_rfl)) (ro := true) (by
    have hs := smallH_iff.1 hpre
    rw [y_spec_HistAgain, hpre]
    cases ho : okHist h
    · rw [again_bad ho]; rfl
    · have ho' : okHist (swapH h) = true := by rw [swap_ok]; exact ho
      by_cases hl : h.2.2 = []
      · have : againH h = (h, false) := by unfold againH; rw [backH_none ho' hl]; rfl
        rw [this, hl]; rfl
      · have hp : 0 < h.2.2.length := List.length_pos_iff.2 hl
        have : againH h = (((EdDo h.1 (h.2.2.getLast?.getD e0)).1, h.2.1 ++ [(EdBack h.1 (h.2.2.getLast?.getD e0)).1], h.2.2.dropLast), true) := by unfold againH; rw [backH_eq ho' hl]; rfl
        rw [this, decide_eq_false (by omega : ¬ (h.2.2.length : Int) = 0), Nat.ble_eq_true_of_le hs.1, Nat.ble_eq_true_of_le hs.2, show Nat.blt 0 h.2.2.length = true by rw [Nat.blt_eq]; exact hp]; rfl)
noncomputable def c_spec_HistAgain : Con := conT [TH] fun (h : Hist) => (some (smallH h), histR (againH h))
theorem k_spec_HistAgain : ConOk Tryd.prog 41 c_spec_HistAgain := conT_ok Tryd.call41 fun h hh hqq => s_spec_HistAgain h hh (pre_of hqq)
noncomputable def Γ44 : List (Nat × Con) := (41, c_spec_HistAgain) :: Γ43
theorem Γ44ok : EnvOk Tryd.prog (look Γ44) := .cons k_spec_HistAgain Γ43ok

theorem s_impl_HistAgain (h : Hist) (_hh : Fit TH h) (hpre : (smallH h) = true) : Sat Tryd.prog 34 [ofD TH h] [] (histR (againH h)) [] :=
  fn_sound (cx := cxOf Γ44 Tryd.f34.ntmps [] [] [] []) Tryd.func34 rfl ttOk Γ44ok mixed (fun c hc => LoopsOk.nil (by cases hc; kernel_rfl)) (ro := true) (by
    have y : evFn (cxOf Γ44 Tryd.f34.ntmps [] [] [] []) Tryd.f34 true [ofD TH h] [] = need (smallH (swapH h)) (some (histR (againH h), [])) := by kernel_rfl
    rw [y, swap_small, hpre]; rfl)
noncomputable def c_impl_HistAgain : Con := conT [TH] fun (h : Hist) => (some (smallH h), histR (againH h))
theorem k_impl_HistAgain : ConOk Tryd.prog 34 c_impl_HistAgain := conT_ok Tryd.call34 fun h hh hqq => s_impl_HistAgain h hh (pre_of hqq)
noncomputable def Γ45 : List (Nat × Con) := (34, c_impl_HistAgain) :: Γ44
theorem Γ45ok : EnvOk Tryd.prog (look Γ45) := .cons k_impl_HistAgain Γ44ok

theorem s_spec_HistFirst (h : Hist) (_hh : Fit TH h) : Sat Tryd.prog 27 [ofD TH h] [] (.d (ofD .str (firstH h))) [] :=
  fn_sound (cx := cxOf Γ45 Tryd.f27.ntmps [] [] [] []) Tryd.func27 rfl ttOk Γ45ok mixed (fun c hc => LoopsOk.nil (by cases hc; kernel_rfl)) (ro := true) (by
    have y : evFn (cxOf Γ45 Tryd.f27.ntmps [] [] [] []) Tryd.f27 true [ofD TH h] [] = branch (!okHist h) (some (vS [], [])) (some (vS (play h.1 h.2.1).1, [])) := by kernel_rfl
    rw [y]; unfold firstH
    cases okHist h <;> rfl)
noncomputable def c_spec_HistFirst : Con := conT [TH] fun (h : Hist) => (none, .d (ofD .str (firstH h)))
theorem k_spec_HistFirst : ConOk Tryd.prog 27 c_spec_HistFirst := conT_ok Tryd.call27 fun h hh _ => s_spec_HistFirst h hh
noncomputable def Γ46 : List (Nat × Con) := (27, c_spec_HistFirst) :: Γ45
theorem Γ46ok : EnvOk Tryd.prog (look Γ46) := .cons k_spec_HistFirst Γ45ok

theorem s_impl_HistFirst (h : Hist) (_hh : Fit TH h) : Sat Tryd.prog 28 [ofD TH h] [] (.d (ofD .str (firstH h))) [] :=
  fn_sound (cx := cxOf Γ46 Tryd.f28.ntmps [] [] [] []) Tryd.func28 rfl ttOk Γ46ok mixed (fun c hc => LoopsOk.nil (by cases hc; kernel_rfl)) (ro := true) (by
    have y : evFn (cxOf Γ46 Tryd.f28.ntmps [] [] [] []) Tryd.f28 true [ofD TH h] [] = branch (!okHist h) (some (vS [], [])) (some (vS (play h.1 h.2.1).1, [])) := by kernel_rfl
    rw [y]; unfold firstH
    cases okHist h <;> rfl)
noncomputable def c_impl_HistFirst : Con := conT [TH] fun (h : Hist) => (none, .d (ofD .str (firstH h)))
theorem k_impl_HistFirst : ConOk Tryd.prog 28 c_impl_HistFirst := conT_ok Tryd.call28 fun h hh _ => s_impl_HistFirst h hh
noncomputable def Γ47 : List (Nat × Con) := (28, c_impl_HistFirst) :: Γ46
theorem Γ47ok : EnvOk Tryd.prog (look Γ47) := .cons k_impl_HistFirst Γ46ok

theorem s_spec_HistLast (h : Hist) (_hh : Fit TH h) : Sat Tryd.prog 29 [ofD TH h] [] (.d (ofD .str (lastH h))) [] :=
  fn_sound (cx := cxOf Γ47 Tryd.f29.ntmps [] [] [] []) Tryd.func29 rfl ttOk Γ47ok mixed (fun c hc => LoopsOk.nil (by cases hc; kernel_rfl)) (ro := true) (by
    have y : evFn (cxOf Γ47 Tryd.f29.ntmps [] [] [] []) Tryd.f29 true [ofD TH h] [] = branch (!okHist h) (some (vS [], [])) (some (vS (play h.1 h.2.2).1, [])) := by kernel_rfl
    rw [y]; unfold lastH
    cases okHist h <;> rfl)
noncomputable def c_spec_HistLast : Con := conT [TH] fun (h : Hist) => (none, .d (ofD .str (lastH h)))
theorem k_spec_HistLast : ConOk Tryd.prog 29 c_spec_HistLast := conT_ok Tryd.call29 fun h hh _ => s_spec_HistLast h hh
noncomputable def Γ48 : List (Nat × Con) := (29, c_spec_HistLast) :: Γ47
theorem Γ48ok : EnvOk Tryd.prog (look Γ48) := .cons k_spec_HistLast Γ47ok

theorem s_impl_HistLast (h : Hist) (_hh : Fit TH h) : Sat Tryd.prog 30 [ofD TH h] [] (.d (ofD .str (lastH h))) [] :=
  fn_sound (cx := cxOf Γ48 Tryd.f30.ntmps [] [] [] []) Tryd.func30 rfl ttOk Γ48ok mixed (fun c hc => LoopsOk.nil (by cases hc; kernel_rfl)) (ro := true) (by
    have y : evFn (cxOf Γ48 Tryd.f30.ntmps [] [] [] []) Tryd.f30 true [ofD TH h] [] = branch (!okHist h) (some (vS [], [])) (some (vS (play h.1 h.2.2).1, [])) := by kernel_rfl
    rw [y]; unfold lastH
    cases okHist h <;> rfl)
noncomputable def c_impl_HistLast : Con := conT [TH] fun (h : Hist) => (none, .d (ofD .str (lastH h)))
theorem k_impl_HistLast : ConOk Tryd.prog 30 c_impl_HistLast := conT_ok Tryd.call30 fun h hh _ => s_impl_HistLast h hh
noncomputable def Γ49 : List (Nat × Con) := (30, c_impl_HistLast) :: Γ48
theorem Γ49ok : EnvOk Tryd.prog (look Γ49) := .cons k_impl_HistLast Γ48ok

end Go.Proofs.YtnbkolhmacikaaaDoor.Ev
