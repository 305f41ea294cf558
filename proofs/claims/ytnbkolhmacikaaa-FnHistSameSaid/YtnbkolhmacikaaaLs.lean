/-
  Histories: what the functions compute.
-/
import Derived.Test.YtnbkolhmacikaaaLr
namespace Go.Proofs.Ytnbkolhmacikaaa.Ev
open Go
abbrev TUP (a b : Ty) (x : Den a × Den b) : T := .tup [ofD a x.1, ofD b x.2]
theorem fits_small {n : Nat} (h : n ≤ 4194304) : fits (0 + n) 32 = true := decide_eq_true (by omega)
theorem both_same (x : Option Fin) : both x x = x := by unfold both; rw [if_pos rfl]
theorem y_spec_HistNew (s : Str) : evFn (cxOf Γ21 Try.f25.ntmps [] [] [] []) Try.f25 true [ofD .str s] [] = branch (!longOk s) (some (.d (ofD TH ([], [], [])), [])) (some (.d (ofD TH (s, [], [])), [])) := by kernel_rfl
theorem s_spec_HistNew (s : Str) (_hs : Fit .str s) : Sat Try.prog 25 [ofD .str s] [] (.d (ofD TH (newH s))) [] :=
  fn_sound (cx := cxOf Γ21 Try.f25.ntmps [] [] [] []) Try.func25 rfl ttOk Γ21ok mixed (fun c hc => LoopsOk.nil (by cases hc; kernel_rfl)) (ro := true) (by
    rw [y_spec_HistNew]; unfold newH
    cases longOk s <;> rfl)
noncomputable def c_spec_HistNew : Con := conT [.str] fun (s : Str) => (none, .d (ofD TH (newH s)))
theorem k_spec_HistNew : ConOk Try.prog 25 c_spec_HistNew := conT_ok Try.call25 fun s hs _ => s_spec_HistNew s hs
noncomputable def Γ22 : List (Nat × Con) := (25, c_spec_HistNew) :: Γ21
theorem Γ22ok : EnvOk Try.prog (look Γ22) := .cons k_spec_HistNew Γ21ok

theorem y_spec_HistOk (h : Hist) : evFn (cxOf Γ22 Try.f30.ntmps [] [] [] []) Try.f30 true [ofD TH h] [] = some (vB (bif (bif (bif longOk h.1 then lenH h else false) then (play h.1 h.2.1).2 else false) then (play h.1 h.2.2).2 else false), []) := by kernel_rfl
theorem s_spec_HistOk (h : Hist) (_hh : Fit TH h) : Sat Try.prog 30 [ofD TH h] [] (.d (ofD .bool (okHist h))) [] :=
  fn_sound (cx := cxOf Γ22 Try.f30.ntmps [] [] [] []) Try.func30 rfl ttOk Γ22ok mixed (fun c hc => LoopsOk.nil (by cases hc; kernel_rfl)) (ro := true) (by
    rw [y_spec_HistOk]; unfold okHist
    cases longOk h.1 <;> cases lenH h <;> cases (play h.1 h.2.1).2 <;> cases (play h.1 h.2.2).2 <;> rfl)
noncomputable def c_spec_HistOk : Con := conT [TH] fun (h : Hist) => (none, .d (ofD .bool (okHist h)))
theorem k_spec_HistOk : ConOk Try.prog 30 c_spec_HistOk := conT_ok Try.call30 fun h hh _ => s_spec_HistOk h hh
noncomputable def Γ23 : List (Nat × Con) := (30, c_spec_HistOk) :: Γ22
theorem Γ23ok : EnvOk Try.prog (look Γ23) := .cons k_spec_HistOk Γ22ok

abbrev ownH (h : Hist) : D := .agg [.r (.v (.string (mk h.1))), .own 1000, .own 1001]
abbrev memH (h : Hist) : Heap := [(1000, some (.lis 36 TE h.2.1)), (1001, some (.lis 36 TE h.2.2))]
theorem y_spec_l14Copy (h : Hist) : evFn (cxOf Γ23 Try.f32.ntmps [] [] [] []) Try.f32 false [ofD TH h] [] = need (fits (0 + h.2.1.length) 32) (need (fits (0 + h.2.2.length) 32) (some (.d (ownH h), memH h))) := by kernel_rfl
theorem s_spec_l14Copy (h : Hist) (_hh : Fit TH h) (hpre : (smallH h) = true) : Sat Try.prog 32 [ofD TH h] [] (.d (ownH h)) (memH h) :=
  fn_sound (cx := cxOf Γ23 Try.f32.ntmps [] [] [] []) Try.func32 rfl ttOk Γ23ok mixed (fun c hc => LoopsOk.nil (by cases hc; kernel_rfl)) (ro := false) (by
    have hs := smallH_iff.1 hpre
    rw [y_spec_l14Copy, fits_small (by omega), fits_small (by omega)]; rfl)
noncomputable def c_spec_l14Copy : Con := conN [TH] fun (h : Hist) => (some (smallH h), .d (ownH h), memH h)
theorem k_spec_l14Copy : ConOk Try.prog 32 c_spec_l14Copy := conN_ok Try.call32 fun h hh hqq => s_spec_l14Copy h hh (pre_of hqq)
noncomputable def Γ24 : List (Nat × Con) := (32, c_spec_l14Copy) :: Γ23
theorem Γ24ok : EnvOk Try.prog (look Γ24) := .cons k_spec_l14Copy Γ23ok

abbrev histR (x : Hist × Bool) : T := .tup [ofD TH x.1, ofD .bool x.2]
abbrev nilH : Hist := ([], [], [])
theorem lenH_le {h : Hist} (hs : smallH h = true) (ho : okHist h = true) : h.2.1.length + h.2.2.length ≤ 10 := (lenH_iff hs).1 (okHist_iff.1 ho).2.1
theorem do_tree {h : Hist} {e : Edit} (_hs : smallH h = true) {f1 f2 : Bool} (c : Bool) (hc : okHist h = true → c = (!((EdDo h.1 e).2 && decide ((h.2.1.length : Int) < 10)))) (h1 : okHist h = true → f1 = true) (h2 : okHist h = true → f2 = true) :
  branch (!okHist h) (some ((histR (nilH, false), []) : Fin)) (branch c (some (histR (h, false), [])) (need f1 (need f2 (some (histR (((EdDo h.1 e).1, h.2.1 ++ [(EdBack h.1 e).1], []), true), []))))) = some (histR (doH h e), []) := by
  unfold doH
  cases ho : okHist h
  · rfl
  · rw [hc ho, h1 ho, h2 ho]
    cases (EdDo h.1 e).2 && decide ((h.2.1.length : Int) < 10) <;> rfl
theorem y_spec_HistDo (h : Hist) (e : Edit) : evFn (cxOf Γ24 Try.f19.ntmps [] [] [] []) Try.f19 true [ofD TH h, ofD TE e] [] =
  branch (!okHist h) (some ((histR (nilH, false), []) : Fin)) (branch (bif !(EdDo h.1 e).2 then true else decide (10 ≤ (h.2.1.length : Int))) (need (smallH h) (some (histR (h, false), []))) (need (fits (0 + h.2.1.length) 32) (need (fits (h.2.1.length + 1) 32) (some (histR (((EdDo h.1 e).1, h.2.1 ++ [(EdBack h.1 e).1], []), true), []))))) := by kernel_rfl
theorem s_spec_HistDo (h : Hist) (_hh : Fit TH h) (e : Edit) (_he : Fit TE e) (hpre : (smallH h) = true) : Sat Try.prog 19 [ofD TH h, ofD TE e] [] (histR (doH h e)) [] :=
  fn_sound (cx := cxOf Γ24 Try.f19.ntmps [] [] [] []) Try.func19 rfl ttOk Γ24ok mixed (fun c hc => LoopsOk.nil (by cases hc; kernel_rfl)) (ro := true) (by
    rw [y_spec_HistDo, hpre]
    refine do_tree hpre _ (fun ho => ?_) (fun ho => fits_small (by have := lenH_le hpre ho; omega)) (fun ho => by have := lenH_le hpre ho; exact decide_eq_true (by omega))
    have : decide (10 ≤ (h.2.1.length : Int)) = !decide ((h.2.1.length : Int) < 10) := by
      by_cases g : (h.2.1.length : Int) < 10
      · rw [decide_eq_true g, decide_eq_false (by omega)]; rfl
      · rw [decide_eq_false g, decide_eq_true (by omega)]; rfl
    rw [this]
    cases (EdDo h.1 e).2 <;> cases decide ((h.2.1.length : Int) < 10) <;> rfl)
noncomputable def c_spec_HistDo : Con := conT [TH, TE] fun (h : Hist) (e : Edit) => (some (smallH h), histR (doH h e))
theorem k_spec_HistDo : ConOk Try.prog 19 c_spec_HistDo := conT_ok Try.call19 fun h hh e he hqq => s_spec_HistDo h hh e he (pre_of hqq)
noncomputable def Γ25 : List (Nat × Con) := (19, c_spec_HistDo) :: Γ24
theorem Γ25ok : EnvOk Try.prog (look Γ25) := .cons k_spec_HistDo Γ24ok

def stepR (s : Str) (l m : List Edit) : T := .tup [ofD .str (EdDo s (l.getLast?.getD e0)).1, ofD TL l.dropLast, ofD TL (m ++ [(EdBack s (l.getLast?.getD e0)).1])]
theorem y_spec_l14Step (s : Str) (l m : List Edit) : evFn (cxOf Γ25 Try.f36.ntmps [] [] [] []) Try.f36 true [ofD .str s, ofD TL l, ofD TL m] [] =
  need (inb (W64 ((l.length : Int) - 1)) l.length) (need (inb (W64 ((l.length : Int) - 1)) l.length) (need (inr 0 (W64 ((l.length : Int) - 1)) l.length) (need (fits (0 + (l.take (W64 ((l.length : Int) - 1)).toNat).length) 32) (need (fits (0 + m.length) 32) (need (fits (m.length + 1) 32)
   (some (.tup [ofD .str (EdDo s (l.getD (W64 ((l.length : Int) - 1)).toNat e0)).1, ofD TL (l.take (W64 ((l.length : Int) - 1)).toNat), ofD TL (m ++ [(EdBack s (l.getD (W64 ((l.length : Int) - 1)).toNat e0)).1])], []))))))) := by kernel_rfl
theorem last_get {l : List Edit} (hl : l ≠ []) (hn : l.length ≤ 1048576) : W64 ((l.length : Int) - 1) = (l.length : Int) - 1 ∧ ((l.length : Int) - 1).toNat = l.length - 1 ∧ 0 < l.length ∧ l.getD (l.length - 1) e0 = l.getLast?.getD e0 ∧ l.take (l.length - 1) = l.dropLast := by
  have hp : 0 < l.length := List.length_pos_iff.2 hl
  refine ⟨wrap_small (by omega) (by omega), by omega, hp, ?_, List.dropLast_eq_take.symm⟩
  rw [List.getLast?_eq_getElem?, List.getD_eq_getElem?_getD]
theorem s_spec_l14Step (s : Str) (_hs : Fit .str s) (l : List Edit) (_hl : Fit TL l) (m : List Edit) (_hm : Fit TL m) (hpre : (Nat.ble (List.length l) 1048576 && (Nat.ble (List.length m) 1048576 && Nat.blt 0 (List.length l))) = true) : Sat Try.prog 36 [ofD .str s, ofD TL l, ofD TL m] [] (stepR s l m) [] :=
  fn_sound (cx := cxOf Γ25 Try.f36.ntmps [] [] [] []) Try.func36 rfl ttOk Γ25ok mixed (fun c hc => LoopsOk.nil (by cases hc; kernel_rfl)) (ro := true) (by
    simp only [Bool.and_eq_true, Nat.ble_eq, Nat.blt_eq] at hpre
    obtain ⟨p1, p2, p3⟩ := hpre
    obtain ⟨e1, e2, e3, e4, e5⟩ := last_get (List.length_pos_iff.1 p3) p1
    have l1 : (l.take (l.length - 1)).length ≤ 1048576 := by rw [List.length_take]; omega
    have p4 : 0 < l.length := p3
    unfold stepR
    rw [y_spec_l14Step, e1, e2, e4, ← e5, inb_ok (by omega) (by omega), show inr 0 ((l.length : Int) - 1) l.length = true from decide_eq_true ⟨by omega, by omega, by omega⟩, fits_small (by omega), fits_small (by omega), show fits (m.length + 1) 32 = true from decide_eq_true (by omega)]
    rfl)
noncomputable def c_spec_l14Step : Con := conT [.str, TL, TL] fun (s : Str) (l : List Edit) (m : List Edit) => (some (Nat.ble (List.length l) 1048576 && (Nat.ble (List.length m) 1048576 && Nat.blt 0 (List.length l))), stepR s l m)
theorem k_spec_l14Step : ConOk Try.prog 36 c_spec_l14Step := conT_ok Try.call36 fun s hs l hl m hm hqq => s_spec_l14Step s hs l hl m hm (pre_of hqq)
noncomputable def Γ26 : List (Nat × Con) := (36, c_spec_l14Step) :: Γ25
theorem Γ26ok : EnvOk Try.prog (look Γ26) := .cons k_spec_l14Step Γ25ok

theorem backH_eq {h : Hist} (ho : okHist h = true) (hl : h.2.1 ≠ []) : backH h = (((EdDo h.1 (h.2.1.getLast?.getD e0)).1, h.2.1.dropLast, h.2.2 ++ [(EdBack h.1 (h.2.1.getLast?.getD e0)).1]), true) := by
  rcases backH_cases ho with ⟨h1, _⟩ | ⟨l, e, h1, h2⟩
  · exact absurd h1 hl
  · rw [h2, h1]; simp
theorem backH_none {h : Hist} (ho : okHist h = true) (hl : h.2.1 = []) : backH h = (h, false) := by
  rcases backH_cases ho with ⟨_, h2⟩ | ⟨l, e, h1, h2⟩
  · exact h2
  · rw [hl] at h1; exact absurd h1.symm (by simp)
theorem y_spec_HistBack (h : Hist) : evFn (cxOf Γ26 Try.f28.ntmps [] [] [] []) Try.f28 true [ofD TH h] [] =
  branch (!okHist h) (some ((histR (nilH, false), []) : Fin)) (branch (decide ((h.2.1.length : Int) = 0)) (need (smallH h) (some (histR (h, false), []))) (need (Nat.ble h.2.1.length 1048576 && (Nat.ble h.2.2.length 1048576 && Nat.blt 0 h.2.1.length)) (some (histR (((EdDo h.1 (h.2.1.getLast?.getD e0)).1, h.2.1.dropLast, h.2.2 ++ [(EdBack h.1 (h.2.1.getLast?.getD e0)).1]), true), [])))) := by kernel_rfl
theorem s_spec_HistBack (h : Hist) (_hh : Fit TH h) (hpre : (smallH h) = true) : Sat Try.prog 28 [ofD TH h] [] (histR (backH h)) [] :=
  fn_sound (cx := cxOf Γ26 Try.f28.ntmps [] [] [] []) Try.func28 rfl ttOk Γ26ok mixed (fun c hc => LoopsOk.nil (by cases hc; kernel_rfl)) (ro := true) (by
    have hs := smallH_iff.1 hpre
    rw [y_spec_HistBack, hpre]
    cases ho : okHist h
    · rw [backH_bad ho]; rfl
    · by_cases hl : h.2.1 = []
      · rw [backH_none ho hl, hl]; rfl
      · have hp : 0 < h.2.1.length := List.length_pos_iff.2 hl
        rw [backH_eq ho hl, decide_eq_false (by omega : ¬ (h.2.1.length : Int) = 0), Nat.ble_eq_true_of_le hs.1, Nat.ble_eq_true_of_le hs.2, show Nat.blt 0 h.2.1.length = true by rw [Nat.blt_eq]; exact hp]; rfl)
noncomputable def c_spec_HistBack : Con := conT [TH] fun (h : Hist) => (some (smallH h), histR (backH h))
theorem k_spec_HistBack : ConOk Try.prog 28 c_spec_HistBack := conT_ok Try.call28 fun h hh hqq => s_spec_HistBack h hh (pre_of hqq)
noncomputable def Γ27 : List (Nat × Con) := (28, c_spec_HistBack) :: Γ26
theorem Γ27ok : EnvOk Try.prog (look Γ27) := .cons k_spec_HistBack Γ26ok

theorem y_spec_HistAgain (h : Hist) : evFn (cxOf Γ27 Try.f29.ntmps [] [] [] []) Try.f29 true [ofD TH h] [] =
  branch (!okHist h) (some ((histR (nilH, false), []) : Fin)) (branch (decide ((h.2.2.length : Int) = 0)) (need (smallH h) (some (histR (h, false), []))) (need (Nat.ble h.2.2.length 1048576 && (Nat.ble h.2.1.length 1048576 && Nat.blt 0 h.2.2.length)) (some (histR (((EdDo h.1 (h.2.2.getLast?.getD e0)).1, h.2.1 ++ [(EdBack h.1 (h.2.2.getLast?.getD e0)).1], h.2.2.dropLast), true), [])))) := by kernel_rfl
theorem s_spec_HistAgain (h : Hist) (_hh : Fit TH h) (hpre : (smallH h) = true) : Sat Try.prog 29 [ofD TH h] [] (histR (againH h)) [] :=
  fn_sound (cx := cxOf Γ27 Try.f29.ntmps [] [] [] []) Try.func29 rfl ttOk Γ27ok mixed (fun c hc => LoopsOk.nil (by cases hc; kernel_rfl)) (ro := true) (by
    have hs := smallH_iff.1 hpre
    rw [y_spec_HistAgain, hpre]
    cases ho : okHist h
    · rw [again_bad ho]; rfl
    · have ho' : okHist (swapH h) = true := by rw [swap_ok]; exact ho
      by_cases hl : h.2.2 = []
      · have : againH h = (h, false) := by unfold againH; rw [backH_none ho' hl]; rfl
        rw [this, hl]; rfl
      · have hp : 0 < h.2.2.length := List.length_pos_iff.2 hl
        have : againH h = (((EdDo h.1 (h.2.2.getLast?.getD e0)).1, h.2.1 ++ [(EdBack h.1 (h.2.2.getLast?.getD e0)).1], h.2.2.dropLast), true) := by unfold againH; rw [backH_eq ho' hl]; rfl
        rw [this, decide_eq_false (by omega : ¬ (h.2.2.length : Int) = 0), Nat.ble_eq_true_of_le hs.1, Nat.ble_eq_true_of_le hs.2, show Nat.blt 0 h.2.2.length = true by rw [Nat.blt_eq]; exact hp]; rfl)
noncomputable def c_spec_HistAgain : Con := conT [TH] fun (h : Hist) => (some (smallH h), histR (againH h))
theorem k_spec_HistAgain : ConOk Try.prog 29 c_spec_HistAgain := conT_ok Try.call29 fun h hh hqq => s_spec_HistAgain h hh (pre_of hqq)
noncomputable def Γ28 : List (Nat × Con) := (29, c_spec_HistAgain) :: Γ27
theorem Γ28ok : EnvOk Try.prog (look Γ28) := .cons k_spec_HistAgain Γ27ok

end Go.Proofs.Ytnbkolhmacikaaa.Ev
