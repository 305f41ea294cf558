/-
  Histories: sizes, copies, comparisons; the exact law.
-/
import Derived.Test.YtnbkolhmacikaaaDoorLc
namespace Go.Proofs.YtnbkolhmacikaaaDoor.Ev
open Go

def szH (h : Hist) (n : Int) : Int :=
  bif decide (IntKind.i64.wrap (n - (h.1.length : Int)) < 0) then -1 else
  bif decide (szL h.2.1 (IntKind.i64.wrap (n - (h.1.length : Int))) < 0) then -1 else
  bif decide (szL h.2.2 (szL h.2.1 (IntKind.i64.wrap (n - (h.1.length : Int)))) < 0) then -1 else szL h.2.2 (szL h.2.1 (IntKind.i64.wrap (n - (h.1.length : Int))))
noncomputable def cx_laws_szHist : Cx := cxOf Γ7 Tryd.f23.ntmps [] [] [] []
theorem y_laws_szHist (h : Hist) (n : Int) : evFn cx_laws_szHist Tryd.f23 true [ofD TH h, ofD TI64 n] [] =
    branch (decide (IntKind.i64.wrap (n - (h.1.length : Int)) < 0)) (some (.d (ofD TI64 (-1 : Int)), [])) (
    branch (decide (szL h.2.1 (IntKind.i64.wrap (n - (h.1.length : Int))) < 0)) (some (.d (ofD TI64 (-1 : Int)), [])) (
    branch (decide (szL h.2.2 (szL h.2.1 (IntKind.i64.wrap (n - (h.1.length : Int)))) < 0)) (some (.d (ofD TI64 (-1 : Int)), [])) (some (.d (ofD TI64 (szL h.2.2 (szL h.2.1 (IntKind.i64.wrap (n - (h.1.length : Int)))))), [])))) := by kernel_rfl
theorem s_laws_szHist (h : Hist) (n : Int) : Sat Tryd.prog 23 [ofD TH h, ofD TI64 n] [] (.d (ofD TI64 (szH h n))) [] :=
  fn_sound (cx := cx_laws_szHist) Tryd.func23 rfl ttOk Γ7ok mixed (fun c hc => LoopsOk.nil (by cases hc; kernel_rfl)) (ro := true) (by
    rw [y_laws_szHist]; unfold szH
    cases decide (IntKind.i64.wrap (n - (h.1.length : Int)) < 0) <;> cases decide (szL h.2.1 (IntKind.i64.wrap (n - (h.1.length : Int))) < 0) <;> cases decide (szL h.2.2 (szL h.2.1 (IntKind.i64.wrap (n - (h.1.length : Int)))) < 0) <;> rfl)
noncomputable def c_laws_szHist : Con := conT [TH, TI64] fun h n => (none, .d (ofD TI64 (szH h n)))
theorem k_laws_szHist : ConOk Tryd.prog 23 c_laws_szHist := conT_ok Tryd.call23 fun h _ n _ _ => s_laws_szHist h n

noncomputable def Γ8 : List (Nat × Con) := (23, c_laws_szHist) :: Γ7
theorem Γ8ok : EnvOk Tryd.prog (look Γ8) := .cons k_laws_szHist Γ7ok

def sameH (a b : Hist) : Bool := bif (bif decide (a.1 = b.1) then eqL a.2.1 b.2.1 else false) then eqL a.2.2 b.2.2 else false
theorem s_impl_HistSame (a b : Hist) : Sat Tryd.prog 32 [ofD TH a, ofD TH b] [] (.d (ofD .bool (sameH a b))) [] :=
  fn_sound (cx := cxOf Γ8 Tryd.f32.ntmps [] [] [] []) Tryd.func32 rfl ttOk Γ8ok mixed (fun c hc => LoopsOk.nil (by cases hc; kernel_rfl)) (ro := true) (by kernel_rfl)
noncomputable def c_impl_HistSame : Con := conT [TH, TH] fun a b => (none, .d (ofD .bool (sameH a b)))
theorem k_impl_HistSame : ConOk Tryd.prog 32 c_impl_HistSame := conT_ok Tryd.call32 fun a _ b _ _ => s_impl_HistSame a b

noncomputable def Γ9 : List (Nat × Con) := (32, c_impl_HistSame) :: Γ8
theorem Γ9ok : EnvOk Tryd.prog (look Γ9) := .cons k_impl_HistSame Γ8ok

def okH (h : Hist) : Bool := Nat.ble h.2.1.length 1048576 && Nat.ble h.2.2.length 1048576
theorem y_laws_toHist (h : Hist) : evFn (cxOf Γ9 Tryd.f25.ntmps [] [] [] []) Tryd.f25 true [ofD TH h] [] = need (Nat.ble h.2.1.length 1048576) (need (Nat.ble h.2.2.length 1048576) (some (.d (ofD TH h), []))) := by kernel_rfl
theorem s_laws_toHist (h : Hist) (hk : okH h = true) : Sat Tryd.prog 25 [ofD TH h] [] (.d (ofD TH h)) [] :=
  fn_sound (cx := cxOf Γ9 Tryd.f25.ntmps [] [] [] []) Tryd.func25 rfl ttOk Γ9ok mixed (fun c hc => LoopsOk.nil (by cases hc; kernel_rfl)) (ro := true) (by
    simp only [okH, Bool.and_eq_true] at hk
    rw [y_laws_toHist, hk.1, hk.2]; rfl)
noncomputable def c_laws_toHist : Con := conT [TH] fun h => (some (okH h), .d (ofD TH h))
theorem k_laws_toHist : ConOk Tryd.prog 25 c_laws_toHist := conT_ok Tryd.call25 fun h _ hc => s_laws_toHist h (by
  rcases hc with hc | hc
  · cases hc
  · exact Option.some.inj hc)

noncomputable def Γ10 : List (Nat × Con) := (25, c_laws_toHist) :: Γ9
theorem Γ10ok : EnvOk Tryd.prog (look Γ10) := .cons k_laws_toHist Γ9ok

def eqH (a b : Hist) : Bool := decide (a.1 = b.1) && (eqL a.2.1 b.2.1 && eqL a.2.2 b.2.2)
theorem y_laws_eqHist (a b : Hist) : evFn (cxOf Γ10 Tryd.f20.ntmps [] [] [] []) Tryd.f20 true [ofD TH a, ofD TH b] [] = branch (!decide (a.1 = b.1)) (some (.d (ofD .bool false), [])) (branch (!eqL a.2.1 b.2.1) (some (.d (ofD .bool false), [])) (branch (!eqL a.2.2 b.2.2) (some (.d (ofD .bool false), [])) (some (.d (ofD .bool true), [])))) := by kernel_rfl
theorem s_laws_eqHist (a b : Hist) : Sat Tryd.prog 20 [ofD TH a, ofD TH b] [] (.d (ofD .bool (eqH a b))) [] :=
  fn_sound (cx := cxOf Γ10 Tryd.f20.ntmps [] [] [] []) Tryd.func20 rfl ttOk Γ10ok mixed (fun c hc => LoopsOk.nil (by cases hc; kernel_rfl)) (ro := true) (by
    rw [y_laws_eqHist]; unfold eqH
    cases decide (a.1 = b.1) <;> cases eqL a.2.1 b.2.1 <;> cases eqL a.2.2 b.2.2 <;> rfl)
noncomputable def c_laws_eqHist : Con := conT [TH, TH] fun a b => (none, .d (ofD .bool (eqH a b)))
theorem k_laws_eqHist : ConOk Tryd.prog 20 c_laws_eqHist := conT_ok Tryd.call20 fun a _ b _ _ => s_laws_eqHist a b


noncomputable def Γ11 : List (Nat × Con) := (20, c_laws_eqHist) :: Γ10
theorem Γ11ok : EnvOk Tryd.prog (look Γ11) := .cons k_laws_eqHist Γ10ok

theorem szE_le {e : Edit} {n : Int} (he : Fit TE e) (h0 : 0 ≤ n) (h1 : n ≤ 1048576) : szE e n ≤ n := by
  have he : e.2.2.length ≤ 9223372036854775807 := he.2.2
  unfold szE
  rw [wrap_small (by omega) (by omega)]
  by_cases h : n - (e.2.2.length : Int) < 0
  · rw [decide_eq_true h]; show (-1 : Int) ≤ n; omega
  · rw [decide_eq_false h]; show n - (e.2.2.length : Int) ≤ n; omega

theorem szs_le : ∀ {l : List Edit} {n : Int}, (∀ e ∈ l, Fit TE e) → 0 ≤ n → n ≤ 1048576 → szs l n ≤ n
  | [], n, _, _, _ => Int.le_refl _
  | e :: l, n, hf, h0, h1 => by
    by_cases h : szE e n < 0
    · rw [szs_stop h]; omega
    · rw [szs_go h]
      have h2 := szE_le (hf e (List.mem_cons_self ..)) h0 h1
      have := szs_le (l := l) (fun x hx => hf x (List.mem_cons_of_mem _ hx)) (by omega : 0 ≤ szE e n) (by omega)
      omega

theorem szL_le {l : List Edit} {n : Int} (hl : Fit TL l) (h0 : 0 ≤ n) (h1 : n ≤ 1048576) (h : ¬ szL l n < 0) : l.length ≤ 1048576 ∧ szL l n ≤ n := by
  have hb : l.length ≤ 9223372036854775807 := hl.1
  unfold szL at h ⊢
  rw [wrap_small (by omega) (by omega)] at h ⊢
  by_cases hn : n - (l.length : Int) < 0
  · rw [decide_eq_true hn] at h; exact absurd (show (-1 : Int) < 0 by omega) h
  · rw [decide_eq_false hn]
    have := szs_le (l := l) (n := n - (l.length : Int)) (fun e he => hl.2 e he) (by omega) (by omega)
    refine ⟨by omega, ?_⟩
    show szs l (n - (l.length : Int)) ≤ n
    omega

theorem szH_ok {h : Hist} {n : Int} (hf : Fit TH h) (h0 : 0 ≤ n) (h1 : n ≤ 1048576) (hs : ¬ szH h n < 0) : okH h = true ∧ szH h n ≤ 1048576 := by
  have hb : h.1.length ≤ 9223372036854775807 := hf.1
  have f1 : Fit TL h.2.1 := hf.2.1
  have f2 : Fit TL h.2.2 := hf.2.2
  unfold szH at hs ⊢
  rw [wrap_small (by omega) (by omega)] at hs ⊢
  by_cases g1 : n - (h.1.length : Int) < 0
  · rw [decide_eq_true g1] at hs; exact absurd (show (-1 : Int) < 0 by omega) hs
  · rw [decide_eq_false g1, cond_false] at hs ⊢
    by_cases g2 : szL h.2.1 (n - (h.1.length : Int)) < 0
    · rw [decide_eq_true g2] at hs; exact absurd (show (-1 : Int) < 0 by omega) hs
    · rw [decide_eq_false g2, cond_false] at hs ⊢
      by_cases g_laws_FnExactHistSame : szL h.2.2 (szL h.2.1 (n - (h.1.length : Int))) < 0
      · rw [decide_eq_true g_laws_FnExactHistSame] at hs; exact absurd (show (-1 : Int) < 0 by omega) hs
      · rw [decide_eq_false g_laws_FnExactHistSame, cond_false]
        obtain ⟨q1, q2⟩ := szL_le f1 (by omega) (by omega) g2
        obtain ⟨q3, q4⟩ := szL_le f2 (by omega) (by omega) g_laws_FnExactHistSame
        refine ⟨?_, by omega⟩
        simp only [okH, Bool.and_eq_true, Nat.ble_eq]
        exact ⟨q1, q3⟩

theorem eqH_self (a : Hist) : eqH a a = true := by simp [eqH, eqL_self]

end Go.Proofs.YtnbkolhmacikaaaDoor.Ev
