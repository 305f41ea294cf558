/-
  Lists of edits: library's Equal, sizes, copies.
-/
import Derived.Test.YtnbkolhmacikaaaDoorLb
namespace Go.Proofs.YtnbkolhmacikaaaDoor.Ev
open Go

def g_slices_Equal_impl_Edit_impl_Edit (st : St) (K : Cont) : Option Fin := match st with
  | ⟨[(0, x0), (1, x1), (12, x2), (13, x_laws_szHist)], []⟩ => match exL TE x0, exL TE x1, exI .i64 x2, exI .i64 x_laws_szHist with
    | some l, some m, some n, some i => need (decide (0 ≤ i) && (decide (n = (l.length : Int)) && (Nat.ble l.length 9223372036854775807 && Nat.beq l.length m.length)))
        (branch (eqL (l.drop i.toNat) (m.drop i.toNat)) (K (.exit 0) ⟨[], []⟩) (K .ret ⟨[(4, vB false)], []⟩))
    | _, _, _, _ => none
  | _ => none
noncomputable def cx_slices_Equal_impl_Edit_impl_Edit : Cx := cxOf Γ4 Tryd.f54.ntmps [(4, [0, 1, 12, 13])] [(0, []), (1, [0, 1, 12, 13]), (1000000, [4])] [] [(4, g_slices_Equal_impl_Edit_impl_Edit)]
theorem x_slices_Equal_impl_Edit_impl_Edit (l m : List Edit) (n i : Int) (R : St → Option Fin) (K : Cont) : evC cx_slices_Equal_impl_Edit_impl_Edit (loopOf Tryd.f54 0) ⟨[(0, vL TE l), (1, vL TE m), (12, vI n), (13, vI i)], []⟩ (onward (headAt cx_slices_Equal_impl_Edit_impl_Edit 4) R K) =
      branch (decide (i < n)) (need (inb i l.length) (need (inb i m.length) (branch (!eqE (l.getD i.toNat e0) (m.getD i.toNat e0)) (K .ret ⟨[(4, vB false)], []⟩) (R ⟨[(0, vL TE l), (1, vL TE m), (12, vI n), (13, vI (IntKind.i64.wrap (i + 1)))], []⟩)))) (K (.exit 0) ⟨[], []⟩) := by kernel_rfl
theorem y_slices_Equal_impl_Edit_impl_Edit (l m : List Edit) : evFn cx_slices_Equal_impl_Edit_impl_Edit Tryd.f54 true [ofD TL l, ofD TL m] [] = branch (!decide ((l.length : Int) = (m.length : Int))) (some (.d (ofD .bool false), []))
    (need (true && (decide ((l.length : Int) = (l.length : Int)) && (Nat.ble l.length 9223372036854775807 && Nat.beq l.length m.length))) (branch (eqL l m) (some (.d (ofD .bool true), [])) (some (.d (ofD .bool false), [])))) := by kernel_rfl

theorem l_slices_Equal_impl_Edit_impl_Edit : ∀ st K r, g_slices_Equal_impl_Edit_impl_Edit st K = some r → ∃ N, iter (evC cx_slices_Equal_impl_Edit_impl_Edit (loopOf Tryd.f54 0)) (headAt cx_slices_Equal_impl_Edit_impl_Edit 4) N st K = some r := by
  have key : ∀ (K : Cont) (r : Fin) (n : Nat) (l m : List Edit) (i : Int), 0 ≤ i → l.length ≤ 9223372036854775807 → l.length = m.length → l.length - i.toNat < n →
      branch (eqL (l.drop i.toNat) (m.drop i.toNat)) (K (.exit 0) ⟨[], []⟩) (K .ret ⟨[(4, vB false)], []⟩) = some r → iter (evC cx_slices_Equal_impl_Edit_impl_Edit (loopOf Tryd.f54 0)) (headAt cx_slices_Equal_impl_Edit_impl_Edit 4) n ⟨[(0, vL TE l), (1, vL TE m), (12, vI l.length), (13, vI i)], []⟩ K = some r := by
    intro K r n
    induction n with
    | zero => intro l m i _ _ _ hn; omega
    | succ n ih =>
      intro l m i h0 hb hlm hn h
      rw [iter_succ, x_slices_Equal_impl_Edit_impl_Edit]
      by_cases hi : i < (l.length : Int)
      · have h1 : i.toNat < l.length := by omega
        have h2 : i.toNat < m.length := by omega
        rw [decide_eq_true hi, branch_true, inb_ok h0 hi, inb_ok h0 (by omega)]
        simp only [need, branch_true]
        rw [getD_at h1, getD_at h2]
        rw [List.drop_eq_getElem_cons h1, List.drop_eq_getElem_cons h2] at h
        simp only [eqL] at h
        cases he : eqE l[i.toNat] m[i.toNat]
        · rw [he] at h; exact h
        · rw [he, Bool.true_and] at h
          rw [Bool.not_true, branch_false, wrap_small (by omega) (by omega)]
          refine ih l m (i + 1) (by omega) hb hlm (by omega) ?_
          rw [show (i + 1).toNat = i.toNat + 1 by omega]
          exact h
      · rw [decide_eq_false hi, branch_false]
        rw [List.drop_eq_nil_of_le (by omega), List.drop_eq_nil_of_le (by omega)] at h
        exact h
  intro st K r h
  unfold g_slices_Equal_impl_Edit_impl_Edit at h
  split at h
  · split at h
    · rename_i l m n i h0 h1 h2 h5
      rw [exL_some h0, exL_some h1, exI_some h2, exI_some h5]
      rw [need_some] at h
      simp only [Bool.and_eq_true, decide_eq_true_eq, Nat.ble_eq] at h
      obtain ⟨⟨g1, g2, g_laws_FnExactHistSame, g4⟩, g_laws_szHist⟩ := h
      subst g2
      exact ⟨_, key K r _ l m i g1 g_laws_FnExactHistSame (Nat.eq_of_beq_eq_true g4) (Nat.lt_succ_self _) g_laws_szHist⟩
    · cases h
  · cases h

theorem s_slices_Equal_impl_Edit_impl_Edit (l m : List Edit) (hl : Fit TL l) : Sat Tryd.prog 54 [ofD TL l, ofD TL m] [] (.d (ofD .bool (eqL l m))) [] :=
  fn_sound (cx := cx_slices_Equal_impl_Edit_impl_Edit) Tryd.func54 rfl ttOk Γ4ok mixed (fun c hc => LoopsOk.one (b := loopOf Tryd.f54 0) (id := 4) (g := g_slices_Equal_impl_Edit_impl_Edit) (by cases hc; kernel_rfl) rfl l_slices_Equal_impl_Edit_impl_Edit) (ro := true) (by
    rw [y_slices_Equal_impl_Edit_impl_Edit, decide_eq_true (rfl : (l.length : Int) = (l.length : Int)), Bool.true_and]
    have := endEq (l := l) (m := m) hl.1
    rw [Bool.true_and] at this
    exact this)
noncomputable def c_slices_Equal_impl_Edit_impl_Edit : Con := conT [TL, TL] fun l m => (none, .d (ofD .bool (eqL l m)))
theorem k_slices_Equal_impl_Edit_impl_Edit : ConOk Tryd.prog 54 c_slices_Equal_impl_Edit_impl_Edit := conT_ok Tryd.call54 fun l hl m _ _ => s_slices_Equal_impl_Edit_impl_Edit l m hl

noncomputable def Γ5 : List (Nat × Con) := (54, c_slices_Equal_impl_Edit_impl_Edit) :: Γ4
theorem Γ5ok : EnvOk Tryd.prog (look Γ5) := .cons k_slices_Equal_impl_Edit_impl_Edit Γ4ok

def szs : List Edit → Int → Int
  | [], n => n
  | e :: l, n => bif decide (szE e n < 0) then -1 else szs l (szE e n)
def szL (l : List Edit) (n : Int) : Int := bif decide (IntKind.i64.wrap (n - (l.length : Int)) < 0) then -1 else szs l (IntKind.i64.wrap (n - (l.length : Int)))

def g_laws_szEditS (st : St) (K : Cont) : Option Fin := match st with
  | ⟨[(0, x0), (1, x1), (5, x_laws_szHist)], []⟩ => match exL TE x0, exI .i64 x1, exI .i64 x_laws_szHist with
    | some l, some n, some i => need (decide (0 ≤ i) && (decide (0 ≤ n) && Nat.ble l.length 9223372036854775807))
        (branch (decide (szs (l.drop i.toNat) n < 0)) (K .ret ⟨[(4, vI (-1))], []⟩) (K (.exit 0) ⟨[(1, vI (szs (l.drop i.toNat) n))], []⟩))
    | _, _, _ => none
  | _ => none
noncomputable def cx_laws_szEditS : Cx := cxOf Γ5 Tryd.f49.ntmps [(5, [0, 1, 5])] [(0, [1]), (1, [0, 1, 5]), (1000000, [4])] [] [(5, g_laws_szEditS)]
theorem x_laws_szEditS (l : List Edit) (n i : Int) (R : St → Option Fin) (K : Cont) : evC cx_laws_szEditS (loopOf Tryd.f49 0) ⟨[(0, vL TE l), (1, vI n), (5, vI i)], []⟩ (onward (headAt cx_laws_szEditS 5) R K) =
      branch (decide (i < (l.length : Int))) (need (inb i l.length) (branch (decide (szE (l.getD i.toNat e0) n < 0)) (K .ret ⟨[(4, vI (-1))], []⟩) (R ⟨[(0, vL TE l), (1, vI (szE (l.getD i.toNat e0) n)), (5, vI (IntKind.i64.wrap (i + 1)))], []⟩))) (K (.exit 0) ⟨[(1, vI n)], []⟩) := by kernel_rfl
theorem y_laws_szEditS (l : List Edit) (n : Int) : evFn cx_laws_szEditS Tryd.f49 true [ofD TL l, ofD TI64 n] [] = branch (decide (IntKind.i64.wrap (n - (l.length : Int)) < 0)) (some (.d (ofD TI64 (-1 : Int)), []))
    (need (true && (decide (0 ≤ IntKind.i64.wrap (n - (l.length : Int))) && Nat.ble l.length 9223372036854775807)) (branch (decide (szs l (IntKind.i64.wrap (n - (l.length : Int))) < 0)) (some (.d (ofD TI64 (-1 : Int)), [])) (some (.d (ofD TI64 (szs l (IntKind.i64.wrap (n - (l.length : Int))))), [])))) := by kernel_rfl

theorem szs_neg : ∀ {l : List Edit} {n : Int}, 0 ≤ n → szs l n < 0 → szs l n = -1
  | [], n, h0, h => by simp only [szs] at h; omega
  | e :: l, n, h0, h => by
    simp only [szs] at h ⊢
    by_cases h1 : szE e n < 0
    · rw [decide_eq_true h1]; rfl
    · rw [decide_eq_false h1] at h ⊢
      exact szs_neg (by omega) h

theorem szs_stop {e : Edit} {l : List Edit} {n : Int} (h : szE e n < 0) : szs (e :: l) n = -1 := by simp only [szs]; rw [decide_eq_true h]; rfl
theorem szs_go {e : Edit} {l : List Edit} {n : Int} (h : ¬ szE e n < 0) : szs (e :: l) n = szs l (szE e n) := by simp only [szs]; rw [decide_eq_false h]; rfl

theorem l_laws_szEditS : ∀ st K r, g_laws_szEditS st K = some r → ∃ N, iter (evC cx_laws_szEditS (loopOf Tryd.f49 0)) (headAt cx_laws_szEditS 5) N st K = some r := by
  have key : ∀ (K : Cont) (r : Fin) (N : Nat) (l : List Edit) (n i : Int), 0 ≤ i → 0 ≤ n → l.length ≤ 9223372036854775807 → l.length - i.toNat < N →
      branch (decide (szs (l.drop i.toNat) n < 0)) (K .ret ⟨[(4, vI (-1))], []⟩) (K (.exit 0) ⟨[(1, vI (szs (l.drop i.toNat) n))], []⟩) = some r → iter (evC cx_laws_szEditS (loopOf Tryd.f49 0)) (headAt cx_laws_szEditS 5) N ⟨[(0, vL TE l), (1, vI n), (5, vI i)], []⟩ K = some r := by
    intro K r N
    induction N with
    | zero => intro l n i _ _ _ hn; omega
    | succ N ih =>
      intro l n i h0 hn0 hb hn h
      rw [iter_succ, x_laws_szEditS]
      by_cases hi : i < (l.length : Int)
      · have h1 : i.toNat < l.length := by omega
        rw [decide_eq_true hi, branch_true, inb_ok h0 hi]
        simp only [need, branch_true]
        rw [getD_at h1]
        rw [List.drop_eq_getElem_cons h1] at h
        by_cases hs : szE l[i.toNat] n < 0
        · rw [szs_stop hs] at h; rw [decide_eq_true hs]; exact h
        · rw [szs_go hs] at h; rw [decide_eq_false hs]
          rw [branch_false, wrap_small (by omega) (by omega)]
          refine ih l (szE l[i.toNat] n) (i + 1) (by omega) (by omega) hb (by omega) ?_
          rw [show (i + 1).toNat = i.toNat + 1 by omega]
          exact h
      · rw [decide_eq_false hi, branch_false]
        rw [List.drop_eq_nil_of_le (by omega)] at h
        rw [decide_eq_false (show ¬ szs [] n < 0 by simp only [szs]; omega), branch_false] at h
        exact h
  intro st K r h
  unfold g_laws_szEditS at h
  split at h
  · split at h
    · rename_i l n i h0 h1 h5
      rw [exL_some h0, exI_some h1, exI_some h5]
      rw [need_some] at h
      simp only [Bool.and_eq_true, decide_eq_true_eq, Nat.ble_eq] at h
      exact ⟨_, key K r _ l n i h.1.1 h.1.2.1 h.1.2.2 (Nat.lt_succ_self _) h.2⟩
    · cases h
  · cases h

theorem s_laws_szEditS (l : List Edit) (n : Int) (hl : Fit TL l) : Sat Tryd.prog 49 [ofD TL l, ofD TI64 n] [] (.d (ofD TI64 (szL l n))) [] :=
  fn_sound (cx := cx_laws_szEditS) Tryd.func49 rfl ttOk Γ5ok mixed (fun c hc => LoopsOk.one (b := loopOf Tryd.f49 0) (id := 5) (g := g_laws_szEditS) (by cases hc; kernel_rfl) rfl l_laws_szEditS) (ro := true) (by
    rw [y_laws_szEditS]; unfold szL
    by_cases h1 : IntKind.i64.wrap (n - (l.length : Int)) < 0
    · rw [decide_eq_true h1]; rfl
    · rw [decide_eq_false h1, decide_eq_true (by omega : 0 ≤ IntKind.i64.wrap (n - (l.length : Int))), show Nat.ble l.length 9223372036854775807 = true by rw [Nat.ble_eq]; exact hl.1]
      simp only [branch_false, need, Bool.and_self, branch_true, cond_false]
      by_cases h2 : szs l (IntKind.i64.wrap (n - (l.length : Int))) < 0
      · rw [decide_eq_true h2, szs_neg (by omega) h2]; rfl
      · rw [decide_eq_false h2]; rfl)
noncomputable def c_laws_szEditS : Con := conT [TL, TI64] fun l n => (none, .d (ofD TI64 (szL l n)))
theorem k_laws_szEditS : ConOk Tryd.prog 49 c_laws_szEditS := conT_ok Tryd.call49 fun l hl n _ _ => s_laws_szEditS l n hl

noncomputable def Γ6 : List (Nat × Con) := (49, c_laws_szEditS) :: Γ5
theorem Γ6ok : EnvOk Tryd.prog (look Γ6) := .cons k_laws_szEditS Γ5ok

def g_laws_toEditS (st : St) (K : Cont) : Option Fin := match st with
  | ⟨[(0, x0), (3, .d (.one (.own 500000))), (4, x4)], [(500000, q)]⟩ => match exL TE x0, exO 46 TE q, exI .i64 x4 with
    | some l, some m, some i => need (decide (0 ≤ i) && (Nat.ble l.length 9223372036854775807 && Nat.beq l.length m.length))
        (K (.exit 0) ⟨[(3, .d (.one (.own 500000)))], [(500000, some (.lis 46 TE (m.take i.toNat ++ l.drop i.toNat)))]⟩)
    | _, _, _ => none
  | _ => none
noncomputable def cx_laws_toEditS : Cx := cxOf Γ6 Tryd.f51.ntmps [(3, [0, 3, 4])] [(0, [3]), (1, [0, 3, 4]), (1000000, [2])] [] [(3, g_laws_toEditS)]
theorem x_laws_toEditS (l m : List Edit) (i : Int) (R : St → Option Fin) (K : Cont) : evC cx_laws_toEditS (loopOf Tryd.f51 0) ⟨[(0, vL TE l), (3, .d (.one (.own 500000))), (4, vI i)], [(500000, some (.lis 46 TE m))]⟩ (onward (headAt cx_laws_toEditS 3) R K) =
      branch (decide (i < (l.length : Int))) (need (inb i l.length) (need (inb i m.length) (R ⟨[(0, vL TE l), (3, .d (.one (.own 500000))), (4, vI (IntKind.i64.wrap (i + 1)))], [(500000, some (.lis 46 TE (m.set i.toNat (l.getD i.toNat e0))))]⟩))) (K (.exit 0) ⟨[(3, .d (.one (.own 500000)))], [(500000, some (.lis 46 TE m))]⟩) := by kernel_rfl
theorem y_laws_toEditS (l : List Edit) : evFn cx_laws_toEditS Tryd.f51 true [ofD TL l] [] = need (decide (0 ≤ (l.length : Int) ∧ (l.length : Int) ≤ (l.length : Int) ∧ (l.length : Int) * 32 ≤ 140737488355328 ∧ (l.length : Int) ≤ 9223372036854775807))
    (need (true && (Nat.ble l.length 9223372036854775807 && Nat.beq l.length (List.replicate (l.length : Int).toNat e0).length)) (some (.d (ofD TL ((List.replicate (l.length : Int).toNat e0).take 0 ++ l)), []))) := by kernel_rfl

theorem l_laws_toEditS : ∀ st K r, g_laws_toEditS st K = some r → ∃ N, iter (evC cx_laws_toEditS (loopOf Tryd.f51 0)) (headAt cx_laws_toEditS 3) N st K = some r := by
  have key : ∀ (K : Cont) (r : Fin) (N : Nat) (l m : List Edit) (i : Int), 0 ≤ i → l.length ≤ 9223372036854775807 → l.length = m.length → l.length - i.toNat < N →
      K (.exit 0) ⟨[(3, .d (.one (.own 500000)))], [(500000, some (.lis 46 TE (m.take i.toNat ++ l.drop i.toNat)))]⟩ = some r →
      iter (evC cx_laws_toEditS (loopOf Tryd.f51 0)) (headAt cx_laws_toEditS 3) N ⟨[(0, vL TE l), (3, .d (.one (.own 500000))), (4, vI i)], [(500000, some (.lis 46 TE m))]⟩ K = some r := by
    intro K r N
    induction N with
    | zero => intro l m i _ _ _ hn; omega
    | succ N ih =>
      intro l m i h0 hb hlm hn h
      rw [iter_succ, x_laws_toEditS]
      by_cases hi : i < (l.length : Int)
      · have h1 : i.toNat < l.length := by omega
        rw [decide_eq_true hi, branch_true, inb_ok h0 hi, inb_ok h0 (by omega)]
        simp only [need, branch_true]
        rw [getD_at h1, wrap_small (by omega) (by omega)]
        refine ih l (m.set i.toNat l[i.toNat]) (i + 1) (by omega) hb (by simpa using hlm) (by omega) ?_
        rw [show (i + 1).toNat = i.toNat + 1 by omega]
        have : (m.set i.toNat l[i.toNat]).take (i.toNat + 1) ++ l.drop (i.toNat + 1) = m.take i.toNat ++ l.drop i.toNat := by
          rw [List.take_add_one, List.take_set_of_le (Nat.le_refl _), List.getElem?_set_self (by omega)]
          rw [List.drop_eq_getElem_cons h1]
          simp
        rw [this]
        exact h
      · rw [decide_eq_false hi, branch_false]
        rw [List.drop_eq_nil_of_le (by omega), List.append_nil, List.take_of_length_le (by omega)] at h
        exact h
  intro st K r h
  unfold g_laws_toEditS at h
  split at h
  · split at h
    · rename_i l m i h0 h1 h5
      rw [exL_some h0, exO_some h1, exI_some h5]
      rw [need_some] at h
      simp only [Bool.and_eq_true, decide_eq_true_eq, Nat.ble_eq] at h
      exact ⟨_, key K r _ l m i h.1.1 h.1.2.1 (Nat.eq_of_beq_eq_true h.1.2.2) (Nat.lt_succ_self _) h.2⟩
    · cases h
  · cases h

theorem s_laws_toEditS (l : List Edit) (hl : l.length ≤ 1048576) : Sat Tryd.prog 51 [ofD TL l] [] (.d (ofD TL l)) [] :=
  fn_sound (cx := cx_laws_toEditS) Tryd.func51 rfl ttOk Γ6ok mixed (fun c hc => LoopsOk.one (b := loopOf Tryd.f51 0) (id := 3) (g := g_laws_toEditS) (by cases hc; kernel_rfl) rfl l_laws_toEditS) (ro := true) (by
    rw [y_laws_toEditS, decide_eq_true (by omega : 0 ≤ (l.length : Int) ∧ (l.length : Int) ≤ (l.length : Int) ∧ (l.length : Int) * 32 ≤ 140737488355328 ∧ (l.length : Int) ≤ 9223372036854775807), show Nat.ble l.length 9223372036854775807 = true by rw [Nat.ble_eq]; omega]
    simp only [need, branch_true, Int.toNat_natCast, List.length_replicate, Nat.beq_refl, Bool.and_self, List.take_zero, List.nil_append])
noncomputable def c_laws_toEditS : Con := conT [TL] fun l => (some (Nat.ble (List.length l) 1048576), .d (ofD TL l))
theorem k_laws_toEditS : ConOk Tryd.prog 51 c_laws_toEditS := conT_ok Tryd.call51 fun l _ h => s_laws_toEditS l (by
  rcases h with h | h
  · cases h
  · have := Option.some.inj h; rw [Nat.ble_eq] at this; exact this)

noncomputable def Γ7 : List (Nat × Con) := (51, c_laws_toEditS) :: Γ6
theorem Γ7ok : EnvOk Tryd.prog (look Γ7) := .cons k_laws_toEditS Γ6ok

end Go.Proofs.YtnbkolhmacikaaaDoor.Ev
