/-
  Edits: sizes, copies, comparisons.
-/
import Derived.Test.YtnbkolhmacikaaaDoorLa
namespace Go.Proofs.YtnbkolhmacikaaaDoor.Ev
open Go

abbrev TE : Ty := ty46
abbrev TL : Ty := ty22
abbrev TH : Ty := ty24
abbrev TI64 : Ty := .int .i64
abbrev Edit : Type := Int × Int × List UInt8
abbrev Hist : Type := List UInt8 × List Edit × List Edit
abbrev e0 : Edit := (0, 0, [])

def eqE (a b : Edit) : Bool := decide (a.1 = b.1) && (decide (a.2.1 = b.2.1) && (decide (a.2.2 = b.2.2) && true))
def eqL : List Edit → List Edit → Bool
  | [], [] => true
  | a :: l, b :: m => eqE a b && eqL l m
  | _, _ => false

theorem eqE_self (a : Edit) : eqE a a = true := by simp [eqE]
theorem eqL_self : ∀ l : List Edit, eqL l l = true
  | [] => rfl
  | a :: l => by simp [eqL, eqE_self, eqL_self l]

def szE (e : Edit) (n : Int) : Int := bif decide (IntKind.i64.wrap (n - (e.2.2.length : Int)) < 0) then -1 else IntKind.i64.wrap (n - (e.2.2.length : Int))

noncomputable def cx_laws_szEdit : Cx := cxOf Γ0 Tryd.f35.ntmps [] [] [] []
theorem y_laws_szEdit (e : Edit) (n : Int) : evFn cx_laws_szEdit Tryd.f35 true [ofD TE e, ofD TI64 n] [] = branch (decide (IntKind.i64.wrap (n - (e.2.2.length : Int)) < 0)) (some (.d (ofD TI64 (-1 : Int)), [])) (some (.d (ofD TI64 (IntKind.i64.wrap (n - (e.2.2.length : Int)))), [])) := by kernel_rfl
theorem s_laws_szEdit (e : Edit) (n : Int) : Sat Tryd.prog 35 [ofD TE e, ofD TI64 n] [] (.d (ofD TI64 (szE e n))) [] :=
  fn_sound (cx := cx_laws_szEdit) Tryd.func35 rfl ttOk Γ0ok mixed (fun c hc => LoopsOk.nil (by cases hc; kernel_rfl)) (ro := true) (by
    rw [y_laws_szEdit]; unfold szE
    cases decide (IntKind.i64.wrap (n - (e.2.2.length : Int)) < 0) <;> rfl)
noncomputable def c_laws_szEdit : Con := conT [TE, TI64] fun e n => (none, .d (ofD TI64 (szE e n)))
theorem k_laws_szEdit : ConOk Tryd.prog 35 c_laws_szEdit := conT_ok Tryd.call35 fun e _ n _ _ => s_laws_szEdit e n

noncomputable def Γ1 : List (Nat × Con) := (35, c_laws_szEdit) :: Γ0
theorem Γ1ok : EnvOk Tryd.prog (look Γ1) := .cons k_laws_szEdit Γ0ok

theorem s_laws_toEdit (e : Edit) : Sat Tryd.prog 37 [ofD TE e] [] (.d (ofD TE e)) [] :=
  fn_sound (cx := cxOf Γ1 Tryd.f37.ntmps [] [] [] []) Tryd.func37 rfl ttOk Γ1ok mixed (fun c hc => LoopsOk.nil (by cases hc; kernel_rfl)) (ro := true) (by kernel_rfl)
noncomputable def c_laws_toEdit : Con := conT [TE] fun e => (none, .d (ofD TE e))
theorem k_laws_toEdit : ConOk Tryd.prog 37 c_laws_toEdit := conT_ok Tryd.call37 fun e _ _ => s_laws_toEdit e

noncomputable def Γ2 : List (Nat × Con) := (37, c_laws_toEdit) :: Γ1
theorem Γ2ok : EnvOk Tryd.prog (look Γ2) := .cons k_laws_toEdit Γ1ok

theorem y_laws_eqEdit (a b : Edit) : evFn (cxOf Γ2 Tryd.f70.ntmps [] [] [] []) Tryd.f70 true [ofD TE a, ofD TE b] [] =
    branch (!decide (a.1 = b.1)) (some (.d (ofD .bool false), [])) (branch (!decide (a.2.1 = b.2.1)) (some (.d (ofD .bool false), [])) (branch (!decide (a.2.2 = b.2.2)) (some (.d (ofD .bool false), [])) (some (.d (ofD .bool true), [])))) := by kernel_rfl
theorem s_laws_eqEdit (a b : Edit) : Sat Tryd.prog 70 [ofD TE a, ofD TE b] [] (.d (ofD .bool (eqE a b))) [] :=
  fn_sound (cx := cxOf Γ2 Tryd.f70.ntmps [] [] [] []) Tryd.func70 rfl ttOk Γ2ok mixed (fun c hc => LoopsOk.nil (by cases hc; kernel_rfl)) (ro := true) (by
    rw [y_laws_eqEdit]; unfold eqE
    cases decide (a.1 = b.1) <;> cases decide (a.2.1 = b.2.1) <;> cases decide (a.2.2 = b.2.2) <;> rfl)
noncomputable def c_laws_eqEdit : Con := conT [TE, TE] fun a b => (none, .d (ofD .bool (eqE a b)))
theorem k_laws_eqEdit : ConOk Tryd.prog 70 c_laws_eqEdit := conT_ok Tryd.call70 fun a _ b _ _ => s_laws_eqEdit a b


noncomputable def Γ3 : List (Nat × Con) := (70, c_laws_eqEdit) :: Γ2
theorem Γ3ok : EnvOk Tryd.prog (look Γ3) := .cons k_laws_eqEdit Γ2ok

def gEq (s : Nat) (st : St) (K : Cont) : Option Fin := match st with
  | ⟨[(0, x0), (1, x1), (5, x_laws_szHist)], []⟩ => match exL TE x0, exL TE x1, exI .i64 x_laws_szHist with
    | some l, some m, some i => need (decide (0 ≤ i) && (Nat.ble l.length 9223372036854775807 && Nat.beq l.length m.length))
        (branch (eqL (l.drop i.toNat) (m.drop i.toNat)) (K (.exit 0) ⟨[], []⟩) (K .ret ⟨[(s, vB false)], []⟩))
    | _, _, _ => none
  | _ => none

theorem loopEq {f : St → Cont → Option Fin} {head : St → St} {s : Nat} (hx : ∀ (l m : List Edit) (i : Int) (R : St → Option Fin) (K : Cont), f ⟨[(0, vL TE l), (1, vL TE m), (5, vI i)], []⟩ (onward head R K) =
      branch (decide (i < (l.length : Int))) (need (inb i l.length) (need (inb i m.length) (branch (!eqE (l.getD i.toNat e0) (m.getD i.toNat e0)) (K .ret ⟨[(s, vB false)], []⟩) (R ⟨[(0, vL TE l), (1, vL TE m), (5, vI (IntKind.i64.wrap (i + 1)))], []⟩)))) (K (.exit 0) ⟨[], []⟩)) :
    ∀ st K r, gEq s st K = some r → ∃ N, iter f head N st K = some r := by
  have key : ∀ (K : Cont) (r : Fin) (n : Nat) (l m : List Edit) (i : Int), 0 ≤ i → l.length ≤ 9223372036854775807 → l.length = m.length → l.length - i.toNat < n →
      branch (eqL (l.drop i.toNat) (m.drop i.toNat)) (K (.exit 0) ⟨[], []⟩) (K .ret ⟨[(s, vB false)], []⟩) = some r → iter f head n ⟨[(0, vL TE l), (1, vL TE m), (5, vI i)], []⟩ K = some r := by
    intro K r n
    induction n with
    | zero => intro l m i _ _ _ hn; omega
    | succ n ih =>
      intro l m i h0 hb hlm hn h
      rw [iter_succ, hx]
      by_cases hi : i < (l.length : Int)
      · have h1 : i.toNat < l.length := by omega
        have h2 : i.toNat < m.length := by omega
        rw [decide_eq_true hi, branch_true, inb_ok h0 hi, inb_ok h0 (by omega)]
        simp only [need, branch_true]
        rw [getD_at h1, getD_at h2]
        rw [List.drop_eq_getElem_cons h1, List.drop_eq_getElem_cons h2] at h
        simp only [eqL] at h
        cases he : eqE l[i.toNat] m[i.toNat]
        · rw [he] at h; exact h
        · rw [he, Bool.true_and] at h
          rw [Bool.not_true, branch_false, wrap_small (by omega) (by omega)]
          refine ih l m (i + 1) (by omega) hb hlm (by omega) ?_
          rw [show (i + 1).toNat = i.toNat + 1 by omega]
          exact h
      · rw [decide_eq_false hi, branch_false]
        rw [List.drop_eq_nil_of_le (by omega), List.drop_eq_nil_of_le (by omega)] at h
        exact h
  intro st K r h
  unfold gEq at h
  split at h
  · split at h
    · rename_i l m i e0 e1 e5
      rw [exL_some e0, exL_some e1, exI_some e5]
      rw [need_some] at h
      simp only [Bool.and_eq_true, decide_eq_true_eq, Nat.ble_eq] at h
      exact ⟨_, key K r _ l m i h.1.1 h.1.2.1 (Nat.eq_of_beq_eq_true h.1.2.2) (Nat.lt_succ_self _) h.2⟩
    · cases h
  · cases h

theorem eqL_len : ∀ {l m : List Edit}, eqL l m = true → l.length = m.length
  | [], [], _ => rfl
  | a :: l, b :: m, h => by simp only [eqL, Bool.and_eq_true] at h; simp [eqL_len h.2]
  | [], b :: m, h => by cases h
  | a :: l, [], h => by cases h

theorem endEq {l m : List Edit} (h : l.length ≤ 9223372036854775807) : branch (!decide ((l.length : Int) = (m.length : Int))) (some ((.d (ofD .bool false), []) : Fin))
    (need (true && (Nat.ble l.length 9223372036854775807 && Nat.beq l.length m.length)) (branch (eqL l m) (some (.d (ofD .bool true), [])) (some (.d (ofD .bool false), [])))) = some (.d (ofD .bool (eqL l m)), []) := by
  by_cases hlm : l.length = m.length
  · rw [decide_eq_true (by omega : (l.length : Int) = (m.length : Int)), show Nat.ble l.length 9223372036854775807 = true by rw [Nat.ble_eq]; exact h, show Nat.beq l.length m.length = true by rw [hlm]; exact Nat.beq_refl _]
    simp only [Bool.not_true, branch_false, Bool.and_self, need, branch_true]
    cases eqL l m <;> rfl
  · rw [decide_eq_false (by omega : ¬ (l.length : Int) = (m.length : Int))]
    have : eqL l m = false := by
      cases he : eqL l m
      · rfl
      · exact absurd (eqL_len he) hlm
    rw [this]; rfl

noncomputable def cx_laws_eqEditS : Cx := cxOf Γ3 Tryd.f46.ntmps [(4, [0, 1, 5])] [(0, []), (1, [0, 1, 5]), (1000000, [4])] [] [(4, gEq 4)]
theorem x_laws_eqEditS (l m : List Edit) (i : Int) (R : St → Option Fin) (K : Cont) : evC cx_laws_eqEditS (loopOf Tryd.f46 0) ⟨[(0, vL TE l), (1, vL TE m), (5, vI i)], []⟩ (onward (headAt cx_laws_eqEditS 4) R K) =
      branch (decide (i < (l.length : Int))) (need (inb i l.length) (need (inb i m.length) (branch (!eqE (l.getD i.toNat e0) (m.getD i.toNat e0)) (K .ret ⟨[(4, vB false)], []⟩) (R ⟨[(0, vL TE l), (1, vL TE m), (5, vI (IntKind.i64.wrap (i + 1)))], []⟩)))) (K (.exit 0) ⟨[], []⟩) := by kernel_rfl
theorem y_laws_eqEditS (l m : List Edit) : evFn cx_laws_eqEditS Tryd.f46 true [ofD TL l, ofD TL m] [] = branch (!decide ((l.length : Int) = (m.length : Int))) (some (.d (ofD .bool false), []))
    (need (true && (Nat.ble l.length 9223372036854775807 && Nat.beq l.length m.length)) (branch (eqL l m) (some (.d (ofD .bool true), [])) (some (.d (ofD .bool false), [])))) := by kernel_rfl
theorem s_laws_eqEditS (l m : List Edit) (hl : Fit TL l) : Sat Tryd.prog 46 [ofD TL l, ofD TL m] [] (.d (ofD .bool (eqL l m))) [] :=
  fn_sound (cx := cx_laws_eqEditS) Tryd.func46 rfl ttOk Γ3ok mixed (fun c hc => LoopsOk.one (b := loopOf Tryd.f46 0) (id := 4) (g := gEq 4) (by cases hc; kernel_rfl) rfl (loopEq x_laws_eqEditS)) (ro := true) (by rw [y_laws_eqEditS]; exact endEq hl.1)
noncomputable def c_laws_eqEditS : Con := conT [TL, TL] fun l m => (none, .d (ofD .bool (eqL l m)))
theorem k_laws_eqEditS : ConOk Tryd.prog 46 c_laws_eqEditS := conT_ok Tryd.call46 fun l hl m _ _ => s_laws_eqEditS l m hl
noncomputable def Γ4 : List (Nat × Con) := (46, c_laws_eqEditS) :: Γ3
theorem Γ4ok : EnvOk Tryd.prog (look Γ4) := .cons k_laws_eqEditS Γ3ok

end Go.Proofs.YtnbkolhmacikaaaDoor.Ev
