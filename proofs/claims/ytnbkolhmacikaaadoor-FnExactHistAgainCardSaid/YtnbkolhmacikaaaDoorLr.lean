/-
  Edits: what the functions on texts compute.
-/
import Derived.Test.YtnbkolhmacikaaaDoorLq
namespace Go.Proofs.YtnbkolhmacikaaaDoor.Ev
open Go

def smallI (c : Int) : Bool := bif decide (97 ≤ c) then decide (c ≤ 100) else false
theorem smallI_nat (c : UInt8) : smallI (c.toNat : Int) = small c := by
  unfold smallI small
  by_cases h1 : 97 ≤ c.toNat
  · rw [decide_eq_true (by omega : (97 : Int) ≤ (c.toNat : Int)), Nat.ble_eq_true_of_le h1]
    by_cases h2 : c.toNat ≤ 100
    · rw [Nat.ble_eq_true_of_le h2]; simp; omega
    · have : Nat.ble c.toNat 100 = false := by
        cases hb : Nat.ble c.toNat 100
        · rfl
        · exact absurd (Nat.le_of_ble_eq_true hb) h2
      rw [this]; simp; omega
  · have : Nat.ble 97 c.toNat = false := by
      cases hb : Nat.ble 97 c.toNat
      · rfl
      · exact absurd (Nat.le_of_ble_eq_true hb) h1
    rw [decide_eq_false (by omega : ¬ (97 : Int) ≤ (c.toNat : Int)), this]; rfl
theorem byteAt_get {s : Str} {i : Int} (_h0 : 0 ≤ i) (h1 : i.toNat < s.length) : byteAt s i = (s[i.toNat].toNat : Int) := by
  unfold byteAt; rw [List.getD_eq_getElem?_getD, List.getElem?_eq_getElem h1]; rfl

theorem s_spec_l1Small (c : Int) (_hc : Fit (.int .u8) c) : Sat Tryd.prog 68 [ofD (.int .u8) c] [] (.d (ofD .bool (smallI c))) [] :=
  fn_sound (cx := cxOf Γ16 Tryd.f68.ntmps [] [] [] []) Tryd.func68 rfl ttOk Γ16ok mixed (fun c hc => LoopsOk.nil (by cases hc; kernel_rfl)) (ro := true) (by
    kernel_rfl)
noncomputable def c_spec_l1Small : Con := conT [(.int .u8)] fun (c : Int) => (none, .d (ofD .bool (smallI c)))
theorem k_spec_l1Small : ConOk Tryd.prog 68 c_spec_l1Small := conT_ok Tryd.call68 fun c hc _ => s_spec_l1Small c hc
noncomputable def Γ17 : List (Nat × Con) := (68, c_spec_l1Small) :: Γ16
theorem Γ17ok : EnvOk Tryd.prog (look Γ17) := .cons k_spec_l1Small Γ16ok

theorem y_spec_SignSmall (s : Str) : evFn (cxOf Γ17 Tryd.f88.ntmps [] [] [] []) Tryd.f88 true [ofD .str s] [] = need (bif decide (decide ((s.length : Int) = 1) = true) then inb 0 s.length else true) (some (vB (bif decide ((s.length : Int) = 1) then smallI (byteAt s 0) else false), [])) := by kernel_rfl
theorem s_spec_SignSmall (s : Str) (_hs : Fit .str s) : Sat Tryd.prog 88 [ofD .str s] [] (.d (ofD .bool (smallS s))) [] :=
  fn_sound (cx := cxOf Γ17 Tryd.f88.ntmps [] [] [] []) Tryd.func88 rfl ttOk Γ17ok mixed (fun c hc => LoopsOk.nil (by cases hc; kernel_rfl)) (ro := true) (by
    rw [y_spec_SignSmall]
    cases s with
    | nil => rfl
    | cons c s => cases s with
      | nil => exact congrArg (fun b => some ((vB b, []) : Fin)) (smallI_nat c)
      | cons d s =>
        rw [decide_eq_false (by simp; omega : ¬ ((c :: d :: s).length : Int) = 1)]; rfl)
noncomputable def c_spec_SignSmall : Con := conT [.str] fun (s : Str) => (none, .d (ofD .bool (smallS s)))
theorem k_spec_SignSmall : ConOk Tryd.prog 88 c_spec_SignSmall := conT_ok Tryd.call88 fun s hs _ => s_spec_SignSmall s hs
noncomputable def Γ18 : List (Nat × Con) := (88, c_spec_SignSmall) :: Γ17
theorem Γ18ok : EnvOk Tryd.prog (look Γ18) := .cons k_spec_SignSmall Γ17ok

def isIn (s : Str) (a b : Int) : Bool := bif (bif decide ((s.length : Int) = 1) then decide (a ≤ byteAt s 0) else false) then decide (byteAt s 0 ≤ b) else false
theorem y_impl_isIn (s : Str) (a : Int) (b : Int) : evFn (cxOf Γ18 Tryd.f87.ntmps [] [] [] []) Tryd.f87 true [ofD .str s, ofD (.int .u8) a, ofD (.int .u8) b] [] = need (bif decide (decide ((s.length : Int) = 1) = true) then inb 0 s.length else true) (need (bif decide ((bif decide ((s.length : Int) = 1) then decide (a ≤ byteAt s 0) else false) = true) then inb 0 s.length else true) (some (vB (isIn s a b), []))) := by kernel_rfl
theorem s_impl_isIn (s : Str) (_hs : Fit .str s) (a : Int) (_ha : Fit (.int .u8) a) (b : Int) (_hb : Fit (.int .u8) b) : Sat Tryd.prog 87 [ofD .str s, ofD (.int .u8) a, ofD (.int .u8) b] [] (.d (ofD .bool (isIn s a b))) [] :=
  fn_sound (cx := cxOf Γ18 Tryd.f87.ntmps [] [] [] []) Tryd.func87 rfl ttOk Γ18ok mixed (fun c hc => LoopsOk.nil (by cases hc; kernel_rfl)) (ro := true) (by
    rw [y_impl_isIn]
    by_cases h : s.length = 1
    · rw [decide_eq_true (by omega : (s.length : Int) = 1), h]
      cases decide (a ≤ byteAt s 0) <;> rfl
    · rw [decide_eq_false (by omega : ¬ (s.length : Int) = 1)]; rfl)
noncomputable def c_impl_isIn : Con := conT [.str, (.int .u8), (.int .u8)] fun (s : Str) (a : Int) (b : Int) => (none, .d (ofD .bool (isIn s a b)))
theorem k_impl_isIn : ConOk Tryd.prog 87 c_impl_isIn := conT_ok Tryd.call87 fun s hs a ha b hb _ => s_impl_isIn s hs a ha b hb
noncomputable def Γ19 : List (Nat × Con) := (87, c_impl_isIn) :: Γ18
theorem Γ19ok : EnvOk Tryd.prog (look Γ19) := .cons k_impl_isIn Γ18ok

theorem s_impl_SignSmall (s : Str) (_hs : Fit .str s) : Sat Tryd.prog 77 [ofD .str s] [] (.d (ofD .bool (smallS s))) [] :=
  fn_sound (cx := cxOf Γ19 Tryd.f77.ntmps [] [] [] []) Tryd.func77 rfl ttOk Γ19ok mixed (fun c hc => LoopsOk.nil (by cases hc; kernel_rfl)) (ro := true) (by
    have : evFn (cxOf Γ19 Tryd.f77.ntmps [] [] [] []) Tryd.f77 true [ofD .str s] [] = some (vB (isIn s 97 100), []) := by kernel_rfl
    rw [this]
    have : isIn s 97 100 = smallS s := by
      unfold isIn
      cases s with
      | nil => rfl
      | cons c s => cases s with
        | nil => exact smallI_nat c
        | cons d s => rw [decide_eq_false (by simp; omega : ¬ ((c :: d :: s).length : Int) = 1)]; rfl
    rw [this]; rfl)
noncomputable def c_impl_SignSmall : Con := conT [.str] fun (s : Str) => (none, .d (ofD .bool (smallS s)))
theorem k_impl_SignSmall : ConOk Tryd.prog 77 c_impl_SignSmall := conT_ok Tryd.call77 fun s hs _ => s_impl_SignSmall s hs
noncomputable def Γ20 : List (Nat × Con) := (77, c_impl_SignSmall) :: Γ19
theorem Γ20ok : EnvOk Tryd.prog (look Γ20) := .cons k_impl_SignSmall Γ19ok

def areSm (s : Str) (n : Int) : Bool := bif decide ((s.length : Int) ≤ n) then s.all small else false
theorem y_impl_areSmalls (s : Str) (n : Int) : evFn (cxOf Γ20 Tryd.f45.ntmps [] [] [] []) Tryd.f45 true [ofD .str s, ofD TI64 n] [] =
  need (bif decide (decide ((s.length : Int) ≤ n) = true) then isCut cutA else true) (some (vB (bif decide ((s.length : Int) ≤ n) then decide (trim cutA s = []) else false), [])) := by kernel_rfl
theorem trimA_nil (s : Str) : decide (trim cutA s = []) = s.all small := by
  have e : (inCut cutA) = small := by funext c; exact inCut_A c
  have h := trim_nil (cut := cutA) (s := s)
  rw [e] at h
  by_cases g : trim cutA s = []
  · rw [decide_eq_true g, h.1 g]
  · rw [decide_eq_false g]
    cases hs : s.all small
    · rfl
    · exact absurd (h.2 hs) g
theorem s_impl_areSmalls (s : Str) (_hs : Fit .str s) (n : Int) (_hn : Fit TI64 n) : Sat Tryd.prog 45 [ofD .str s, ofD TI64 n] [] (.d (ofD .bool (areSm s n))) [] :=
  fn_sound (cx := cxOf Γ20 Tryd.f45.ntmps [] [] [] []) Tryd.func45 rfl ttOk Γ20ok mixed (fun c hc => LoopsOk.nil (by cases hc; kernel_rfl)) (ro := true) (by
    rw [y_impl_areSmalls, trimA_nil]
    unfold areSm
    cases decide ((s.length : Int) ≤ n) <;> rfl)
noncomputable def c_impl_areSmalls : Con := conT [.str, TI64] fun (s : Str) (n : Int) => (none, .d (ofD .bool (areSm s n)))
theorem k_impl_areSmalls : ConOk Tryd.prog 45 c_impl_areSmalls := conT_ok Tryd.call45 fun s hs n hn _ => s_impl_areSmalls s hs n hn
noncomputable def Γ21 : List (Nat × Con) := (45, c_impl_areSmalls) :: Γ20
theorem Γ21ok : EnvOk Tryd.prog (look Γ21) := .cons k_impl_areSmalls Γ20ok

def G_l8Long (s : Str) (i : Int) (K : Cont) : Option Fin := need (decide (0 ≤ i) && Nat.ble s.length 9223372036854775807)
  (branch ((s.drop i.toNat).all small) (K (.exit 0) ⟨[(0, vS s)], []⟩) (K .ret ⟨[(2, vB false)], []⟩))
def g_l8Long : St → Cont → Option Fin := orc ([(0, .d .str), (3, .d TI64)], []) fun v => G_l8Long v.1.1 v.1.2.1
noncomputable def cx_l8Long : Cx := cxOf Γ21 Tryd.f44.ntmps [(2, [0, 3])] [(0, [0]), (1, [0, 3]), (1000000, [2])] [] [(2, g_l8Long)]
theorem x_spec_l8Long (s : Str) (i : Int) (R : St → Option Fin) (K : Cont) : evC cx_l8Long (loopOf Tryd.f44 0) ⟨[(0, vS s), (3, vI i)], []⟩ (onward (headAt cx_l8Long 2) R K) =
  branch (decide (i < (s.length : Int))) (need (inb i s.length) (branch (!smallI (byteAt s i)) (K .ret ⟨[(2, vB false)], []⟩) (R ⟨[(0, vS s), (3, vI (W64 (i + 1)))], []⟩))) (K (.exit 0) ⟨[(0, vS s)], []⟩) := by kernel_rfl
theorem l_spec_l8Long : ∀ st K r, g_l8Long st K = some r → ∃ N, iter (evC cx_l8Long (loopOf Tryd.f44 0)) (headAt cx_l8Long 2) N st K = some r := by
  refine orc_ok (loop_rule (fun v => List.length v.1.1 - Int.toNat v.1.2.1) ?_)
  rintro ⟨⟨(s : Str), (i : Int), ⟨⟩⟩, ⟨⟩⟩ K r hg R hR
  refine (x_spec_l8Long s i R K).trans ?_
  replace hg : G_l8Long s i K = some r := hg
  replace hR : ∀ (s' : Str) (i' : Int), s'.length - i'.toNat < s.length - i.toNat → G_l8Long s' i' K = some r → R ⟨[(0, vS s'), (3, vI i')], []⟩ = some r := fun s' i' => hR ((s', i', ()), ())
  unfold G_l8Long at hg hR
  obtain ⟨hp, hg⟩ := need_some.1 hg
  simp only [Bool.and_eq_true, decide_eq_true_eq] at hp
  obtain ⟨h0, h1⟩ := hp
  have h1 : List.length s ≤ 9223372036854775807 := Nat.le_of_ble_eq_true h1
  by_cases hi : i < (s.length : Int)
  · have hn : i.toNat < s.length := by omega
    rw [decide_eq_true hi, branch_true, inb_ok h0 hi, byteAt_get h0 hn, smallI_nat]
    simp only [need, branch_true]
    rw [List.drop_eq_getElem_cons hn, List.all_cons] at hg
    cases hc : small s[i.toNat]
    · rw [hc] at hg; exact hg
    · rw [hc, Bool.true_and] at hg
      have e : W64 (i + 1) = i + 1 := wrap_small (by omega) (by omega)
      rw [Bool.not_true, branch_false, e]
      refine hR s (i + 1) (by omega) (need_some.2 ⟨?_, ?_⟩)
      · simp only [Bool.and_eq_true, decide_eq_true_eq]
        exact ⟨by omega, Nat.ble_eq_true_of_le h1⟩
      · rw [show (i + 1).toNat = i.toNat + 1 by omega]
        exact hg
  · rw [decide_eq_false hi, branch_false]
    rw [List.drop_eq_nil_of_le (by omega)] at hg
    exact hg
theorem y_spec_l8Long (s : Str) : evFn cx_l8Long Tryd.f44 true [ofD .str s] [] = need (true && Nat.ble s.length 9223372036854775807) (branch (s.all small) (some (vB (decide ((s.length : Int) ≤ 20)), [])) (some (vB false, []))) := by kernel_rfl
theorem s_spec_l8Long (s : Str) (hs : Fit .str s) : Sat Tryd.prog 44 [ofD .str s] [] (.d (ofD .bool (longOk s))) [] :=
  fn_sound (cx := cx_l8Long) Tryd.func44 rfl ttOk Γ21ok mixed (fun c hc => LoopsOk.one (b := loopOf Tryd.f44 0) (id := 2) (g := g_l8Long) (by cases hc; kernel_rfl) rfl l_spec_l8Long) (ro := true) (by
    rw [y_spec_l8Long, Nat.ble_eq_true_of_le (show s.length ≤ 9223372036854775807 from hs)]
    unfold longOk
    have : decide ((s.length : Int) ≤ 20) = Nat.ble s.length 20 := by
      by_cases h : s.length ≤ 20
      · rw [Nat.ble_eq_true_of_le h, decide_eq_true (by omega)]
      · rw [decide_eq_false (by omega)]
        cases hb : Nat.ble s.length 20
        · rfl
        · exact absurd (Nat.le_of_ble_eq_true hb) h
    rw [this]
    cases s.all small <;> rfl)
noncomputable def c_spec_l8Long : Con := conT [.str] fun (s : Str) => (none, .d (ofD .bool (longOk s)))
theorem k_spec_l8Long : ConOk Tryd.prog 44 c_spec_l8Long := conT_ok Tryd.call44 fun s hs _ => s_spec_l8Long s hs
noncomputable def Γ22 : List (Nat × Con) := (44, c_spec_l8Long) :: Γ21
theorem Γ22ok : EnvOk Tryd.prog (look Γ22) := .cons k_spec_l8Long Γ21ok

theorem and3 (x y z : Bool) : (bif (bif x then y else false) then z else false) = (x && (y && z)) := by cases x <;> cases y <;> cases z <;> rfl
theorem and2 (x y : Bool) : (bif x then y else false) = (x && y) := by cases x <;> rfl
theorem y_spec_l8Edit (s : Str) (e : Edit) : evFn (cxOf Γ22 Tryd.f78.ntmps [] [(0, []), (1000000, [4])] [] []) Tryd.f78 true [ofD .str s, ofD TE e] [] =
branch (decide (e.1 = 1)) (some (vB (bif bif decide (0 ≤ e.2.1) then decide (e.2.1 ≤ (s.length : Int)) else false then smallS e.2.2 else false), [])) (
 branch (decide (e.1 = 2)) (some (vB (bif bif decide (0 ≤ e.2.1) then decide (e.2.1 < (s.length : Int)) else false then decide (e.2.2 = []) else false), [])) (
  branch (decide (e.1 = 3)) (
   need (bif decide ((bif bif decide (0 ≤ e.2.1) then decide (e.2.1 < (s.length : Int)) else false then smallS e.2.2 else false) = true) then inr e.2.1 (W64 (e.2.1 + 1)) s.length else true) (
    some (vB (bif bif bif decide (0 ≤ e.2.1) then decide (e.2.1 < (s.length : Int)) else false then smallS e.2.2 else false then !decide ((s.drop e.2.1.toNat).take ((W64 (e.2.1 + 1)).toNat - e.2.1.toNat) = e.2.2) else false), [])))
   (some (vB false, [])))) := by kernel_rfl
theorem s_spec_l8Edit (s : Str) (hs : Fit .str s) (e : Edit) (_he : Fit TE e) : Sat Tryd.prog 78 [ofD .str s, ofD TE e] [] (.d (ofD .bool (editOk s e))) [] :=
  fn_sound (cx := cxOf Γ22 Tryd.f78.ntmps [] [(0, []), (1000000, [4])] [] []) Tryd.func78 rfl ttOk Γ22ok mixed (fun c hc => LoopsOk.nil (by cases hc; kernel_rfl)) (ro := true) (by
    rw [y_spec_l8Edit]
    obtain ⟨k, a, g⟩ := e
    have hs : s.length ≤ 9223372036854775807 := hs
    unfold editOk
    by_cases k1 : k = 1
    · rw [decide_eq_true k1, and3]; rfl
    rw [decide_eq_false k1, branch_false, cond_false]
    by_cases k2 : k = 2
    · rw [decide_eq_true k2, and3]; rfl
    rw [decide_eq_false k2, branch_false, cond_false]
    by_cases k3 : k = 3
    · rw [decide_eq_true k3, and3, branch_true, cond_true]
      by_cases h0 : 0 ≤ a
      · by_cases h1 : a < (s.length : Int)
        · have e1 : W64 (a + 1) = a + 1 := wrap_small (by omega) (by omega)
          have e2 : inr a (a + 1) s.length = true := decide_eq_true ⟨h0, by omega, by omega⟩
          have e3 : (a + 1).toNat - a.toNat = 1 := by omega
          rw [decide_eq_true h0, decide_eq_true h1, e1, e2, e3]
          cases smallS g <;> rfl
        · rw [decide_eq_true h0, decide_eq_false h1]; rfl
      · rw [decide_eq_false h0]; rfl
    · rw [decide_eq_false k3]; rfl)
noncomputable def c_spec_l8Edit : Con := conT [.str, TE] fun (s : Str) (e : Edit) => (none, .d (ofD .bool (editOk s e)))
theorem k_spec_l8Edit : ConOk Tryd.prog 78 c_spec_l8Edit := conT_ok Tryd.call78 fun s hs e he _ => s_spec_l8Edit s hs e he
noncomputable def Γ23 : List (Nat × Con) := (78, c_spec_l8Edit) :: Γ22
theorem Γ23ok : EnvOk Tryd.prog (look Γ23) := .cons k_spec_l8Edit Γ22ok

theorem y_spec_l8Do (s : Str) (e : Edit) : evFn (cxOf Γ23 Tryd.f79.ntmps [] [] [] []) Tryd.f79 true [ofD .str s, ofD TE e] [] =
branch (decide (e.1 = 1)) (
 need (inr 0 e.2.1 s.length) (need (decide ((s.take e.2.1.toNat).length + e.2.2.length ≤ 9223372036854775807)) (need (inr e.2.1 (s.length : Int) s.length)
   (need (decide ((s.take e.2.1.toNat ++ e.2.2).length + ((s.drop e.2.1.toNat).take (s.length - e.2.1.toNat)).length ≤ 9223372036854775807)) (some (vS ((s.take e.2.1.toNat ++ e.2.2) ++ (s.drop e.2.1.toNat).take (s.length - e.2.1.toNat)), []))))))
 (need (inr 0 e.2.1 s.length) (need (decide ((s.take e.2.1.toNat).length + e.2.2.length ≤ 9223372036854775807)) (need (inr (W64 (e.2.1 + 1)) (s.length : Int) s.length)
   (need (decide ((s.take e.2.1.toNat ++ e.2.2).length + ((s.drop (W64 (e.2.1 + 1)).toNat).take (s.length - (W64 (e.2.1 + 1)).toNat)).length ≤ 9223372036854775807)) (some (vS ((s.take e.2.1.toNat ++ e.2.2) ++ (s.drop (W64 (e.2.1 + 1)).toNat).take (s.length - (W64 (e.2.1 + 1)).toNat)), [])))))) := by kernel_rfl
theorem editOk_range {s : Str} {e : Edit} (h : editOk s e = true) : 0 ≤ e.2.1 ∧ e.2.1 ≤ (s.length : Int) ∧ (e.1 ≠ 1 → e.2.1 < (s.length : Int)) ∧ e.2.2.length ≤ 1 := by
  obtain ⟨k, a, g⟩ := e
  unfold editOk at h
  by_cases k1 : k = 1
  · rw [decide_eq_true k1, cond_true] at h
    simp only [Bool.and_eq_true, decide_eq_true_eq] at h
    obtain ⟨c, h3, _⟩ := smallS_one h.2.2
    exact ⟨h.1, h.2.1, fun h' => absurd k1 h', by rw [h3]; simp⟩
  rw [decide_eq_false k1, cond_false] at h
  by_cases k2 : k = 2
  · rw [decide_eq_true k2, cond_true] at h
    simp only [Bool.and_eq_true, decide_eq_true_eq] at h
    exact ⟨h.1, Int.le_of_lt h.2.1, fun _ => h.2.1, by rw [h.2.2]; simp⟩
  rw [decide_eq_false k2, cond_false] at h
  by_cases k3 : k = 3
  · rw [decide_eq_true k3, cond_true] at h
    simp only [Bool.and_eq_true, decide_eq_true_eq] at h
    obtain ⟨c, h3, _⟩ := smallS_one h.2.2.1
    exact ⟨h.1, Int.le_of_lt h.2.1, fun _ => h.2.1, by rw [h3]; simp⟩
  · rw [decide_eq_false k3] at h; cases h
theorem take_all {s : Str} {n : Nat} : (s.drop n).take (s.length - n) = s.drop n := List.take_of_length_le (by simp)
theorem s_spec_l8Do (s : Str) (_hs : Fit .str s) (e : Edit) (_he : Fit TE e) (hpre : (longOk s && editOk s e) = true) : Sat Tryd.prog 79 [ofD .str s, ofD TE e] [] (.d (ofD .str (doE s e))) [] :=
  fn_sound (cx := cxOf Γ23 Tryd.f79.ntmps [] [] [] []) Tryd.func79 rfl ttOk Γ23ok mixed (fun c hc => LoopsOk.nil (by cases hc; kernel_rfl)) (ro := true) (by
    rw [y_spec_l8Do]
    rw [Bool.and_eq_true] at hpre
    obtain ⟨h1, h2⟩ := hpre
    have hl := (longOk_iff.1 h1).2
    obtain ⟨k, a, g⟩ := e
    obtain ⟨r1, r2, r3, r4⟩ : 0 ≤ a ∧ a ≤ (s.length : Int) ∧ (k ≠ 1 → a < (s.length : Int)) ∧ g.length ≤ 1 := editOk_range h2
    have i1 : inr 0 a s.length = true := decide_eq_true ⟨by omega, r1, r2⟩
    have n1 : (s.take a.toNat).length + g.length ≤ 9223372036854775807 := by rw [List.length_take]; omega
    unfold doE
    by_cases k1 : k = 1
    · have i2 : inr a (s.length : Int) s.length = true := decide_eq_true ⟨r1, r2, by omega⟩
      have n2 : (s.take a.toNat ++ g).length + (s.drop a.toNat).length ≤ 9223372036854775807 := by rw [List.length_append, List.length_take, List.length_drop]; omega
      rw [decide_eq_true k1, branch_true, cond_true, i1, decide_eq_true n1, i2, take_all, decide_eq_true n2, List.append_assoc]
      rfl
    · have := r3 k1
      have e1 : W64 (a + 1) = a + 1 := wrap_small (by omega) (by omega)
      have i2 : inr (a + 1) (s.length : Int) s.length = true := decide_eq_true ⟨by omega, by omega, by omega⟩
      have n2 : (s.take a.toNat ++ g).length + (s.drop (a + 1).toNat).length ≤ 9223372036854775807 := by rw [List.length_append, List.length_take, List.length_drop]; omega
      rw [decide_eq_false k1, branch_false, cond_false, e1, i1, decide_eq_true n1, i2, take_all, decide_eq_true n2, List.append_assoc]
      show some (vS (s.take a.toNat ++ (g ++ s.drop (a + 1).toNat)), []) = some (vS (s.take a.toNat ++ (g ++ s.drop (a.toNat + 1))), [])
      rw [show (a + 1).toNat = a.toNat + 1 by omega])
noncomputable def c_spec_l8Do : Con := conT [.str, TE] fun (s : Str) (e : Edit) => (some (longOk s && editOk s e), .d (ofD .str (doE s e)))
theorem k_spec_l8Do : ConOk Tryd.prog 79 c_spec_l8Do := conT_ok Tryd.call79 fun s hs e he hqq => s_spec_l8Do s hs e he (pre_of hqq)
noncomputable def Γ24 : List (Nat × Con) := (79, c_spec_l8Do) :: Γ23
theorem Γ24ok : EnvOk Tryd.prog (look Γ24) := .cons k_spec_l8Do Γ23ok

def editR (x : Str × Bool) : T := .tup [ofD .str x.1, ofD .bool x.2]
theorem y_spec_EditDo (s : Str) (e : Edit) : evFn (cxOf Γ24 Tryd.f59.ntmps [] [] [] []) Tryd.f59 true [ofD .str s, ofD TE e] [] =
need (bif decide ((bif !longOk s then true else !editOk s e) = false) then longOk s && editOk s e else true) (
 branch (bif bif !longOk s then true else !editOk s e then true else !longOk (doE s e)) (some (editR ([], false), [])) (need (longOk s && editOk s e) (some (editR (doE s e, true), [])))) := by kernel_rfl
theorem s_spec_EditDo (s : Str) (_hs : Fit .str s) (e : Edit) (_he : Fit TE e) : Sat Tryd.prog 59 [ofD .str s, ofD TE e] [] (editR (EdDo s e)) [] :=
  fn_sound (cx := cxOf Γ24 Tryd.f59.ntmps [] [] [] []) Tryd.func59 rfl ttOk Γ24ok mixed (fun c hc => LoopsOk.nil (by cases hc; kernel_rfl)) (ro := true) (by
    rw [y_spec_EditDo]
    unfold EdDo
    cases longOk s
    · rfl
    · cases editOk s e
      · rfl
      · cases longOk (doE s e) <;> rfl)
noncomputable def c_spec_EditDo : Con := conT [.str, TE] fun (s : Str) (e : Edit) => (none, editR (EdDo s e))
theorem k_spec_EditDo : ConOk Tryd.prog 59 c_spec_EditDo := conT_ok Tryd.call59 fun s hs e he _ => s_spec_EditDo s hs e he
noncomputable def Γ25 : List (Nat × Con) := (59, c_spec_EditDo) :: Γ24
theorem Γ25ok : EnvOk Tryd.prog (look Γ25) := .cons k_spec_EditDo Γ24ok

theorem areSm_20 (s : Str) : areSm s 20 = longOk s := by
  unfold areSm longOk
  have : decide ((s.length : Int) ≤ 20) = Nat.ble s.length 20 := by
    by_cases h : s.length ≤ 20
    · rw [Nat.ble_eq_true_of_le h, decide_eq_true (by omega)]
    · rw [decide_eq_false (by omega)]
      cases hb : Nat.ble s.length 20
      · rfl
      · exact absurd (Nat.le_of_ble_eq_true hb) h
  rw [this, and2, Bool.and_comm]
theorem long_edit1 {s : Str} {a : Int} {c : UInt8} (h : longOk s = true) (hc : small c = true) (ha : a.toNat ≤ s.length) : longOk (s.take a.toNat ++ ([c] ++ s.drop a.toNat)) = decide (s.length < 20) := by
  have hl := longOk_iff.1 h
  have hn : (s.take a.toNat ++ ([c] ++ s.drop a.toNat)).length = s.length + 1 := by simp only [List.length_append, List.length_take, List.length_drop, List.length_singleton]; omega
  by_cases g : s.length < 20
  · rw [decide_eq_true g]
    refine longOk_iff.2 ⟨fun x hx => ?_, by omega⟩
    simp only [List.mem_append, List.mem_singleton] at hx
    rcases hx with hx | rfl | hx
    · exact hl.1 x (List.mem_of_mem_take hx)
    · exact hc
    · exact hl.1 x (List.mem_of_mem_drop hx)
  · rw [decide_eq_false g]
    cases hq : longOk (s.take a.toNat ++ ([c] ++ s.drop a.toNat))
    · rfl
    · have := (longOk_iff.1 hq).2; omega
theorem long_edit2 {s g : Str} {a : Int} (h : longOk s = true) (hc : ∀ x ∈ g, small x = true) (hg : g.length ≤ 1) (ha : a.toNat < s.length) : longOk (s.take a.toNat ++ (g ++ s.drop (a.toNat + 1))) = true := by
  have hl := longOk_iff.1 h
  refine longOk_iff.2 ⟨fun x hx => ?_, by simp only [List.length_append, List.length_take, List.length_drop]; omega⟩
  simp only [List.mem_append] at hx
  rcases hx with hx | hx | hx
  · exact hl.1 x (List.mem_of_mem_take hx)
  · exact hc x hx
  · exact hl.1 x (List.mem_of_mem_drop hx)
theorem y_impl_EditDo (s : Str) (e : Edit) : evFn (cxOf Γ25 Tryd.f57.ntmps [] [(0, []), (1000000, [4, 5])] [] []) Tryd.f57 true [ofD .str s, ofD TE e] [] =
branch (bif bif bif !areSm s 20 then true else decide (e.2.1 < 0) then true else decide ((s.length : Int) < e.2.1) then true else bif !decide (e.1 = 1) then decide (e.2.1 = (s.length : Int)) else false) (some (editR ([], false), [])) (
 branch (bif bif decide (e.1 = 1) then smallS e.2.2 else false then decide ((s.length : Int) < 20) else false) (
  need (inr 0 e.2.1 s.length) (need (decide ((s.take e.2.1.toNat).length + e.2.2.length ≤ 9223372036854775807)) (need (inr e.2.1 (s.length : Int) s.length)
   (need (decide ((s.take e.2.1.toNat ++ e.2.2).length + ((s.drop e.2.1.toNat).take (s.length - e.2.1.toNat)).length ≤ 9223372036854775807)) (
    some (editR ((s.take e.2.1.toNat ++ e.2.2) ++ (s.drop e.2.1.toNat).take (s.length - e.2.1.toNat), true), []))))))
  (branch (bif decide (e.1 = 2) then decide (e.2.2 = []) else false) (
   need (inr 0 e.2.1 s.length) (need (inr (W64 (e.2.1 + 1)) (s.length : Int) s.length)
    (need (decide ((s.take e.2.1.toNat).length + ((s.drop (W64 (e.2.1 + 1)).toNat).take (s.length - (W64 (e.2.1 + 1)).toNat)).length ≤ 9223372036854775807)) (
     some (editR (s.take e.2.1.toNat ++ (s.drop (W64 (e.2.1 + 1)).toNat).take (s.length - (W64 (e.2.1 + 1)).toNat), true), [])))))
   (need (bif decide ((bif decide (e.1 = 3) then smallS e.2.2 else false) = true) then inr e.2.1 (W64 (e.2.1 + 1)) s.length else true) (
    branch (bif bif decide (e.1 = 3) then smallS e.2.2 else false then !decide ((s.drop e.2.1.toNat).take ((W64 (e.2.1 + 1)).toNat - e.2.1.toNat) = e.2.2) else false) (
     need (inr 0 e.2.1 s.length) (need (decide ((s.take e.2.1.toNat).length + e.2.2.length ≤ 9223372036854775807)) (need (inr (W64 (e.2.1 + 1)) (s.length : Int) s.length)
   (need (decide ((s.take e.2.1.toNat ++ e.2.2).length + ((s.drop (W64 (e.2.1 + 1)).toNat).take (s.length - (W64 (e.2.1 + 1)).toNat)).length ≤ 9223372036854775807)) (
    some (editR ((s.take e.2.1.toNat ++ e.2.2) ++ (s.drop (W64 (e.2.1 + 1)).toNat).take (s.length - (W64 (e.2.1 + 1)).toNat), true), []))))))
     (some (editR ([], false), [])))))) := by kernel_rfl
theorem s_impl_EditDo (s : Str) (_hs : Fit .str s) (e : Edit) (he : Fit TE e) : Sat Tryd.prog 57 [ofD .str s, ofD TE e] [] (editR (EdDo s e)) [] :=
  fn_sound (cx := cxOf Γ25 Tryd.f57.ntmps [] [(0, []), (1000000, [4, 5])] [] []) Tryd.func57 rfl ttOk Γ25ok mixed (fun c hc => LoopsOk.nil (by cases hc; kernel_rfl)) (ro := true) (by
    rw [y_impl_EditDo, areSm_20]
    obtain ⟨k, a, g⟩ := e
    cases hlo : longOk s
    · have : EdDo s (k, a, g) = ([], false) := by unfold EdDo; rw [hlo]; rfl
      rw [this]; rfl
    have hl := (longOk_iff.1 hlo).2
    have bad : editOk s (k, a, g) = false → EdDo s (k, a, g) = ([], false) := fun h => by unfold EdDo; rw [h, hlo]; rfl
    dsimp only
    by_cases ha : a < 0
    · rw [decide_eq_true ha, bad (by unfold editOk; simp only; rw [decide_eq_false (by omega : ¬ 0 ≤ a)]; cases decide (k = 1) <;> cases decide (k = 2) <;> cases decide (k = 3) <;> rfl)]; rfl
    rw [decide_eq_false ha]
    by_cases hb : (s.length : Int) < a
    · rw [decide_eq_true hb, bad (by unfold editOk; simp only; rw [decide_eq_false (by omega : ¬ a ≤ (s.length : Int)), decide_eq_false (by omega : ¬ a < (s.length : Int))]; cases decide (0 ≤ a) <;> cases decide (k = 1) <;> cases decide (k = 2) <;> cases decide (k = 3) <;> rfl)]; rfl
    rw [decide_eq_false hb]
    have i1 : inr 0 a s.length = true := decide_eq_true ⟨by omega, by omega, by omega⟩
    have l0 : (s.take a.toNat).length ≤ 20 := by rw [List.length_take]; omega
    by_cases k1 : k = 1
    · subst k1
      have i2 : inr a (s.length : Int) s.length = true := decide_eq_true ⟨by omega, by omega, by omega⟩
      cases hg : smallS g
      · rw [bad (by unfold editOk; simp only; rw [hg]; cases decide (0 ≤ a) <;> cases decide (a ≤ (s.length : Int)) <;> rfl)]; rfl
      · obtain ⟨c, rfl, hc⟩ := smallS_one hg
        have he := long_edit1 (a := a) hlo hc (by omega)
        have ho : editOk s (1, a, [c]) = true := by
          unfold editOk; simp only; rw [hg, decide_eq_true (by omega : 0 ≤ a), decide_eq_true (by omega : a ≤ (s.length : Int))]; rfl
        by_cases hn : s.length < 20
        · have : EdDo s (1, a, [c]) = (s.take a.toNat ++ ([c] ++ s.drop a.toNat), true) := EdDo_mk hlo ho (he.trans (decide_eq_true hn))
          rw [this]
          have n1 : (s.take a.toNat).length + [c].length ≤ 9223372036854775807 := by simp only [List.length_singleton]; omega
          have n2 : (s.take a.toNat ++ [c]).length + (s.drop a.toNat).length ≤ 9223372036854775807 := by simp only [List.length_append, List.length_singleton, List.length_drop]; omega
          rw [decide_eq_true (by omega : (s.length : Int) < 20), i1, decide_eq_true n1, i2, take_all, decide_eq_true n2, List.append_assoc]
          rfl
        · have : EdDo s (1, a, [c]) = ([], false) := by
            unfold EdDo
            rw [show longOk (doE s (1, a, [c])) = false from he.trans (decide_eq_false hn), hlo, ho]; rfl
          rw [this, decide_eq_false (by omega : ¬ (s.length : Int) < 20)]
          rfl
    · rw [decide_eq_false k1]
      by_cases hq : a = (s.length : Int)
      · rw [decide_eq_true hq, bad (by unfold editOk; simp only; rw [decide_eq_false k1, decide_eq_false (by omega : ¬ a < (s.length : Int))]; cases decide (0 ≤ a) <;> cases decide (k = 2) <;> cases decide (k = 3) <;> rfl)]; rfl
      · have hlt : a < (s.length : Int) := by omega
        have e1 : W64 (a + 1) = a + 1 := wrap_small (by omega) (by omega)
        have e4 : (a + 1).toNat = a.toNat + 1 := by omega
        have i2 : inr (a + 1) (s.length : Int) s.length = true := decide_eq_true ⟨by omega, by omega, by omega⟩
        have i3 : inr a (a + 1) s.length = true := decide_eq_true ⟨by omega, by omega, by omega⟩
        have l1 : (s.drop (a.toNat + 1)).length ≤ 20 := by rw [List.length_drop]; omega
        rw [decide_eq_false hq, e1, e4, i1, i2, i3, take_all (n := a.toNat + 1)]
        by_cases k2 : k = 2
        · subst k2
          by_cases hg : g = []
          · subst hg
            have he : longOk (doE s (2, a, [])) = true := long_edit2 (g := []) (a := a) hlo (fun x hx => by cases hx) (by simp) (by omega)
            have ho : editOk s (2, a, []) = true := by unfold editOk; simp only; rw [decide_eq_true (by omega : 0 ≤ a), decide_eq_true hlt]; rfl
            rw [EdDo_mk hlo ho he, decide_eq_true (by omega : (s.take a.toNat).length + (s.drop (a.toNat + 1)).length ≤ 9223372036854775807)]
            rfl
          · rw [bad (by unfold editOk; simp only; rw [decide_eq_false hg]; cases decide (0 ≤ a) <;> cases decide (a < (s.length : Int)) <;> rfl), decide_eq_false hg]
            rfl
        · rw [decide_eq_false k2]
          by_cases k3 : k = 3
          · subst k3
            cases hg : smallS g
            · rw [bad (by unfold editOk; simp only; rw [hg]; cases decide (0 ≤ a) <;> cases decide (a < (s.length : Int)) <;> rfl)]; rfl
            · obtain ⟨c, rfl, hc⟩ := smallS_one hg
              have e5 : (s.drop a.toNat).take (a.toNat + 1 - a.toNat) = signAt s a := by rw [show a.toNat + 1 - a.toNat = 1 by omega]; rfl
              rw [e5]
              by_cases hsg : signAt s a = [c]
              · rw [bad (by unfold editOk; simp only; rw [decide_eq_true hsg]; cases decide (0 ≤ a) <;> cases decide (a < (s.length : Int)) <;> cases smallS [c] <;> rfl), decide_eq_true hsg]; rfl
              · have he : longOk (doE s (3, a, [c])) = true := long_edit2 (g := [c]) (a := a) hlo (fun x hx => by rw [List.mem_singleton.1 hx]; exact hc) (by simp) (by omega)
                have ho : editOk s (3, a, [c]) = true := by unfold editOk; simp only; rw [decide_eq_true (by omega : 0 ≤ a), decide_eq_true hlt, hg, decide_eq_false hsg]; rfl
                have n1 : (s.take a.toNat).length + [c].length ≤ 9223372036854775807 := by simp only [List.length_singleton]; omega
                have n2 : (s.take a.toNat ++ [c]).length + (s.drop (a.toNat + 1)).length ≤ 9223372036854775807 := by simp only [List.length_append, List.length_singleton]; omega
                rw [EdDo_mk hlo ho he, decide_eq_false hsg, decide_eq_true n1, decide_eq_true n2, List.append_assoc (s.take a.toNat) [c] (s.drop (a.toNat + 1))]
                rfl
          · rw [bad (by unfold editOk; simp only; rw [decide_eq_false k1, decide_eq_false k2, decide_eq_false k3]; rfl), decide_eq_false k3]; rfl)
noncomputable def c_impl_EditDo : Con := conT [.str, TE] fun (s : Str) (e : Edit) => (none, editR (EdDo s e))
theorem k_impl_EditDo : ConOk Tryd.prog 57 c_impl_EditDo := conT_ok Tryd.call57 fun s hs e he _ => s_impl_EditDo s hs e he
noncomputable def Γ26 : List (Nat × Con) := (57, c_impl_EditDo) :: Γ25
theorem Γ26ok : EnvOk Tryd.prog (look Γ26) := .cons k_impl_EditDo Γ25ok

def backR (x : Edit × Bool) : T := .tup [ofD TE x.1, ofD .bool x.2]
theorem back_tree {s : Str} {e : Edit} : branch (!(EdDo s e).2) (some ((backR (e0, false), []) : Fin)) (
 branch (decide (e.1 = 1)) (some (backR ((2, e.2.1, []), true), [])) (
  branch (decide (e.1 = 2)) (
   need (inr e.2.1 (W64 (e.2.1 + 1)) s.length) (some (backR ((1, e.2.1, (s.drop e.2.1.toNat).take ((W64 (e.2.1 + 1)).toNat - e.2.1.toNat)), true), [])))
   (need (inr e.2.1 (W64 (e.2.1 + 1)) s.length) (some (backR ((3, e.2.1, (s.drop e.2.1.toNat).take ((W64 (e.2.1 + 1)).toNat - e.2.1.toNat)), true), []))))) = some (backR (EdBack s e), []) := by
  unfold EdBack
  cases h : (EdDo s e).2
  · rfl
  · obtain ⟨h1, h2, _, _⟩ := EdDo_true h
    obtain ⟨r1, r2, r3, _⟩ := editOk_range h2
    have hl := (longOk_iff.1 h1).2
    obtain ⟨k, a, g⟩ := e
    by_cases k1 : k = 1
    · rw [decide_eq_true k1]; rfl
    · have r3 : a < (s.length : Int) := r3 k1
      have r1 : 0 ≤ a := r1
      have e1 : W64 (a + 1) = a + 1 := wrap_small (by omega) (by omega)
      have i3 : inr a (a + 1) s.length = true := decide_eq_true ⟨by omega, by omega, by omega⟩
      have e5 : (s.drop a.toNat).take ((a + 1).toNat - a.toNat) = signAt s a := by rw [show (a + 1).toNat - a.toNat = 1 by omega]; rfl
      rw [decide_eq_false k1, e1, i3, e5]
      cases decide (k = 2) <;> rfl
theorem y_spec_EditBack (s : Str) (e : Edit) : evFn (cxOf Γ26 Tryd.f61.ntmps [] [(0, [0, 3, 4]), (1000000, [4, 5])] [] []) Tryd.f61 true [ofD .str s, ofD TE e] [] = branch (!(EdDo s e).2) (some ((backR (e0, false), []) : Fin)) (
 branch (decide (e.1 = 1)) (some (backR ((2, e.2.1, []), true), [])) (
  branch (decide (e.1 = 2)) (
   need (inr e.2.1 (W64 (e.2.1 + 1)) s.length) (some (backR ((1, e.2.1, (s.drop e.2.1.toNat).take ((W64 (e.2.1 + 1)).toNat - e.2.1.toNat)), true), [])))
   (need (inr e.2.1 (W64 (e.2.1 + 1)) s.length) (some (backR ((3, e.2.1, (s.drop e.2.1.toNat).take ((W64 (e.2.1 + 1)).toNat - e.2.1.toNat)), true), []))))) := by kernel_rfl
theorem s_spec_EditBack (s : Str) (_hs : Fit .str s) (e : Edit) (_he : Fit TE e) : Sat Tryd.prog 61 [ofD .str s, ofD TE e] [] (backR (EdBack s e)) [] :=
  fn_sound (cx := cxOf Γ26 Tryd.f61.ntmps [] [(0, [0, 3, 4]), (1000000, [4, 5])] [] []) Tryd.func61 rfl ttOk Γ26ok mixed (fun c hc => LoopsOk.nil (by cases hc; kernel_rfl)) (ro := true) (by
    exact (y_spec_EditBack s e).trans back_tree)
noncomputable def c_spec_EditBack : Con := conT [.str, TE] fun (s : Str) (e : Edit) => (none, backR (EdBack s e))
theorem k_spec_EditBack : ConOk Tryd.prog 61 c_spec_EditBack := conT_ok Tryd.call61 fun s hs e he _ => s_spec_EditBack s hs e he
noncomputable def Γ27 : List (Nat × Con) := (61, c_spec_EditBack) :: Γ26
theorem Γ27ok : EnvOk Tryd.prog (look Γ27) := .cons k_spec_EditBack Γ26ok

theorem y_impl_EditBack (s : Str) (e : Edit) : evFn (cxOf Γ27 Tryd.f56.ntmps [] [(0, [0, 3, 4]), (1000000, [4, 5])] [] []) Tryd.f56 true [ofD .str s, ofD TE e] [] = branch (!(EdDo s e).2) (some ((backR (e0, false), []) : Fin)) (
 branch (decide (e.1 = 1)) (some (backR ((2, e.2.1, []), true), [])) (
  branch (decide (e.1 = 2)) (
   need (inr e.2.1 (W64 (e.2.1 + 1)) s.length) (some (backR ((1, e.2.1, (s.drop e.2.1.toNat).take ((W64 (e.2.1 + 1)).toNat - e.2.1.toNat)), true), [])))
   (need (inr e.2.1 (W64 (e.2.1 + 1)) s.length) (some (backR ((3, e.2.1, (s.drop e.2.1.toNat).take ((W64 (e.2.1 + 1)).toNat - e.2.1.toNat)), true), []))))) := by kernel_rfl
theorem s_impl_EditBack (s : Str) (_hs : Fit .str s) (e : Edit) (_he : Fit TE e) : Sat Tryd.prog 56 [ofD .str s, ofD TE e] [] (backR (EdBack s e)) [] :=
  fn_sound (cx := cxOf Γ27 Tryd.f56.ntmps [] [(0, [0, 3, 4]), (1000000, [4, 5])] [] []) Tryd.func56 rfl ttOk Γ27ok mixed (fun c hc => LoopsOk.nil (by cases hc; kernel_rfl)) (ro := true) (by
    exact (y_impl_EditBack s e).trans back_tree)
noncomputable def c_impl_EditBack : Con := conT [.str, TE] fun (s : Str) (e : Edit) => (none, backR (EdBack s e))
theorem k_impl_EditBack : ConOk Tryd.prog 56 c_impl_EditBack := conT_ok Tryd.call56 fun s hs e he _ => s_impl_EditBack s hs e he
noncomputable def Γ28 : List (Nat × Con) := (56, c_impl_EditBack) :: Γ27
theorem Γ28ok : EnvOk Tryd.prog (look Γ28) := .cons k_impl_EditBack Γ27ok

def G_play (s : Str) (l : List Edit) (i : Int) (K : Cont) : Option Fin := need (decide (-1 ≤ i) && (decide (i < (l.length : Int)) && Nat.ble l.length 9223372036854775807))
  (branch (play s (l.take (i + 1).toNat)).2 (K (.exit 0) ⟨[(0, vS (play s (l.take (i + 1).toNat)).1)], []⟩) (K .ret ⟨[(4, vS []), (5, vB false)], []⟩))
def g_play : St → Cont → Option Fin := orc ([(0, .d .str), (1, .d TL), (6, .d TI64)], []) fun v => G_play v.1.1 v.1.2.1 v.1.2.2.1
theorem play_loop {f : St → Cont → Option Fin} {head : St → St} (hx : ∀ (s : Str) (l : List Edit) (i : Int) (R : St → Option Fin) (K : Cont), f ⟨[(0, vS s), (1, vL TE l), (6, vI i)], []⟩ (onward head R K) =
  branch (decide (0 ≤ i)) (need (inb i l.length) (branch (!(EdDo s (l.getD i.toNat e0)).2) (K .ret ⟨[(4, vS []), (5, vB false)], []⟩) (R ⟨[(0, vS (EdDo s (l.getD i.toNat e0)).1), (1, vL TE l), (6, vI (W64 (i - 1)))], []⟩))) (K (.exit 0) ⟨[(0, vS s)], []⟩)) :
    ∀ st K r, g_play st K = some r → ∃ N, iter f head N st K = some r := by
  refine orc_ok (loop_rule (fun v => Int.toNat (Int.add v.1.2.2.1 1)) ?_)
  rintro ⟨⟨(s : Str), (l : List Edit), (i : Int), ⟨⟩⟩, ⟨⟩⟩ K r hg R hR
  refine (hx s l i R K).trans ?_
  replace hg : G_play s l i K = some r := hg
  replace hR : ∀ (s' : Str) (i' : Int), (i' + 1).toNat < (i + 1).toNat → G_play s' l i' K = some r → R ⟨[(0, vS s'), (1, vL TE l), (6, vI i')], []⟩ = some r := fun s' i' => hR ((s', l, i', ()), ())
  unfold G_play at hg hR
  obtain ⟨hp, hg⟩ := need_some.1 hg
  simp only [Bool.and_eq_true, decide_eq_true_eq, Nat.ble_eq] at hp
  obtain ⟨h0, h1, h2⟩ := hp
  by_cases hi : 0 ≤ i
  · have hn : i.toNat < l.length := by omega
    rw [decide_eq_true hi, branch_true, inb_ok hi h1, getD_at hn]
    simp only [need, branch_true]
    have ht : l.take (i + 1).toNat = l.take i.toNat ++ [l[i.toNat]] := by rw [show (i + 1).toNat = i.toNat + 1 by omega, List.take_succ_eq_append_getElem hn]
    rw [ht, play_snoc] at hg
    cases hc : (EdDo s l[i.toNat]).2
    · rw [hc] at hg; exact hg
    · rw [hc, cond_true] at hg
      have e : W64 (i - 1) = i - 1 := wrap_small (by omega) (by omega)
      rw [Bool.not_true, branch_false, e]
      refine hR _ (i - 1) (by omega) (need_some.2 ⟨?_, ?_⟩)
      · simp only [Bool.and_eq_true, decide_eq_true_eq, Nat.ble_eq]
        exact ⟨by omega, by omega, h2⟩
      · rw [show i - 1 + 1 = i by omega]
        exact hg
  · rw [decide_eq_false hi, branch_false]
    rw [show (i + 1).toNat = 0 by omega] at hg
    exact hg
theorem play_end {s : Str} {l : List Edit} (h : l.length ≤ 9223372036854775807) : need (decide (-1 ≤ W64 ((l.length : Int) - 1)) && (decide (W64 ((l.length : Int) - 1) < (l.length : Int)) && Nat.ble l.length 9223372036854775807))
  (branch (play s (l.take (W64 ((l.length : Int) - 1) + 1).toNat)).2 (some ((editR ((play s (l.take (W64 ((l.length : Int) - 1) + 1).toNat)).1, true), []) : Fin)) (some (editR ([], false), []))) = some (editR (play s l), []) := by
  have e : W64 ((l.length : Int) - 1) = (l.length : Int) - 1 := wrap_small (by omega) (by omega)
  rw [e, decide_eq_true (by omega : -1 ≤ (l.length : Int) - 1), decide_eq_true (by omega : (l.length : Int) - 1 < (l.length : Int)), Nat.ble_eq_true_of_le h, show ((l.length : Int) - 1 + 1).toNat = l.length by omega, List.take_length]
  cases hp : (play s l).2
  · have : play s l = ([], false) := by
      have key : ∀ (m : List Edit) (t : Str), (plays t m).2 = false → plays t m = ([], false) := by
        intro m
        induction m with
        | nil => intro t h; cases h
        | cons e m ih =>
          intro t h
          simp only [plays] at h ⊢
          cases he : (EdDo t e).2
          · rfl
          · rw [he, cond_true] at h; rw [cond_true]; exact ih _ h
      exact key _ _ hp
    rw [this]; rfl
  · have : play s l = ((play s l).1, true) := by rw [← hp]
    rw [this]; rfl
noncomputable def cx_spec_l14All : Cx := cxOf Γ28 Tryd.f50.ntmps [(2, [0, 1, 6])] [(0, [0]), (1, [0, 1, 6]), (1000000, [4, 5])] [] [(2, g_play)]
theorem x_spec_l14All (s : Str) (l : List Edit) (i : Int) (R : St → Option Fin) (K : Cont) : evC cx_spec_l14All (loopOf Tryd.f50 0) ⟨[(0, vS s), (1, vL TE l), (6, vI i)], []⟩ (onward (headAt cx_spec_l14All 2) R K) =
  branch (decide (0 ≤ i)) (need (inb i l.length) (branch (!(EdDo s (l.getD i.toNat e0)).2) (K .ret ⟨[(4, vS []), (5, vB false)], []⟩) (R ⟨[(0, vS (EdDo s (l.getD i.toNat e0)).1), (1, vL TE l), (6, vI (W64 (i - 1)))], []⟩))) (K (.exit 0) ⟨[(0, vS s)], []⟩) := by kernel_rfl
theorem y_spec_l14All (s : Str) (l : List Edit) : evFn cx_spec_l14All Tryd.f50 true [ofD .str s, ofD TL l] [] = need (decide (-1 ≤ W64 ((l.length : Int) - 1)) && (decide (W64 ((l.length : Int) - 1) < (l.length : Int)) && Nat.ble l.length 9223372036854775807))
  (branch (play s (l.take (W64 ((l.length : Int) - 1) + 1).toNat)).2 (some ((editR ((play s (l.take (W64 ((l.length : Int) - 1) + 1).toNat)).1, true), []) : Fin)) (some (editR ([], false), []))) := by kernel_rfl
theorem s_spec_l14All (s : Str) (_hs : Fit .str s) (l : List Edit) (hl : Fit TL l) : Sat Tryd.prog 50 [ofD .str s, ofD TL l] [] (editR (play s l)) [] :=
  fn_sound (cx := cx_spec_l14All) Tryd.func50 rfl ttOk Γ28ok mixed (fun c hc => LoopsOk.one (b := loopOf Tryd.f50 0) (id := 2) (g := g_play) (by cases hc; kernel_rfl) rfl (play_loop x_spec_l14All)) (ro := true) (by
    exact (y_spec_l14All s l).trans (play_end hl.1))
noncomputable def c_spec_l14All : Con := conT [.str, TL] fun (s : Str) (l : List Edit) => (none, editR (play s l))
theorem k_spec_l14All : ConOk Tryd.prog 50 c_spec_l14All := conT_ok Tryd.call50 fun s hs l hl _ => s_spec_l14All s hs l hl
noncomputable def Γ29 : List (Nat × Con) := (50, c_spec_l14All) :: Γ28
theorem Γ29ok : EnvOk Tryd.prog (look Γ29) := .cons k_spec_l14All Γ28ok

noncomputable def cx_impl_played : Cx := cxOf Γ29 Tryd.f52.ntmps [(2, [0, 1, 6])] [(0, [0]), (1, [0, 1, 6]), (1000000, [4, 5])] [] [(2, g_play)]
theorem x_impl_played (s : Str) (l : List Edit) (i : Int) (R : St → Option Fin) (K : Cont) : evC cx_impl_played (loopOf Tryd.f52 0) ⟨[(0, vS s), (1, vL TE l), (6, vI i)], []⟩ (onward (headAt cx_impl_played 2) R K) =
  branch (decide (0 ≤ i)) (need (inb i l.length) (branch (!(EdDo s (l.getD i.toNat e0)).2) (K .ret ⟨[(4, vS []), (5, vB false)], []⟩) (R ⟨[(0, vS (EdDo s (l.getD i.toNat e0)).1), (1, vL TE l), (6, vI (W64 (i - 1)))], []⟩))) (K (.exit 0) ⟨[(0, vS s)], []⟩) := by kernel_rfl
theorem y_impl_played (s : Str) (l : List Edit) : evFn cx_impl_played Tryd.f52 true [ofD .str s, ofD TL l] [] = need (decide (-1 ≤ W64 ((l.length : Int) - 1)) && (decide (W64 ((l.length : Int) - 1) < (l.length : Int)) && Nat.ble l.length 9223372036854775807))
  (branch (play s (l.take (W64 ((l.length : Int) - 1) + 1).toNat)).2 (some ((editR ((play s (l.take (W64 ((l.length : Int) - 1) + 1).toNat)).1, true), []) : Fin)) (some (editR ([], false), []))) := by kernel_rfl
theorem s_impl_played (s : Str) (_hs : Fit .str s) (l : List Edit) (hl : Fit TL l) : Sat Tryd.prog 52 [ofD .str s, ofD TL l] [] (editR (play s l)) [] :=
  fn_sound (cx := cx_impl_played) Tryd.func52 rfl ttOk Γ29ok mixed (fun c hc => LoopsOk.one (b := loopOf Tryd.f52 0) (id := 2) (g := g_play) (by cases hc; kernel_rfl) rfl (play_loop x_impl_played)) (ro := true) (by
    exact (y_impl_played s l).trans (play_end hl.1))
noncomputable def c_impl_played : Con := conT [.str, TL] fun (s : Str) (l : List Edit) => (none, editR (play s l))
theorem k_impl_played : ConOk Tryd.prog 52 c_impl_played := conT_ok Tryd.call52 fun s hs l hl _ => s_impl_played s hs l hl
noncomputable def Γ30 : List (Nat × Con) := (52, c_impl_played) :: Γ29
theorem Γ30ok : EnvOk Tryd.prog (look Γ30) := .cons k_impl_played Γ29ok

end Go.Proofs.YtnbkolhmacikaaaDoor.Ev
