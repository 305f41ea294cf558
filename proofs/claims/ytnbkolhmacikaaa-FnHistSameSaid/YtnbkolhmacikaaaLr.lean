/-
  Edits: what the functions on texts compute.
-/
import Derived.Test.YtnbkolhmacikaaaLq
namespace Go.Proofs.Ytnbkolhmacikaaa.Ev
open Go

def smallI (c : Int) : Bool := bif decide (97 ≤ c) then decide (c ≤ 100) else false
theorem smallI_nat (c : UInt8) : smallI (c.toNat : Int) = small c := by
  unfold smallI small
  by_cases h1 : 97 ≤ c.toNat
  · rw [decide_eq_true (by omega : (97 : Int) ≤ (c.toNat : Int)), Nat.ble_eq_true_of_le h1]
    by_cases h2 : c.toNat ≤ 100
    · rw [Nat.ble_eq_true_of_le h2]; simp; omega
    · have : Nat.ble c.toNat 100 = false := by
        cases hb : Nat.ble c.toNat 100
        · rfl
        · exact absurd (Nat.le_of_ble_eq_true hb) h2
      rw [this]; simp; omega
  · have : Nat.ble 97 c.toNat = false := by
      cases hb : Nat.ble 97 c.toNat
      · rfl
      · exact absurd (Nat.le_of_ble_eq_true hb) h1
    rw [decide_eq_false (by omega : ¬ (97 : Int) ≤ (c.toNat : Int)), this]; rfl
theorem byteAt_get {s : Str} {i : Int} (_h0 : 0 ≤ i) (h1 : i.toNat < s.length) : byteAt s i = (s[i.toNat].toNat : Int) := by
  unfold byteAt; rw [List.getD_eq_getElem?_getD, List.getElem?_eq_getElem h1]; rfl

theorem s_spec_l1Small (c : Int) (_hc : Fit (.int .u8) c) : Sat Try.prog 40 [ofD (.int .u8) c] [] (.d (ofD .bool (smallI c))) [] :=
  fn_sound (cx := cxOf Γ13 Try.f40.ntmps [] [] [] []) Try.func40 rfl ttOk Γ13ok mixed (fun c hc => LoopsOk.nil (by cases hc; kernel_rfl)) (ro := true) (by
    kernel_rfl)
noncomputable def c_spec_l1Small : Con := conT [(.int .u8)] fun (c : Int) => (none, .d (ofD .bool (smallI c)))
theorem k_spec_l1Small : ConOk Try.prog 40 c_spec_l1Small := conT_ok Try.call40 fun c hc _ => s_spec_l1Small c hc
noncomputable def Γ14 : List (Nat × Con) := (40, c_spec_l1Small) :: Γ13
theorem Γ14ok : EnvOk Try.prog (look Γ14) := .cons k_spec_l1Small Γ13ok

theorem y_spec_SignSmall (s : Str) : evFn (cxOf Γ14 Try.f41.ntmps [] [] [] []) Try.f41 true [ofD .str s] [] = need (bif decide (decide ((s.length : Int) = 1) = true) then inb 0 s.length else true) (some (vB (bif decide ((s.length : Int) = 1) then smallI (byteAt s 0) else false), [])) := by kernel_rfl
theorem s_spec_SignSmall (s : Str) (_hs : Fit .str s) : Sat Try.prog 41 [ofD .str s] [] (.d (ofD .bool (smallS s))) [] :=
  fn_sound (cx := cxOf Γ14 Try.f41.ntmps [] [] [] []) Try.func41 rfl ttOk Γ14ok mixed (fun c hc => LoopsOk.nil (by cases hc; kernel_rfl)) (ro := true) (by
    rw [y_spec_SignSmall]
    cases s with
    | nil => rfl
    | cons c s => cases s with
      | nil => exact congrArg (fun b => some ((vB b, []) : Fin)) (smallI_nat c)
      | cons d s =>
        rw [decide_eq_false (by simp; omega : ¬ ((c :: d :: s).length : Int) = 1)]; rfl)
noncomputable def c_spec_SignSmall : Con := conT [.str] fun (s : Str) => (none, .d (ofD .bool (smallS s)))
theorem k_spec_SignSmall : ConOk Try.prog 41 c_spec_SignSmall := conT_ok Try.call41 fun s hs _ => s_spec_SignSmall s hs
noncomputable def Γ15 : List (Nat × Con) := (41, c_spec_SignSmall) :: Γ14
theorem Γ15ok : EnvOk Try.prog (look Γ15) := .cons k_spec_SignSmall Γ14ok

def isIn (s : Str) (a b : Int) : Bool := bif (bif decide ((s.length : Int) = 1) then decide (a ≤ byteAt s 0) else false) then decide (byteAt s 0 ≤ b) else false
def areSm (s : Str) (n : Int) : Bool := bif decide ((s.length : Int) ≤ n) then s.all small else false
def G_l8Long (s : Str) (i : Int) (K : Cont) : Option Fin := need (decide (0 ≤ i) && Nat.ble s.length 9223372036854775807)
  (branch ((s.drop i.toNat).all small) (K (.exit 0) ⟨[(0, vS s)], []⟩) (K .ret ⟨[(2, vB false)], []⟩))
def g_l8Long : St → Cont → Option Fin := orc ([(0, .d .str), (3, .d TI64)], []) fun v => G_l8Long v.1.1 v.1.2.1
noncomputable def cx_l8Long : Cx := cxOf Γ15 Try.f35.ntmps [(2, [0, 3])] [(0, [0]), (1, [0, 3]), (1000000, [2])] [] [(2, g_l8Long)]
theorem x_spec_l8Long (s : Str) (i : Int) (R : St → Option Fin) (K : Cont) : evC cx_l8Long (loopOf Try.f35 0) ⟨[(0, vS s), (3, vI i)], []⟩ (onward (headAt cx_l8Long 2) R K) =
  branch (decide (i < (s.length : Int))) (need (inb i s.length) (branch (!smallI (byteAt s i)) (K .ret ⟨[(2, vB false)], []⟩) (R ⟨[(0, vS s), (3, vI (W64 (i + 1)))], []⟩))) (K (.exit 0) ⟨[(0, vS s)], []⟩) := by kernel_rfl
theorem l_spec_l8Long : ∀ st K r, g_l8Long st K = some r → ∃ N, iter (evC cx_l8Long (loopOf Try.f35 0)) (headAt cx_l8Long 2) N st K = some r := by
  refine orc_ok (loop_rule (fun v => List.length v.1.1 - Int.toNat v.1.2.1) ?_)
  rintro ⟨⟨(s : Str), (i : Int), ⟨⟩⟩, ⟨⟩⟩ K r hg R hR
  refine (x_spec_l8Long s i R K).trans ?_
  replace hg : G_l8Long s i K = some r := hg
  replace hR : ∀ (s' : Str) (i' : Int), s'.length - i'.toNat < s.length - i.toNat → G_l8Long s' i' K = some r → R ⟨[(0, vS s'), (3, vI i')], []⟩ = some r := fun s' i' => hR ((s', i', ()), ())
  unfold G_l8Long at hg hR
  obtain ⟨hp, hg⟩ := need_some.1 hg
  simp only [Bool.and_eq_true, decide_eq_true_eq] at hp
  obtain ⟨h0, h1⟩ := hp
  have h1 : List.length s ≤ 9223372036854775807 := Nat.le_of_ble_eq_true h1
  by_cases hi : i < (s.length : Int)
  · have hn : i.toNat < s.length := by omega
    rw [decide_eq_true hi, branch_true, inb_ok h0 hi, byteAt_get h0 hn, smallI_nat]
    simp only [need, branch_true]
    rw [List.drop_eq_getElem_cons hn, List.all_cons] at hg
    cases hc : small s[i.toNat]
    · rw [hc] at hg; exact hg
    · rw [hc, Bool.true_and] at hg
      have e : W64 (i + 1) = i + 1 := wrap_small (by omega) (by omega)
      rw [Bool.not_true, branch_false, e]
      refine hR s (i + 1) (by omega) (need_some.2 ⟨?_, ?_⟩)
      · simp only [Bool.and_eq_true, decide_eq_true_eq]
        exact ⟨by omega, Nat.ble_eq_true_of_le h1⟩
      · rw [show (i + 1).toNat = i.toNat + 1 by omega]
        exact hg
  · rw [decide_eq_false hi, branch_false]
    rw [List.drop_eq_nil_of_le (by omega)] at hg
    exact hg
theorem y_spec_l8Long (s : Str) : evFn cx_l8Long Try.f35 true [ofD .str s] [] = need (true && Nat.ble s.length 9223372036854775807) (branch (s.all small) (some (vB (decide ((s.length : Int) ≤ 20)), [])) (some (vB false, []))) := by kernel_rfl
theorem s_spec_l8Long (s : Str) (hs : Fit .str s) : Sat Try.prog 35 [ofD .str s] [] (.d (ofD .bool (longOk s))) [] :=
  fn_sound (cx := cx_l8Long) Try.func35 rfl ttOk Γ15ok mixed (fun c hc => LoopsOk.one (b := loopOf Try.f35 0) (id := 2) (g := g_l8Long) (by cases hc; kernel_rfl) rfl l_spec_l8Long) (ro := true) (by
    rw [y_spec_l8Long, Nat.ble_eq_true_of_le (show s.length ≤ 9223372036854775807 from hs)]
    unfold longOk
    have : decide ((s.length : Int) ≤ 20) = Nat.ble s.length 20 := by
      by_cases h : s.length ≤ 20
      · rw [Nat.ble_eq_true_of_le h, decide_eq_true (by omega)]
      · rw [decide_eq_false (by omega)]
        cases hb : Nat.ble s.length 20
        · rfl
        · exact absurd (Nat.le_of_ble_eq_true hb) h
    rw [this]
    cases s.all small <;> rfl)
noncomputable def c_spec_l8Long : Con := conT [.str] fun (s : Str) => (none, .d (ofD .bool (longOk s)))
theorem k_spec_l8Long : ConOk Try.prog 35 c_spec_l8Long := conT_ok Try.call35 fun s hs _ => s_spec_l8Long s hs
noncomputable def Γ16 : List (Nat × Con) := (35, c_spec_l8Long) :: Γ15
theorem Γ16ok : EnvOk Try.prog (look Γ16) := .cons k_spec_l8Long Γ15ok

theorem and3 (x y z : Bool) : (bif (bif x then y else false) then z else false) = (x && (y && z)) := by cases x <;> cases y <;> cases z <;> rfl
theorem and2 (x y : Bool) : (bif x then y else false) = (x && y) := by cases x <;> rfl
theorem y_spec_l8Edit (s : Str) (e : Edit) : evFn (cxOf Γ16 Try.f38.ntmps [] [(0, []), (1000000, [4])] [] []) Try.f38 true [ofD .str s, ofD TE e] [] =
branch (decide (e.1 = 1)) (some (vB (bif bif decide (0 ≤ e.2.1) then decide (e.2.1 ≤ (s.length : Int)) else false then smallS e.2.2 else false), [])) (
 branch (decide (e.1 = 2)) (some (vB (bif bif decide (0 ≤ e.2.1) then decide (e.2.1 < (s.length : Int)) else false then decide (e.2.2 = []) else false), [])) (
  branch (decide (e.1 = 3)) (
   need (bif decide ((bif bif decide (0 ≤ e.2.1) then decide (e.2.1 < (s.length : Int)) else false then smallS e.2.2 else false) = true) then inr e.2.1 (W64 (e.2.1 + 1)) s.length else true) (
    some (vB (bif bif bif decide (0 ≤ e.2.1) then decide (e.2.1 < (s.length : Int)) else false then smallS e.2.2 else false then !decide ((s.drop e.2.1.toNat).take ((W64 (e.2.1 + 1)).toNat - e.2.1.toNat) = e.2.2) else false), [])))
   (some (vB false, [])))) := by kernel_rfl
theorem s_spec_l8Edit (s : Str) (hs : Fit .str s) (e : Edit) (_he : Fit TE e) : Sat Try.prog 38 [ofD .str s, ofD TE e] [] (.d (ofD .bool (editOk s e))) [] :=
  fn_sound (cx := cxOf Γ16 Try.f38.ntmps [] [(0, []), (1000000, [4])] [] []) Try.func38 rfl ttOk Γ16ok mixed (fun c hc => LoopsOk.nil (by cases hc; kernel_rfl)) (ro := true) (by
    rw [y_spec_l8Edit]
    obtain ⟨k, a, g⟩ := e
    have hs : s.length ≤ 9223372036854775807 := hs
    unfold editOk
    by_cases k1 : k = 1
    · rw [decide_eq_true k1, and3]; rfl
    rw [decide_eq_false k1, branch_false, cond_false]
    by_cases k2 : k = 2
    · rw [decide_eq_true k2, and3]; rfl
    rw [decide_eq_false k2, branch_false, cond_false]
    by_cases k3 : k = 3
    · rw [decide_eq_true k3, and3, branch_true, cond_true]
      by_cases h0 : 0 ≤ a
      · by_cases h1 : a < (s.length : Int)
        · have e1 : W64 (a + 1) = a + 1 := wrap_small (by omega) (by omega)
          have e2 : inr a (a + 1) s.length = true := decide_eq_true ⟨h0, by omega, by omega⟩
          have e3 : (a + 1).toNat - a.toNat = 1 := by omega
          rw [decide_eq_true h0, decide_eq_true h1, e1, e2, e3]
          cases smallS g <;> rfl
        · rw [decide_eq_true h0, decide_eq_false h1]; rfl
      · rw [decide_eq_false h0]; rfl
    · rw [decide_eq_false k3]; rfl)
noncomputable def c_spec_l8Edit : Con := conT [.str, TE] fun (s : Str) (e : Edit) => (none, .d (ofD .bool (editOk s e)))
theorem k_spec_l8Edit : ConOk Try.prog 38 c_spec_l8Edit := conT_ok Try.call38 fun s hs e he _ => s_spec_l8Edit s hs e he
noncomputable def Γ17 : List (Nat × Con) := (38, c_spec_l8Edit) :: Γ16
theorem Γ17ok : EnvOk Try.prog (look Γ17) := .cons k_spec_l8Edit Γ16ok

theorem y_spec_l8Do (s : Str) (e : Edit) : evFn (cxOf Γ17 Try.f39.ntmps [] [] [] []) Try.f39 true [ofD .str s, ofD TE e] [] =
branch (decide (e.1 = 1)) (
 need (inr 0 e.2.1 s.length) (need (decide ((s.take e.2.1.toNat).length + e.2.2.length ≤ 9223372036854775807)) (need (inr e.2.1 (s.length : Int) s.length)
   (need (decide ((s.take e.2.1.toNat ++ e.2.2).length + ((s.drop e.2.1.toNat).take (s.length - e.2.1.toNat)).length ≤ 9223372036854775807)) (some (vS ((s.take e.2.1.toNat ++ e.2.2) ++ (s.drop e.2.1.toNat).take (s.length - e.2.1.toNat)), []))))))
 (need (inr 0 e.2.1 s.length) (need (decide ((s.take e.2.1.toNat).length + e.2.2.length ≤ 9223372036854775807)) (need (inr (W64 (e.2.1 + 1)) (s.length : Int) s.length)
   (need (decide ((s.take e.2.1.toNat ++ e.2.2).length + ((s.drop (W64 (e.2.1 + 1)).toNat).take (s.length - (W64 (e.2.1 + 1)).toNat)).length ≤ 9223372036854775807)) (some (vS ((s.take e.2.1.toNat ++ e.2.2) ++ (s.drop (W64 (e.2.1 + 1)).toNat).take (s.length - (W64 (e.2.1 + 1)).toNat)), [])))))) := by kernel_rfl
theorem editOk_range {s : Str} {e : Edit} (h : editOk s e = true) : 0 ≤ e.2.1 ∧ e.2.1 ≤ (s.length : Int) ∧ (e.1 ≠ 1 → e.2.1 < (s.length : Int)) ∧ e.2.2.length ≤ 1 := by
  obtain ⟨k, a, g⟩ := e
  unfold editOk at h
  by_cases k1 : k = 1
  · rw [decide_eq_true k1, cond_true] at h
    simp only [Bool.and_eq_true, decide_eq_true_eq] at h
    obtain ⟨c, h3, _⟩ := smallS_one h.2.2
    exact ⟨h.1, h.2.1, fun h' => absurd k1 h', by rw [h3]; simp⟩
  rw [decide_eq_false k1, cond_false] at h
  by_cases k2 : k = 2
  · rw [decide_eq_true k2, cond_true] at h
    simp only [Bool.and_eq_true, decide_eq_true_eq] at h
    exact ⟨h.1, Int.le_of_lt h.2.1, fun _ => h.2.1, by rw [h.2.2]; simp⟩
  rw [decide_eq_false k2, cond_false] at h
  by_cases k3 : k = 3
  · rw [decide_eq_true k3, cond_true] at h
    simp only [Bool.and_eq_true, decide_eq_true_eq] at h
    obtain ⟨c, h3, _⟩ := smallS_one h.2.2.1
    exact ⟨h.1, Int.le_of_lt h.2.1, fun _ => h.2.1, by rw [h3]; simp⟩
  · rw [decide_eq_false k3] at h; cases h
theorem take_all {s : Str} {n : Nat} : (s.drop n).take (s.length - n) = s.drop n := List.take_of_length_le (by simp)
theorem s_spec_l8Do (s : Str) (_hs : Fit .str s) (e : Edit) (_he : Fit TE e) (hpre : (longOk s && editOk s e) = true) : Sat Try.prog 39 [ofD .str s, ofD TE e] [] (.d (ofD .str (doE s e))) [] :=
  fn_sound (cx := cxOf Γ17 Try.f39.ntmps [] [] [] []) Try.func39 rfl ttOk Γ17ok mixed (fun c hc => LoopsOk.nil (by cases hc; kernel_rfl)) (ro := true) (by
    rw [y_spec_l8Do]
    rw [Bool.and_eq_true] at hpre
    obtain ⟨h1, h2⟩ := hpre
    have hl := (longOk_iff.1 h1).2
    obtain ⟨k, a, g⟩ := e
    obtain ⟨r1, r2, r3, r4⟩ : 0 ≤ a ∧ a ≤ (s.length : Int) ∧ (k ≠ 1 → a < (s.length : Int)) ∧ g.length ≤ 1 := editOk_range h2
    have i1 : inr 0 a s.length = true := decide_eq_true ⟨by omega, r1, r2⟩
    have n1 : (s.take a.toNat).length + g.length ≤ 9223372036854775807 := by rw [List.length_take]; omega
    unfold doE
    by_cases k1 : k = 1
    · have i2 : inr a (s.length : Int) s.length = true := decide_eq_true ⟨r1, r2, by omega⟩
      have n2 : (s.take a.toNat ++ g).length + (s.drop a.toNat).length ≤ 9223372036854775807 := by rw [List.length_append, List.length_take, List.length_drop]; omega
      rw [decide_eq_true k1, branch_true, cond_true, i1, decide_eq_true n1, i2, take_all, decide_eq_true n2, List.append_assoc]
      rfl
    · have := r3 k1
      have e1 : W64 (a + 1) = a + 1 := wrap_small (by omega) (by omega)
      have i2 : inr (a + 1) (s.length : Int) s.length = true := decide_eq_true ⟨by omega, by omega, by omega⟩
      have n2 : (s.take a.toNat ++ g).length + (s.drop (a + 1).toNat).length ≤ 9223372036854775807 := by rw [List.length_append, List.length_take, List.length_drop]; omega
      rw [decide_eq_false k1, branch_false, cond_false, e1, i1, decide_eq_true n1, i2, take_all, decide_eq_true n2, List.append_assoc]
      show some (vS (s.take a.toNat ++ (g ++ s.drop (a + 1).toNat)), []) = some (vS (s.take a.toNat ++ (g ++ s.drop (a.toNat + 1))), [])
      rw [show (a + 1).toNat = a.toNat + 1 by omega])
noncomputable def c_spec_l8Do : Con := conT [.str, TE] fun (s : Str) (e : Edit) => (some (longOk s && editOk s e), .d (ofD .str (doE s e)))
theorem k_spec_l8Do : ConOk Try.prog 39 c_spec_l8Do := conT_ok Try.call39 fun s hs e he hqq => s_spec_l8Do s hs e he (pre_of hqq)
noncomputable def Γ18 : List (Nat × Con) := (39, c_spec_l8Do) :: Γ17
theorem Γ18ok : EnvOk Try.prog (look Γ18) := .cons k_spec_l8Do Γ17ok

def editR (x : Str × Bool) : T := .tup [ofD .str x.1, ofD .bool x.2]
theorem y_spec_EditDo (s : Str) (e : Edit) : evFn (cxOf Γ18 Try.f31.ntmps [] [] [] []) Try.f31 true [ofD .str s, ofD TE e] [] =
need (bif decide ((bif !longOk s then true else !editOk s e) = false) then longOk s && editOk s e else true) (
 branch (bif bif !longOk s then true else !editOk s e then true else !longOk (doE s e)) (some (editR ([], false), [])) (need (longOk s && editOk s e) (some (editR (doE s e, true), [])))) := by kernel_rfl
theorem s_spec_EditDo (s : Str) (_hs : Fit .str s) (e : Edit) (_he : Fit TE e) : Sat Try.prog 31 [ofD .str s, ofD TE e] [] (editR (EdDo s e)) [] :=
  fn_sound (cx := cxOf Γ18 Try.f31.ntmps [] [] [] []) Try.func31 rfl ttOk Γ18ok mixed (fun c hc => LoopsOk.nil (by cases hc; kernel_rfl)) (ro := true) (by
    rw [y_spec_EditDo]
    unfold EdDo
    cases longOk s
    · rfl
    · cases editOk s e
      · rfl
      · cases longOk (doE s e) <;> rfl)
noncomputable def c_spec_EditDo : Con := conT [.str, TE] fun (s : Str) (e : Edit) => (none, editR (EdDo s e))
theorem k_spec_EditDo : ConOk Try.prog 31 c_spec_EditDo := conT_ok Try.call31 fun s hs e he _ => s_spec_EditDo s hs e he
noncomputable def Γ19 : List (Nat × Con) := (31, c_spec_EditDo) :: Γ18
theorem Γ19ok : EnvOk Try.prog (look Γ19) := .cons k_spec_EditDo Γ18ok

theorem areSm_20 (s : Str) : areSm s 20 = longOk s := by
  unfold areSm longOk
  have : decide ((s.length : Int) ≤ 20) = Nat.ble s.length 20 := by
    by_cases h : s.length ≤ 20
    · rw [Nat.ble_eq_true_of_le h, decide_eq_true (by omega)]
    · rw [decide_eq_false (by omega)]
      cases hb : Nat.ble s.length 20
      · rfl
      · exact absurd (Nat.le_of_ble_eq_true hb) h
  rw [this, and2, Bool.and_comm]
theorem long_edit1 {s : Str} {a : Int} {c : UInt8} (h : longOk s = true) (hc : small c = true) (ha : a.toNat ≤ s.length) : longOk (s.take a.toNat ++ ([c] ++ s.drop a.toNat)) = decide (s.length < 20) := by
  have hl := longOk_iff.1 h
  have hn : (s.take a.toNat ++ ([c] ++ s.drop a.toNat)).length = s.length + 1 := by simp only [List.length_append, List.length_take, List.length_drop, List.length_singleton]; omega
  by_cases g : s.length < 20
  · rw [decide_eq_true g]
    refine longOk_iff.2 ⟨fun x hx => ?_, by omega⟩
    simp only [List.mem_append, List.mem_singleton] at hx
    rcases hx with hx | rfl | hx
    · exact hl.1 x (List.mem_of_mem_take hx)
    · exact hc
    · exact hl.1 x (List.mem_of_mem_drop hx)
  · rw [decide_eq_false g]
    cases hq : longOk (s.take a.toNat ++ ([c] ++ s.drop a.toNat))
    · rfl
    · have := (longOk_iff.1 hq).2; omega
theorem long_edit2 {s g : Str} {a : Int} (h : longOk s = true) (hc : ∀ x ∈ g, small x = true) (hg : g.length ≤ 1) (ha : a.toNat < s.length) : longOk (s.take a.toNat ++ (g ++ s.drop (a.toNat + 1))) = true := by
  have hl := longOk_iff.1 h
  refine longOk_iff.2 ⟨fun x hx => ?_, by simp only [List.length_append, List.length_take, List.length_drop]; omega⟩
  simp only [List.mem_append] at hx
  rcases hx with hx | hx | hx
  · exact hl.1 x (List.mem_of_mem_take hx)
  · exact hc x hx
  · exact hl.1 x (List.mem_of_mem_drop hx)
def backR (x : Edit × Bool) : T := .tup [ofD TE x.1, ofD .bool x.2]
theorem back_tree {s : Str} {e : Edit} : branch (!(EdDo s e).2) (some ((backR (e0, false), []) : Fin)) (
 branch (decide (e.1 = 1)) (some (backR ((2, e.2.1, []), true), [])) (
  branch (decide (e.1 = 2)) (
   need (inr e.2.1 (W64 (e.2.1 + 1)) s.length) (some (backR ((1, e.2.1, (s.drop e.2.1.toNat).take ((W64 (e.2.1 + 1)).toNat - e.2.1.toNat)), true), [])))
   (need (inr e.2.1 (W64 (e.2.1 + 1)) s.length) (some (backR ((3, e.2.1, (s.drop e.2.1.toNat).take ((W64 (e.2.1 + 1)).toNat - e.2.1.toNat)), true), []))))) = some (backR (EdBack s e), []) := by
  unfold EdBack
  cases h : (EdDo s e).2
  · rfl
  · obtain ⟨h1, h2, _, _⟩ := EdDo_true h
    obtain ⟨r1, r2, r3, _⟩ := editOk_range h2
    have hl := (longOk_iff.1 h1).2
    obtain ⟨k, a, g⟩ := e
    by_cases k1 : k = 1
    · rw [decide_eq_true k1]; rfl
    · have r3 : a < (s.length : Int) := r3 k1
      have r1 : 0 ≤ a := r1
      have e1 : W64 (a + 1) = a + 1 := wrap_small (by omega) (by omega)
      have i3 : inr a (a + 1) s.length = true := decide_eq_true ⟨by omega, by omega, by omega⟩
      have e5 : (s.drop a.toNat).take ((a + 1).toNat - a.toNat) = signAt s a := by rw [show (a + 1).toNat - a.toNat = 1 by omega]; rfl
      rw [decide_eq_false k1, e1, i3, e5]
      cases decide (k = 2) <;> rfl
theorem y_spec_EditBack (s : Str) (e : Edit) : evFn (cxOf Γ19 Try.f33.ntmps [] [(0, [0, 3, 4]), (1000000, [4, 5])] [] []) Try.f33 true [ofD .str s, ofD TE e] [] = branch (!(EdDo s e).2) (some ((backR (e0, false), []) : Fin)) (
 branch (decide (e.1 = 1)) (some (backR ((2, e.2.1, []), true), [])) (
  branch (decide (e.1 = 2)) (
   need (inr e.2.1 (W64 (e.2.1 + 1)) s.length) (some (backR ((1, e.2.1, (s.drop e.2.1.toNat).take ((W64 (e.2.1 + 1)).toNat - e.2.1.toNat)), true), [])))
   (need (inr e.2.1 (W64 (e.2.1 + 1)) s.length) (some (backR ((3, e.2.1, (s.drop e.2.1.toNat).take ((W64 (e.2.1 + 1)).toNat - e.2.1.toNat)), true), []))))) := by kernel_rfl
theorem s_spec_EditBack (s : Str) (_hs : Fit .str s) (e : Edit) (_he : Fit TE e) : Sat Try.prog 33 [ofD .str s, ofD TE e] [] (backR (EdBack s e)) [] :=
  fn_sound (cx := cxOf Γ19 Try.f33.ntmps [] [(0, [0, 3, 4]), (1000000, [4, 5])] [] []) Try.func33 rfl ttOk Γ19ok mixed (fun c hc => LoopsOk.nil (by cases hc; kernel_rfl)) (ro := true) (by
    exact (y_spec_EditBack s e).trans back_tree)
noncomputable def c_spec_EditBack : Con := conT [.str, TE] fun (s : Str) (e : Edit) => (none, backR (EdBack s e))
theorem k_spec_EditBack : ConOk Try.prog 33 c_spec_EditBack := conT_ok Try.call33 fun s hs e he _ => s_spec_EditBack s hs e he
noncomputable def Γ20 : List (Nat × Con) := (33, c_spec_EditBack) :: Γ19
theorem Γ20ok : EnvOk Try.prog (look Γ20) := .cons k_spec_EditBack Γ19ok

def G_play (s : Str) (l : List Edit) (i : Int) (K : Cont) : Option Fin := need (decide (-1 ≤ i) && (decide (i < (l.length : Int)) && Nat.ble l.length 9223372036854775807))
  (branch (play s (l.take (i + 1).toNat)).2 (K (.exit 0) ⟨[(0, vS (play s (l.take (i + 1).toNat)).1)], []⟩) (K .ret ⟨[(4, vS []), (5, vB false)], []⟩))
def g_play : St → Cont → Option Fin := orc ([(0, .d .str), (1, .d TL), (6, .d TI64)], []) fun v => G_play v.1.1 v.1.2.1 v.1.2.2.1
theorem play_loop {f : St → Cont → Option Fin} {head : St → St} (hx : ∀ (s : Str) (l : List Edit) (i : Int) (R : St → Option Fin) (K : Cont), f ⟨[(0, vS s), (1, vL TE l), (6, vI i)], []⟩ (onward head R K) =
  branch (decide (0 ≤ i)) (need (inb i l.length) (branch (!(EdDo s (l.getD i.toNat e0)).2) (K .ret ⟨[(4, vS []), (5, vB false)], []⟩) (R ⟨[(0, vS (EdDo s (l.getD i.toNat e0)).1), (1, vL TE l), (6, vI (W64 (i - 1)))], []⟩))) (K (.exit 0) ⟨[(0, vS s)], []⟩)) :
    ∀ st K r, g_play st K = some r → ∃ N, iter f head N st K = some r := by
  refine orc_ok (loop_rule (fun v => Int.toNat (Int.add v.1.2.2.1 1)) ?_)
  rintro ⟨⟨(s : Str), (l : List Edit), (i : Int), ⟨⟩⟩, ⟨⟩⟩ K r hg R hR
  refine (hx s l i R K).trans ?_
  replace hg : G_play s l i K = some r := hg
  replace hR : ∀ (s' : Str) (i' : Int), (i' + 1).toNat < (i + 1).toNat → G_play s' l i' K = some r → R ⟨[(0, vS s'), (1, vL TE l), (6, vI i')], []⟩ = some r := fun s' i' => hR ((s', l, i', ()), ())
  unfold G_play at hg hR
  obtain ⟨hp, hg⟩ := need_some.1 hg
  simp only [Bool.and_eq_true, decide_eq_true_eq, Nat.ble_eq] at hp
  obtain ⟨h0, h1, h2⟩ := hp
  by_cases hi : 0 ≤ i
  · have hn : i.toNat < l.length := by omega
    rw [decide_eq_true hi, branch_true, inb_ok hi h1, getD_at hn]
    simp only [need, branch_true]
    have ht : l.take (i + 1).toNat = l.take i.toNat ++ [l[i.toNat]] := by rw [show (i + 1).toNat = i.toNat + 1 by omega, List.take_succ_eq_append_getElem hn]
    rw [ht, play_snoc] at hg
    cases hc : (EdDo s l[i.toNat]).2
    · rw [hc] at hg; exact hg
    · rw [hc, cond_true] at hg
      have e : W64 (i - 1) = i - 1 := wrap_small (by omega) (by omega)
      rw [Bool.not_true, branch_false, e]
      refine hR _ (i - 1) (by omega) (need_some.2 ⟨?_, ?_⟩)
      · simp only [Bool.and_eq_true, decide_eq_true_eq, Nat.ble_eq]
        exact ⟨by omega, by omega, h2⟩
      · rw [show i - 1 + 1 = i by omega]
        exact hg
  · rw [decide_eq_false hi, branch_false]
    rw [show (i + 1).toNat = 0 by omega] at hg
    exact hg
theorem play_end {s : Str} {l : List Edit} (h : l.length ≤ 9223372036854775807) : need (decide (-1 ≤ W64 ((l.length : Int) - 1)) && (decide (W64 ((l.length : Int) - 1) < (l.length : Int)) && Nat.ble l.length 9223372036854775807))
  (branch (play s (l.take (W64 ((l.length : Int) - 1) + 1).toNat)).2 (some ((editR ((play s (l.take (W64 ((l.length : Int) - 1) + 1).toNat)).1, true), []) : Fin)) (some (editR ([], false), []))) = some (editR (play s l), []) := by
  have e : W64 ((l.length : Int) - 1) = (l.length : Int) - 1 := wrap_small (by omega) (by omega)
  rw [e, decide_eq_true (by omega : -1 ≤ (l.length : Int) - 1), decide_eq_true (by omega : (l.length : Int) - 1 < (l.length : Int)), Nat.ble_eq_true_of_le h, show ((l.length : Int) - 1 + 1).toNat = l.length by omega, List.take_length]
  cases hp : (play s l).2
  · have : play s l = ([], false) := by
      have key : ∀ (m : List Edit) (t : Str), (plays t m).2 = false → plays t m = ([], false) := by
        intro m
        induction m with
        | nil => intro t h; cases h
        | cons e m ih =>
          intro t h
          simp only [plays] at h ⊢
          cases he : (EdDo t e).2
          · rfl
          · rw [he, cond_true] at h; rw [cond_true]; exact ih _ h
      exact key _ _ hp
    rw [this]; rfl
  · have : play s l = ((play s l).1, true) := by rw [← hp]
    rw [this]; rfl
noncomputable def cx_spec_l14All : Cx := cxOf Γ20 Try.f37.ntmps [(2, [0, 1, 6])] [(0, [0]), (1, [0, 1, 6]), (1000000, [4, 5])] [] [(2, g_play)]
theorem x_spec_l14All (s : Str) (l : List Edit) (i : Int) (R : St → Option Fin) (K : Cont) : evC cx_spec_l14All (loopOf Try.f37 0) ⟨[(0, vS s), (1, vL TE l), (6, vI i)], []⟩ (onward (headAt cx_spec_l14All 2) R K) =
  branch (decide (0 ≤ i)) (need (inb i l.length) (branch (!(EdDo s (l.getD i.toNat e0)).2) (K .ret ⟨[(4, vS []), (5, vB false)], []⟩) (R ⟨[(0, vS (EdDo s (l.getD i.toNat e0)).1), (1, vL TE l), (6, vI (W64 (i - 1)))], []⟩))) (K (.exit 0) ⟨[(0, vS s)], []⟩) := by kernel_rfl
theorem y_spec_l14All (s : Str) (l : List Edit) : evFn cx_spec_l14All Try.f37 true [ofD .str s, ofD TL l] [] = need (decide (-1 ≤ W64 ((l.length : Int) - 1)) && (decide (W64 ((l.length : Int) - 1) < (l.length : Int)) && Nat.ble l.length 9223372036854775807))
  (branch (play s (l.take (W64 ((l.length : Int) - 1) + 1).toNat)).2 (some ((editR ((play s (l.take (W64 ((l.length : Int) - 1) + 1).toNat)).1, true), []) : Fin)) (some (editR ([], false), []))) := by kernel_rfl
theorem s_spec_l14All (s : Str) (_hs : Fit .str s) (l : List Edit) (hl : Fit TL l) : Sat Try.prog 37 [ofD .str s, ofD TL l] [] (editR (play s l)) [] :=
  fn_sound (cx := cx_spec_l14All) Try.func37 rfl ttOk Γ20ok mixed (fun c hc => LoopsOk.one (b := loopOf Try.f37 0) (id := 2) (g := g_play) (by cases hc; kernel_rfl) rfl (play_loop x_spec_l14All)) (ro := true) (by
    exact (y_spec_l14All s l).trans (play_end hl.1))
noncomputable def c_spec_l14All : Con := conT [.str, TL] fun (s : Str) (l : List Edit) => (none, editR (play s l))
theorem k_spec_l14All : ConOk Try.prog 37 c_spec_l14All := conT_ok Try.call37 fun s hs l hl _ => s_spec_l14All s hs l hl
noncomputable def Γ21 : List (Nat × Con) := (37, c_spec_l14All) :: Γ20
theorem Γ21ok : EnvOk Try.prog (look Γ21) := .cons k_spec_l14All Γ20ok

end Go.Proofs.Ytnbkolhmacikaaa.Ev
