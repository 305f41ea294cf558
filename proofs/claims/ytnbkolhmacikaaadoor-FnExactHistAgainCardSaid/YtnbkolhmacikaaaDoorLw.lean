/-
  The exact laws of histories: results in memory of their own.
-/
import Derived.Test.YtnbkolhmacikaaaDoorLv
namespace Go.Proofs.YtnbkolhmacikaaaDoor.Ev
open Go
noncomputable def cx0_markT : Cx := cxOf Γ63 Tryd.f71.ntmps [(4, [0, 3])] [(0, [3]), (1, [0, 3]), (1000000, [2])] [] []
def sh_markT : Sh := ([(0, .d TI64), (3, .d .str)], [])
def V_markT (k : Int) (s : Str) : sh_markT.V := ((k, s, ()), ())
def out_markT (o : Str) : St := ⟨[(3, vS o)], []⟩
def inv_markT (k : Int) (s : Str) : Bool := decide (k ≤ 100000000) && Nat.ble (s.length + k.toNat) 100000000
def post_markT (k : Int) (s : Str) (o : Str) : Prop := o.length ≤ s.length + k.toNat
def mu_markT (k : Int) (_s : Str) : Nat := k.toNat
theorem r_markT (k : Int) (s : Str) (hI : inv_markT k s = true) : (∃ o : Str, post_markT k s o ∧ ∀ (R : St → Option Fin) (K : Cont), evC cx0_markT (loopOf Tryd.f71 0) ⟨[(0, .d (ofD TI64 k)), (3, .d (ofD .str s))], []⟩ (onward (headAt cx0_markT 4) R K) = K (.exit 0) (out_markT o)) ∨
    (∃ (k' : Int) (s' : Str), inv_markT k' s' = true ∧ mu_markT k' s' < mu_markT k s ∧ (∀ o, post_markT k' s' o → post_markT k s o) ∧ ∀ (R : St → Option Fin) (K : Cont), evC cx0_markT (loopOf Tryd.f71 0) ⟨[(0, .d (ofD TI64 k)), (3, .d (ofD .str s))], []⟩ (onward (headAt cx0_markT 4) R K) = R ⟨[(0, .d (ofD TI64 k')), (3, .d (ofD .str s'))], []⟩) := by
  have hx : ∀ (R : St → Option Fin) (K : Cont), evC cx0_markT (loopOf Tryd.f71 0) ⟨[(0, vI k), (3, vS s)], []⟩ (onward (headAt cx0_markT 4) R K) =
    branch (decide (0 < k)) (need (!decide ((10 : Int) = 0)) (need (decide ((byteL [IntKind.u8.wrap (W64 (48 + k.tmod 10))]).length + s.length ≤ 9223372036854775807)) (need (!decide ((10 : Int) = 0)) (R ⟨[(0, vI (W64 (k.tdiv 10))), (3, vS (byteL [IntKind.u8.wrap (W64 (48 + k.tmod 10))] ++ s))], []⟩))))
      (K (.exit 0) (out_markT s)) := fun R K => by kernel_rfl
  simp only [inv_markT, Bool.and_eq_true, decide_eq_true_eq, Nat.ble_eq] at hI
  obtain ⟨h1, h2⟩ := hI
  by_cases hi : 0 < k
  · right
    have hq : k.tdiv 10 = k / 10 := Int.tdiv_eq_ediv_of_nonneg (by omega)
    have e : W64 (k.tdiv 10) = k / 10 := by rw [hq]; exact wrap_small (by omega) (by omega)
    have hb : (byteL [IntKind.u8.wrap (W64 (48 + k.tmod 10))]).length = 1 := rfl
    refine ⟨k / 10, byteL [IntKind.u8.wrap (W64 (48 + k.tmod 10))] ++ s, ?_, ?_, ?_, fun R K => ?_⟩
    · simp only [inv_markT, Bool.and_eq_true, decide_eq_true_eq, Nat.ble_eq, List.length_append, hb]; omega
    · simp only [mu_markT]; omega
    · intro o ho
      unfold post_markT at ho ⊢
      rw [List.length_append, hb] at ho
      omega
    · refine (hx R K).trans ?_
      rw [decide_eq_true hi, hb, decide_eq_true (by omega : 1 + s.length ≤ 9223372036854775807), e]; rfl
  · left
    refine ⟨s, by unfold post_markT; omega, fun R K => ?_⟩
    refine (hx R K).trans ?_
    rw [decide_eq_false hi]; rfl
def I_markT : sh_markT.V → Bool := fun v => match v with | ((k, s, ()), ()) => inv_markT k s
def P_markT : sh_markT.V → Str → Prop := fun v o => match v with | ((k, s, ()), ()) => post_markT k s o
def M_markT : sh_markT.V → Nat := fun v => match v with | ((k, s, ()), ()) => mu_markT k s
theorem a_markT : ∀ v : sh_markT.V, I_markT v = true → ∃ o, P_markT v o ∧ ∀ K r, K (.exit 0) (out_markT o) = some r → ∃ N, iter (evC cx0_markT (loopOf Tryd.f71 0)) (headAt cx0_markT 4) N (sh_markT.mk v) K = some r :=
  loop_any (fun v => I_markT v = true) P_markT (.exit 0) M_markT fun v hI => by
    obtain ⟨⟨(k : Int), (s : Str), ⟨⟩⟩, ⟨⟨⟩⟩⟩ := v
    rcases r_markT k s hI with ⟨o, h1, h2⟩ | ⟨k', s', h1, h2, h3, h4⟩
    · exact .inl ⟨o, h1, h2⟩
    · exact .inr ⟨V_markT k' s', h1, h2, h3, h4⟩
noncomputable def g_markT : St → Cont → Option Fin := gEnd sh_markT I_markT out_markT (evC cx0_markT (loopOf Tryd.f71 0)) (headAt cx0_markT 4) P_markT (.exit 0)
noncomputable def E_markT (k : Int) (s : Str) : Str := endOf sh_markT.mk out_markT (evC cx0_markT (loopOf Tryd.f71 0)) (headAt cx0_markT 4) P_markT (.exit 0) (V_markT k s)
theorem q_markT (k : Int) (s : Str) (hI : inv_markT k s = true) : post_markT k s (E_markT k s) := (endOf_spec (a_markT (V_markT k s) hI)).1
noncomputable def cx_markT : Cx := cx0_markT.withLoops (look [(4, g_markT)])
theorem l_markT : ∀ st K r, g_markT st K = some r → ∃ N, iter (evC cx_markT (loopOf Tryd.f71 0)) (headAt cx_markT 4) N st K = some r := with_ok (by kernel_rfl) (gEnd_ok a_markT)
theorem y_markText (k : Int) : evFn cx_markT Tryd.f71 true [ofD TI64 k] [] = branch (decide (k ≤ 0)) (some (vS [109, 48], [])) (need (inv_markT k []) (need (decide (1 + (E_markT k []).length ≤ 9223372036854775807)) (some (vS ([109] ++ E_markT k []), [])))) := by kernel_rfl
theorem e_laws_markText (k : Int) (_hk : Fit TI64 k) (hpre : (decide (k ≤ 100000000)) = true) : ∃ q : Str, evFn (cx_markT) Tryd.f71 true [ofD TI64 k] [] = some (.d (ofD .str q), []) ∧ (List.length q ≤ 200000000) := by
  obtain ⟨r, h1, h2⟩ : Ok (evFn (cx_markT) Tryd.f71 true [ofD TI64 k] []) (fun r => ∃ (v : Str), r = (.d (ofD .str v), []) ∧ (List.length v ≤ 200000000)) := by
    rw [decide_eq_true_eq] at hpre
    rw [y_markText]
    refine Ok.br (fun _ => Ok.ret ⟨_, rfl, by show 2 ≤ 200000000; omega⟩) fun h => ?_
    have h : ¬ k ≤ 0 := of_decide_eq_false h
    have hi : inv_markT k [] = true := by simp only [inv_markT, Bool.and_eq_true, decide_eq_true_eq, Nat.ble_eq, List.length_nil]; omega
    have hq := q_markT k [] hi
    unfold post_markT at hq
    rw [List.length_nil] at hq
    rw [hi, decide_eq_true (by omega : 1 + (E_markT k []).length ≤ 9223372036854775807)]
    exact Ok.need rfl (Ok.need rfl (Ok.ret ⟨_, rfl, by rw [List.length_append]; show 1 + _ ≤ _; omega⟩))
  obtain ⟨v, h2, h3⟩ := h2
  exact ⟨v, by rw [h1, h2], h3⟩
noncomputable def F_laws_markText (k : Int) : Str := oneOf (fun q : Str => evFn (cx_markT) Tryd.f71 true [ofD TI64 k] [] = some (.d (ofD .str q), []) ∧ (List.length q ≤ 200000000))
theorem p_laws_markText (k : Int) (hk : Fit TI64 k) (hpre : (decide (k ≤ 100000000)) = true) : List.length (F_laws_markText k) ≤ 200000000 := (oneOf_spec (e_laws_markText k hk hpre)).2
theorem s_laws_markText (k : Int) (hk : Fit TI64 k) (hpre : (decide (k ≤ 100000000)) = true) : Sat Tryd.prog 71 [ofD TI64 k] [] (.d (ofD .str (F_laws_markText k))) [] :=
  fn_sound (cx := cx_markT) Tryd.func71 rfl ttOk Γ63ok mixed (fun c hc => LoopsOk.one (b := loopOf Tryd.f71 0) (id := 4) (g := g_markT) (by cases hc; kernel_rfl) rfl l_markT) (ro := true) (oneOf_spec (e_laws_markText k hk hpre)).1
noncomputable def c_laws_markText : Con := conT [TI64] fun (k : Int) => (some (decide (k ≤ 100000000)), .d (ofD .str (F_laws_markText k)))
theorem k_laws_markText : ConOk Tryd.prog 71 c_laws_markText := conT_ok Tryd.call71 fun k hk hqq => s_laws_markText k hk (pre_of hqq)
noncomputable def Γ64 : List (Nat × Con) := (71, c_laws_markText) :: Γ63
theorem Γ64ok : EnvOk Tryd.prog (look Γ64) := .cons k_laws_markText Γ63ok

noncomputable def mkT (k : Int) : Str := F_laws_markText k
def up3 (k : Int) : Int := W64 (W64 (W64 (k + 1) + 1) + 1)
noncomputable def markL : Nat → Int → List Edit
  | 0, _ => []
  | n + 1, k => (k, W64 (k + 1), mkT (W64 (W64 (k + 1) + 1))) :: markL n (up3 k)
def endK : Nat → Int → Int
  | 0, k => k
  | n + 1, k => endK n (up3 k)
noncomputable def heldL : List Edit → Int → Int
  | [], k => k
  | e :: l, k => bif !decide (e.1 = k) then -1 else bif !decide (e.2.1 = W64 (k + 1)) then -1 else bif !decide (e.2.2 = mkT (W64 (W64 (k + 1) + 1))) then -1 else heldL l (up3 k)
theorem up3_eq {k : Int} (h0 : 0 ≤ k) (h1 : k ≤ 99999000) : up3 k = k + 3 := by
  unfold up3
  rw [show W64 (k + 1) = k + 1 from wrap_small (by omega) (by omega), show W64 (k + 1 + 1) = k + 1 + 1 from wrap_small (by omega) (by omega), show W64 (k + 1 + 1 + 1) = k + 1 + 1 + 1 from wrap_small (by omega) (by omega)]
  omega
theorem w1_eq {k : Int} (h0 : 0 ≤ k) (h1 : k ≤ 99999000) : W64 (k + 1) = k + 1 ∧ W64 (W64 (k + 1) + 1) = k + 2 := by
  rw [show W64 (k + 1) = k + 1 from wrap_small (by omega) (by omega), show W64 (k + 1 + 1) = k + 1 + 1 from wrap_small (by omega) (by omega)]
  omega
theorem endK_eq : ∀ {n : Nat} {k : Int}, 0 ≤ k → k + 3 * (n : Int) ≤ 99999000 → endK n k = k + 3 * (n : Int)
  | 0, k, _, _ => by simp [endK]
  | n + 1, k, h0, h1 => by
    simp only [endK]
    rw [up3_eq h0 (by omega), endK_eq (by omega) (by omega)]
    omega
theorem markL_len : ∀ (n : Nat) (k : Int), (markL n k).length = n
  | 0, _ => rfl
  | n + 1, k => by simp only [markL, List.length_cons, markL_len n]
theorem held_mark : ∀ (n : Nat) (k : Int), heldL (markL n k) k = endK n k
  | 0, _ => rfl
  | n + 1, k => by
    simp only [markL, heldL, endK, decide_true, Bool.not_true, cond_false]
    exact held_mark n (up3 k)
def mkOk (n : Nat) (k : Int) : Bool := decide (0 ≤ k ∧ k + 3 * (n : Int) ≤ 99999000)
theorem mkOk_iff {n : Nat} {k : Int} : mkOk n k = true ↔ 0 ≤ k ∧ k + 3 * (n : Int) ≤ 99999000 := decide_eq_true_iff
def set1 (l : List Edit) (i : Nat) (k : Int) : List Edit := l.set i (k, (l.getD i e0).2)
def set2 (l : List Edit) (i : Nat) (k : Int) : List Edit := l.set i ((l.getD i e0).1, k, (l.getD i e0).2.2)
def set3 (l : List Edit) (i : Nat) (s : Str) : List Edit := l.set i ((l.getD i e0).1, (l.getD i e0).2.1, s)
theorem getD_set {l : List Edit} {i : Nat} (h : i < l.length) (a : Edit) : (l.set i a).getD i e0 = a := by
  rw [List.getD_eq_getElem?_getD, List.getElem?_set_self h]; rfl
theorem set_all {l : List Edit} {i : Nat} (h : i < l.length) (k j : Int) (s : Str) : set3 (set2 (set1 l i k) i j) i s = l.set i (k, j, s) := by
  unfold set1 set2 set3
  rw [getD_set h, getD_set (by rw [List.length_set]; exact h), List.set_set, List.set_set]
theorem take_mark {l : List Edit} {i : Nat} (h : i < l.length) (a : Edit) : (l.set i a).take (i + 1) = l.take i ++ [a] := by
  rw [List.take_add_one, List.take_set_of_le (Nat.le_refl _), List.getElem?_set_self h]; rfl
noncomputable def cx0_markE : Cx := cxOf Γ64 Tryd.f47.ntmps [(2, [0, 1, 5])] [(0, [1]), (1, [0, 1, 5]), (1000000, [4])] [] []
def sh_markE : Sh := ([(0, .own 0), (1, .d TI64), (5, .d TI64)], [(0, .lis 46 TE)])
def V_markE (k : Int) (i : Int) (l : List (Edit)) : sh_markE.V := ((k, i, ()), (l, ()))
def out_markE (o : Int × List Edit) : St := ⟨[(1, vI o.1)], [(0, some (.lis 46 TE o.2))]⟩
def inv_markE (k : Int) (i : Int) (l : List (Edit)) : Bool := decide (0 ≤ i) && (mkOk (l.length - i.toNat) k && Nat.ble l.length 40000000)
def post_markE (k : Int) (i : Int) (l : List (Edit)) (o : Int × List Edit) : Prop := o = (endK (l.length - i.toNat) k, l.take i.toNat ++ markL (l.length - i.toNat) k)
def mu_markE (_k : Int) (i : Int) (l : List (Edit)) : Nat := l.length - i.toNat
theorem r_markE (k : Int) (i : Int) (l : List (Edit)) (hI : inv_markE k i l = true) : (∃ o : Int × List Edit, post_markE k i l o ∧ ∀ (R : St → Option Fin) (K : Cont), evC cx0_markE (loopOf Tryd.f47 0) ⟨[(0, .d (.one (.own 0))), (1, .d (ofD TI64 k)), (5, .d (ofD TI64 i))], [(0, some (.lis 46 TE l))]⟩ (onward (headAt cx0_markE 2) R K) = K (.exit 0) (out_markE o)) ∨
    (∃ (k' : Int) (i' : Int) (l' : List (Edit)), inv_markE k' i' l' = true ∧ mu_markE k' i' l' < mu_markE k i l ∧ (∀ o, post_markE k' i' l' o → post_markE k i l o) ∧ ∀ (R : St → Option Fin) (K : Cont), evC cx0_markE (loopOf Tryd.f47 0) ⟨[(0, .d (.one (.own 0))), (1, .d (ofD TI64 k)), (5, .d (ofD TI64 i))], [(0, some (.lis 46 TE l))]⟩ (onward (headAt cx0_markE 2) R K) = R ⟨[(0, .d (.one (.own 0))), (1, .d (ofD TI64 k')), (5, .d (ofD TI64 i'))], [(0, some (.lis 46 TE l'))]⟩) := by
  have hx : ∀ (R : St → Option Fin) (K : Cont), evC cx0_markE (loopOf Tryd.f47 0) ⟨[(0, .d (.one (.own 0))), (1, vI k), (5, vI i)], [(0, some (.lis 46 TE l))]⟩ (onward (headAt cx0_markE 2) R K) =
    branch (decide (i < (l.length : Int))) (need (inb i l.length) (need (inb i (set1 l i.toNat k).length) (need (decide (W64 (W64 (k + 1) + 1) ≤ 100000000)) (need (inb i (set2 (set1 l i.toNat k) i.toNat (W64 (k + 1))).length)
      (R ⟨[(0, .d (.one (.own 0))), (1, vI (up3 k)), (5, vI (W64 (i + 1)))], [(0, some (.lis 46 TE (set3 (set2 (set1 l i.toNat k) i.toNat (W64 (k + 1))) i.toNat (mkT (W64 (W64 (k + 1) + 1))))))]⟩)))))
      (K (.exit 0) (out_markE (k, l))) := fun R K => by kernel_rfl
  simp only [inv_markE, Bool.and_eq_true, decide_eq_true_eq, mkOk_iff, Nat.ble_eq] at hI
  obtain ⟨h0, ⟨h1, h2⟩, h3⟩ := hI
  by_cases hi : i < (l.length : Int)
  · right
    have hn : i.toNat < l.length := by omega
    obtain ⟨w1, w2⟩ := w1_eq (k := k) h1 (by omega)
    have w3 := up3_eq (k := k) h1 (by omega)
    refine ⟨up3 k, i + 1, l.set i.toNat (k, W64 (k + 1), mkT (W64 (W64 (k + 1) + 1))), ?_, ?_, ?_, fun R K => ?_⟩
    · simp only [inv_markE, Bool.and_eq_true, decide_eq_true_eq, mkOk_iff, Nat.ble_eq, List.length_set, w3]; omega
    · simp only [mu_markE, List.length_set]; omega
    · intro o ho
      unfold post_markE at ho ⊢
      rw [ho, List.length_set, show (i + 1).toNat = i.toNat + 1 by omega, take_mark hn, show l.length - i.toNat = (l.length - (i.toNat + 1)) + 1 by omega]
      simp only [endK, markL, List.append_assoc, List.singleton_append]
    · refine (hx R K).trans ?_
      have l1 : (set1 l i.toNat k).length = l.length := by unfold set1; rw [List.length_set]
      have l2 : (set2 (set1 l i.toNat k) i.toNat (W64 (k + 1))).length = l.length := by unfold set2; rw [List.length_set, l1]
      rw [decide_eq_true hi, l1, l2, inb_ok h0 hi, set_all hn, decide_eq_true (by rw [w2]; omega : W64 (W64 (k + 1) + 1) ≤ 100000000), show W64 (i + 1) = i + 1 from wrap_small (by omega) (by omega)]
      rfl
  · left
    refine ⟨(k, l), ?_, fun R K => ?_⟩
    · unfold post_markE
      rw [show l.length - i.toNat = 0 by omega, List.take_of_length_le (by omega)]
      simp only [endK, markL, List.append_nil]
    · refine (hx R K).trans ?_
      rw [decide_eq_false hi]; rfl
def I_markE : sh_markE.V → Bool := fun v => match v with | ((k, i, ()), (l, ())) => inv_markE k i l
def P_markE : sh_markE.V → Int × List Edit → Prop := fun v o => match v with | ((k, i, ()), (l, ())) => post_markE k i l o
def M_markE : sh_markE.V → Nat := fun v => match v with | ((k, i, ()), (l, ())) => mu_markE k i l
theorem a_markE : ∀ v : sh_markE.V, I_markE v = true → ∃ o, P_markE v o ∧ ∀ K r, K (.exit 0) (out_markE o) = some r → ∃ N, iter (evC cx0_markE (loopOf Tryd.f47 0)) (headAt cx0_markE 2) N (sh_markE.mk v) K = some r :=
  loop_any (fun v => I_markE v = true) P_markE (.exit 0) M_markE fun v hI => by
    obtain ⟨⟨(k : Int), (i : Int), ⟨⟩⟩, ⟨(l : List (Edit)), ⟨⟩⟩⟩ := v
    rcases r_markE k i l hI with ⟨o, h1, h2⟩ | ⟨k', i', l', h1, h2, h3, h4⟩
    · exact .inl ⟨o, h1, h2⟩
    · exact .inr ⟨V_markE k' i' l', h1, h2, h3, h4⟩
noncomputable def g_markE : St → Cont → Option Fin := gEnd sh_markE I_markE out_markE (evC cx0_markE (loopOf Tryd.f47 0)) (headAt cx0_markE 2) P_markE (.exit 0)
noncomputable def E_markE (k : Int) (i : Int) (l : List (Edit)) : Int × List Edit := endOf sh_markE.mk out_markE (evC cx0_markE (loopOf Tryd.f47 0)) (headAt cx0_markE 2) P_markE (.exit 0) (V_markE k i l)
theorem q_markE (k : Int) (i : Int) (l : List (Edit)) (hI : inv_markE k i l = true) : post_markE k i l (E_markE k i l) := (endOf_spec (a_markE (V_markE k i l) hI)).1
noncomputable def cx_markE : Cx := cx0_markE.withLoops (look [(2, g_markE)])
theorem l_markE : ∀ st K r, g_markE st K = some r → ∃ N, iter (evC cx_markE (loopOf Tryd.f47 0)) (headAt cx_markE 2) N st K = some r := with_ok (by kernel_rfl) (gEnd_ok a_markE)
theorem y_markEditS (l : List Edit) (k : Int) : evFn cx_markE Tryd.f47 false [.one (.own 0), ofD TI64 k] [.lis 46 TE l] = need (inv_markE k 0 l) (some (vI (E_markE k 0 l).1, [(0, some (.lis 46 TE (E_markE k 0 l).2))])) := by kernel_rfl
theorem s_markEditS (l : List Edit) (k : Int) (h : mkOk l.length k = true) : Sat Tryd.prog 47 [.one (.own 0), ofD TI64 k] [.lis 46 TE l] (vI (endK l.length k)) [(0, some (.lis 46 TE (markL l.length k)))] :=
  fn_sound (cx := cx_markE) Tryd.func47 rfl ttOk Γ64ok mixed (fun c hc => LoopsOk.one (b := loopOf Tryd.f47 0) (id := 2) (g := g_markE) (by cases hc; kernel_rfl) rfl l_markE) (ro := false) (by
    have h' := mkOk_iff.1 h
    have hi : inv_markE k 0 l = true := by
      simp only [inv_markE, Bool.and_eq_true, decide_eq_true_eq, mkOk_iff, Nat.ble_eq]
      exact ⟨by omega, by simpa using h', by omega⟩
    have hq := q_markE k 0 l hi
    unfold post_markE at hq
    rw [y_markEditS, hi, hq]
    rfl)
noncomputable def c_laws_markEditS : Con := ⟨false, fun ds os => match ds, os with
  | [.one (.own 0), .one (.r (.v (.int .i64 k)))], [o] => match exLis 46 TE (some o) with
    | some l => some (some (mkOk (List.length l) k), vI (endK (List.length l) k), [(0, some (.lis 46 TE (markL (List.length l) k)))])
    | none => none
  | _, _ => none⟩
theorem k_laws_markEditS : ConOk Tryd.prog 47 c_laws_markEditS := by
  refine ⟨Tryd.call47, fun ds os c x objs hc hok => ?_⟩
  unfold c_laws_markEditS at hc
  dsimp only at hc
  split at hc
  · split at hc
    · rename_i l e1
      cases hc
      have e1 := Option.some.inj (exLis_some e1)
      subst e1
      exact s_markEditS l _ (pre_of hok)
    · cases hc
  · cases hc
noncomputable def Γ65 : List (Nat × Con) := (47, c_laws_markEditS) :: Γ64
theorem Γ65ok : EnvOk Tryd.prog (look Γ65) := .cons k_laws_markEditS Γ64ok

theorem y_markHist (s : Str) (p n : List Edit) (k : Int) : evFn (cxOf Γ65 Tryd.f21.ntmps [] [] [] []) Tryd.f21 false [.agg [.r (.v (.string (mk s))), .own 0, .own 1], ofD TI64 k] [.lis 46 TE p, .lis 46 TE n] =
  need (mkOk p.length k) (need (mkOk n.length (endK p.length k)) (some (vI (endK n.length (endK p.length k)), [(0, some (.lis 46 TE (markL p.length k))), (1, some (.lis 46 TE (markL n.length (endK p.length k))))]))) := by kernel_rfl
theorem s_markHist (s : Str) (p n : List Edit) (k : Int) (h1 : mkOk p.length k = true) (h2 : mkOk n.length (endK p.length k) = true) : Sat Tryd.prog 21 [.agg [.r (.v (.string (mk s))), .own 0, .own 1], ofD TI64 k] [.lis 46 TE p, .lis 46 TE n] (vI (endK n.length (endK p.length k))) [(0, some (.lis 46 TE (markL p.length k))), (1, some (.lis 46 TE (markL n.length (endK p.length k))))] :=
  fn_sound (cx := cxOf Γ65 Tryd.f21.ntmps [] [] [] []) Tryd.func21 rfl ttOk Γ65ok mixed (fun c hc => LoopsOk.nil (by cases hc; kernel_rfl)) (ro := false) (by rw [y_markHist, h1, h2]; rfl)
noncomputable def c_laws_markHist : Con := ⟨false, fun ds os => match ds, os with
  | [.agg [.r (.v (.string _)), .own 0, .own 1], .one (.r (.v (.int .i64 k)))], [o, q] => match exLis 46 TE (some o), exLis 46 TE (some q) with
    | some p, some n => some (some (mkOk (List.length p) k && mkOk (List.length n) (endK (List.length p) k)), vI (endK (List.length n) (endK (List.length p) k)), [(0, some (.lis 46 TE (markL (List.length p) k))), (1, some (.lis 46 TE (markL (List.length n) (endK (List.length p) k))))])
    | _, _ => none
  | _, _ => none⟩
theorem k_laws_markHist : ConOk Tryd.prog 21 c_laws_markHist := by
  refine ⟨Tryd.call21, fun ds os c x objs hc hok => ?_⟩
  unfold c_laws_markHist at hc
  dsimp only at hc
  split at hc
  · split at hc
    · rename_i p n e1 e2
      cases hc
      have e1 := Option.some.inj (exLis_some e1)
      have e2 := Option.some.inj (exLis_some e2)
      subst e1; subst e2
      have hb := pre_of hok
      rw [Bool.and_eq_true] at hb
      exact s_markHist _ p n _ hb.1 hb.2
    · cases hc
  · cases hc
noncomputable def Γ66 : List (Nat × Con) := (21, c_laws_markHist) :: Γ65
theorem Γ66ok : EnvOk Tryd.prog (look Γ66) := .cons k_laws_markHist Γ65ok

theorem heldL_sign : ∀ {l : List Edit} {k : Int}, 0 ≤ k → k + 3 * (l.length : Int) ≤ 99999000 → heldL l k = -1 ∨ 0 ≤ heldL l k
  | [], k, h0, _ => .inr h0
  | e :: l, k, h0, h1 => by
    simp only [List.length_cons] at h1
    simp only [heldL]
    cases !decide (e.1 = k)
    · cases !decide (e.2.1 = W64 (k + 1))
      · cases !decide (e.2.2 = mkT (W64 (W64 (k + 1) + 1)))
        · have w3 := up3_eq (k := k) h0 (by omega)
          exact heldL_sign (l := l) (k := up3 k) (by omega) (by omega)
        · exact .inl rfl
      · exact .inl rfl
    · exact .inl rfl
noncomputable def G_held (l : List Edit) (k i : Int) (K : Cont) : Option Fin := need (decide (0 ≤ i) && (mkOk (l.length - i.toNat) k && Nat.ble l.length 40000000))
  (branch (decide (heldL (l.drop i.toNat) k < 0)) (K .ret ⟨[(4, vI (-1))], []⟩) (K (.exit 0) ⟨[(1, vI (heldL (l.drop i.toNat) k))], []⟩))
noncomputable def g_held : St → Cont → Option Fin := orc ([(0, .d TL), (1, .d TI64), (5, .d TI64)], []) fun v => G_held v.1.1 v.1.2.1 v.1.2.2.1
noncomputable def cx_held : Cx := cxOf Γ66 Tryd.f48.ntmps [(2, [0, 1, 5])] [(0, [1]), (1, [0, 1, 5]), (1000000, [4])] [] [(2, g_held)]
theorem x_held (l : List Edit) (k i : Int) (R : St → Option Fin) (K : Cont) : evC cx_held (loopOf Tryd.f48 0) ⟨[(0, vL TE l), (1, vI k), (5, vI i)], []⟩ (onward (headAt cx_held 2) R K) =
  branch (decide (i < (l.length : Int))) (need (inb i l.length) (branch (!decide ((l.getD i.toNat e0).1 = k)) (K .ret ⟨[(4, vI (-1))], []⟩) (need (inb i l.length) (branch (!decide ((l.getD i.toNat e0).2.1 = W64 (k + 1))) (K .ret ⟨[(4, vI (-1))], []⟩)
    (need (inb i l.length) (need (decide (W64 (W64 (k + 1) + 1) ≤ 100000000)) (branch (!decide ((l.getD i.toNat e0).2.2 = mkT (W64 (W64 (k + 1) + 1)))) (K .ret ⟨[(4, vI (-1))], []⟩) (R ⟨[(0, vL TE l), (1, vI (up3 k)), (5, vI (W64 (i + 1)))], []⟩))))))))
    (K (.exit 0) ⟨[(1, vI k)], []⟩) := by kernel_rfl
theorem l_held : ∀ st K r, g_held st K = some r → ∃ N, iter (evC cx_held (loopOf Tryd.f48 0)) (headAt cx_held 2) N st K = some r := by
  refine orc_ok (loop_rule (fun v => List.length v.1.1 - Int.toNat v.1.2.2.1) ?_)
  rintro ⟨⟨(l : List Edit), (k : Int), (i : Int), ⟨⟩⟩, ⟨⟩⟩ K r hg R hR
  refine (x_held l k i R K).trans ?_
  replace hg : G_held l k i K = some r := hg
  replace hR : ∀ (k' i' : Int), l.length - i'.toNat < l.length - i.toNat → G_held l k' i' K = some r → R ⟨[(0, vL TE l), (1, vI k'), (5, vI i')], []⟩ = some r := fun k' i' => hR ((l, k', i', ()), ())
  unfold G_held at hg hR
  obtain ⟨hp, hg⟩ := need_some.1 hg
  simp only [Bool.and_eq_true, decide_eq_true_eq, mkOk_iff, Nat.ble_eq] at hp
  obtain ⟨h0, ⟨h1, h2⟩, h3⟩ := hp
  by_cases hi : i < (l.length : Int)
  · have hn : i.toNat < l.length := by omega
    obtain ⟨w1, w2⟩ := w1_eq (k := k) h1 (by omega)
    have w3 := up3_eq (k := k) h1 (by omega)
    rw [decide_eq_true hi, branch_true, inb_ok h0 hi, getD_at hn, decide_eq_true (by rw [w2]; omega : W64 (W64 (k + 1) + 1) ≤ 100000000), show W64 (i + 1) = i + 1 from wrap_small (by omega) (by omega)]
    simp only [need, branch_true]
    rw [List.drop_eq_getElem_cons hn] at hg
    obtain ⟨m, hm⟩ : ∃ m, heldL (l[i.toNat] :: l.drop (i.toNat + 1)) k = m := ⟨_, rfl⟩
    rw [hm] at hg
    simp only [heldL] at hm
    cases c1 : !decide (l[i.toNat].1 = k)
    · rw [c1, cond_false] at hm
      rw [branch_false]
      cases c2 : !decide (l[i.toNat].2.1 = W64 (k + 1))
      · rw [c2, cond_false] at hm
        rw [branch_false]
        cases c3 : !decide (l[i.toNat].2.2 = mkT (W64 (W64 (k + 1) + 1)))
        · rw [c3, cond_false] at hm
          subst hm
          rw [branch_false]
          refine hR (up3 k) (i + 1) (by omega) (need_some.2 ⟨?_, ?_⟩)
          · simp only [Bool.and_eq_true, decide_eq_true_eq, mkOk_iff, Nat.ble_eq, w3]; omega
          · rw [show (i + 1).toNat = i.toNat + 1 by omega]; exact hg
        · rw [c3, cond_true] at hm; subst hm; exact hg
      · rw [c2, cond_true] at hm; subst hm; exact hg
    · rw [c1, cond_true] at hm; subst hm; exact hg
  · rw [decide_eq_false hi, branch_false]
    rw [List.drop_eq_nil_of_le (by omega)] at hg
    have e : heldL [] k = k := rfl
    rw [e, decide_eq_false (by omega : ¬ k < 0)] at hg
    exact hg
theorem y_held (l : List Edit) (k : Int) : evFn cx_held Tryd.f48 true [ofD TL l, ofD TI64 k] [] = need (true && (mkOk (l.length - 0) k && Nat.ble l.length 40000000)) (branch (decide (heldL l k < 0)) (some (vI (-1), [])) (some (vI (heldL l k), []))) := by kernel_rfl
theorem s_laws_heldEditS (l : List Edit) (_hl : Fit TL l) (k : Int) (_hk : Fit TI64 k) (hpre : (mkOk (List.length l) k) = true) : Sat Tryd.prog 48 [ofD TL l, ofD TI64 k] [] (.d (ofD TI64 (heldL l k))) [] :=
  fn_sound (cx := cx_held) Tryd.func48 rfl ttOk Γ66ok mixed (fun c hc => LoopsOk.one (b := loopOf Tryd.f48 0) (id := 2) (g := g_held) (by cases hc; kernel_rfl) rfl l_held) (ro := true) (by
    have h' := mkOk_iff.1 hpre
    have hpre : mkOk (l.length - 0) k = true := hpre
    rw [y_held, hpre, Nat.ble_eq_true_of_le (by omega : l.length ≤ 40000000)]
    rcases heldL_sign (l := l) h'.1 h'.2 with h | h
    · rw [h]; rfl
    · rw [decide_eq_false (by omega : ¬ heldL l k < 0)]; rfl)
noncomputable def c_laws_heldEditS : Con := conT [TL, TI64] fun (l : List Edit) (k : Int) => (some (mkOk (List.length l) k), .d (ofD TI64 (heldL l k)))
theorem k_laws_heldEditS : ConOk Tryd.prog 48 c_laws_heldEditS := conT_ok Tryd.call48 fun l hl k hk hqq => s_laws_heldEditS l hl k hk (pre_of hqq)
noncomputable def Γ67 : List (Nat × Con) := (48, c_laws_heldEditS) :: Γ66
theorem Γ67ok : EnvOk Tryd.prog (look Γ67) := .cons k_laws_heldEditS Γ66ok

noncomputable def heldH (h : Hist) (k : Int) : Int := bif decide (heldL h.2.1 k < 0) then -1 else bif decide (heldL h.2.2 (heldL h.2.1 k) < 0) then -1 else heldL h.2.2 (heldL h.2.1 k)
theorem y_heldHist (h : Hist) (k : Int) : evFn (cxOf Γ67 Tryd.f22.ntmps [] [] [] []) Tryd.f22 true [ofD TH h, ofD TI64 k] [] = need (mkOk h.2.1.length k) (branch (decide (heldL h.2.1 k < 0)) (some (vI (-1), [])) (need (mkOk h.2.2.length (heldL h.2.1 k)) (branch (decide (heldL h.2.2 (heldL h.2.1 k) < 0)) (some (vI (-1), [])) (some (vI (heldL h.2.2 (heldL h.2.1 k)), []))))) := by kernel_rfl
theorem s_laws_heldHist (h : Hist) (_hh : Fit TH h) (k : Int) (_hk : Fit TI64 k) (hpre : (mkOk (List.length h.2.1) k && mkOk (List.length h.2.2) (heldL h.2.1 k)) = true) : Sat Tryd.prog 22 [ofD TH h, ofD TI64 k] [] (.d (ofD TI64 (heldH h k))) [] :=
  fn_sound (cx := cxOf Γ67 Tryd.f22.ntmps [] [] [] []) Tryd.func22 rfl ttOk Γ67ok mixed (fun c hc => LoopsOk.nil (by cases hc; kernel_rfl)) (ro := true) (by
    rw [Bool.and_eq_true] at hpre
    rw [y_heldHist, hpre.1, hpre.2]
    unfold heldH
    cases decide (heldL h.2.1 k < 0)
    · cases decide (heldL h.2.2 (heldL h.2.1 k) < 0) <;> rfl
    · rfl)
noncomputable def c_laws_heldHist : Con := conT [TH, TI64] fun (h : Hist) (k : Int) => (some (mkOk (List.length h.2.1) k && mkOk (List.length h.2.2) (heldL h.2.1 k)), .d (ofD TI64 (heldH h k)))
theorem k_laws_heldHist : ConOk Tryd.prog 22 c_laws_heldHist := conT_ok Tryd.call22 fun h hh k hk hqq => s_laws_heldHist h hh k hk (pre_of hqq)
noncomputable def Γ68 : List (Nat × Con) := (22, c_laws_heldHist) :: Γ67
theorem Γ68ok : EnvOk Tryd.prog (look Γ68) := .cons k_laws_heldHist Γ67ok

theorem y_toEditSF (l : List Edit) : evFn cx_laws_toEditS Tryd.f51 false [ofD TL l] [] = need (decide (0 ≤ (l.length : Int) ∧ (l.length : Int) ≤ (l.length : Int) ∧ (l.length : Int) * 32 ≤ 140737488355328 ∧ (l.length : Int) ≤ 9223372036854775807))
    (need (true && (Nat.ble l.length 9223372036854775807 && Nat.beq l.length (List.replicate (l.length : Int).toNat e0).length)) (some (.d (.one (.own 1000)), [(1000, some (.lis 46 TE ((List.replicate (l.length : Int).toNat e0).take 0 ++ l)))]))) := by kernel_rfl
theorem s_laws_toEditSF (l : List Edit) (_hl : Fit TL l) (hpre : (Nat.ble (List.length l) 1048576) = true) : Sat Tryd.prog 51 [ofD TL l] [] (.d (.one (.own 1000))) ([(1000, some (.lis 46 TE l))]) :=
  fn_sound (cx := cx_laws_toEditS) Tryd.func51 rfl ttOk Γ6ok mixed (fun c hc => LoopsOk.one (b := loopOf Tryd.f51 0) (id := 3) (g := g_laws_toEditS) (by cases hc; kernel_rfl) rfl l_laws_toEditS) (ro := false) (by
    have hb : l.length ≤ 1048576 := Nat.le_of_ble_eq_true hpre
    rw [y_toEditSF, decide_eq_true (by omega : 0 ≤ (l.length : Int) ∧ (l.length : Int) ≤ (l.length : Int) ∧ (l.length : Int) * 32 ≤ 140737488355328 ∧ (l.length : Int) ≤ 9223372036854775807), show Nat.ble l.length 9223372036854775807 = true by rw [Nat.ble_eq]; omega]
    simp only [need, branch_true, Int.toNat_natCast, List.length_replicate, Nat.beq_refl, Bool.and_self, List.take_zero, List.nil_append])
noncomputable def c_laws_toEditSF : Con := conN [TL] fun (l : List Edit) => (some (Nat.ble (List.length l) 1048576), .d (.one (.own 1000)), [(1000, some (.lis 46 TE l))])
theorem k_laws_toEditSF : ConOk Tryd.prog 51 c_laws_toEditSF := conN_ok Tryd.call51 fun l hl hqq => s_laws_toEditSF l hl (pre_of hqq)
noncomputable def Γ69 : List (Nat × Con) := (51, c_laws_toEditSF) :: Γ68
theorem Γ69ok : EnvOk Tryd.prog (look Γ69) := .cons k_laws_toEditSF Γ68ok

theorem s_laws_toHistF (h : Hist) (_hh : Fit TH h) (hpre : (okH h) = true) : Sat Tryd.prog 25 [ofD TH h] [] (.d (ownH h)) (memH h) :=
  fn_sound (cx := cxOf Γ69 Tryd.f25.ntmps [] [] [] []) Tryd.func25 rfl ttOk Γ69ok mixed (fun c hc => LoopsOk.nil (by cases hc; kernel_rfl)) (ro := false) (by
    have y : evFn (cxOf Γ69 Tryd.f25.ntmps [] [] [] []) Tryd.f25 false [ofD TH h] [] = need (Nat.ble h.2.1.length 1048576) (need (Nat.ble h.2.2.length 1048576) (some (.d (ownH h), memH h))) := by kernel_rfl
    simp only [okH, Bool.and_eq_true] at hpre
    rw [y, hpre.1, hpre.2]; rfl)
noncomputable def c_laws_toHistF : Con := conN [TH] fun (h : Hist) => (some (okH h), .d (ownH h), memH h)
theorem k_laws_toHistF : ConOk Tryd.prog 25 c_laws_toHistF := conN_ok Tryd.call25 fun h hh hqq => s_laws_toHistF h hh (pre_of hqq)
noncomputable def Γ70 : List (Nat × Con) := (25, c_laws_toHistF) :: Γ69
theorem Γ70ok : EnvOk Tryd.prog (look Γ70) := .cons k_laws_toHistF Γ69ok

theorem s_impl_HistNewF (s : Str) (_hs : Fit .str s) : Sat Tryd.prog 19 [ofD .str s] [] (.d (ownH (newH s))) (memH (newH s)) :=
  fn_sound (cx := cxOf Γ70 Tryd.f19.ntmps [] [] [] []) Tryd.func19 rfl ttOk Γ70ok mixed (fun c hc => LoopsOk.nil (by cases hc; kernel_rfl)) (ro := false) (by
    have y : evFn (cxOf Γ70 Tryd.f19.ntmps [] [] [] []) Tryd.f19 false [ofD .str s] [] = branch (!areSm s 20) (some (.d (ownH nilH), memH nilH)) (some (.d (ownH (s, [], [])), memH (s, [], []))) := by kernel_rfl
    rw [y, areSm_20]; unfold newH
    cases longOk s <;> rfl)
noncomputable def c_impl_HistNewF : Con := conN [.str] fun (s : Str) => (none, .d (ownH (newH s)), memH (newH s))
theorem k_impl_HistNewF : ConOk Tryd.prog 19 c_impl_HistNewF := conN_ok Tryd.call19 fun s hs _ => s_impl_HistNewF s hs
noncomputable def Γ71 : List (Nat × Con) := (19, c_impl_HistNewF) :: Γ70
theorem Γ71ok : EnvOk Tryd.prog (look Γ71) := .cons k_impl_HistNewF Γ70ok

noncomputable def mH (h : Hist) : Hist := (h.1, markL h.2.1.length 1, markL h.2.2.length (endK h.2.1.length 1))
def eK (h : Hist) : Int := endK h.2.2.length (endK h.2.1.length 1)
def n1 (h : Hist) : Bool := mkOk h.2.1.length 1 && mkOk h.2.2.length (endK h.2.1.length 1)
noncomputable def n2 (h : Hist) : Bool := mkOk (mH h).2.1.length 1 && mkOk (mH h).2.2.length (heldL (mH h).2.1 1)
theorem marks_ok {h : Hist} (h1 : h.2.1.length ≤ 2000000) (h2 : h.2.2.length ≤ 2000000) : n1 h = true ∧ n2 h = true ∧ heldH (mH h) 1 = eK h ∧ 0 ≤ eK h := by
  have e1 : endK h.2.1.length 1 = 1 + 3 * (h.2.1.length : Int) := endK_eq (by omega) (by omega)
  have e2 : eK h = endK h.2.1.length 1 + 3 * (h.2.2.length : Int) := endK_eq (by omega) (by omega)
  have k1 : mkOk h.2.1.length 1 = true := mkOk_iff.2 (by omega)
  have k2 : mkOk h.2.2.length (endK h.2.1.length 1) = true := mkOk_iff.2 (by omega)
  refine ⟨?_, ?_, ?_, by omega⟩
  · unfold n1; rw [k1, k2]; rfl
  · unfold n2 mH
    simp only [markL_len, held_mark, k1, k2, Bool.and_self]
  · unfold heldH mH eK
    simp only [held_mark]
    rw [decide_eq_false (by omega : ¬ endK h.2.1.length 1 < 0), decide_eq_false (by have := e2; unfold eK at this; omega : ¬ endK h.2.2.length (endK h.2.1.length 1) < 0)]
    rfl
theorem newH_len (s : Str) : (newH s).2.1.length ≤ 2000000 ∧ (newH s).2.2.length ≤ 2000000 := by
  unfold newH
  cases longOk s <;> exact ⟨by show 0 ≤ _; omega, by show 0 ≤ _; omega⟩
theorem y_laws_FnExactHistNew (s : Str) : evFn (cxOf Γ71 Tryd.f3.ntmps [] [] [] []) Tryd.f3 true [ofD .str s] [] =
  branch (decide ((1048576 : Int) < (s.length : Int))) yes (branch (!eqH (newH s) (newH s)) no (need (n1 (newH s)) (need (n2 (newH s)) (branch (decide (heldH (mH (newH s)) 1 < 0)) no (branch (!decide (heldH (mH (newH s)) 1 = eK (newH s))) no
    (branch (!eqH (newH s) (newH s)) no (need (n2 (newH s)) (branch (decide (heldH (mH (newH s)) 1 < 0)) no (branch (!decide (heldH (mH (newH s)) 1 = eK (newH s))) no yes))))))))) := by kernel_rfl
theorem s_laws_FnExactHistNew (s : Str) (_hs : Fit .str s) : Sat Tryd.prog 3 [ofD .str s] [] (.d (ofD .bool true)) [] :=
  fn_sound (cx := cxOf Γ71 Tryd.f3.ntmps [] [] [] []) Tryd.func3 rfl ttOk Γ71ok mixed (fun c hc => LoopsOk.nil (by cases hc; kernel_rfl)) (ro := true) (by
    rw [y_laws_FnExactHistNew]
    obtain ⟨a1, a2⟩ := newH_len s
    obtain ⟨b1, b2, b3, b4⟩ := marks_ok a1 a2
    rw [eqH_self, b1, b2, b3, decide_eq_true (rfl : eK (newH s) = eK (newH s)), decide_eq_false (by omega : ¬ eK (newH s) < 0)]
    cases decide ((1048576 : Int) < (s.length : Int)) <;> rfl)
noncomputable def c_laws_FnExactHistNew : Con := conT [.str] fun (_s : Str) => (none, .d (ofD .bool true))
theorem k_laws_FnExactHistNew : ConOk Tryd.prog 3 c_laws_FnExactHistNew := conT_ok Tryd.call3 fun s hs _ => s_laws_FnExactHistNew s hs
abbrev frR (x : Hist × Bool) : Fin := (.tup [ownH x.1, ofD .bool x.2], memH x.1)
theorem do_treeF {h : Hist} {e : Edit} {c : Bool} (hc : okHist h = true → c = (!((EdDo h.1 e).2 && decide ((h.2.1.length : Int) < 10)))) {f2 : Bool} (h2 : okHist h = true → f2 = true) :
  branch (!okHist h) (some (frR (nilH, false))) (branch c (some (frR (h, false))) (need f2 (some (frR (((EdDo h.1 e).1, h.2.1 ++ [(EdBack h.1 e).1], []), true))))) = some (frR (doH h e)) := by
  unfold doH
  cases ho : okHist h
  · rfl
  · rw [hc ho, h2 ho]
    cases (EdDo h.1 e).2 && decide ((h.2.1.length : Int) < 10) <;> rfl
theorem y_impl_HistDoF (h : Hist) (e : Edit) : evFn (cxOf Γ71 Tryd.f38.ntmps [] [] [] []) Tryd.f38 false [ofD TH h, ofD TE e] [] =
  branch (!okHist h) (some (frR (nilH, false))) (need (smallH h) (branch (bif !(EdDo h.1 e).2 then true else decide ((h.2.1.length : Int) = 10)) (some (frR (h, false))) (need (fits (h.2.1.length + 1) 32) (some (frR (((EdDo h.1 e).1, h.2.1 ++ [(EdBack h.1 e).1], []), true)))))) := by kernel_rfl
theorem s_impl_HistDoF (h : Hist) (_hh : Fit TH h) (e : Edit) (_he : Fit TE e) (hpre : (smallH h) = true) : Sat Tryd.prog 38 [ofD TH h, ofD TE e] [] ((frR (doH h e)).1) ((frR (doH h e)).2) :=
  fn_sound (cx := cxOf Γ71 Tryd.f38.ntmps [] [] [] []) Tryd.func38 rfl ttOk Γ71ok mixed (fun c hc => LoopsOk.nil (by cases hc; kernel_rfl)) (ro := false) (by
    rw [y_impl_HistDoF, hpre]
    exact do_treeF (fun ho => len_eq10 hpre ho) (fun ho => by have := lenH_le hpre ho; exact decide_eq_true (by omega)))
noncomputable def c_impl_HistDoF : Con := conN [TH, TE] fun (h : Hist) (e : Edit) => (some (smallH h), (frR (doH h e)).1, (frR (doH h e)).2)
theorem k_impl_HistDoF : ConOk Tryd.prog 38 c_impl_HistDoF := conN_ok Tryd.call38 fun h hh e he hqq => s_impl_HistDoF h hh e he (pre_of hqq)
noncomputable def Γ72 : List (Nat × Con) := (38, c_impl_HistDoF) :: Γ71
theorem Γ72ok : EnvOk Tryd.prog (look Γ72) := .cons k_impl_HistDoF Γ71ok

theorem y_impl_HistBackF (h : Hist) : evFn (cxOf Γ72 Tryd.f33.ntmps [] [] [] []) Tryd.f33 false [ofD TH h] [] =
  branch (!okHist h) (some (frR (nilH, false))) (need (smallH h) (branch (decide (W64 ((h.2.1.length : Int) - 1) < 0)) (some (frR (h, false))) (need (inb (W64 ((h.2.1.length : Int) - 1)) h.2.1.length) (need (inr 0 (W64 ((h.2.1.length : Int) - 1)) h.2.1.length) (need (fits (h.2.2.length + 1) 32)
    (some (frR (((EdDo h.1 (h.2.1.getD (W64 ((h.2.1.length : Int) - 1)).toNat e0)).1, h.2.1.take (W64 ((h.2.1.length : Int) - 1)).toNat, h.2.2 ++ [(EdBack h.1 (h.2.1.getD (W64 ((h.2.1.length : Int) - 1)).toNat e0)).1]), true)))))))) := by kernel_rfl
theorem s_impl_HistBackF (h : Hist) (_hh : Fit TH h) (hpre : (smallH h) = true) : Sat Tryd.prog 33 [ofD TH h] [] ((frR (backH h)).1) ((frR (backH h)).2) :=
  fn_sound (cx := cxOf Γ72 Tryd.f33.ntmps [] [] [] []) Tryd.func33 rfl ttOk Γ72ok mixed (fun c hc => LoopsOk.nil (by cases hc; kernel_rfl)) (ro := false) (by
    have hs := smallH_iff.1 hpre
    rw [y_impl_HistBackF, hpre]
    cases ho : okHist h
    · rw [backH_bad ho]; rfl
    · by_cases hl : h.2.1 = []
      · rw [backH_none ho hl, hl]; rfl
      · obtain ⟨e1, e2, e3, e4, e5⟩ := last_get hl hs.1
        rw [backH_eq ho hl, e1, e2, e4, e5, decide_eq_false (by omega : ¬ (h.2.1.length : Int) - 1 < 0), inb_ok (by omega) (by omega), show inr 0 ((h.2.1.length : Int) - 1) h.2.1.length = true from decide_eq_true ⟨by omega, by omega, by omega⟩, show fits (h.2.2.length + 1) 32 = true from decide_eq_true (by omega)]
        rfl)
noncomputable def c_impl_HistBackF : Con := conN [TH] fun (h : Hist) => (some (smallH h), (frR (backH h)).1, (frR (backH h)).2)
theorem k_impl_HistBackF : ConOk Tryd.prog 33 c_impl_HistBackF := conN_ok Tryd.call33 fun h hh hqq => s_impl_HistBackF h hh (pre_of hqq)
noncomputable def Γ73 : List (Nat × Con) := (33, c_impl_HistBackF) :: Γ72
theorem Γ73ok : EnvOk Tryd.prog (look Γ73) := .cons k_impl_HistBackF Γ72ok

theorem s_exchO (s : ByteArray) (p n : List Edit) : Sat Tryd.prog 58 [.agg [.r (.v (.string s)), .own 0, .own 1]] [.lis 46 TE p, .lis 46 TE n] (.d (.agg [.r (.v (.string s)), .own 1, .own 0])) [(1, some (.lis 46 TE n)), (0, some (.lis 46 TE p))] :=
  fn_sound (cx := cxOf Γ73 Tryd.f58.ntmps [] [] [] []) Tryd.func58 rfl ttOk Γ73ok mixed (fun c hc => LoopsOk.nil (by cases hc; kernel_rfl)) (ro := false) (by kernel_rfl)
noncomputable def c_impl_exchangedF : Con := ⟨false, fun ds os => match ds, os with
  | ds, [] => c_impl_exchanged.f ds []
  | [.agg [.r (.v (.string s)), .own 0, .own 1]], [o, q] => match exLis 46 TE (some o), exLis 46 TE (some q) with
    | some p, some n => some (none, .d (.agg [.r (.v (.string s)), .own 1, .own 0]), [(1, some (.lis 46 TE n)), (0, some (.lis 46 TE p))])
    | _, _ => none
  | _, _ => none⟩
theorem k_impl_exchangedF : ConOk Tryd.prog 58 c_impl_exchangedF := by
  refine ⟨Tryd.call58, fun ds os c x objs hc hok => ?_⟩
  unfold c_impl_exchangedF at hc
  dsimp only at hc
  split at hc
  · exact k_impl_exchanged.2 _ [] c x objs hc hok
  · split at hc
    · rename_i p n e1 e2
      cases hc
      have e1 := Option.some.inj (exLis_some e1)
      have e2 := Option.some.inj (exLis_some e2)
      subst e1; subst e2
      exact s_exchO _ p n
    · cases hc
  · cases hc
noncomputable def Γ74 : List (Nat × Con) := (58, c_impl_exchangedF) :: Γ73
theorem Γ74ok : EnvOk Tryd.prog (look Γ74) := .cons k_impl_exchangedF Γ73ok

theorem s_impl_HistAgainF (h : Hist) (_hh : Fit TH h) (hpre : (smallH h) = true) : Sat Tryd.prog 34 [ofD TH h] [] ((frR (againH h)).1) ((frR (againH h)).2) :=
  fn_sound (cx := cxOf Γ74 Tryd.f34.ntmps [] [] [] []) Tryd.func34 rfl ttOk Γ74ok mixed (fun c hc => LoopsOk.nil (by cases hc; kernel_rfl)) (ro := false) (by
    have y : evFn (cxOf Γ74 Tryd.f34.ntmps [] [] [] []) Tryd.f34 false [ofD TH h] [] = need (smallH (swapH h)) (some (frR (againH h))) := by kernel_rfl
    rw [y, swap_small, hpre]; rfl)
noncomputable def c_impl_HistAgainF : Con := conN [TH] fun (h : Hist) => (some (smallH h), (frR (againH h)).1, (frR (againH h)).2)
theorem k_impl_HistAgainF : ConOk Tryd.prog 34 c_impl_HistAgainF := conN_ok Tryd.call34 fun h hh hqq => s_impl_HistAgainF h hh (pre_of hqq)
noncomputable def Γ75 : List (Nat × Con) := (34, c_impl_HistAgainF) :: Γ74
theorem Γ75ok : EnvOk Tryd.prog (look Γ75) := .cons k_impl_HistAgainF Γ74ok

noncomputable def tail2 (g : Hist) (r : Option Fin) : Option Fin := need (n2 g) (branch (decide (heldH (mH g) 1 < 0)) no (branch (!decide (heldH (mH g) 1 = eK g)) no r))
noncomputable def exHT (h : Hist) (R : Hist × Bool) : Option Fin := need (okH h) (need (smallH h) (need (okH h) (need (smallH h) (branch (bif !eqH R.1 R.1 then true else !decide (R.2 = R.2)) no (need (okH h) (branch (!eqH h h) no
  (need (n1 h) (branch (bif bif decide (eK h < 0) then true else !eqH R.1 R.1 then true else !decide (R.2 = R.2)) no (need (n1 R.1) (tail2 R.1
   (need (okH h) (need (smallH h) (branch (bif !eqH R.1 R.1 then true else !decide (R.2 = R.2)) no (tail2 R.1 yes))))))))))))))
theorem tail2_ok {g : Hist} (h1 : g.2.1.length ≤ 2000000) (h2 : g.2.2.length ≤ 2000000) (r : Option Fin) : tail2 g r = r := by
  obtain ⟨b1, b2, b3, b4⟩ := marks_ok h1 h2
  unfold tail2
  rw [b2, b3, decide_eq_true (rfl : eK g = eK g), decide_eq_false (by omega : ¬ eK g < 0)]; rfl
theorem ok_small {h : Hist} (ho : okH h = true) : smallH h = true := ho
theorem exHT_ok {h : Hist} {R : Hist × Bool} (ho : okH h = true) (h1 : R.1.2.1.length ≤ 2000000) (h2 : R.1.2.2.length ≤ 2000000) : exHT h R = yes := by
  have hs := smallH_iff.1 (ok_small ho)
  obtain ⟨a1, _, _, a4⟩ := marks_ok (h := h) (by omega) (by omega)
  obtain ⟨b1, _, _, _⟩ := marks_ok h1 h2
  unfold exHT
  rw [ho, ok_small ho, a1, b1, tail2_ok h1 h2, tail2_ok h1 h2, eqH_self, eqH_self, decide_eq_true (rfl : R.2 = R.2), decide_eq_false (by omega : ¬ eK h < 0)]
  rfl
theorem doH_len {h : Hist} (hs : smallH h = true) (e : Edit) : (doH h e).1.2.1.length ≤ 2000000 ∧ (doH h e).1.2.2.length ≤ 2000000 := by
  have hs' := smallH_iff.1 hs
  unfold doH
  cases ho : okHist h
  · exact ⟨by show 0 ≤ _; omega, by show 0 ≤ _; omega⟩
  · cases (EdDo h.1 e).2 && decide ((h.2.1.length : Int) < 10)
    · exact ⟨by show h.2.1.length ≤ _; omega, by show h.2.2.length ≤ _; omega⟩
    · exact ⟨by show (h.2.1 ++ _).length ≤ _; rw [List.length_append]; show _ + 1 ≤ _; omega, by show 0 ≤ _; omega⟩
theorem backH_len {h : Hist} (hs : smallH h = true) : (backH h).1.2.1.length ≤ 2000000 ∧ (backH h).1.2.2.length ≤ 2000000 := by
  have hs' := smallH_iff.1 hs
  cases ho : okHist h
  · rw [backH_bad ho]; exact ⟨by show 0 ≤ _; omega, by show 0 ≤ _; omega⟩
  · by_cases hl : h.2.1 = []
    · rw [backH_none ho hl]; exact ⟨by show h.2.1.length ≤ _; omega, by show h.2.2.length ≤ _; omega⟩
    · rw [backH_eq ho hl]
      exact ⟨by show h.2.1.dropLast.length ≤ _; rw [List.length_dropLast]; omega, by show (h.2.2 ++ _).length ≤ _; rw [List.length_append]; show _ + 1 ≤ _; omega⟩
theorem againH_len {h : Hist} (hs : smallH h = true) : (againH h).1.2.1.length ≤ 2000000 ∧ (againH h).1.2.2.length ≤ 2000000 := by
  have := backH_len (h := swapH h) (by rw [swap_small]; exact hs)
  exact ⟨this.2, this.1⟩
theorem y_laws_FnExactHistDo (h : Hist) (e : Edit) : evFn (cxOf Γ75 Tryd.f8.ntmps [] [] [] []) Tryd.f8 true [ofD TH h, ofD TE e] [] = branch (decide (szH h 1048576 < 0)) yes (branch (decide (szE e (szH h 1048576) < 0)) yes (exHT h (doH h e))) := by kernel_rfl
theorem s_laws_FnExactHistDo (h : Hist) (hh : Fit TH h) (e : Edit) (_he : Fit TE e) : Sat Tryd.prog 8 [ofD TH h, ofD TE e] [] (.d (ofD .bool true)) [] :=
  fn_sound (cx := cxOf Γ75 Tryd.f8.ntmps [] [] [] []) Tryd.func8 rfl ttOk Γ75ok mixed (fun c hc => LoopsOk.nil (by cases hc; kernel_rfl)) (ro := true) (by
    rw [y_laws_FnExactHistDo]
    by_cases h1 : szH h 1048576 < 0
    · rw [decide_eq_true h1]; rfl
    · obtain ⟨a1, a2⟩ := szH_ok hh (by omega) (by omega) h1
      have hl := doH_len (ok_small a1) e
      rw [decide_eq_false h1, exHT_ok a1 hl.1 hl.2]
      cases decide (szE e (szH h 1048576) < 0) <;> rfl)
noncomputable def c_laws_FnExactHistDo : Con := conT [TH, TE] fun (_h : Hist) (_e : Edit) => (none, .d (ofD .bool true))
theorem k_laws_FnExactHistDo : ConOk Tryd.prog 8 c_laws_FnExactHistDo := conT_ok Tryd.call8 fun h hh e he _ => s_laws_FnExactHistDo h hh e he
theorem y_laws_FnExactHistBack (h : Hist) : evFn (cxOf Γ75 Tryd.f12.ntmps [] [] [] []) Tryd.f12 true [ofD TH h] [] = branch (decide (szH h 1048576 < 0)) yes (exHT h (backH h)) := by kernel_rfl
theorem s_laws_FnExactHistBack (h : Hist) (hh : Fit TH h) : Sat Tryd.prog 12 [ofD TH h] [] (.d (ofD .bool true)) [] :=
  fn_sound (cx := cxOf Γ75 Tryd.f12.ntmps [] [] [] []) Tryd.func12 rfl ttOk Γ75ok mixed (fun c hc => LoopsOk.nil (by cases hc; kernel_rfl)) (ro := true) (by
    rw [y_laws_FnExactHistBack]
    by_cases h1 : szH h 1048576 < 0
    · rw [decide_eq_true h1]; rfl
    · obtain ⟨a1, a2⟩ := szH_ok hh (by omega) (by omega) h1
      have hl := backH_len (ok_small a1)
      rw [decide_eq_false h1, exHT_ok a1 hl.1 hl.2]
      rfl)
noncomputable def c_laws_FnExactHistBack : Con := conT [TH] fun (_h : Hist) => (none, .d (ofD .bool true))
theorem k_laws_FnExactHistBack : ConOk Tryd.prog 12 c_laws_FnExactHistBack := conT_ok Tryd.call12 fun h hh _ => s_laws_FnExactHistBack h hh
theorem y_laws_FnExactHistAgain (h : Hist) : evFn (cxOf Γ75 Tryd.f16.ntmps [] [] [] []) Tryd.f16 true [ofD TH h] [] = branch (decide (szH h 1048576 < 0)) yes (exHT h (againH h)) := by kernel_rfl
theorem s_laws_FnExactHistAgain (h : Hist) (hh : Fit TH h) : Sat Tryd.prog 16 [ofD TH h] [] (.d (ofD .bool true)) [] :=
  fn_sound (cx := cxOf Γ75 Tryd.f16.ntmps [] [] [] []) Tryd.func16 rfl ttOk Γ75ok mixed (fun c hc => LoopsOk.nil (by cases hc; kernel_rfl)) (ro := true) (by
    rw [y_laws_FnExactHistAgain]
    by_cases h1 : szH h 1048576 < 0
    · rw [decide_eq_true h1]; rfl
    · obtain ⟨a1, a2⟩ := szH_ok hh (by omega) (by omega) h1
      have hl := againH_len (ok_small a1)
      rw [decide_eq_false h1, exHT_ok a1 hl.1 hl.2]
      rfl)
noncomputable def c_laws_FnExactHistAgain : Con := conT [TH] fun (_h : Hist) => (none, .d (ofD .bool true))
theorem k_laws_FnExactHistAgain : ConOk Tryd.prog 16 c_laws_FnExactHistAgain := conT_ok Tryd.call16 fun h hh _ => s_laws_FnExactHistAgain h hh
end Go.Proofs.YtnbkolhmacikaaaDoor.Ev
