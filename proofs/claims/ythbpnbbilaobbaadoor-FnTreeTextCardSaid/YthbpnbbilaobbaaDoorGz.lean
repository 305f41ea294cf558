/-
  Texts of trees.
-/
import Derived.Test.YthbpnbbilaobbaaDoorGy
namespace Go.Proofs.YthbpnbbilaobbaaDoor.Ev
open Go
/-- a number of one digit -/
def dig (n : Int) : Bool := decide (0 ≤ n) && decide (n ≤ 9)
def digS (n : Int) : Str := [UInt8.ofNat (48 + n.toNat)]
theorem dig_cases {n : Int} (h : dig n = true) : n = 0 ∨ n = 1 ∨ n = 2 ∨ n = 3 ∨ n = 4 ∨ n = 5 ∨ n = 6 ∨ n = 7 ∨ n = 8 ∨ n = 9 := by
  unfold dig at h
  rw [andd, dec_iff, dec_iff] at h
  omega
theorem s_internal_strconv_small (n : Int) (_hn : Fit TI64 n) (hpre : (dig n) = true) : Sat Tryd.prog 243 [ofD TI64 n] [] (.d (ofD .str (digS n))) [] :=
  fn_sound (cx := cxOf Γ68 Tryd.f243.ntmps [] [] [] []) Tryd.func243 rfl ttOk Γ68ok mixed (fun _ _ => LoopsOk.no fun _ => rfl) (ro := true) (by
    rcases dig_cases hpre with rfl | rfl | rfl | rfl | rfl | rfl | rfl | rfl | rfl | rfl <;> (change evFn _ _ _ _ _ = _; kernel_rfl))
noncomputable def c_internal_strconv_small : Con := conT [TI64] fun (n : Int) => (some (dig n), .d (ofD .str (digS n)))
theorem k_internal_strconv_small : ConOk Tryd.prog 243 c_internal_strconv_small := conT_ok Tryd.call243 fun n hn hqq => s_internal_strconv_small n hn (pre_of hqq)
noncomputable def Γ69 : List (Nat × Con) := (243, c_internal_strconv_small) :: Γ68
theorem Γ69ok : EnvOk Tryd.prog (look Γ69) := .cons k_internal_strconv_small Γ68ok

theorem s_internal_strconv_FormatInt (n : Int) (_hn : Fit TI64 n) (b : Int) (_hb : Fit TI64 b) (hpre : (dig n && decide (b = 10)) = true) : Sat Tryd.prog 227 [ofD TI64 n, ofD TI64 b] [] (.d (ofD .str (digS n))) [] :=
  fn_sound (cx := cxOf Γ69 Tryd.f227.ntmps [] [] [] []) Tryd.func227 rfl ttOk Γ69ok mixed (fun _ _ => LoopsOk.no fun _ => rfl) (ro := true) (by
    obtain ⟨h1, h2⟩ := andd.1 hpre
    have h2 := of_decide_eq_true h2
    subst h2
    rcases dig_cases h1 with rfl | rfl | rfl | rfl | rfl | rfl | rfl | rfl | rfl | rfl <;> (change evFn _ _ _ _ _ = _; kernel_rfl))
noncomputable def c_internal_strconv_FormatInt : Con := conT [TI64, TI64] fun (n : Int) (b : Int) => (some (dig n && decide (b = 10)), .d (ofD .str (digS n)))
theorem k_internal_strconv_FormatInt : ConOk Tryd.prog 227 c_internal_strconv_FormatInt := conT_ok Tryd.call227 fun n hn b hb hqq => s_internal_strconv_FormatInt n hn b hb (pre_of hqq)
noncomputable def Γ70 : List (Nat × Con) := (227, c_internal_strconv_FormatInt) :: Γ69
theorem Γ70ok : EnvOk Tryd.prog (look Γ70) := .cons k_internal_strconv_FormatInt Γ69ok

theorem s_internal_strconv_Itoa (n : Int) (_hn : Fit TI64 n) (hpre : (dig n) = true) : Sat Tryd.prog 206 [ofD TI64 n] [] (.d (ofD .str (digS n))) [] :=
  fn_sound (cx := cxOf Γ70 Tryd.f206.ntmps [] [] [] []) Tryd.func206 rfl ttOk Γ70ok mixed (fun _ _ => LoopsOk.no fun _ => rfl) (ro := true) (by
    rcases dig_cases hpre with rfl | rfl | rfl | rfl | rfl | rfl | rfl | rfl | rfl | rfl <;> (change evFn _ _ _ _ _ = _; kernel_rfl))
noncomputable def c_internal_strconv_Itoa : Con := conT [TI64] fun (n : Int) => (some (dig n), .d (ofD .str (digS n)))
theorem k_internal_strconv_Itoa : ConOk Tryd.prog 206 c_internal_strconv_Itoa := conT_ok Tryd.call206 fun n hn hqq => s_internal_strconv_Itoa n hn (pre_of hqq)
noncomputable def Γ71 : List (Nat × Con) := (206, c_internal_strconv_Itoa) :: Γ70
theorem Γ71ok : EnvOk Tryd.prog (look Γ71) := .cons k_internal_strconv_Itoa Γ70ok

theorem s_strconv_Itoa (n : Int) (_hn : Fit TI64 n) (hpre : (dig n) = true) : Sat Tryd.prog 168 [ofD TI64 n] [] (.d (ofD .str (digS n))) [] :=
  fn_sound (cx := cxOf Γ71 Tryd.f168.ntmps [] [] [] []) Tryd.func168 rfl ttOk Γ71ok mixed (fun _ _ => LoopsOk.no fun _ => rfl) (ro := true) (by
    rcases dig_cases hpre with rfl | rfl | rfl | rfl | rfl | rfl | rfl | rfl | rfl | rfl <;> (change evFn _ _ _ _ _ = _; kernel_rfl))
noncomputable def c_strconv_Itoa : Con := conT [TI64] fun (n : Int) => (some (dig n), .d (ofD .str (digS n)))
theorem k_strconv_Itoa : ConOk Tryd.prog 168 c_strconv_Itoa := conT_ok Tryd.call168 fun n hn hqq => s_strconv_Itoa n hn (pre_of hqq)
noncomputable def Γ72 : List (Nat × Con) := (168, c_strconv_Itoa) :: Γ71
theorem Γ72ok : EnvOk Tryd.prog (look Γ72) := .cons k_strconv_Itoa Γ71ok

noncomputable def cb_dec : Cx := cxOf Γ72 Tryd.f171.ntmps [(6, [0, 3])] [(0, [0, 3]), (1, [0, 3]), (1000000, [2])] [] []
theorem x_spec_l17Dec (n : Int) (s : Str) (R : St → Option Fin) (K : Cont) : evC (cb_dec.withLoops (look [])) (loopOf Tryd.f171 0) ⟨[(0, vI n), (3, vS s)], []⟩ (onward (headAt (cb_dec.withLoops (look [])) 6) R K) = (
branch (decide (9 < n)) (
 need (decide (((byteL [IntKind.u8.wrap (W64 (48 + n.tmod 10))]).length + List.length s) ≤ 9223372036854775807)) <| R (.mk [(0, (vI (W64 (n.tdiv 10)))), (3, (vS ((byteL [IntKind.u8.wrap (W64 (48 + n.tmod 10))]).append s)))] [])) ( K (.exit 0) (.mk [(0, (vI n)), (3, (vS s))] []))) := by kernel_rfl
noncomputable def cx0_dec : Cx := (cb_dec).withLoops (look [])
def sh_dec : Sh := ([(0, .d TI64), (3, .d .str)], [])
def pre_dec (n : Int) (_s : Str) : Bool := decide (n ≤ 9)
noncomputable def res_dec (n : Int) (s : Str) (K : Cont) : Option Fin := K (.exit 0) ⟨[(0, vI n), (3, vS s)], []⟩
def mu_dec (_n : Int) (_s : Str) : Nat := 0
theorem r_dec (n : Int) (s : Str) (K : Cont) (hI : pre_dec n s = true) : (∀ R : St → Option Fin, evC cx0_dec (loopOf Tryd.f171 0) ⟨[(0, .d (ofD TI64 n)), (3, .d (ofD .str s))], []⟩ (onward (headAt cx0_dec 6) R K) = res_dec n s K) ∨
    (∃ (n' : Int) (s' : Str), pre_dec n' s' = true ∧ mu_dec n' s' < mu_dec n s ∧ res_dec n' s' K = res_dec n s K ∧ ∀ R : St → Option Fin, evC cx0_dec (loopOf Tryd.f171 0) ⟨[(0, .d (ofD TI64 n)), (3, .d (ofD .str s))], []⟩ (onward (headAt cx0_dec 6) R K) = R ⟨[(0, .d (ofD TI64 n')), (3, .d (ofD .str s'))], []⟩) := by
  have h := of_decide_eq_true hI
  left
  intro R
  refine (x_spec_l17Dec n s R K).trans ?_
  rw [decide_eq_false (by omega : ¬ 9 < n)]; rfl
noncomputable def g_dec : St → Cont → Option Fin := gP sh_dec (fun v => match v with | ((n, s, ()), ()) => pre_dec n s) (fun v K => match v with | ((n, s, ()), ()) => res_dec n s K)
noncomputable def L_dec : List (Nat × (St → Cont → Option Fin)) := (6, g_dec) :: []
noncomputable def cx_dec : Cx := (cb_dec).withLoops (look L_dec)
theorem l_dec {L : List (Nat × (St → Cont → Option Fin))} (n : Nat) (h1 : L.drop n = []) (h2 : idsFree (L.take n) (loopOf Tryd.f171 0) = true) : ∀ st K r, g_dec st K = some r → ∃ N, iter (evC ((cb_dec).withLoops (look L)) (loopOf Tryd.f171 0)) (headAt ((cb_dec).withLoops (look L)) 6) N st K = some r :=
  with_drop h1 h2 (gP_ok (fun v => match v with | ((n, s, ()), ()) => mu_dec n s) fun v K hI => by
    obtain ⟨⟨(n : Int), (s : Str), ⟨⟩⟩, ⟨⟩⟩ := v
    rcases r_dec n s K hI with h1 | ⟨n', s', h1, h2, h3, h4⟩
    · exact .inl h1
    · exact .inr ⟨((n', s', ()), ()), h1, h2, h3, h4⟩)
theorem s_spec_l17Dec (n : Int) (_hn : Fit TI64 n) (hpre : (dig n) = true) : Sat Tryd.prog 171 [ofD TI64 n] [] (.d (ofD .str (digS n))) [] :=
  fn_sound (cx := cx_dec) Tryd.func171 rfl ttOk Γ72ok mixed (fun c hc => LoopsOk.all (l := [(6, loopOf Tryd.f171 0)]) (by cases hc; kernel_rfl) ⟨atLoop rfl (l_dec 1 rfl (by kernel_rfl)), trivial⟩) (ro := true) (by
    rcases dig_cases hpre with rfl | rfl | rfl | rfl | rfl | rfl | rfl | rfl | rfl | rfl <;> (change evFn _ _ _ _ _ = _; kernel_rfl))
noncomputable def c_spec_l17Dec : Con := conT [TI64] fun (n : Int) => (some (dig n), .d (ofD .str (digS n)))
theorem k_spec_l17Dec : ConOk Tryd.prog 171 c_spec_l17Dec := conT_ok Tryd.call171 fun n hn hqq => s_spec_l17Dec n hn (pre_of hqq)
noncomputable def Γ73 : List (Nat × Con) := (171, c_spec_l17Dec) :: Γ72
theorem Γ73ok : EnvOk Tryd.prog (look Γ73) := .cons k_spec_l17Dec Γ72ok

/-- trees that have a text -/
def txOk : Nat → GTree → Bool
  | 0, _ => false
  | n + 1, t => bif smallS t.sign then leafOk t else dig t.rule && (Nat.ble t.kids.length 4 && List.all t.kids (txOk n))
def txtP : Nat → GTree → Str
  | 0, _ => []
  | n + 1, t => bif smallS t.sign then t.sign else (91 : UInt8) :: (digS t.rule ++ (t.kids.flatMap (txtP n) ++ [93]))
theorem shape_tx {g : Gram} (h : okG g = true) : ∀ {n : Nat} {t : GTree}, shapeT g n t = true → txOk n t = true
  | 0, _, hs => hs
  | n + 1, t, hs => by
    unfold shapeT at hs
    unfold txOk
    cases h1 : smallS t.sign <;> rw [h1] at hs
    · cases h2 : nodeOk g t <;> rw [h2] at hs
      · cases hs
      · obtain ⟨n1, _, n3⟩ := node_iff h2
        obtain ⟨i0, i1⟩ := inb_iff.1 n1
        have hl : List.length g.2 ≤ 8 := (okG_iff h).2.1
        exact andd.2 ⟨andd.2 ⟨dec_iff.2 i0, dec_iff.2 (by omega)⟩, andd.2 ⟨ble_iff.2 (by rw [n3]; exact right_len h n1), kidsL_all (fun k _ hk => shape_tx h hk) hs⟩⟩
    · exact hs
theorem txt_len : ∀ {n : Nat} {t : GTree}, txOk n t = true → (txtP n t).length ≤ 7 ^ n
  | 0, _, h => by cases h
  | n + 1, t, h => by
    have hp : 0 < 7 ^ n := Nat.pow_pos (by omega)
    unfold txOk at h
    unfold txtP
    rw [Nat.pow_succ]
    cases hs : smallS t.sign <;> rw [hs] at h
    · obtain ⟨h1, h2⟩ := andd.1 h
      obtain ⟨h2, h3⟩ := andd.1 h2
      have h2 := ble_iff.1 h2
      have := flat_len (f := txtP n) (m := 7 ^ n) (l := t.kids) fun k hk => txt_len (List.all_eq_true.1 h3 k hk)
      have h4 := Nat.mul_le_mul_right (7 ^ n) h2
      simp only [cond_false, List.length_cons, List.length_append, digS, List.length_nil]
      omega
    · obtain ⟨c, e, _⟩ := smallS_one hs
      rw [cond_true, e]
      simp only [List.length_cons, List.length_nil]
      omega
theorem txt_lenB {n : Nat} {t : GTree} (h : txOk n t = true) (hn : n ≤ 21) : (txtP n t).length ≤ 558545864083284007 :=
  Nat.le_trans (txt_len h) (Nat.le_trans (Nat.pow_le_pow_right (by omega) hn) (by decide))
theorem tx_kids {n : Nat} {t : GTree} (h : txOk (n + 1) t = true) (hs : smallS t.sign = false) : dig t.rule = true ∧ t.kids.length ≤ 4 ∧ List.all t.kids (txOk n) = true := by
  unfold txOk at h
  rw [hs] at h
  obtain ⟨h1, h2⟩ := andd.1 h
  obtain ⟨h2, h3⟩ := andd.1 h2
  exact ⟨h1, ble_iff.1 h2, h3⟩
theorem tx_at {n : Nat} {ks : List GTree} {i : Int} (h0 : 0 ≤ i) (h1 : i < (ks.length : Int)) : (ks.drop i.toNat).flatMap (txtP n) = txtP n (ks.getD i.toNat tz) ++ (ks.drop (i + 1).toNat).flatMap (txtP n) := by
  have hn : i.toNat < ks.length := by omega
  rw [List.drop_eq_getElem_cons hn, List.flatMap_cons, show (i + 1).toNat = i.toNat + 1 by omega, List.getD_eq_getElem?_getD, List.getElem?_eq_getElem hn]; rfl
theorem getT_in {ks : List GTree} {i : Int} (h0 : 0 ≤ i) (h1 : i < (ks.length : Int)) : ks.getD i.toNat tz ∈ ks := by
  have hn : i.toNat < ks.length := by omega
  rw [List.getD_eq_getElem?_getD, List.getElem?_eq_getElem hn]; exact List.getElem_mem hn
noncomputable def conTx (n : Nat) : Con := conT [.tree] fun (t : GTree) => (some (txOk n t && Nat.ble n 21), .d (ofD .str (txtP n t)))
structure LevT where
  n : Nat
  h : ConOk Tryd.prog 112 (conTx n)
noncomputable section
variable [Inhabited LevT]
abbrev lvT : Nat := (default : LevT).n
noncomputable def c_impl_treeTextR : Con := conTx lvT
theorem k_impl_treeTextR : ConOk Tryd.prog 112 c_impl_treeTextR := (default : LevT).h
noncomputable def Γ74 : List (Nat × Con) := (112, c_impl_treeTextR) :: Γ73
theorem Γ74ok : EnvOk Tryd.prog (look Γ74) := .cons k_impl_treeTextR Γ73ok

noncomputable def cb_tx : Cx := cxOf Γ74 Tryd.f112.ntmps [(5, [3, 16, 17, 18])] [(0, [3]), (1, [3, 16, 17, 18]), (1000000, [2])] [] []
theorem x_impl_treeText (ks : List GTree) (o : Str) (n i : Int) (R : St → Option Fin) (K : Cont) : evC (cb_tx.withLoops (look [])) (loopOf Tryd.f112 0) ⟨[(3, vS o), (16, .d (ofD TTL ks)), (17, vI n), (18, vI i)], []⟩ (onward (headAt (cb_tx.withLoops (look [])) 5) R K) = (
branch (decide (i < n)) (
 need (inb i ks.length) <|
 need (txOk lvT (GTree.node (GTree.sign (ks.getD i.toNat tz)) (GTree.rule (ks.getD i.toNat tz)) (GTree.kids (ks.getD i.toNat tz))) && lvT.ble 21) <|
 need (decide ((List.length o + List.length (txtP lvT (GTree.node (GTree.sign (ks.getD i.toNat tz)) (GTree.rule (ks.getD i.toNat tz)) (GTree.kids (ks.getD i.toNat tz))))) ≤ 9223372036854775807)) <| R (.mk [(3, (vS (List.append o (txtP lvT (GTree.node (GTree.sign (ks.getD i.toNat tz)) (GTree.rule (ks.getD i.toNat tz)) (GTree.kids (ks.getD i.toNat tz))))))), (16, (.d (.one (.r (.li (Ty.tree) (ks)))))), (17, (vI n)), (18, (vI (W64 (i + 1))))] [])) ( K (.exit 0) (.mk [(3, (vS o))] []))) := by kernel_rfl
noncomputable def cx0_tx1 : Cx := (cb_tx).withLoops (look [])
def sh_tx1 : Sh := ([(3, .d .str), (16, .d TTL), (17, .d TI64), (18, .d TI64)], [])
def pre_tx1 (o : Str) (ks : List GTree) (n : Int) (i : Int) : Bool := decide (0 ≤ i) && (decide (n = (List.length ks : Int)) && (Nat.ble (List.length ks) 4 && (List.all ks (txOk lvT) && (Nat.ble lvT 21 && decide ((List.length o : Int) ≤ 2 + i * 558545864083284007)))))
noncomputable def res_tx1 (o : Str) (ks : List GTree) (_n : Int) (i : Int) (K : Cont) : Option Fin := K (.exit 0) ⟨[(3, vS (o ++ (List.drop i.toNat ks).flatMap (txtP lvT)))], []⟩
def mu_tx1 (_o : Str) (ks : List GTree) (_n : Int) (i : Int) : Nat := List.length ks - i.toNat
theorem r_tx1 (o : Str) (ks : List GTree) (n : Int) (i : Int) (K : Cont) (hI : pre_tx1 o ks n i = true) : (∀ R : St → Option Fin, evC cx0_tx1 (loopOf Tryd.f112 0) ⟨[(3, .d (ofD .str o)), (16, .d (ofD TTL ks)), (17, .d (ofD TI64 n)), (18, .d (ofD TI64 i))], []⟩ (onward (headAt cx0_tx1 5) R K) = res_tx1 o ks n i K) ∨
    (∃ (o' : Str) (ks' : List GTree) (n' : Int) (i' : Int), pre_tx1 o' ks' n' i' = true ∧ mu_tx1 o' ks' n' i' < mu_tx1 o ks n i ∧ res_tx1 o' ks' n' i' K = res_tx1 o ks n i K ∧ ∀ R : St → Option Fin, evC cx0_tx1 (loopOf Tryd.f112 0) ⟨[(3, .d (ofD .str o)), (16, .d (ofD TTL ks)), (17, .d (ofD TI64 n)), (18, .d (ofD TI64 i))], []⟩ (onward (headAt cx0_tx1 5) R K) = R ⟨[(3, .d (ofD .str o')), (16, .d (ofD TTL ks')), (17, .d (ofD TI64 n')), (18, .d (ofD TI64 i'))], []⟩) := by
  have hx := fun R => x_impl_treeText ks o n i R K
  rw [tEta (ks.getD i.toNat tz)] at hx
  simp only [pre_tx1] at hI
  rw [andd, andd, andd, andd, andd, dec_iff, dec_iff, ble_iff, ble_iff, dec_iff] at hI
  obtain ⟨h0, rfl, h1, h2, h3, h4⟩ := hI
  by_cases hi : i < (List.length ks : Int)
  · have hkid := List.all_eq_true.1 h2 _ (getT_in h0 hi)
    have hlen := txt_lenB hkid h3
    have hg := tx_at (n := lvT) h0 hi
    have k1 : (txOk lvT (ks.getD i.toNat tz) && lvT.ble 21) = true := andd.2 ⟨hkid, ble_iff.2 h3⟩
    have k2 : decide ((List.length o + List.length (txtP lvT (ks.getD i.toNat tz))) ≤ 9223372036854775807) = true := dec_iff.2 (by omega)
    have w : W64 (i + 1) = i + 1 := wrap_small (by omega) (by omega)
    rw [decide_eq_true hi, inb_ok h0 hi, k1, k2, w] at hx
    right
    refine ⟨o ++ txtP lvT (ks.getD i.toNat tz), ks, (List.length ks : Int), i + 1, ?_, ?_, ?_, fun R => hx R⟩
    · simp only [pre_tx1]
      rw [andd, andd, andd, andd, andd, dec_iff, dec_iff, ble_iff, ble_iff, dec_iff, List.length_append]
      exact ⟨by omega, trivial, h1, h2, h3, by omega⟩
    · simp only [mu_tx1]; omega
    · have hg' : (List.drop i.toNat ks).flatMap (txtP lvT) = txtP lvT (ks.getD i.toNat tz) ++ (List.drop (i + 1).toNat ks).flatMap (txtP lvT) := hg
      simp only [res_tx1, hg', List.append_assoc]
  · left
    intro R
    refine (hx R).trans ?_
    rw [decide_eq_false hi]
    have e : List.drop i.toNat ks = [] := List.drop_eq_nil_of_le (by omega)
    simp only [res_tx1, e, List.flatMap_nil, List.append_nil]; rfl
noncomputable def g_tx1 : St → Cont → Option Fin := gP sh_tx1 (fun v => match v with | ((o, ks, n, i, ()), ()) => pre_tx1 o ks n i) (fun v K => match v with | ((o, ks, n, i, ()), ()) => res_tx1 o ks n i K)
noncomputable def L_tx1 : List (Nat × (St → Cont → Option Fin)) := (5, g_tx1) :: []
noncomputable def cx_tx1 : Cx := (cb_tx).withLoops (look L_tx1)
theorem l_tx1 {L : List (Nat × (St → Cont → Option Fin))} (n : Nat) (h1 : L.drop n = []) (h2 : idsFree (L.take n) (loopOf Tryd.f112 0) = true) : ∀ st K r, g_tx1 st K = some r → ∃ N, iter (evC ((cb_tx).withLoops (look L)) (loopOf Tryd.f112 0)) (headAt ((cb_tx).withLoops (look L)) 5) N st K = some r :=
  with_drop h1 h2 (gP_ok (fun v => match v with | ((o, ks, n, i, ()), ()) => mu_tx1 o ks n i) fun v K hI => by
    obtain ⟨⟨(o : Str), (ks : List GTree), (n : Int), (i : Int), ⟨⟩⟩, ⟨⟩⟩ := v
    rcases r_tx1 o ks n i K hI with h1 | ⟨o', ks', n', i', h1, h2, h3, h4⟩
    · exact .inl h1
    · exact .inr ⟨((o', ks', n', i', ()), ()), h1, h2, h3, h4⟩)
theorem y_impl_treeText (t : GTree) : evFn cx_tx1 Tryd.f112 true [ofD .tree t] [] = (
branch (smallS t.sign) ( some ((vS t.sign), [])) (
 need (dig t.rule) <|
 need (pre_tx1 (([91] : Str).append (digS t.rule)) t.kids ((t.kids.length : Int)) 0) <|
 need (decide ((((([91] : Str).append (digS t.rule)).append (List.flatMap (txtP lvT) t.kids)).length + ([93] : Str).length) ≤ 9223372036854775807)) <| some ((vS (((([91] : Str).append (digS t.rule)).append (List.flatMap (txtP lvT) t.kids)).append ([93] : Str))), []))) := by kernel_rfl
theorem tx_up : ConOk Tryd.prog 112 (conTx (lvT + 1)) := conT_ok Tryd.call112 fun (t : GTree) _ hqq => by
  obtain ⟨h1, h2⟩ := andd.1 (pre_of hqq)
  have h2 := ble_iff.1 h2
  refine fn_sound (cx := cx_tx1) Tryd.func112 rfl ttOk Γ74ok mixed (fun c hc => LoopsOk.all (l := [(5, loopOf Tryd.f112 0)]) (by cases hc; kernel_rfl) ⟨atLoop rfl (l_tx1 1 rfl (by kernel_rfl)), trivial⟩) (ro := true) ?_
  refine (y_impl_treeText t).trans ?_
  show branch (smallS t.sign) _ _ = some (vS (bif smallS t.sign then t.sign else (91 : UInt8) :: (digS t.rule ++ (t.kids.flatMap (txtP lvT) ++ [93]))), [])
  cases hs : smallS t.sign
  · obtain ⟨g1, g2, g3⟩ := tx_kids h1 hs
    have hp : pre_tx1 (([91] : Str).append (digS t.rule)) t.kids (t.kids.length : Int) 0 = true := by
      simp only [pre_tx1]
      rw [andd, andd, andd, andd, andd, dec_iff, dec_iff, ble_iff, ble_iff, dec_iff]
      exact ⟨by omega, trivial, g2, g3, by omega, by show ((2 : Nat) : Int) ≤ _; omega⟩
    have hfl := flat_len (f := txtP lvT) (m := 558545864083284007) (l := t.kids) fun k hk => txt_lenB (List.all_eq_true.1 g3 k hk) (by omega)
    have h4 := Nat.mul_le_mul_right 558545864083284007 g2
    have hl : decide ((((([91] : Str).append (digS t.rule)).append (List.flatMap (txtP lvT) t.kids)).length + ([93] : Str).length) ≤ 9223372036854775807) = true := dec_iff.2 (by
      rw [List.append_eq, List.length_append]
      show 2 + (List.flatMap (txtP lvT) t.kids).length + 1 ≤ _
      omega)
    rw [g1, hp, hl]
    show some (vS (((([91] : Str) ++ digS t.rule) ++ List.flatMap (txtP lvT) t.kids) ++ [93]), []) = _
    rw [List.append_assoc, List.append_assoc]; rfl
  · rfl
end
theorem tx_all : ∀ n, ConOk Tryd.prog 112 (conTx n)
  | 0 => conT_ok Tryd.call112 fun (t : GTree) _ hqq => by
    cases (andd.1 (pre_of hqq)).1
  | n + 1 => @tx_up ⟨⟨n, tx_all n⟩⟩
noncomputable def c_impl_treeText : Con := conTx 20
theorem k_impl_treeText : ConOk Tryd.prog 112 c_impl_treeText := tx_all 20
noncomputable def Γ75 : List (Nat × Con) := (112, c_impl_treeText) :: Γ73
theorem Γ75ok : EnvOk Tryd.prog (look Γ75) := .cons k_impl_treeText Γ73ok

noncomputable def conTs (n : Nat) : Con := conT [.tree] fun (t : GTree) => (some (txOk n t && Nat.ble n 21), .d (ofD .str (txtP n t)))
structure LevU where
  n : Nat
  h : ConOk Tryd.prog 114 (conTs n)
noncomputable section
variable [Inhabited LevU]
abbrev lvU : Nat := (default : LevU).n
noncomputable def c_spec_l3TextR : Con := conTs lvU
theorem k_spec_l3TextR : ConOk Tryd.prog 114 c_spec_l3TextR := (default : LevU).h
noncomputable def Γ76 : List (Nat × Con) := (114, c_spec_l3TextR) :: Γ75
theorem Γ76ok : EnvOk Tryd.prog (look Γ76) := .cons k_spec_l3TextR Γ75ok

noncomputable def cb_ts : Cx := cxOf Γ76 Tryd.f114.ntmps [(5, [1, 3, 4])] [(0, [3]), (1, [1, 3, 4]), (1000000, [2])] [] []
theorem x_spec_l3Text (t : GTree) (o : Str) (i : Int) (R : St → Option Fin) (K : Cont) : evC (cb_ts.withLoops (look [])) (loopOf Tryd.f114 0) ⟨[(1, .d (.one (.ptr 500000 0))), (3, vS o), (4, vI i)], [(500000, some (boxD 60 .tree t))]⟩ (onward (headAt (cb_ts.withLoops (look [])) 5) R K) = (
branch (decide (i < (t.kids.length : Int))) (
 need (inb i t.kids.length) <|
 need (txOk lvU (GTree.node (GTree.sign (t.kids.getD i.toNat tz)) (GTree.rule (t.kids.getD i.toNat tz)) (GTree.kids (t.kids.getD i.toNat tz))) && lvU.ble 21) <|
 need (decide ((List.length o + List.length (txtP lvU (GTree.node (GTree.sign (t.kids.getD i.toNat tz)) (GTree.rule (t.kids.getD i.toNat tz)) (GTree.kids (t.kids.getD i.toNat tz))))) ≤ 9223372036854775807)) <| R (.mk [(1, (.d (.one (.ptr 500000 0)))), (3, (vS (List.append o (txtP lvU (GTree.node (GTree.sign (t.kids.getD i.toNat tz)) (GTree.rule (t.kids.getD i.toNat tz)) (GTree.kids (t.kids.getD i.toNat tz))))))), (4, (vI (W64 (i + 1))))] [(500000, (.some (.box 60 [(.r (.v (Value.string (mk t.sign)))), (.r (.v (Value.int IntKind.i64 t.rule))), (.r (.li (Ty.tree) (t.kids)))])))])) ( K (.exit 0) (.mk [(3, (vS o))] []))) := by kernel_rfl
noncomputable def cx0_ts1 : Cx := (cb_ts).withLoops (look [])
def sh_ts1 : Sh := ([(1, .ptr 500000 0), (3, .d .str), (4, .d TI64)], [(500000, .box 60 .tree)])
def pre_ts1 (o : Str) (i : Int) (t : GTree) : Bool := decide (0 ≤ i) && (Nat.ble (List.length t.kids) 4 && (List.all t.kids (txOk lvU) && (Nat.ble lvU 21 && decide ((List.length o : Int) ≤ 2 + i * 558545864083284007))))
noncomputable def res_ts1 (o : Str) (i : Int) (t : GTree) (K : Cont) : Option Fin := K (.exit 0) ⟨[(3, vS (o ++ (List.drop i.toNat t.kids).flatMap (txtP lvU)))], []⟩
def mu_ts1 (_o : Str) (i : Int) (t : GTree) : Nat := List.length t.kids - i.toNat
theorem r_ts1 (o : Str) (i : Int) (t : GTree) (K : Cont) (hI : pre_ts1 o i t = true) : (∀ R : St → Option Fin, evC cx0_ts1 (loopOf Tryd.f114 0) ⟨[(1, .d (.one (.ptr 500000 0))), (3, .d (ofD .str o)), (4, .d (ofD TI64 i))], [(500000, some (boxD 60 .tree t))]⟩ (onward (headAt cx0_ts1 5) R K) = res_ts1 o i t K) ∨
    (∃ (o' : Str) (i' : Int) (t' : GTree), pre_ts1 o' i' t' = true ∧ mu_ts1 o' i' t' < mu_ts1 o i t ∧ res_ts1 o' i' t' K = res_ts1 o i t K ∧ ∀ R : St → Option Fin, evC cx0_ts1 (loopOf Tryd.f114 0) ⟨[(1, .d (.one (.ptr 500000 0))), (3, .d (ofD .str o)), (4, .d (ofD TI64 i))], [(500000, some (boxD 60 .tree t))]⟩ (onward (headAt cx0_ts1 5) R K) = R ⟨[(1, .d (.one (.ptr 500000 0))), (3, .d (ofD .str o')), (4, .d (ofD TI64 i'))], [(500000, some (boxD 60 .tree t'))]⟩) := by
  have hx := fun R => x_spec_l3Text t o i R K
  rw [tEta (t.kids.getD i.toNat tz)] at hx
  simp only [pre_ts1] at hI
  rw [andd, andd, andd, andd, dec_iff, ble_iff, ble_iff, dec_iff] at hI
  obtain ⟨h0, h1, h2, h3, h4⟩ := hI
  by_cases hi : i < (List.length t.kids : Int)
  · have hkid := List.all_eq_true.1 h2 _ (getT_in h0 hi)
    have hlen := txt_lenB hkid h3
    have hg := tx_at (n := lvU) h0 hi
    have k1 : (txOk lvU (t.kids.getD i.toNat tz) && lvU.ble 21) = true := andd.2 ⟨hkid, ble_iff.2 h3⟩
    have k2 : decide ((List.length o + List.length (txtP lvU (t.kids.getD i.toNat tz))) ≤ 9223372036854775807) = true := dec_iff.2 (by omega)
    have w : W64 (i + 1) = i + 1 := wrap_small (by omega) (by omega)
    rw [decide_eq_true hi, inb_ok h0 hi, k1, k2, w] at hx
    right
    refine ⟨o ++ txtP lvU (t.kids.getD i.toNat tz), i + 1, t, ?_, ?_, ?_, fun R => hx R⟩
    · simp only [pre_ts1]
      rw [andd, andd, andd, andd, dec_iff, ble_iff, ble_iff, dec_iff, List.length_append]
      exact ⟨by omega, h1, h2, h3, by omega⟩
    · simp only [mu_ts1]; omega
    · simp only [res_ts1, hg, List.append_assoc]
  · left
    intro R
    refine (hx R).trans ?_
    rw [decide_eq_false hi]
    have e : List.drop i.toNat t.kids = [] := List.drop_eq_nil_of_le (by omega)
    simp only [res_ts1, e, List.flatMap_nil, List.append_nil]; rfl
noncomputable def g_ts1 : St → Cont → Option Fin := gP sh_ts1 (fun v => match v with | ((o, i, ()), (t, ())) => pre_ts1 o i t) (fun v K => match v with | ((o, i, ()), (t, ())) => res_ts1 o i t K)
noncomputable def L_ts1 : List (Nat × (St → Cont → Option Fin)) := (5, g_ts1) :: []
noncomputable def cx_ts1 : Cx := (cb_ts).withLoops (look L_ts1)
theorem l_ts1 {L : List (Nat × (St → Cont → Option Fin))} (n : Nat) (h1 : L.drop n = []) (h2 : idsFree (L.take n) (loopOf Tryd.f114 0) = true) : ∀ st K r, g_ts1 st K = some r → ∃ N, iter (evC ((cb_ts).withLoops (look L)) (loopOf Tryd.f114 0)) (headAt ((cb_ts).withLoops (look L)) 5) N st K = some r :=
  with_drop h1 h2 (gP_ok (fun v => match v with | ((o, i, ()), (t, ())) => mu_ts1 o i t) fun v K hI => by
    obtain ⟨⟨(o : Str), (i : Int), ⟨⟩⟩, ⟨(t : GTree), ⟨⟩⟩⟩ := v
    rcases r_ts1 o i t K hI with h1 | ⟨o', i', t', h1, h2, h3, h4⟩
    · exact .inl h1
    · exact .inr ⟨((o', i', ()), (t', ())), h1, h2, h3, h4⟩)
theorem y_spec_l3Text (t : GTree) : evFn cx_ts1 Tryd.f114 true [ofD .tree t] [] = (
branch (decide (t.rule < 0)) ( some ((vS t.sign), [])) (
 need (dig t.rule) <|
 need (pre_ts1 (([91] : Str).append (digS t.rule)) 0 (GTree.node t.sign t.rule t.kids)) <|
 need (decide ((((([91] : Str).append (digS t.rule)).append (List.flatMap (txtP lvU) (id (GTree.node t.sign t.rule t.kids).kids))).length + ([93] : Str).length) ≤ 9223372036854775807)) <| some ((vS (((([91] : Str).append (digS t.rule)).append (List.flatMap (txtP lvU) (id (GTree.node t.sign t.rule t.kids).kids))).append ([93] : Str))), []))) := by kernel_rfl
theorem ts_up : ConOk Tryd.prog 114 (conTs (lvU + 1)) := conT_ok Tryd.call114 fun (t : GTree) _ hqq => by
  obtain ⟨h1, h2⟩ := andd.1 (pre_of hqq)
  have h2 := ble_iff.1 h2
  refine fn_sound (cx := cx_ts1) Tryd.func114 rfl ttOk Γ76ok mixed (fun c hc => LoopsOk.all (l := [(5, loopOf Tryd.f114 0)]) (by cases hc; kernel_rfl) ⟨atLoop rfl (l_ts1 1 rfl (by kernel_rfl)), trivial⟩) (ro := true) ?_
  refine (y_spec_l3Text t).trans ?_
  rw [tEta]
  show branch (decide (t.rule < 0)) _ _ = some (vS (bif smallS t.sign then t.sign else (91 : UInt8) :: (digS t.rule ++ (t.kids.flatMap (txtP lvU) ++ [93]))), [])
  cases hs : smallS t.sign
  · obtain ⟨g1, g2, g3⟩ := tx_kids h1 hs
    have hr : ¬ t.rule < 0 := by
      have := g1
      unfold dig at this
      rw [andd, dec_iff, dec_iff] at this
      omega
    have hp : pre_ts1 (([91] : Str).append (digS t.rule)) 0 t = true := by
      simp only [pre_ts1]
      rw [andd, andd, andd, andd, dec_iff, ble_iff, ble_iff, dec_iff]
      exact ⟨by omega, g2, g3, by omega, by show ((2 : Nat) : Int) ≤ _; omega⟩
    have hfl := flat_len (f := txtP lvU) (m := 558545864083284007) (l := t.kids) fun k hk => txt_lenB (List.all_eq_true.1 g3 k hk) (by omega)
    have h4 := Nat.mul_le_mul_right 558545864083284007 g2
    have hl : decide ((((([91] : Str).append (digS t.rule)).append (List.flatMap (txtP lvU) (id t.kids))).length + ([93] : Str).length) ≤ 9223372036854775807) = true := dec_iff.2 (by
      rw [List.append_eq, List.length_append]
      show 2 + (List.flatMap (txtP lvU) t.kids).length + 1 ≤ _
      omega)
    rw [decide_eq_false hr, g1, hp, hl]
    show some (vS (((([91] : Str) ++ digS t.rule) ++ List.flatMap (txtP lvU) t.kids) ++ [93]), []) = _
    rw [List.append_assoc, List.append_assoc]; rfl
  · have hL : leafOk t = true := by
      have := h1
      unfold txOk at this
      rw [hs] at this
      exact this
    have hr := of_decide_eq_true (andd.1 hL).1
    rw [decide_eq_true (by omega : t.rule < 0)]; rfl
end
theorem ts_all : ∀ n, ConOk Tryd.prog 114 (conTs n)
  | 0 => conT_ok Tryd.call114 fun (t : GTree) _ hqq => by
    cases (andd.1 (pre_of hqq)).1
  | n + 1 => @ts_up ⟨⟨n, ts_all n⟩⟩
noncomputable def c_spec_l3Text : Con := conTs 20
theorem k_spec_l3Text : ConOk Tryd.prog 114 c_spec_l3Text := ts_all 20
noncomputable def Γ77 : List (Nat × Con) := (114, c_spec_l3Text) :: Γ75
theorem Γ77ok : EnvOk Tryd.prog (look Γ77) := .cons k_spec_l3Text Γ75ok

/-- the text of a tree, if it is right -/
def textG (g : Gram) (t : GTree) : Str := bif okT g t then txtP 20 t else []
theorem okT_tx {g : Gram} {t : GTree} (h : okT g t = true) : txOk 20 t = true := by
  unfold okT at h
  obtain ⟨h1, h2⟩ := andd.1 h
  exact shape_tx h1 (andd.1 h2).1
theorem y_impl_TreeText (g : Gram) (t : GTree) : evFn (cxOf Γ77 Tryd.f43.ntmps [] [] [] []) Tryd.f43 true [ofD TG g, ofD .tree t] [] = (
branch (!okT g (GTree.node t.sign t.rule t.kids)) ( some ((vS []), [])) (
 need (txOk 20 (GTree.node t.sign t.rule t.kids) && Nat.ble 20 21) <| some ((vS (txtP 20 (GTree.node t.sign t.rule t.kids))), []))) := by kernel_rfl
theorem s_impl_TreeText (g : Gram) (_hg : Fit TG g) (t : GTree) (_ht : Fit .tree t) : Sat Tryd.prog 43 [ofD TG g, ofD .tree t] [] (.d (ofD .str (textG g t))) [] :=
  fn_sound (cx := cxOf Γ77 Tryd.f43.ntmps [] [] [] []) Tryd.func43 rfl ttOk Γ77ok mixed (fun _ _ => LoopsOk.no fun _ => rfl) (ro := true) (by
    refine (y_impl_TreeText g t).trans ?_
    unfold textG
    rw [tEta]
    cases h : okT g t
    · rfl
    · rw [okT_tx h]; rfl)
noncomputable def c_impl_TreeText : Con := conT [TG, .tree] fun (g : Gram) (t : GTree) => (none, .d (ofD .str (textG g t)))
theorem k_impl_TreeText : ConOk Tryd.prog 43 c_impl_TreeText := conT_ok Tryd.call43 fun g hg t ht _ => s_impl_TreeText g hg t ht
noncomputable def Γ78 : List (Nat × Con) := (43, c_impl_TreeText) :: Γ77
theorem Γ78ok : EnvOk Tryd.prog (look Γ78) := .cons k_impl_TreeText Γ77ok

theorem y_spec_TreeText (g : Gram) (t : GTree) : evFn (cxOf Γ78 Tryd.f45.ntmps [] [] [] []) Tryd.f45 true [ofD TG g, ofD .tree t] [] = (
branch (!okT g (GTree.node t.sign t.rule t.kids)) ( some ((vS []), [])) (
 need (txOk 20 (GTree.node t.sign t.rule t.kids) && Nat.ble 20 21) <| some ((vS (txtP 20 (GTree.node t.sign t.rule t.kids))), []))) := by kernel_rfl
theorem s_spec_TreeText (g : Gram) (_hg : Fit TG g) (t : GTree) (_ht : Fit .tree t) : Sat Tryd.prog 45 [ofD TG g, ofD .tree t] [] (.d (ofD .str (textG g t))) [] :=
  fn_sound (cx := cxOf Γ78 Tryd.f45.ntmps [] [] [] []) Tryd.func45 rfl ttOk Γ78ok mixed (fun _ _ => LoopsOk.no fun _ => rfl) (ro := true) (by
    refine (y_spec_TreeText g t).trans ?_
    unfold textG
    rw [tEta]
    cases h : okT g t
    · rfl
    · rw [okT_tx h]; rfl)
noncomputable def c_spec_TreeText : Con := conT [TG, .tree] fun (g : Gram) (t : GTree) => (none, .d (ofD .str (textG g t)))
theorem k_spec_TreeText : ConOk Tryd.prog 45 c_spec_TreeText := conT_ok Tryd.call45 fun g hg t ht _ => s_spec_TreeText g hg t ht
noncomputable def Γ79 : List (Nat × Con) := (45, c_spec_TreeText) :: Γ78
theorem Γ79ok : EnvOk Tryd.prog (look Γ79) := .cons k_spec_TreeText Γ78ok

end Go.Proofs.YthbpnbbilaobbaaDoor.Ev

-- G=79