/-
  What is derived, the program's side.
-/
import Derived.Test.YtbijdgkkneffgaaDoorHa
namespace Go.Proofs.YtbijdgkkneffgaaDoor.Ev
open Go
theorem y_impl_isDerived (g : Gram) (s : Str) : evFn (cxOf Γ62 Tryd.f62.ntmps [] [] [] []) Tryd.f62 true [ofD TG g, ofD .str s] [] = (
need (okRs g.snd && s.length.ble 1000) <|
need (okIJ s 0 (s.length : Int)) <| some ((vB (derB s (chartM s g.snd) g.fst 0 (s.length : Int))), [])) := by kernel_rfl
theorem s_impl_isDerived (g : Gram) (_hg : Fit TG g) (s : Str) (_hs : Fit .str s) (hpre : (okRs g.2 && Nat.ble (List.length s) 1000) = true) : Sat Tryd.prog 62 [ofD TG g, ofD .str s] [] (.d (ofD .bool (derB s (chartM s g.2) g.1 0 (List.length s : Int)))) [] :=
 fn_sound (cx := cxOf Γ62 Tryd.f62.ntmps [] [] [] []) Tryd.func62 rfl ttOk Γ62ok mixed (fun _ _ => LoopsOk.no fun _ => rfl) (ro := true) (by
  have h : okIJ s 0 (List.length s : Int) = true := okIJ_iff.2 ⟨by omega, by omega, by omega⟩
  rw [y_impl_isDerived, hpre, h]; rfl)
noncomputable def c_impl_isDerived : Con := conT [TG, .str] fun (g : Gram) (s : Str) => (some (okRs g.2 && Nat.ble (List.length s) 1000), .d (ofD .bool (derB s (chartM s g.2) g.1 0 (List.length s : Int))))
theorem k_impl_isDerived : ConOk Tryd.prog 62 c_impl_isDerived := conT_ok Tryd.call62 fun g hg s hs hqq => s_impl_isDerived g hg s hs (pre_of hqq)
noncomputable def Γ63 : List (Nat × Con) := (62, c_impl_isDerived) :: Γ62
theorem Γ63ok : EnvOk Tryd.prog (look Γ63) := .cons k_impl_isDerived Γ62ok
theorem big_not_small {a : Str} (h : bigS a = true) : smallS a = false := by
 obtain ⟨c, e, hc⟩ := bigS_one h
 cases hs : smallS a
 ·rfl
 ·obtain ⟨c', e', hc'⟩ := smallS_one hs
  rw [e] at e'
  cases (List.cons.inj e').1
  exact absurd ⟨hc, hc'⟩ (big_small c)
theorem areSm_iff {s : Str} {n : Int} : areSm s n = true ↔ (s.length : Int) ≤ n ∧ s.all small = true := by
 unfold areSm
 rw [b2, andd, dec_iff]
theorem both_iff {g : Gram} {s : Str} (h : both2 g s = true) : okG g = true ∧ s.length ≤ 8 ∧ s.all small = true := by
 unfold both2 at h
 rw [b2, andd, areSm_iff] at h
 exact ⟨h.1, by omega, h.2.2⟩
def isD (g : Gram) (s : Str) : Bool := derB s (chartM s g.2) g.1 0 (s.length : Int)
theorem isD_iff {g : Gram} {s : Str} (h : bigS g.1 = true) : isD g s = true ↔ DerG s g.2 g.1 0 (s.length : Int) := by
 unfold isD derB
 rw [big_not_small h, cond_false]
 exact chartM_iff
theorem ok_rs {g : Gram} (h : okG g = true) : okRs g.2 = true := by
 obtain ⟨_, h2, h3⟩ := okG_iff h
 refine okRs_iff.2 ⟨by omega, List.all_eq_true.2 fun r hr => blt_iff.2 ?_⟩
 have := (areS_iff (h3 r hr).2).2
 omega
abbrev TC1 : Ty := .list .bool
abbrev TC2 : Ty := .list TC1
abbrev TC3 : Ty := .list TC2
abbrev C3 : Type := List (List (List Bool))
def atC (ch : C3) (k i j : Int) : Bool := List.getD (List.getD (List.getD ch k.toNat []) i.toNat []) j.toNat false
def okC5 (n : Nat) (ch : C3) : Bool := Nat.beq (List.length ch) 5 && List.all ch fun r => Nat.beq (List.length r) n && List.all r fun q => Nat.beq (List.length q) n
theorem okC5_iff {n : Nat} {ch : C3} : okC5 n ch = true ↔ ch.length = 5 ∧ ∀ r ∈ ch, r.length = n ∧ ∀ q ∈ r, q.length = n := by
 unfold okC5
 rw [andd, List.all_eq_true]
 constructor
 ·rintro ⟨h1, h2⟩
  refine ⟨Nat.eq_of_beq_eq_true h1, fun r hr => ?_⟩
  obtain ⟨h3, h4⟩ := andd.1 (h2 r hr)
  exact ⟨Nat.eq_of_beq_eq_true h3, fun q hq => Nat.eq_of_beq_eq_true (List.all_eq_true.1 h4 q hq)⟩
 ·rintro ⟨h1, h2⟩
  refine ⟨by rw [h1]; rfl, fun r hr => ?_⟩
  obtain ⟨h3, h4⟩ := h2 r hr
  exact andd.2 ⟨by rw [h3]; exact Nat.beq_refl n, List.all_eq_true.2 fun q hq => by rw [h4 q hq]; exact Nat.beq_refl n⟩
theorem getD_mem {α : Type} {l : List α} {i : Nat} {d : α} (h : i < l.length) : l.getD i d ∈ l := by
 rw [List.getD_eq_getElem?_getD, List.getElem?_eq_getElem h]; exact List.getElem_mem h
theorem okC5_at {n : Nat} {ch : C3} (h : okC5 n ch = true) {k i : Int} (k0 : 0 ≤ k) (k1 : k < 5) (i0 : 0 ≤ i) (i1 : i < (n : Int)) : ch.length = 5 ∧ List.length (List.getD ch k.toNat []) = n ∧ List.length (List.getD (List.getD ch k.toNat []) i.toNat []) = n := by
 obtain ⟨h1, h2⟩ := okC5_iff.1 h
 obtain ⟨h3, h4⟩ := h2 (List.getD ch k.toNat []) (getD_mem (by omega))
 exact ⟨h1, h3, h4 _ (getD_mem (by omega))⟩
def signI (c : Int) : Bool := smallI c || (decide (65 ≤ c) && decide (c ≤ 69))
def stepC (s : Str) (ch : C3) (c i j : Int) : Bool := bif smallI c then (bif decide (j = i + 1) then decide (byteAt s i = c) else false) else atC ch (c - 65) i j
theorem y_spec_l4Step (ch : List (List (List Bool))) (s : Str) (c : Int) (i : Int) (j : Int) : evFn (cxOf Γ63 Tryd.f170.ntmps [] [] [] []) Tryd.f170 true [ofD TC3 ch, ofD .str s, ofD (.int .u8) c, ofD TI64 i, ofD TI64 j] [] = (
branch (smallI c) (
 need (bif decide (decide (j = W64 (i + 1)) = true) then inb i s.length else true) <| some ((vB (bif decide (j = W64 (i + 1)) then decide (byteAt s i = c) else false)), [])) (
 need (inb (W64 (IntKind.u8.wrap (c - 65))) ch.length) <|
 need (inb i (List.length (ch.getD (W64 (IntKind.u8.wrap (c - 65))).toNat (dflt Ty.bool.list.list)))) <|
 need (inb j (List.length (List.getD (ch.getD (W64 (IntKind.u8.wrap (c - 65))).toNat (dflt Ty.bool.list.list)) i.toNat (dflt Ty.bool.list)))) <| some ((vB (List.getD (List.getD (ch.getD (W64 (IntKind.u8.wrap (c - 65))).toNat (dflt Ty.bool.list.list)) i.toNat (dflt Ty.bool.list)) j.toNat (dflt Ty.bool))), []))) := by kernel_rfl
theorem s_spec_l4Step (ch : List (List (List Bool))) (_hch : Fit TC3 ch) (s : Str) (_hs : Fit .str s) (c : Int) (_hc : Fit (.int .u8) c) (i : Int) (_hi : Fit TI64 i) (j : Int) (_hj : Fit TI64 j) (hpre : (okC5 (List.length s + 1) ch && (signI c && (okIJ s i j && Nat.ble (List.length s) 1000))) = true) : Sat Tryd.prog 170 [ofD TC3 ch, ofD .str s, ofD (.int .u8) c, ofD TI64 i, ofD TI64 j] [] (.d (ofD .bool (stepC s ch c i j))) [] :=
 fn_sound (cx := cxOf Γ63 Tryd.f170.ntmps [] [] [] []) Tryd.func170 rfl ttOk Γ63ok mixed (fun _ _ => LoopsOk.no fun _ => rfl) (ro := true) (by
  rw [andd, andd, andd, ble_iff] at hpre
  obtain ⟨h1, h2, h3, h4⟩ := hpre
  obtain ⟨i0, i1, i2⟩ := okIJ_iff.1 h3
  refine (y_spec_l4Step ch s c i j).trans ?_
  unfold stepC
  have w : W64 (i + 1) = i + 1 := wrap_small (by omega) (by omega)
  rw [w]
  cases hsm : smallI c
  ·unfold signI at h2
   rw [hsm, Bool.false_or, andd, dec_iff, dec_iff] at h2
   have w2 : W64 (IntKind.u8.wrap (c - 65)) = c - 65 := by
    have e1 : IntKind.u8.wrap (c - 65) = c - 65 := by
     show (c - 65) % 256 = _
     exact Int.emod_eq_of_lt (by omega) (by omega)
    rw [e1]
    exact wrap_small (by omega) (by omega)
   obtain ⟨l1, l2, l3⟩ := okC5_at h1 (k := c - 65) (i := i) (by omega) (by omega) i0 (by omega)
   rw [w2]
   change need (inb (c - 65) (List.length ch)) (need (inb i (List.length (List.getD ch (c - 65).toNat []))) (need (inb j (List.length (List.getD (List.getD ch (c - 65).toNat []) i.toNat []))) _)) = _
   rw [l1, l2, l3, inb_ok (by omega) (by omega), inb_ok (by omega) (by omega), inb_ok (by omega) (by omega)]; rfl
  ·by_cases hjj : j = i + 1
   ·rw [decide_eq_true hjj, inb_ok i0 (by omega)]; rfl
   ·rw [decide_eq_false hjj]; rfl)
noncomputable def c_spec_l4Step : Con := conT [TC3, .str, (.int .u8), TI64, TI64] fun (ch : List (List (List Bool))) (s : Str) (c : Int) (i : Int) (j : Int) => (some (okC5 (List.length s + 1) ch && (signI c && (okIJ s i j && Nat.ble (List.length s) 1000))), .d (ofD .bool (stepC s ch c i j)))
theorem k_spec_l4Step : ConOk Tryd.prog 170 c_spec_l4Step := conT_ok Tryd.call170 fun ch hch s hs c hc i hi j hj hqq => s_spec_l4Step ch hch s hs c hc i hi j hj (pre_of hqq)
noncomputable def Γ64 : List (Nat × Con) := (170, c_spec_l4Step) :: Γ63
theorem Γ64ok : EnvOk Tryd.prog (look Γ64) := .cons k_spec_l4Step Γ63ok
theorem intBytes2 : Tryd.t3.bytes = 8 := by kernel_rfl
def catI (f : Int → List Int) : Nat → Int → List Int
 | 0, _ => []
 | n + 1, a => f a ++ catI f n (a + 1)
def endsL (s : Str) (ch : C3) : Str → Int → List Int
 | [], i => [i]
 | c :: r, i => catI (fun k => bif stepC s ch (c.toNat : Int) i k then endsL s ch r k else []) ((s.length : Int) + 1 - i).toNat i
theorem cat_len {f : Int → List Int} {m : Nat} : ∀ {n : Nat} {a : Int}, (∀ k, a ≤ k → (f k).length ≤ m) → (catI f n a).length ≤ n * m
 | 0, _, _ => Nat.zero_le _
 | n + 1, a, h => by
  have h1 := h a (Int.le_refl _)
  have h2 := cat_len (n := n) (a := a + 1) fun k hk => h k (by omega)
  unfold catI
  rw [List.length_append, Nat.add_mul]
  omega
theorem ends_len {s : Str} {ch : C3} (hs : s.length ≤ 1000) : ∀ {a : Str} {i : Int}, 0 ≤ i → (endsL s ch a i).length ≤ 1001 ^ a.length
 | [], _, _ => Nat.le_refl _
 | c :: r, i, h => by
  unfold endsL
  have := cat_len (f := fun k => bif stepC s ch (c.toNat : Int) i k then endsL s ch r k else []) (m := 1001 ^ r.length) (n := ((s.length : Int) + 1 - i).toNat) (a := i) fun k hk => by
   show (bif stepC s ch (c.toNat : Int) i k then endsL s ch r k else []).length ≤ _
   cases stepC s ch (c.toNat : Int) i k
   ·exact Nat.zero_le _
   ·exact ends_len hs (by omega)
  have h2 : ((s.length : Int) + 1 - i).toNat ≤ 1001 := by omega
  have h3 := Nat.mul_le_mul_right (1001 ^ r.length) h2
  rw [List.length_cons, Nat.pow_succ, Nat.mul_comm (1001 ^ r.length)]
  omega
theorem ends_big {s : Str} {ch : C3} {a : Str} {i : Int} (hs : s.length ≤ 1000) (ha : a.length ≤ 3) (h : 0 ≤ i) : (endsL s ch a i).length ≤ 1003003001 :=
 Nat.le_trans (ends_len hs h) (Nat.le_trans (Nat.pow_le_pow_right (by omega) ha) (by decide))
theorem sign_I {c : UInt8} (h : sign c = true) : signI (c.toNat : Int) = true := by
 unfold sign at h
 unfold signI
 rw [smallI_nat]
 rcases Bool.or_eq_true_iff.1 h with h | h
 ·unfold bigc at h
  rw [andd, ble_iff, ble_iff] at h
  rw [Bool.or_eq_true, andd, dec_iff, dec_iff]
  exact .inr ⟨by omega, by omega⟩
 ·rw [h]; rfl
noncomputable def conEnds (n : Nat) : Con := conN [TC3, .str, .str, TI64] fun (ch : C3) (s : Str) (a : Str) (i : Int) => (some (Nat.blt (List.length a) n && (Nat.ble n 5 && (okC5 (List.length s + 1) ch && (List.all a sign && (okIJ s i i && Nat.ble (List.length s) 1000))))), .d (.one (.own 1000)), [(1000, some (.lis 3 TI64 (endsL s ch a i)))])
structure LevN where
 n : Nat
 h : ConOk Tryd.prog 132 (conEnds n)
noncomputable section
variable [Inhabited LevN]
abbrev lvN : Nat := (default : LevN).n
noncomputable def c_spec_l4EndsR : Con := conEnds lvN
theorem k_spec_l4EndsR : ConOk Tryd.prog 132 c_spec_l4EndsR := (default : LevN).h
noncomputable def Γ65 : List (Nat × Con) := (132, c_spec_l4EndsR) :: Γ64
theorem Γ65ok : EnvOk Tryd.prog (look Γ65) := .cons k_spec_l4EndsR Γ64ok
noncomputable def cb_ends : Cx := cxOf Γ65 Tryd.f132.ntmps [(10, [0, 1, 2, 3, 9, 10, 11, 12]), (5, [0, 1, 2, 3, 9, 10])] [(0, [9]), (1, [0, 1, 2, 3, 9, 10]), (2, [0, 1, 2, 3, 9, 10]), (3, [0, 1, 2, 3, 9, 10, 11, 12]), (1000000, [8])] [] []
theorem x_spec_l4Ends_1 (ch : C3) (s a : Str) (i j k : Int) (o l : List Int) (R : St → Option Fin) (K : Cont) : evC (cb_ends.withLoops (look [])) (loopOf Tryd.f132 1) ⟨[(0, .d (ofD TC3 ch)), (1, vS s), (2, vS a), (3, vI i), (9, .d (.one (.own 500000))), (10, vI j), (11, .d (.one (.own 500001))), (12, vI k)], [(500000, some (.lis 3 TI64 o)), (500001, some (.lis 3 TI64 l))]⟩ (onward (headAt (cb_ends.withLoops (look [])) 10) R K) = (
branch (decide (k < (l.length : Int))) (
 need (inb k l.length) <|
 need (fits (o.length + [l.getD k.toNat 0].length) Tryd.t3.bytes) <| R (.mk [(0, (.d (.one (.r (.li (Ty.bool.list.list) (ch)))))), (1, (vS s)), (2, (vS a)), (3, (vI i)), (9, (.d (.one (.own 500000)))), (10, (vI j)), (11, (.d (.one (.own 500001)))), (12, (vI (W64 (k + 1))))] [(500000, (.some (.lis 3 (ty3) (o.append [l.getD k.toNat 0])))), (500001, (.some (.lis 3 (TI64) (l))))])) ( K (.exit 2) (.mk [(0, (.d (.one (.r (.li (Ty.bool.list.list) (ch)))))), (1, (vS s)), (2, (vS a)), (3, (vI i)), (9, (.d (.one (.own 500000)))), (10, (vI j))] [(500000, (.some (.lis 3 (TI64) (o))))]))) := by kernel_rfl
noncomputable def cx0_e2 : Cx := (cb_ends).withLoops (look [])
def sh_e2 : Sh := ([(0, .d TC3), (1, .d .str), (2, .d .str), (3, .d TI64), (9, .own 500000), (10, .d TI64), (11, .own 500001), (12, .d TI64)], [(500000, .lis 3 TI64), (500001, .lis 3 TI64)])
def pre_e2 (_ch : List (List (List Bool))) (_s : Str) (_a : Str) (_i : Int) (_j : Int) (k : Int) (o : List (Int)) (l : List (Int)) : Bool := decide (0 ≤ k) && (decide ((List.length o + List.length l : Nat) + (0 : Int) ≤ 10000000000000 + k) && decide (List.length l ≤ 9000000000000000000))
noncomputable def res_e2 (ch : List (List (List Bool))) (s : Str) (a : Str) (i : Int) (j : Int) (k : Int) (o : List (Int)) (l : List (Int)) (K : Cont) : Option Fin := K (.exit 2) ⟨[(0, .d (ofD TC3 ch)), (1, vS s), (2, vS a), (3, vI i), (9, .d (.one (.own 500000))), (10, vI j)], [(500000, some (.lis 3 TI64 (o ++ List.drop k.toNat l)))]⟩
def mu_e2 (_ch : List (List (List Bool))) (_s : Str) (_a : Str) (_i : Int) (_j : Int) (k : Int) (_o : List (Int)) (l : List (Int)) : Nat := List.length l - k.toNat
theorem r_e2 (ch : List (List (List Bool))) (s : Str) (a : Str) (i : Int) (j : Int) (k : Int) (o : List (Int)) (l : List (Int)) (K : Cont) (hI : pre_e2 ch s a i j k o l = true) : (∀ R : St → Option Fin, evC cx0_e2 (loopOf Tryd.f132 1) ⟨[(0, .d (ofD TC3 ch)), (1, .d (ofD .str s)), (2, .d (ofD .str a)), (3, .d (ofD TI64 i)), (9, .d (.one (.own 500000))), (10, .d (ofD TI64 j)), (11, .d (.one (.own 500001))), (12, .d (ofD TI64 k))], [(500000, some (.lis 3 TI64 o)), (500001, some (.lis 3 TI64 l))]⟩ (onward (headAt cx0_e2 10) R K) = res_e2 ch s a i j k o l K) ∨
  (∃ (ch' : List (List (List Bool))) (s' : Str) (a' : Str) (i' : Int) (j' : Int) (k' : Int) (o' : List (Int)) (l' : List (Int)), pre_e2 ch' s' a' i' j' k' o' l' = true ∧ mu_e2 ch' s' a' i' j' k' o' l' < mu_e2 ch s a i j k o l ∧ res_e2 ch' s' a' i' j' k' o' l' K = res_e2 ch s a i j k o l K ∧ ∀ R : St → Option Fin, evC cx0_e2 (loopOf Tryd.f132 1) ⟨[(0, .d (ofD TC3 ch)), (1, .d (ofD .str s)), (2, .d (ofD .str a)), (3, .d (ofD TI64 i)), (9, .d (.one (.own 500000))), (10, .d (ofD TI64 j)), (11, .d (.one (.own 500001))), (12, .d (ofD TI64 k))], [(500000, some (.lis 3 TI64 o)), (500001, some (.lis 3 TI64 l))]⟩ (onward (headAt cx0_e2 10) R K) = R ⟨[(0, .d (ofD TC3 ch')), (1, .d (ofD .str s')), (2, .d (ofD .str a')), (3, .d (ofD TI64 i')), (9, .d (.one (.own 500000))), (10, .d (ofD TI64 j')), (11, .d (.one (.own 500001))), (12, .d (ofD TI64 k'))], [(500000, some (.lis 3 TI64 o')), (500001, some (.lis 3 TI64 l'))]⟩) := by
 have hx := fun R => x_spec_l4Ends_1 ch s a i j k o l R K
 simp only [pre_e2] at hI
 rw [andd, andd, dec_iff, dec_iff, dec_iff] at hI
 obtain ⟨h0, h1, h2⟩ := hI
 by_cases hk : k < (List.length l : Int)
 ·have w : W64 (k + 1) = k + 1 := wrap_small (by omega) (by omega)
  have k3 : fits (List.length o + [List.getD l k.toNat 0].length) Tryd.t3.bytes = true := by
   rw [intBytes2]
   exact decide_eq_true (by rw [List.length_singleton]; omega)
  have hn : k.toNat < List.length l := by omega
  have hd : List.drop k.toNat l = List.getD l k.toNat 0 :: List.drop (k + 1).toNat l := by
   rw [List.drop_eq_getElem_cons hn, show (k + 1).toNat = k.toNat + 1 by omega, List.getD_eq_getElem?_getD, List.getElem?_eq_getElem hn]; rfl
  rw [decide_eq_true hk, inb_ok h0 hk, k3, w] at hx
  right
  refine ⟨ch, s, a, i, j, k + 1, o ++ [List.getD l k.toNat 0], l, ?_, ?_, ?_, fun R => hx R⟩
  ·simp only [pre_e2]
   rw [andd, andd, dec_iff, dec_iff, dec_iff, List.length_append, List.length_singleton]
   exact ⟨by omega, by omega, h2⟩
  ·simp only [mu_e2]; omega
  ·simp only [res_e2, hd, List.append_assoc]; rfl
 ·left
  intro R
  refine (hx R).trans ?_
  rw [decide_eq_false hk]
  have e : List.drop k.toNat l = [] := List.drop_eq_nil_of_le (by omega)
  simp only [res_e2, e, List.append_nil]; rfl
noncomputable def g_e2 : St → Cont → Option Fin := gP sh_e2 (fun v => match v with | ((ch, s, a, i, j, k, ()), (o, l, ())) => pre_e2 ch s a i j k o l) (fun v K => match v with | ((ch, s, a, i, j, k, ()), (o, l, ())) => res_e2 ch s a i j k o l K)
noncomputable def L_e2 : List (Nat × (St → Cont → Option Fin)) := (10, g_e2) :: []
noncomputable def cx_e2 : Cx := (cb_ends).withLoops (look L_e2)
theorem l_e2 {L : List (Nat × (St → Cont → Option Fin))} (n : Nat) (h1 : L.drop n = []) (h2 : idsFree (L.take n) (loopOf Tryd.f132 1) = true) : ∀ st K r, g_e2 st K = some r → ∃ N, iter (evC ((cb_ends).withLoops (look L)) (loopOf Tryd.f132 1)) (headAt ((cb_ends).withLoops (look L)) 10) N st K = some r :=
 with_drop h1 h2 (gP_ok (fun v => match v with | ((ch, s, a, i, j, k, ()), (o, l, ())) => mu_e2 ch s a i j k o l) fun v K hI => by
  obtain ⟨⟨(ch : List (List (List Bool))), (s : Str), (a : Str), (i : Int), (j : Int), (k : Int), ⟨⟩⟩, ⟨(o : List (Int)), (l : List (Int)), ⟨⟩⟩⟩ := v
  rcases r_e2 ch s a i j k o l K hI with h1 | ⟨ch', s', a', i', j', k', o', l', h1, h2, h3, h4⟩
  ·exact .inl h1
  ·exact .inr ⟨((ch', s', a', i', j', k', ()), (o', l', ())), h1, h2, h3, h4⟩)
theorem x_spec_l4Ends (ch : C3) (s a : Str) (i j : Int) (o : List Int) (R : St → Option Fin) (K : Cont) : evC (cb_ends.withLoops (look L_e2)) (loopOf Tryd.f132 0) ⟨[(0, .d (ofD TC3 ch)), (1, vS s), (2, vS a), (3, vI i), (9, .d (.one (.own 500000))), (10, vI j)], [(500000, some (.lis 3 TI64 o))]⟩ (onward (headAt (cb_ends.withLoops (look L_e2)) 5) R K) = (
branch (decide (j ≤ (s.length : Int))) (
 need (inb 0 a.length) <|
 need (okC5 (List.length s + 1) ch && (signI (byteAt a 0) && (okIJ s i j && s.length.ble 1000))) <|
 branch (!stepC s ch (byteAt a 0) i j) ( R (.mk [(0, (.d (.one (.r (.li (Ty.bool.list.list) (ch)))))), (1, (vS s)), (2, (vS a)), (3, (vI i)), (9, (.d (.one (.own 500000)))), (10, (vI (W64 (j + 1))))] [(500000, (.some (.lis 3 (TI64) (o))))])) (
 need (inr 1 ((a.length : Int)) a.length) <|
 need ((List.take (((a.length : Int)).toNat - Int.toNat 1) (List.drop (Int.toNat 1) a)).length.blt lvN && (lvN.ble 5 && (okC5 (List.length s + 1) ch && ((List.take (((a.length : Int)).toNat - Int.toNat 1) (List.drop (Int.toNat 1) a)).all sign && (okIJ s j j && s.length.ble 1000))))) <|
 need (pre_e2 ch s a i j 0 o (endsL s ch (List.take (((a.length : Int)).toNat - Int.toNat 1) (List.drop (Int.toNat 1) a)) j)) <| R (.mk [(0, (.d (.one (.r (.li (Ty.bool.list.list) (ch)))))), (1, (vS s)), (2, (vS a)), (3, (vI i)), (9, (.d (.one (.own 500000)))), (10, (vI (W64 (j + 1))))] [(500000, (.some (.lis 3 (TI64) (o.append (id (endsL s ch (List.take (((a.length : Int)).toNat - Int.toNat 1) (List.drop (Int.toNat 1) a)) j))))))]))) ( K (.exit 0) (.mk [(9, (.d (.one (.own 500000))))] [(500000, (.some (.lis 3 (TI64) (o))))]))) := by kernel_rfl
noncomputable def cx0_e1 : Cx := (cb_ends).withLoops (look L_e2)
def sh_e1 : Sh := ([(0, .d TC3), (1, .d .str), (2, .d .str), (3, .d TI64), (9, .own 500000), (10, .d TI64)], [(500000, .lis 3 TI64)])
def pre_e1 (ch : List (List (List Bool))) (s : Str) (a : Str) (i : Int) (j : Int) (o : List (Int)) : Bool := decide (0 ≤ i) && (decide (i ≤ j) && (okC5 (List.length s + 1) ch && (List.all a sign && (Nat.ble (List.length s) 1000 && (Nat.blt 0 (List.length a) && (Nat.ble (List.length a) lvN && (Nat.ble lvN 4 && decide ((List.length o : Int) ≤ (j - i) * 1003003001))))))))
noncomputable def res_e1 (ch : List (List (List Bool))) (s : Str) (a : Str) (i : Int) (j : Int) (o : List (Int)) (K : Cont) : Option Fin := K (.exit 0) ⟨[(9, .d (.one (.own 500000)))], [(500000, some (.lis 3 TI64 (o ++ catI (fun k' => bif stepC s ch (byteAt a 0) i k' then endsL s ch (List.drop 1 a) k' else []) ((List.length s : Int) + 1 - j).toNat j)))]⟩
def mu_e1 (_ch : List (List (List Bool))) (s : Str) (_a : Str) (_i : Int) (j : Int) (_o : List (Int)) : Nat := (List.length s + 1) - j.toNat
theorem r_e1 (ch : List (List (List Bool))) (s : Str) (a : Str) (i : Int) (j : Int) (o : List (Int)) (K : Cont) (hI : pre_e1 ch s a i j o = true) : (∀ R : St → Option Fin, evC cx0_e1 (loopOf Tryd.f132 0) ⟨[(0, .d (ofD TC3 ch)), (1, .d (ofD .str s)), (2, .d (ofD .str a)), (3, .d (ofD TI64 i)), (9, .d (.one (.own 500000))), (10, .d (ofD TI64 j))], [(500000, some (.lis 3 TI64 o))]⟩ (onward (headAt cx0_e1 5) R K) = res_e1 ch s a i j o K) ∨
  (∃ (ch' : List (List (List Bool))) (s' : Str) (a' : Str) (i' : Int) (j' : Int) (o' : List (Int)), pre_e1 ch' s' a' i' j' o' = true ∧ mu_e1 ch' s' a' i' j' o' < mu_e1 ch s a i j o ∧ res_e1 ch' s' a' i' j' o' K = res_e1 ch s a i j o K ∧ ∀ R : St → Option Fin, evC cx0_e1 (loopOf Tryd.f132 0) ⟨[(0, .d (ofD TC3 ch)), (1, .d (ofD .str s)), (2, .d (ofD .str a)), (3, .d (ofD TI64 i)), (9, .d (.one (.own 500000))), (10, .d (ofD TI64 j))], [(500000, some (.lis 3 TI64 o))]⟩ (onward (headAt cx0_e1 5) R K) = R ⟨[(0, .d (ofD TC3 ch')), (1, .d (ofD .str s')), (2, .d (ofD .str a')), (3, .d (ofD TI64 i')), (9, .d (.one (.own 500000))), (10, .d (ofD TI64 j'))], [(500000, some (.lis 3 TI64 o'))]⟩) := by
 have hx := fun R => x_spec_l4Ends ch s a i j o R K
 simp only [pre_e1] at hI
 rw [andd, andd, andd, andd, andd, andd, andd, andd, dec_iff, dec_iff, ble_iff, blt_iff, ble_iff, ble_iff, dec_iff] at hI
 obtain ⟨h0, h1, h2, h3, h4, h5, h6, h7, h8⟩ := hI
 by_cases hj : j ≤ (List.length s : Int)
 ·have w : W64 (j + 1) = j + 1 := wrap_small (by omega) (by omega)
  obtain ⟨n, hn⟩ : ∃ n, ((List.length s : Int) + 1 - j).toNat = n + 1 := ⟨((List.length s : Int) + 1 - j).toNat - 1, by omega⟩
  have hn2 : ((List.length s : Int) + 1 - (j + 1)).toNat = n := by omega
  have hg : catI (fun k' => bif stepC s ch (byteAt a 0) i k' then endsL s ch (List.drop 1 a) k' else []) (n + 1) j = (bif stepC s ch (byteAt a 0) i j then endsL s ch (List.drop 1 a) j else []) ++ catI (fun k' => bif stepC s ch (byteAt a 0) i k' then endsL s ch (List.drop 1 a) k' else []) n (j + 1) := rfl
  have t1 : List.take (((List.length a : Int)).toNat - Int.toNat 1) (List.drop (Int.toNat 1) a) = List.drop 1 a := List.take_of_length_le (by rw [List.length_drop]; omega)
  have hd : (List.drop 1 a).length = a.length - 1 := List.length_drop
  have hb := ends_big (ch := ch) (i := j) (a := List.drop 1 a) h4 (by omega) (by omega)
  have k1 : signI (byteAt a 0) = true := sign_I (List.all_eq_true.1 h3 _ (getD_mem (by show 0 < _; omega)))
  have k2 : okIJ s i j = true := okIJ_iff.2 ⟨by omega, by omega, by omega⟩
  have k3 : okIJ s j j = true := okIJ_iff.2 ⟨by omega, by omega, by omega⟩
  have k4 : (List.length (List.drop 1 a)).blt lvN = true := blt_iff.2 (by omega)
  have k5 : List.all (List.drop 1 a) sign = true := List.all_eq_true.2 fun c hc => List.all_eq_true.1 h3 c (List.mem_of_mem_drop hc)
  have k6 : lvN.ble 5 = true := ble_iff.2 (by omega)
  have k7 : pre_e2 ch s a i j 0 o (endsL s ch (List.drop 1 a) j) = true := by
   simp only [pre_e2]
   rw [andd, andd, dec_iff, dec_iff, dec_iff]
   exact ⟨by omega, by omega, by omega⟩
  rw [decide_eq_true hj, t1, k1, k2, k3, k4, k5, k6, k7, h2, ble_iff.2 h4, w, inb_ok (Int.le_refl 0) (by omega : (0 : Int) < (List.length a : Int)), inr_iff.2 (by omega : (0 : Int) ≤ 1 ∧ 1 ≤ (List.length a : Int) ∧ (List.length a : Int) ≤ (List.length a : Int))] at hx
  change ∀ R : St → Option Fin, _ = branch (!stepC s ch (byteAt a 0) i j) _ _ at hx
  right
  cases hc : stepC s ch (byteAt a 0) i j
  ·rw [hc] at hx hg
   refine ⟨ch, s, a, i, j + 1, o, ?_, ?_, ?_, fun R => hx R⟩
   ·simp only [pre_e1]
    rw [andd, andd, andd, andd, andd, andd, andd, andd, dec_iff, dec_iff, ble_iff, blt_iff, ble_iff, ble_iff, dec_iff]
    exact ⟨by omega, by omega, h2, h3, h4, h5, h6, h7, by omega⟩
   ·simp only [mu_e1]; omega
   ·simp only [res_e1, hn, hn2, hg]; rfl
  ·rw [hc] at hx hg
   refine ⟨ch, s, a, i, j + 1, o ++ endsL s ch (List.drop 1 a) j, ?_, ?_, ?_, fun R => hx R⟩
   ·simp only [pre_e1]
    rw [andd, andd, andd, andd, andd, andd, andd, andd, dec_iff, dec_iff, ble_iff, blt_iff, ble_iff, ble_iff, dec_iff, List.length_append]
    exact ⟨by omega, by omega, h2, h3, h4, h5, h6, h7, by omega⟩
   ·simp only [mu_e1]; omega
   ·simp only [res_e1, hn, hn2, hg, cond_true, List.append_assoc]
 ·left
  intro R
  refine (hx R).trans ?_
  rw [decide_eq_false hj]
  have e : ((List.length s : Int) + 1 - j).toNat = 0 := by omega
  have e2 : (o ++ catI (fun k' => bif stepC s ch (byteAt a 0) i k' then endsL s ch (List.drop 1 a) k' else []) ((List.length s : Int) + 1 - j).toNat j : List Int) = o := by
   rw [e]; exact List.append_nil o
  simp only [res_e1, e2]; rfl
noncomputable def g_e1 : St → Cont → Option Fin := gP sh_e1 (fun v => match v with | ((ch, s, a, i, j, ()), (o, ())) => pre_e1 ch s a i j o) (fun v K => match v with | ((ch, s, a, i, j, ()), (o, ())) => res_e1 ch s a i j o K)
noncomputable def L_e1 : List (Nat × (St → Cont → Option Fin)) := (5, g_e1) :: L_e2
noncomputable def cx_e1 : Cx := (cb_ends).withLoops (look L_e1)
theorem l_e1 {L : List (Nat × (St → Cont → Option Fin))} (n : Nat) (h1 : L.drop n = L_e2) (h2 : idsFree (L.take n) (loopOf Tryd.f132 0) = true) : ∀ st K r, g_e1 st K = some r → ∃ N, iter (evC ((cb_ends).withLoops (look L)) (loopOf Tryd.f132 0)) (headAt ((cb_ends).withLoops (look L)) 5) N st K = some r :=
 with_drop h1 h2 (gP_ok (fun v => match v with | ((ch, s, a, i, j, ()), (o, ())) => mu_e1 ch s a i j o) fun v K hI => by
  obtain ⟨⟨(ch : List (List (List Bool))), (s : Str), (a : Str), (i : Int), (j : Int), ⟨⟩⟩, ⟨(o : List (Int)), ⟨⟩⟩⟩ := v
  rcases r_e1 ch s a i j o K hI with h1 | ⟨ch', s', a', i', j', o', h1, h2, h3, h4⟩
  ·exact .inl h1
  ·exact .inr ⟨((ch', s', a', i', j', ()), (o', ())), h1, h2, h3, h4⟩)
theorem y_spec_l4Ends (ch : List (List (List Bool))) (s : Str) (a : Str) (i : Int) : evFn cx_e1 Tryd.f132 false [ofD TC3 ch, ofD .str s, ofD .str a, ofD TI64 i] [] = (
branch (decide (a = [])) ( some ((.d (.one (.own 1000))), [(1000, (.some (.lis 3 (ty3) ([i]))))])) (
 need (pre_e1 ch s a i i []) <| some ((.d (.one (.own 1000))), [(1000, (.some (.lis 3 (TI64) (id (catI (fun k' => bif stepC s ch (byteAt a 0) i k' then endsL s ch (List.drop 1 a) k' else []) ((s.length : Int) + 1 - i).toNat i)))))]))) := by kernel_rfl
theorem ends_up : ConOk Tryd.prog 132 (conEnds (lvN + 1)) := conN_ok Tryd.call132 fun (ch : C3) _ (s : Str) _ (a : Str) _ (i : Int) _ hqq => by
 have hpre := pre_of hqq
 rw [andd, andd, andd, andd, andd, blt_iff, ble_iff, ble_iff] at hpre
 obtain ⟨h1, h2, h3, h4, h5, h6⟩ := hpre
 obtain ⟨i0, _, i2⟩ := okIJ_iff.1 h5
 refine fn_sound (cx := cx_e1) Tryd.func132 rfl ttOk Γ65ok mixed (fun c hc => LoopsOk.all (l := [(5, loopOf Tryd.f132 0), (10, loopOf Tryd.f132 1)]) (by cases hc; kernel_rfl) ⟨atLoop rfl (l_e1 1 rfl (by kernel_rfl)), atLoop rfl (l_e2 2 rfl (by kernel_rfl)), trivial⟩) (ro := false) ?_
 refine (y_spec_l4Ends ch s a i).trans ?_
 cases a with
 | nil => rfl
 | cons c r =>
  have hp : pre_e1 ch s (c :: r) i i [] = true := by
   simp only [pre_e1]
   rw [andd, andd, andd, andd, andd, andd, andd, andd, dec_iff, dec_iff, ble_iff, blt_iff, ble_iff, ble_iff, dec_iff]
   exact ⟨i0, by omega, h3, h4, h6, by simp, by omega, by omega, by simp⟩
  rw [hp]; rfl
end
theorem ends_all : ∀ n, ConOk Tryd.prog 132 (conEnds n)
 | 0 => conN_ok Tryd.call132 fun ch _ s _ (a : Str) _ i _ hqq => by
  have := blt_iff.1 (andd.1 (pre_of hqq)).1
  omega
 | n + 1 => @ends_up ⟨⟨n, ends_all n⟩⟩
noncomputable def c_spec_l4Ends : Con := conEnds 5
theorem k_spec_l4Ends : ConOk Tryd.prog 132 c_spec_l4Ends := ends_all 5
noncomputable def Γ66 : List (Nat × Con) := (132, c_spec_l4Ends) :: Γ64
theorem Γ66ok : EnvOk Tryd.prog (look Γ66) := .cons k_spec_l4Ends Γ64ok
def setC (ch : C3) (k i j : Int) : C3 := List.set ch k.toNat (List.set (List.getD ch k.toNat []) i.toNat (List.set (List.getD (List.getD ch k.toNat []) i.toNat []) j.toNat true))
def atN (ch : C3) (a b c : Nat) : Bool := List.getD (List.getD (List.getD ch a []) b []) c false
theorem getD_set {α : Type} {l : List α} {i j : Nat} {x d : α} (h : i < l.length) : (l.set i x).getD j d = if i = j then x else l.getD j d := by
 rw [List.getD_eq_getElem?_getD, List.getElem?_set, List.getD_eq_getElem?_getD]
 by_cases e : i = j
 ·rw [if_pos e, if_pos e, if_pos h]; rfl
 ·rw [if_neg e, if_neg e]
theorem okC5_set {n : Nat} {ch : C3} (h : okC5 n ch = true) {k i j : Int} (k0 : 0 ≤ k) (k1 : k < 5) (i0 : 0 ≤ i) (i1 : i < (n : Int)) : okC5 n (setC ch k i j) = true := by
 obtain ⟨l1, l2, l3⟩ := okC5_at h k0 k1 i0 i1
 obtain ⟨h1, h2⟩ := okC5_iff.1 h
 refine okC5_iff.2 ⟨by unfold setC; rw [List.length_set]; exact h1, fun r hr => ?_⟩
 unfold setC at hr
 rcases List.mem_or_eq_of_mem_set hr with hr | rfl
 ·exact h2 r hr
 ·refine ⟨by rw [List.length_set]; exact l2, fun q hq => ?_⟩
  rcases List.mem_or_eq_of_mem_set hq with hq | rfl
  ·exact (h2 _ (getD_mem (by omega))).2 q hq
  ·rw [List.length_set]; exact l3
theorem at_set {n : Nat} {ch : C3} (h : okC5 n ch = true) {k i j : Int} (k0 : 0 ≤ k) (k1 : k < 5) (i0 : 0 ≤ i) (i1 : i < (n : Int)) (j1 : j < (n : Int)) (j0 : 0 ≤ j) {a b c : Nat} : atN (setC ch k i j) a b c = if a = k.toNat ∧ b = i.toNat ∧ c = j.toNat then true else atN ch a b c := by
 obtain ⟨l1, l2, l3⟩ := okC5_at h k0 k1 i0 i1
 unfold atN setC
 rw [getD_set (by omega)]
 by_cases e1 : k.toNat = a
 ·rw [if_pos e1, getD_set (by omega)]
  by_cases e2 : i.toNat = b
  ·rw [if_pos e2, getD_set (by omega)]
   by_cases e3 : j.toNat = c
   ·rw [if_pos e3, if_pos ⟨e1.symm, e2.symm, e3.symm⟩]
   ·rw [if_neg e3, if_neg (fun q => e3 q.2.2.symm), e1, e2]
  ·rw [if_neg e2, if_neg (fun q => e2 q.2.1.symm), e1]
 ·rw [if_neg e1, if_neg (fun q => e1 q.1.symm)]
theorem atC_N {ch : C3} {k i j : Int} : atC ch k i j = atN ch k.toNat i.toNat j.toNat := rfl
def setsL (k i : Int) : List Int → C3 × Bool → C3 × Bool
 | [], p => p
 | e :: l, p => setsL k i l (bif !atC p.1 k i e then (setC p.1 k i e, true) else p)
abbrev VisE : Type := Int × Rule
def keyK (r : Rule) : Int := byteAt r.1 0 - 65
def stepE (s : Str) (v : VisE) (p : C3 × Bool) : C3 × Bool := setsL (keyK v.2) v.1 (endsL s p.1 v.2.2 v.1) p
def hasN (ch : C3) (x : Nat × Nat × Nat) : Bool := atN ch x.1 x.2.1 x.2.2
def keysE (n : Nat) (v : VisE) : List (Nat × Nat × Nat) := (List.range n).map fun j => ((keyK v.2).toNat, v.1.toNat, j)
def okRp (l : List Rule) : Bool := Nat.ble (List.length l) 1000 && List.all l fun r => bigS r.1 && (Nat.blt (List.length r.2) 5 && List.all r.2 sign)
def goodE (s : Str) (v : VisE) : Prop := 0 ≤ v.1 ∧ v.1 ≤ (s.length : Int) ∧ bigS v.2.1 = true ∧ List.length v.2.2 < 5 ∧ List.all v.2.2 sign = true
theorem keyK_in {r : Rule} (h : bigS r.1 = true) : 0 ≤ keyK r ∧ keyK r < 5 ∧ ∃ c : UInt8, r.1 = [c] ∧ keyK r = (c.toNat : Int) - 65 := by
 obtain ⟨c, e, hc⟩ := bigS_one h
 unfold bigc at hc
 rw [andd, ble_iff, ble_iff] at hc
 have : keyK r = (c.toNat : Int) - 65 := by unfold keyK; rw [e]; rfl
 exact ⟨by omega, by omega, c, e, this⟩
theorem sets_step {n : Nat} {k i : Int} (k0 : 0 ≤ k) (k1 : k < 5) (i0 : 0 ≤ i) (i1 : i < (n : Int)) : ∀ {l : List Int} {p : C3 × Bool}, (∀ e ∈ l, 0 ≤ e ∧ e < (n : Int)) → okC5 n p.1 = true →
  okC5 n (setsL k i l p).1 = true ∧ (∀ x, hasN p.1 x = true → hasN (setsL k i l p).1 x = true) ∧
  ((setsL k i l p).2 = true → p.2 = true ∨ ∃ x, (∃ j : Nat, j < n ∧ x = (k.toNat, i.toNat, j)) ∧ hasN p.1 x = false ∧ hasN (setsL k i l p).1 x = true) ∧
  ((setsL k i l p).2 = false → p.2 = false ∧ setsL k i l p = p ∧ ∀ e ∈ l, atC p.1 k i e = true) ∧
  (∀ x, hasN (setsL k i l p).1 x = true → hasN p.1 x = true ∨ ∃ e ∈ l, x = (k.toNat, i.toNat, e.toNat))
 | [], p, _, h => ⟨h, fun _ h => h, fun h => .inl h, fun h => ⟨h, rfl, fun e he => by cases he⟩, fun x h => .inl h⟩
 | e :: l, p, hl, h => by
  obtain ⟨e0, e1⟩ := hl e List.mem_cons_self
  have hl' : ∀ e ∈ l, 0 ≤ e ∧ e < (n : Int) := fun q hq => hl q (List.mem_cons_of_mem _ hq)
  unfold setsL
  cases hc : atC p.1 k i e
  ·rw [show (bif !false then (setC p.1 k i e, true) else p) = (setC p.1 k i e, true) from rfl]
   obtain ⟨a1, a2, a3, a4, a5⟩ := sets_step k0 k1 i0 i1 (p := (setC p.1 k i e, true)) hl' (okC5_set h k0 k1 i0 i1)
   have hs : ∀ x : Nat × Nat × Nat, hasN (setC p.1 k i e) x = if x.1 = k.toNat ∧ x.2.1 = i.toNat ∧ x.2.2 = e.toNat then true else hasN p.1 x := fun x => at_set h k0 k1 i0 i1 e1 e0
   have hn : hasN (setC p.1 k i e) (k.toNat, i.toNat, e.toNat) = true := by rw [hs, if_pos ⟨rfl, rfl, rfl⟩]
   refine ⟨a1, fun x hx => a2 x ((hs x).trans (by split <;> first | rfl | exact hx)), fun _ => .inr ⟨(k.toNat, i.toNat, e.toNat), ⟨e.toNat, by omega, rfl⟩, hc, a2 _ hn⟩, fun hf => ?_, fun x hx => ?_⟩
   ·cases (a4 hf).1
   ·rcases a5 x hx with hx | ⟨q, hq, hx⟩
    ·rw [show (setC p.1 k i e, true).1 = setC p.1 k i e from rfl, hs] at hx
     split at hx
     ·rename_i hq
      obtain ⟨x1, x2, x3⟩ := x
      obtain ⟨q1, q2, q3⟩ := hq
      exact .inr ⟨e, List.mem_cons_self, by rw [show x1 = k.toNat from q1, show x2 = i.toNat from q2, show x3 = e.toNat from q3]⟩
     ·exact .inl hx
    ·exact .inr ⟨q, List.mem_cons_of_mem _ hq, hx⟩
  ·rw [show (bif !true then (setC p.1 k i e, true) else p) = p from rfl]
   obtain ⟨a1, a2, a3, a4, a5⟩ := sets_step k0 k1 i0 i1 (p := p) hl' h
   refine ⟨a1, a2, a3, fun hf => ?_, fun x hx => ?_⟩
   ·obtain ⟨b1, b2, b3⟩ := a4 hf
    refine ⟨b1, b2, fun q hq => ?_⟩
    rcases List.mem_cons.1 hq with rfl | hq
    ·exact hc
    ·exact b3 q hq
   ·rcases a5 x hx with hx | ⟨q, hq, hx⟩
    ·exact .inl hx
    ·exact .inr ⟨q, List.mem_cons_of_mem _ hq, hx⟩
theorem catI_mem {f : Int → List Int} {e : Int} : ∀ {n : Nat} {a : Int}, e ∈ catI f n a ↔ ∃ k, a ≤ k ∧ k < a + n ∧ e ∈ f k
 | 0, a => by
  unfold catI
  constructor
  ·intro h; cases h
  ·rintro ⟨k, h1, h2, _⟩; omega
 | n + 1, a => by
  unfold catI
  rw [List.mem_append, catI_mem (n := n) (a := a + 1)]
  constructor
  ·rintro (h | ⟨k, h1, h2, h3⟩)
   ·exact ⟨a, Int.le_refl _, by omega, h⟩
   ·exact ⟨k, by omega, by omega, h3⟩
  ·rintro ⟨k, h1, h2, h3⟩
   by_cases h : k = a
   ·exact .inl (by rw [← h]; exact h3)
   ·exact .inr ⟨k, by omega, by omega, h3⟩
def tabC (ch : C3) (a : Str) (i j : Int) : Prop := bigS a = true ∧ 0 ≤ i ∧ 0 ≤ j ∧ atC ch (byteAt a 0 - 65) i j = true
theorem splP_le {s : Str} {P : Str → Int → Int → Prop} : ∀ {r : Str} {i j : Int}, splP s P r i j → i ≤ j
 | [], _, _, h => Int.le_of_eq h
 | _ :: r, _, _, ⟨_, k1, _, _, k4⟩ => Int.le_trans k1 (splP_le (r := r) k4)
theorem stepC_iff {s : Str} {ch : C3} {c : UInt8} {i j : Int} (hc : sign c = true) (i0 : 0 ≤ i) (j0 : 0 ≤ j) : stepC s ch (c.toNat : Int) i j = true ↔ derP s (tabC ch) [c] i j := by
 unfold stepC derP
 rw [smallI_nat, show smallS [c] = small c from rfl]
 cases hs : small c
 ·rw [cond_false, if_neg (by simp)]
  have hb : bigc c = true := by
   unfold sign at hc
   rw [hs, Bool.or_false] at hc; exact hc
  exact ⟨fun h => ⟨hb, i0, j0, h⟩, fun h => h.2.2.2⟩
 ·rw [cond_true, if_pos rfl, b2, andd, dec_iff, dec_iff]
  refine and_congr Iff.rfl ?_
  unfold byteAt
  constructor
  ·intro h
   have : s.getD i.toNat 0 = c := UInt8.toNat_inj.1 (by omega)
   rw [this]
  ·intro h
   have := (List.cons.inj h).1
   rw [this]
theorem ends_iff {s : Str} {ch : C3} {e : Int} : ∀ {a : Str} {i : Int}, List.all a sign = true → 0 ≤ i → i ≤ (s.length : Int) → (e ∈ endsL s ch a i ↔ e ≤ (s.length : Int) ∧ splP s (tabC ch) a i e)
 | [], i, _, _, hi => by
  unfold endsL splP
  rw [List.mem_singleton]
  constructor
  ·rintro rfl; exact ⟨hi, rfl⟩
  ·rintro ⟨_, h⟩; exact h.symm
 | c :: r, i, ha, h0, hi => by
  rw [List.all_cons, andd] at ha
  unfold endsL splP
  rw [catI_mem]
  constructor
  ·rintro ⟨k, k1, k2, k3⟩
   cases hs : stepC s ch (c.toNat : Int) i k
   ·rw [hs] at k3; cases k3
   ·rw [hs, cond_true, ends_iff ha.2 (by omega) (by omega)] at k3
    exact ⟨k3.1, k, k1, splP_le k3.2, (stepC_iff ha.1 h0 (by omega)).1 hs, k3.2⟩
  ·rintro ⟨he, k, k1, k2, k3, k4⟩
   refine ⟨k, k1, by omega, ?_⟩
   rw [(stepC_iff ha.1 h0 (by omega)).2 k3, cond_true, ends_iff ha.2 (by omega) (by omega)]
   exact ⟨he, k4⟩
theorem stepE_ok (s : Str) : StepOk (fun ch => okC5 (s.length + 1) ch = true) (goodE s) hasN (keysE (s.length + 1)) (stepE s) := by
 have key : ∀ (v : VisE) (p : C3 × Bool), goodE s v → okC5 (s.length + 1) p.1 = true → (∀ e ∈ endsL s p.1 v.2.2 v.1, 0 ≤ e ∧ e < ((s.length + 1 : Nat) : Int)) := fun v p hv hp e he => by
  obtain ⟨v1, v2, v3, v4, v5⟩ := hv
  rw [ends_iff v5 v1 v2] at he
  have := splP_le he.2
  exact ⟨by omega, by omega⟩
 exact {
  inv := fun v p hv hp => (sets_step (keyK_in hv.2.2.1).1 (keyK_in hv.2.2.1).2.1 hv.1 (by have := hv.2.1; omega) (key v p hv hp) hp).1
  mono := fun v p x hv hp h => (sets_step (keyK_in hv.2.2.1).1 (keyK_in hv.2.2.1).2.1 hv.1 (by have := hv.2.1; omega) (key v p hv hp) hp).2.1 x h
  new := fun v p hv hp h => by
   rcases (sets_step (keyK_in hv.2.2.1).1 (keyK_in hv.2.2.1).2.1 hv.1 (by have := hv.2.1; omega) (key v p hv hp) hp).2.2.1 h with h | ⟨x, ⟨j, j1, rfl⟩, h2, h3⟩
   ·exact .inl h
   ·exact .inr ⟨_, List.mem_map.2 ⟨j, List.mem_range.2 j1, rfl⟩, h2, h3⟩
  quiet := fun v p hv hp h => by
   obtain ⟨h1, h2, _⟩ := (sets_step (keyK_in hv.2.2.1).1 (keyK_in hv.2.2.1).2.1 hv.1 (by have := hv.2.1; omega) (key v p hv hp) hp).2.2.2.1 h
   exact ⟨h1, h2⟩ }
def fromsE (r : Rule) : Nat → Int → List VisE
 | 0, _ => []
 | n + 1, i => (i, r) :: fromsE r n (i + 1)
def visE (n : Nat) (l : List Rule) : List VisE := l.flatMap fun r => fromsE r n 0
theorem mem_fromsE {r : Rule} {v : VisE} : ∀ {n : Nat} {i : Int}, v ∈ fromsE r n i ↔ v.2 = r ∧ i ≤ v.1 ∧ v.1 < i + n
 | 0, i => by
  unfold fromsE
  constructor
  ·intro h; cases h
  ·rintro ⟨_, h1, h2⟩; omega
 | n + 1, i => by
  unfold fromsE
  rw [List.mem_cons, mem_fromsE (n := n) (i := i + 1)]
  constructor
  ·rintro (rfl | ⟨h1, h2, h3⟩)
   ·exact ⟨rfl, Int.le_refl _, by show i < i + _; omega⟩
   ·exact ⟨h1, by omega, by omega⟩
  ·rintro ⟨h1, h2, h3⟩
   by_cases h : v.1 = i
   ·exact .inl (by rw [← h, ← h1])
   ·exact .inr ⟨h1, by omega, by omega⟩
theorem mem_visE {v : VisE} {n : Nat} {l : List Rule} : v ∈ visE n l ↔ v.2 ∈ l ∧ 0 ≤ v.1 ∧ v.1 < n := by
 unfold visE
 rw [List.mem_flatMap]
 constructor
 ·rintro ⟨r, hr, h⟩
  obtain ⟨rfl, h2, h3⟩ := mem_fromsE.1 h
  exact ⟨hr, h2, by omega⟩
 ·rintro ⟨h1, h2, h3⟩
  exact ⟨v.2, h1, mem_fromsE.2 ⟨rfl, h2, by omega⟩⟩
theorem okRp_iff {l : List Rule} : okRp l = true ↔ l.length ≤ 1000 ∧ ∀ r ∈ l, bigS r.1 = true ∧ List.length r.2 < 5 ∧ List.all r.2 sign = true := by
 unfold okRp
 rw [andd, ble_iff, List.all_eq_true]
 constructor
 ·rintro ⟨h1, h2⟩
  refine ⟨h1, fun r hr => ?_⟩
  have := h2 r hr
  rw [andd, andd, blt_iff] at this
  exact this
 ·rintro ⟨h1, h2⟩
  refine ⟨h1, fun r hr => ?_⟩
  rw [andd, andd, blt_iff]
  exact h2 r hr
theorem good_visE {s : Str} {l : List Rule} (h : okRp l = true) : ∀ v ∈ visE (s.length + 1) l, goodE s v := fun v hv => by
 obtain ⟨h1, h2, h3⟩ := mem_visE.1 hv
 obtain ⟨h4, h5, h6⟩ := (okRp_iff.1 h).2 _ h1
 exact ⟨h2, by omega, h4, h5, h6⟩
def zeroC (n : Nat) : C3 := List.replicate 5 (List.replicate n (List.replicate n false))
theorem getD_rep {α : Type} {n i : Nat} {x d : α} : (List.replicate n x).getD i d = if i < n then x else d := by
 rw [List.getD_eq_getElem?_getD, List.getElem?_replicate]
 split <;> rfl
theorem zero_ok {n : Nat} : okC5 n (zeroC n) = true := by
 refine okC5_iff.2 ⟨List.length_replicate, fun r hr => ?_⟩
 rw [List.eq_of_mem_replicate hr]
 refine ⟨List.length_replicate, fun q hq => ?_⟩
 rw [List.eq_of_mem_replicate hq]
 exact List.length_replicate
theorem zero_at {n a b c : Nat} : atN (zeroC n) a b c = false := by
 unfold atN zeroC
 rw [getD_rep]
 split
 ·rw [getD_rep]
  split
  ·rw [getD_rep]; split <;> rfl
  ·rfl
 ·rfl
def chartC (s : Str) (l : List Rule) : C3 := runC hasN (keysE (s.length + 1)) (stepE s) (visE (s.length + 1) l) (zeroC (s.length + 1))
def sgn (k : Nat) : Str := [UInt8.ofNat (65 + k)]
theorem sgn_big {a : Str} (h : bigS a = true) : sgn (byteAt a 0 - 65).toNat = a ∧ 0 ≤ byteAt a 0 - 65 ∧ byteAt a 0 - 65 < 5 := by
 obtain ⟨c, rfl, hc⟩ := bigS_one h
 unfold bigc at hc
 rw [andd, ble_iff, ble_iff] at hc
 have hb : byteAt ([c] : Str) 0 = (c.toNat : Int) := rfl
 rw [hb]
 have e : 65 + ((c.toNat : Int) - 65).toNat = c.toNat := by omega
 refine ⟨?_, by omega, by omega⟩
 unfold sgn
 rw [e, UInt8.ofNat_toNat]
theorem chartC_iff {s : Str} {l : List Rule} (hl : okRp l = true) {a : Str} {i j : Int} (ha : bigS a = true) (i0 : 0 ≤ i) (j0 : 0 ≤ j) : okC5 (s.length + 1) (chartC s l) = true ∧ (atC (chartC s l) (byteAt a 0 - 65) i j = true ↔ DerG s l a i j) := by
 have hg := good_visE (s := s) hl
 have h0 := runC_end (stepE_ok s) hg (m := zeroC (s.length + 1)) (J := fun _ => True) (fun _ _ _ _ => trivial) zero_ok trivial
 refine ⟨h0.1, ?_⟩
 have e : (atC (chartC s l) (byteAt a 0 - 65) i j = true) ↔ tabC (chartC s l) a i j := ⟨fun h => ⟨ha, i0, j0, h⟩, fun h => h.2.2.2⟩
 rw [e]
 refine Der_iff (T := tabC (chartC s l)) (fun P hP a i j h => ?_) (fun r hr i j h0' h1 h2 h3 => ?_)
 ·have h1 := (runC_end (stepE_ok s) hg (m := zeroC (s.length + 1)) (J := fun ch => ∀ x : Nat × Nat × Nat, hasN ch x = true → P (sgn x.1) (x.2.1 : Int) (x.2.2 : Int)) (fun v hv p hp x hx => ?_) zero_ok (fun x hx => by rw [show hasN (zeroC (s.length + 1)) x = false from zero_at] at hx; cases hx)).2.1
  ·obtain ⟨g1, g2, g3, g4⟩ := h
   obtain ⟨s1, s2, s3⟩ := sgn_big g1
   have := h1 ((byteAt a 0 - 65).toNat, i.toNat, j.toNat) g4
   rw [show sgn (((byteAt a 0 - 65).toNat, i.toNat, j.toNat) : Nat × Nat × Nat).1 = a from s1, show ((((byteAt a 0 - 65).toNat, i.toNat, j.toNat) : Nat × Nat × Nat).2.1 : Int) = i by show (i.toNat : Int) = i; omega, show ((((byteAt a 0 - 65).toNat, i.toNat, j.toNat) : Nat × Nat × Nat).2.2 : Int) = j by show (j.toNat : Int) = j; omega] at this
   exact this
  ·obtain ⟨v1, v2, v3, v4, v5⟩ := hg v hv
   obtain ⟨q1, q2, c, q3, q4⟩ := keyK_in v3
   have hke : ∀ e ∈ endsL s p.1 v.2.2 v.1, 0 ≤ e ∧ e < ((s.length + 1 : Nat) : Int) := fun e he => by
    rw [ends_iff v5 v1 v2] at he
    have := splP_le he.2
    exact ⟨by omega, by omega⟩
   rcases (sets_step q1 q2 v1 (by omega) hke hp.1).2.2.2.2 x hx with hx | ⟨q, hq, rfl⟩
   ·exact hp.2 x hx
   ·obtain ⟨e0, e1⟩ := hke q hq
    rw [ends_iff v5 v1 v2] at hq
    have hs : sgn (keyK v.2).toNat = v.2.1 := (sgn_big v3).1
    show P (sgn (keyK v.2).toNat) ((v.1.toNat : Nat) : Int) ((q.toNat : Nat) : Int)
    rw [hs, show ((v.1.toNat : Nat) : Int) = v.1 by omega, show ((q.toNat : Nat) : Int) = q by omega]
    refine hP v.2 (mem_visE.1 hv).1 v.1 q v1 (splP_le hq.2) (by omega) (splP_mono (fun a i j _ _ _ h => ?_) v1 (by omega) hq.2)
    obtain ⟨g1, g2, g3, g4⟩ := h
    obtain ⟨s1, s2, s3⟩ := sgn_big g1
    have := hp.2 ((byteAt a 0 - 65).toNat, i.toNat, j.toNat) g4
    rw [show sgn (((byteAt a 0 - 65).toNat, i.toNat, j.toNat) : Nat × Nat × Nat).1 = a from s1, show ((((byteAt a 0 - 65).toNat, i.toNat, j.toNat) : Nat × Nat × Nat).2.1 : Int) = i by show (i.toNat : Int) = i; omega, show ((((byteAt a 0 - 65).toNat, i.toNat, j.toNat) : Nat × Nat × Nat).2.2 : Int) = j by show (j.toNat : Int) = j; omega] at this
    exact this
 ·obtain ⟨r1, r2, r3⟩ := (okRp_iff.1 hl).2 r hr
  have hv : (i, r) ∈ visE (s.length + 1) l := mem_visE.2 ⟨hr, h0', by show i < _; omega⟩
  have h4 := h0.2.2 (i, r) hv
  have hgv := hg _ hv
  obtain ⟨q1, q2, c, q3, q4⟩ := keyK_in r1
  have hke : ∀ e ∈ endsL s (chartC s l) r.2 i, 0 ≤ e ∧ e < ((s.length + 1 : Nat) : Int) := fun e he => by
   rw [ends_iff r3 h0' (by omega)] at he
   have := splP_le he.2
   exact ⟨by omega, by omega⟩
  have h5 := (sets_step (p := (chartC s l, false)) q1 q2 h0' (by omega) hke h0.1).2.2.2.1 (by
   have : (stepE s (i, r) (chartC s l, false)).2 = false := congrArg Prod.snd h4
   exact this)
  refine ⟨r1, h0', by omega, h5.2.2 j ((ends_iff r3 h0' (by omega)).2 ⟨h2, h3⟩)⟩
abbrev ts3 : List Nat := [92, 49, 4]
abbrev ts2 : List Nat := [49, 4]
noncomputable def cb_l4 : Cx := cxOf Γ66 Tryd.f61.ntmps [(24, [1, 2, 5, 6, 10, 11, 12, 13, 14, 15]), (20, [1, 2, 5, 6, 10, 11, 12, 13]), (16, [1, 2, 5, 6, 10, 11]), (13, [1, 2, 5, 6, 10]), (8, [1, 2, 5, 6, 7, 8, 9]), (4, [1, 2, 5, 6, 7])] [(4, [6]), (5, [1, 2, 5, 6, 10]), (6, [1, 2, 5, 6, 10]), (7, [1, 2, 5, 6, 10, 11]), (8, [1, 2, 5, 6, 10, 11]), (9, [1, 2, 5, 6, 10, 11, 12, 13]), (10, [1, 2, 5, 6, 10, 11, 12, 13]), (11, [1, 2, 5, 6, 10, 11, 12, 13, 14, 15]), (0, [1, 2, 5, 6]), (1, [1, 2, 5, 6, 7]), (2, [1, 2, 5, 6, 7, 8]), (3, [1, 2, 5, 6, 7, 8, 9]), (1000000, [4])] [] []
abbrev l4H (g : Gram) (ch : C3) : Heap := [(500000, some (boxD 25 TG g)), (500001, some (.deep ts3 (.list (.list .bool)) ch))]
theorem x_spec_l4Chart_5 (g : Gram) (ch : C3) (s : Str) (n ri k i j : Int) (b : Bool) (l : List Int) (R : St → Option Fin) (K : Cont) : evC (cb_l4.withLoops (look [])) (loopOf Tryd.f61 5) ⟨[(1, vS s), (2, .d (.one (.ptr 500000 0))), (5, vI n), (6, .d (.one (.dsl 500001 []))), (10, vB b), (11, vI ri), (12, vI k), (13, vI i), (14, .d (.one (.own 500002))), (15, vI j)], l4H g ch ++ [(500002, some (.lis 3 TI64 l))]⟩ (onward (headAt (cb_l4.withLoops (look [])) 24) R K) = (
branch (decide (j < (l.length : Int))) (
 need (inb k ch.length) <|
 need (inb i (List.getD ch k.toNat []).length) <|
 need (inb j l.length) <|
 need (inb (l.getD j.toNat 0) ((List.getD ch k.toNat []).getD i.toNat []).length) <|
 branch (!((List.getD ch k.toNat []).getD i.toNat []).getD (Int.toNat (l.getD j.toNat 0)) (dflt Ty.bool)) (
 need (inb k ch.length) <|
 need (inb i (List.getD ch k.toNat []).length) <|
 need (inb j l.length) <|
 need (inb (l.getD j.toNat 0) ((List.getD ch k.toNat []).getD i.toNat []).length) <| R (.mk [(1, (vS s)), (2, (.d (.one (.ptr 500000 0)))), (5, (vI n)), (6, (.d (.one (.dsl 500001 ([]))))), (10, (vB true)), (11, (vI ri)), (12, (vI k)), (13, (vI i)), (14, (.d (.one (.own 500002)))), (15, (vI (W64 (j + 1))))] [(500000, (.some (.box 25 [(.r (.v (Value.string (mk g.fst)))), (.r (.li TRu (g.snd)))]))), (500001, (.some (.deep (ts3) (Ty.bool.list.list) (List.set ch k.toNat ((List.getD ch k.toNat []).set i.toNat (((List.getD ch k.toNat []).getD i.toNat []).set (Int.toNat (l.getD j.toNat 0)) true)))))), (500002, (.some (.lis 3 (TI64) (l))))])) ( R (.mk [(1, (vS s)), (2, (.d (.one (.ptr 500000 0)))), (5, (vI n)), (6, (.d (.one (.dsl 500001 ([]))))), (10, (vB b)), (11, (vI ri)), (12, (vI k)), (13, (vI i)), (14, (.d (.one (.own 500002)))), (15, (vI (W64 (j + 1))))] [(500000, (.some (.box 25 [(.r (.v (Value.string (mk g.fst)))), (.r (.li TRu (g.snd)))]))), (500001, (.some (.deep (ts3) (Ty.bool.list.list) (ch)))), (500002, (.some (.lis 3 (TI64) (l))))]))) ( K (.exit 10) (.mk [(1, (vS s)), (2, (.d (.one (.ptr 500000 0)))), (5, (vI n)), (6, (.d (.one (.dsl 500001 ([]))))), (10, (vB b)), (11, (vI ri)), (12, (vI k)), (13, (vI i))] [(500000, (.some (.box 25 [(.r (.v (Value.string (mk g.fst)))), (.r (.li TRu (g.snd)))]))), (500001, (.some (.deep (ts3) (Ty.bool.list.list) (ch))))]))) := by kernel_rfl
noncomputable def cx0_h5 : Cx := (cb_l4).withLoops (look [])
def sh_h5 : Sh := ([(1, .d .str), (2, .ptr 500000 0), (5, .d TI64), (6, .deep 500001), (10, .d .bool), (11, .d TI64), (12, .d TI64), (13, .d TI64), (14, .own 500002), (15, .d TI64)], [(500000, .box 25 TG), (500001, .deep ts3 TC2), (500002, .lis 3 TI64)])
def pre_h5 (s : Str) (_n : Int) (_b : Bool) (_ri : Int) (k : Int) (i : Int) (j : Int) (_g : Gram) (ch : List (List (List Bool))) (l : List (Int)) : Bool := decide (0 ≤ j) && (okC5 (List.length s + 1) ch && (decide (0 ≤ k) && (decide (k < 5) && (decide (0 ≤ i) && (decide (i ≤ (List.length s : Int)) && (List.all l (fun e => decide (0 ≤ e) && decide (e ≤ (List.length s : Int))) && decide (List.length l ≤ 9000000000000000000)))))))
noncomputable def res_h5 (s : Str) (n : Int) (b : Bool) (ri : Int) (k : Int) (i : Int) (j : Int) (g : Gram) (ch : List (List (List Bool))) (l : List (Int)) (K : Cont) : Option Fin := K (.exit 10) ⟨[(1, vS s), (2, .d (.one (.ptr 500000 0))), (5, vI n), (6, .d (.one (.dsl 500001 []))), (10, vB (setsL k i (List.drop j.toNat l) (ch, b)).2), (11, vI ri), (12, vI k), (13, vI i)], l4H g (setsL k i (List.drop j.toNat l) (ch, b)).1⟩
def mu_h5 (_s : Str) (_n : Int) (_b : Bool) (_ri : Int) (_k : Int) (_i : Int) (j : Int) (_g : Gram) (_ch : List (List (List Bool))) (l : List (Int)) : Nat := List.length l - j.toNat
theorem r_h5 (s : Str) (n : Int) (b : Bool) (ri : Int) (k : Int) (i : Int) (j : Int) (g : Gram) (ch : List (List (List Bool))) (l : List (Int)) (K : Cont) (hI : pre_h5 s n b ri k i j g ch l = true) : (∀ R : St → Option Fin, evC cx0_h5 (loopOf Tryd.f61 5) ⟨[(1, .d (ofD .str s)), (2, .d (.one (.ptr 500000 0))), (5, .d (ofD TI64 n)), (6, .d (.one (.dsl 500001 []))), (10, .d (ofD .bool b)), (11, .d (ofD TI64 ri)), (12, .d (ofD TI64 k)), (13, .d (ofD TI64 i)), (14, .d (.one (.own 500002))), (15, .d (ofD TI64 j))], [(500000, some (boxD 25 TG g)), (500001, some (.deep ts3 TC2 ch)), (500002, some (.lis 3 TI64 l))]⟩ (onward (headAt cx0_h5 24) R K) = res_h5 s n b ri k i j g ch l K) ∨
  (∃ (s' : Str) (n' : Int) (b' : Bool) (ri' : Int) (k' : Int) (i' : Int) (j' : Int) (g' : Gram) (ch' : List (List (List Bool))) (l' : List (Int)), pre_h5 s' n' b' ri' k' i' j' g' ch' l' = true ∧ mu_h5 s' n' b' ri' k' i' j' g' ch' l' < mu_h5 s n b ri k i j g ch l ∧ res_h5 s' n' b' ri' k' i' j' g' ch' l' K = res_h5 s n b ri k i j g ch l K ∧ ∀ R : St → Option Fin, evC cx0_h5 (loopOf Tryd.f61 5) ⟨[(1, .d (ofD .str s)), (2, .d (.one (.ptr 500000 0))), (5, .d (ofD TI64 n)), (6, .d (.one (.dsl 500001 []))), (10, .d (ofD .bool b)), (11, .d (ofD TI64 ri)), (12, .d (ofD TI64 k)), (13, .d (ofD TI64 i)), (14, .d (.one (.own 500002))), (15, .d (ofD TI64 j))], [(500000, some (boxD 25 TG g)), (500001, some (.deep ts3 TC2 ch)), (500002, some (.lis 3 TI64 l))]⟩ (onward (headAt cx0_h5 24) R K) = R ⟨[(1, .d (ofD .str s')), (2, .d (.one (.ptr 500000 0))), (5, .d (ofD TI64 n')), (6, .d (.one (.dsl 500001 []))), (10, .d (ofD .bool b')), (11, .d (ofD TI64 ri')), (12, .d (ofD TI64 k')), (13, .d (ofD TI64 i')), (14, .d (.one (.own 500002))), (15, .d (ofD TI64 j'))], [(500000, some (boxD 25 TG g')), (500001, some (.deep ts3 TC2 ch')), (500002, some (.lis 3 TI64 l'))]⟩) := by
 have hx := fun R => x_spec_l4Chart_5 g ch s n ri k i j b l R K
 simp only [pre_h5] at hI
 rw [andd, andd, andd, andd, andd, andd, andd, dec_iff, dec_iff, dec_iff, dec_iff, dec_iff, dec_iff] at hI
 obtain ⟨h0, h1, k0, k1, i0, i1, h2, h3⟩ := hI
 by_cases hj : j < (List.length l : Int)
 ·have w : W64 (j + 1) = j + 1 := wrap_small (by omega) (by omega)
  have hn : j.toNat < List.length l := by omega
  have he := List.all_eq_true.1 h2 _ (getD_mem (d := 0) hn)
  rw [andd, dec_iff, dec_iff] at he
  obtain ⟨l1, l2, l3⟩ := okC5_at h1 k0 k1 i0 (by omega)
  have hd : List.drop j.toNat l = List.getD l j.toNat 0 :: List.drop (j + 1).toNat l := by
   rw [List.drop_eq_getElem_cons hn, show (j + 1).toNat = j.toNat + 1 by omega, List.getD_eq_getElem?_getD, List.getElem?_eq_getElem hn]; rfl
  have hg : setsL k i (List.drop j.toNat l) (ch, b) = setsL k i (List.drop (j + 1).toNat l) (bif !atC ch k i (List.getD l j.toNat 0) then (setC ch k i (List.getD l j.toNat 0), true) else (ch, b)) := by rw [hd]; rfl
  rw [decide_eq_true hj, l1, l2, l3, inb_ok h0 hj, inb_ok k0 (by omega), inb_ok i0 (by omega), inb_ok he.1 (by omega), w] at hx
  change ∀ R : St → Option Fin, _ = branch (!atC ch k i (List.getD l j.toNat 0)) _ _ at hx
  right
  cases hc : atC ch k i (List.getD l j.toNat 0)
  ·rw [hc] at hx hg
   refine ⟨s, n, true, ri, k, i, j + 1, g, setC ch k i (List.getD l j.toNat 0), l, ?_, ?_, ?_, fun R => hx R⟩
   ·simp only [pre_h5]
    rw [andd, andd, andd, andd, andd, andd, andd, dec_iff, dec_iff, dec_iff, dec_iff, dec_iff, dec_iff]
    exact ⟨by omega, okC5_set h1 k0 k1 i0 (by omega), k0, k1, i0, i1, h2, h3⟩
   ·simp only [mu_h5]; omega
   ·simp only [res_h5, hg]; rfl
  ·rw [hc] at hx hg
   refine ⟨s, n, b, ri, k, i, j + 1, g, ch, l, ?_, ?_, ?_, fun R => hx R⟩
   ·simp only [pre_h5]
    rw [andd, andd, andd, andd, andd, andd, andd, dec_iff, dec_iff, dec_iff, dec_iff, dec_iff, dec_iff]
    exact ⟨by omega, h1, k0, k1, i0, i1, h2, h3⟩
   ·simp only [mu_h5]; omega
   ·simp only [res_h5, hg]; rfl
 ·left
  intro R
  refine (hx R).trans ?_
  rw [decide_eq_false hj]
  have e : List.drop j.toNat l = [] := List.drop_eq_nil_of_le (by omega)
  simp only [res_h5, e]; rfl
noncomputable def g_h5 : St → Cont → Option Fin := gP sh_h5 (fun v => match v with | ((s, n, b, ri, k, i, j, ()), (g, ch, l, ())) => pre_h5 s n b ri k i j g ch l) (fun v K => match v with | ((s, n, b, ri, k, i, j, ()), (g, ch, l, ())) => res_h5 s n b ri k i j g ch l K)
noncomputable def L_h5 : List (Nat × (St → Cont → Option Fin)) := (24, g_h5) :: []
noncomputable def cx_h5 : Cx := (cb_l4).withLoops (look L_h5)
theorem l_h5 {L : List (Nat × (St → Cont → Option Fin))} (n : Nat) (h1 : L.drop n = []) (h2 : idsFree (L.take n) (loopOf Tryd.f61 5) = true) : ∀ st K r, g_h5 st K = some r → ∃ N, iter (evC ((cb_l4).withLoops (look L)) (loopOf Tryd.f61 5)) (headAt ((cb_l4).withLoops (look L)) 24) N st K = some r :=
 with_drop h1 h2 (gP_ok (fun v => match v with | ((s, n, b, ri, k, i, j, ()), (g, ch, l, ())) => mu_h5 s n b ri k i j g ch l) fun v K hI => by
  obtain ⟨⟨(s : Str), (n : Int), (b : Bool), (ri : Int), (k : Int), (i : Int), (j : Int), ⟨⟩⟩, ⟨(g : Gram), (ch : List (List (List Bool))), (l : List (Int)), ⟨⟩⟩⟩ := v
  rcases r_h5 s n b ri k i j g ch l K hI with h1 | ⟨s', n', b', ri', k', i', j', g', ch', l', h1, h2, h3, h4⟩
  ·exact .inl h1
  ·exact .inr ⟨((s', n', b', ri', k', i', j', ()), (g', ch', l', ())), h1, h2, h3, h4⟩)
theorem x_spec_l4Chart_4 (g : Gram) (ch : C3) (s : Str) (n ri k i : Int) (b : Bool) (R : St → Option Fin) (K : Cont) : evC (cb_l4.withLoops (look L_h5)) (loopOf Tryd.f61 4) ⟨[(1, vS s), (2, .d (.one (.ptr 500000 0))), (5, vI n), (6, .d (.one (.dsl 500001 []))), (10, vB b), (11, vI ri), (12, vI k), (13, vI i)], l4H g ch⟩ (onward (headAt (cb_l4.withLoops (look L_h5)) 20) R K) = (
branch (decide (i < n)) (
 need (inb ri (List.length g.snd)) <|
 need ((List.length (List.getD g.snd ri.toNat d0).snd).blt 5 && (Nat.ble 5 5 && (okC5 (List.length s + 1) ch && (List.all (List.getD g.snd ri.toNat d0).snd sign && (okIJ s i i && s.length.ble 1000))))) <|
 need (pre_h5 s n b ri k i 0 g ch (endsL s ch (List.getD g.snd ri.toNat d0).snd i)) <| R (.mk [(1, (vS s)), (2, (.d (.one (.ptr 500000 0)))), (5, (vI n)), (6, (.d (.one (.dsl 500001 ([]))))), (10, (vB (setsL k i (id (endsL s ch (List.getD g.snd ri.toNat d0).snd i)) (ch, b)).snd)), (11, (vI ri)), (12, (vI k)), (13, (vI (W64 (i + 1))))] [(500000, (.some (.box 25 [(.r (.v (Value.string (mk g.fst)))), (.r (.li TRu (g.snd)))]))), (500001, (.some (.deep (ts3) (Ty.bool.list.list) ((setsL k i (id (endsL s ch (List.getD g.snd ri.toNat d0).snd i)) (ch, b)).fst))))])) ( K (.exit 8) (.mk [(1, (vS s)), (2, (.d (.one (.ptr 500000 0)))), (5, (vI n)), (6, (.d (.one (.dsl 500001 ([]))))), (10, (vB b)), (11, (vI ri))] [(500000, (.some (.box 25 [(.r (.v (Value.string (mk g.fst)))), (.r (.li TRu (g.snd)))]))), (500001, (.some (.deep (ts3) (Ty.bool.list.list) (ch))))]))) := by kernel_rfl
theorem ends_few {s : Str} {ch : C3} {a : Str} {i : Int} (hs : s.length ≤ 1000) (ha : a.length < 5) (h : 0 ≤ i) : (endsL s ch a i).length ≤ 9000000000000000000 :=
 Nat.le_trans (ends_len hs h) (Nat.le_trans (Nat.pow_le_pow_right (by omega) (by omega : a.length ≤ 4)) (by decide))
theorem ends_all_in {s : Str} {ch : C3} {a : Str} {i : Int} (ha : List.all a sign = true) (h0 : 0 ≤ i) (h1 : i ≤ (s.length : Int)) : List.all (endsL s ch a i) (fun e => decide (0 ≤ e) && decide (e ≤ (List.length s : Int))) = true := List.all_eq_true.2 fun e he => by
 rw [ends_iff ha h0 h1] at he
 have := splP_le he.2
 rw [andd, dec_iff, dec_iff]
 exact ⟨by omega, he.1⟩
noncomputable def cx0_h4 : Cx := (cb_l4).withLoops (look L_h5)
def sh_h4 : Sh := ([(1, .d .str), (2, .ptr 500000 0), (5, .d TI64), (6, .deep 500001), (10, .d .bool), (11, .d TI64), (12, .d TI64), (13, .d TI64)], [(500000, .box 25 TG), (500001, .deep ts3 TC2)])
def pre_h4 (s : Str) (n : Int) (_b : Bool) (ri : Int) (k : Int) (i : Int) (g : Gram) (ch : List (List (List Bool))) : Bool := decide (0 ≤ i) && (decide (i ≤ n) && (decide (n = (List.length s : Int) + 1) && (okC5 (List.length s + 1) ch && (okRp g.2 && (decide (0 ≤ ri) && (decide (ri < (List.length g.2 : Int)) && (decide (k = keyK (List.getD g.2 ri.toNat d0)) && Nat.ble (List.length s) 1000)))))))
noncomputable def res_h4 (s : Str) (n : Int) (b : Bool) (ri : Int) (_k : Int) (i : Int) (g : Gram) (ch : List (List (List Bool))) (K : Cont) : Option Fin := K (.exit 8) ⟨[(1, vS s), (2, .d (.one (.ptr 500000 0))), (5, vI n), (6, .d (.one (.dsl 500001 []))), (10, vB (foldG (stepE s) (fromsE (List.getD g.2 ri.toNat d0) (n - i).toNat i) (ch, b)).2), (11, vI ri)], l4H g (foldG (stepE s) (fromsE (List.getD g.2 ri.toNat d0) (n - i).toNat i) (ch, b)).1⟩
def mu_h4 (_s : Str) (n : Int) (_b : Bool) (_ri : Int) (_k : Int) (i : Int) (_g : Gram) (_ch : List (List (List Bool))) : Nat := (n - i).toNat
theorem r_h4 (s : Str) (n : Int) (b : Bool) (ri : Int) (k : Int) (i : Int) (g : Gram) (ch : List (List (List Bool))) (K : Cont) (hI : pre_h4 s n b ri k i g ch = true) : (∀ R : St → Option Fin, evC cx0_h4 (loopOf Tryd.f61 4) ⟨[(1, .d (ofD .str s)), (2, .d (.one (.ptr 500000 0))), (5, .d (ofD TI64 n)), (6, .d (.one (.dsl 500001 []))), (10, .d (ofD .bool b)), (11, .d (ofD TI64 ri)), (12, .d (ofD TI64 k)), (13, .d (ofD TI64 i))], [(500000, some (boxD 25 TG g)), (500001, some (.deep ts3 TC2 ch))]⟩ (onward (headAt cx0_h4 20) R K) = res_h4 s n b ri k i g ch K) ∨
  (∃ (s' : Str) (n' : Int) (b' : Bool) (ri' : Int) (k' : Int) (i' : Int) (g' : Gram) (ch' : List (List (List Bool))), pre_h4 s' n' b' ri' k' i' g' ch' = true ∧ mu_h4 s' n' b' ri' k' i' g' ch' < mu_h4 s n b ri k i g ch ∧ res_h4 s' n' b' ri' k' i' g' ch' K = res_h4 s n b ri k i g ch K ∧ ∀ R : St → Option Fin, evC cx0_h4 (loopOf Tryd.f61 4) ⟨[(1, .d (ofD .str s)), (2, .d (.one (.ptr 500000 0))), (5, .d (ofD TI64 n)), (6, .d (.one (.dsl 500001 []))), (10, .d (ofD .bool b)), (11, .d (ofD TI64 ri)), (12, .d (ofD TI64 k)), (13, .d (ofD TI64 i))], [(500000, some (boxD 25 TG g)), (500001, some (.deep ts3 TC2 ch))]⟩ (onward (headAt cx0_h4 20) R K) = R ⟨[(1, .d (ofD .str s')), (2, .d (.one (.ptr 500000 0))), (5, .d (ofD TI64 n')), (6, .d (.one (.dsl 500001 []))), (10, .d (ofD .bool b')), (11, .d (ofD TI64 ri')), (12, .d (ofD TI64 k')), (13, .d (ofD TI64 i'))], [(500000, some (boxD 25 TG g')), (500001, some (.deep ts3 TC2 ch'))]⟩) := by
 have hx := fun R => x_spec_l4Chart_4 g ch s n ri k i b R K
 simp only [pre_h4, andd, dec_iff, ble_iff] at hI
 obtain ⟨h0, h1, rfl, h3, h4, h5, h6, rfl, h8⟩ := hI
 by_cases hi : i < (List.length s : Int) + 1
 ·have w : W64 (i + 1) = i + 1 := wrap_small (by omega) (by omega)
  obtain ⟨q1, q2, q3⟩ := (okRp_iff.1 h4).2 _ (getD_mem (d := d0) (by omega : ri.toNat < List.length g.2))
  obtain ⟨k0, k1, _⟩ := keyK_in q1
  have kk : ((List.length (List.getD g.2 ri.toNat d0).2).blt 5 && (Nat.ble 5 5 && (okC5 (List.length s + 1) ch && (List.all (List.getD g.2 ri.toNat d0).2 sign && (okIJ s i i && s.length.ble 1000))))) = true := andd.2 ⟨blt_iff.2 q2, andd.2 ⟨rfl, andd.2 ⟨h3, andd.2 ⟨q3, andd.2 ⟨okIJ_iff.2 ⟨h0, Int.le_refl _, by omega⟩, ble_iff.2 h8⟩⟩⟩⟩⟩
  have kp : pre_h5 s ((List.length s : Int) + 1) b ri (keyK (List.getD g.2 ri.toNat d0)) i 0 g ch (endsL s ch (List.getD g.2 ri.toNat d0).2 i) = true := by
   simp only [pre_h5]
   rw [andd, andd, andd, andd, andd, andd, andd, dec_iff, dec_iff, dec_iff, dec_iff, dec_iff, dec_iff]
   exact ⟨Int.le_refl 0, h3, k0, k1, h0, by omega, ends_all_in q3 h0 (by omega), ends_few h8 q2 h0⟩
  obtain ⟨m, hm⟩ : ∃ m, ((List.length s : Int) + 1 - i).toNat = m + 1 := ⟨((List.length s : Int) + 1 - i).toNat - 1, by omega⟩
  have hm2 : ((List.length s : Int) + 1 - (i + 1)).toNat = m := by omega
  have hg : foldG (stepE s) (fromsE (List.getD g.2 ri.toNat d0) (m + 1) i) (ch, b) = foldG (stepE s) (fromsE (List.getD g.2 ri.toNat d0) m (i + 1)) (stepE s (i, List.getD g.2 ri.toNat d0) (ch, b)) := rfl
  rw [decide_eq_true hi, inb_ok h5 h6, kk, kp, w] at hx
  right
  refine ⟨s, (List.length s : Int) + 1, (stepE s (i, List.getD g.2 ri.toNat d0) (ch, b)).2, ri, keyK (List.getD g.2 ri.toNat d0), i + 1, g, (stepE s (i, List.getD g.2 ri.toNat d0) (ch, b)).1, ?_, ?_, ?_, fun R => hx R⟩
  ·simp only [pre_h4, andd, dec_iff, ble_iff]
   exact ⟨by omega, by omega, trivial, (stepE_ok s).inv (i, List.getD g.2 ri.toNat d0) (ch, b) ⟨h0, by show i ≤ _; omega, q1, q2, q3⟩ h3, h4, h5, h6, trivial, h8⟩
  ·simp only [mu_h4]; omega
  ·simp only [res_h4, hm, hm2, hg]
 ·left
  intro R
  refine (hx R).trans ?_
  rw [decide_eq_false hi]
  have e : ((List.length s : Int) + 1 - i).toNat = 0 := by omega
  simp only [res_h4, e]; rfl
noncomputable def g_h4 : St → Cont → Option Fin := gP sh_h4 (fun v => match v with | ((s, n, b, ri, k, i, ()), (g, ch, ())) => pre_h4 s n b ri k i g ch) (fun v K => match v with | ((s, n, b, ri, k, i, ()), (g, ch, ())) => res_h4 s n b ri k i g ch K)
noncomputable def L_h4 : List (Nat × (St → Cont → Option Fin)) := (20, g_h4) :: L_h5
noncomputable def cx_h4 : Cx := (cb_l4).withLoops (look L_h4)
theorem l_h4 {L : List (Nat × (St → Cont → Option Fin))} (n : Nat) (h1 : L.drop n = L_h5) (h2 : idsFree (L.take n) (loopOf Tryd.f61 4) = true) : ∀ st K r, g_h4 st K = some r → ∃ N, iter (evC ((cb_l4).withLoops (look L)) (loopOf Tryd.f61 4)) (headAt ((cb_l4).withLoops (look L)) 20) N st K = some r :=
 with_drop h1 h2 (gP_ok (fun v => match v with | ((s, n, b, ri, k, i, ()), (g, ch, ())) => mu_h4 s n b ri k i g ch) fun v K hI => by
  obtain ⟨⟨(s : Str), (n : Int), (b : Bool), (ri : Int), (k : Int), (i : Int), ⟨⟩⟩, ⟨(g : Gram), (ch : List (List (List Bool))), ⟨⟩⟩⟩ := v
  rcases r_h4 s n b ri k i g ch K hI with h1 | ⟨s', n', b', ri', k', i', g', ch', h1, h2, h3, h4⟩
  ·exact .inl h1
  ·exact .inr ⟨((s', n', b', ri', k', i', ()), (g', ch', ())), h1, h2, h3, h4⟩)
theorem x_spec_l4Chart_3 (g : Gram) (ch : C3) (s : Str) (n ri : Int) (b : Bool) (R : St → Option Fin) (K : Cont) : evC (cb_l4.withLoops (look L_h4)) (loopOf Tryd.f61 3) ⟨[(1, vS s), (2, .d (.one (.ptr 500000 0))), (5, vI n), (6, .d (.one (.dsl 500001 []))), (10, vB b), (11, vI ri)], l4H g ch⟩ (onward (headAt (cb_l4.withLoops (look L_h4)) 16) R K) = (
branch (decide (ri < (List.length g.snd : Int))) (
 need (inb ri (List.length g.snd)) <|
 need (inb 0 (List.length (List.getD g.snd ri.toNat d0).fst)) <|
 need (pre_h4 s n b ri (W64 (IntKind.u8.wrap (byteAt (List.getD g.snd ri.toNat d0).fst 0 - 65))) 0 g ch) <| R (.mk [(1, (vS s)), (2, (.d (.one (.ptr 500000 0)))), (5, (vI n)), (6, (.d (.one (.dsl 500001 ([]))))), (10, (vB (foldG (stepE s) (fromsE (g.snd.getD ri.toNat d0) (n - 0).toNat 0) (ch, b)).snd)), (11, (vI (W64 (ri + 1))))] [(500000, (.some (.box 25 [(.r (.v (Value.string (mk g.fst)))), (.r (.li TRu (g.snd)))]))), (500001, (.some (.deep (ts3) (Ty.bool.list.list) ((foldG (stepE s) (fromsE (g.snd.getD ri.toNat d0) (n - 0).toNat 0) (ch, b)).fst))))])) ( K (.exit 6) (.mk [(1, (vS s)), (2, (.d (.one (.ptr 500000 0)))), (5, (vI n)), (6, (.d (.one (.dsl 500001 ([]))))), (10, (vB b))] [(500000, (.some (.box 25 [(.r (.v (Value.string (mk g.fst)))), (.r (.li TRu (g.snd)))]))), (500001, (.some (.deep (ts3) (Ty.bool.list.list) (ch))))]))) := by kernel_rfl
theorem key_wrap {r : Rule} (h : bigS r.1 = true) : W64 (IntKind.u8.wrap (byteAt r.1 0 - 65)) = keyK r := by
 obtain ⟨k0, k1, _⟩ := keyK_in h
 have k0 : 0 ≤ byteAt r.1 0 - 65 := k0
 have k1 : byteAt r.1 0 - 65 < 5 := k1
 have e1 : IntKind.u8.wrap (byteAt r.1 0 - 65) = byteAt r.1 0 - 65 := by
  show (byteAt r.1 0 - 65) % 256 = _
  exact Int.emod_eq_of_lt (by omega) (by omega)
 rw [e1]
 exact wrap_small (by omega) (by omega)
theorem visE_at {n : Nat} {l : List Rule} {i : Int} (h0 : 0 ≤ i) (h1 : i < (l.length : Int)) : visE n (l.drop i.toNat) = fromsE (l.getD i.toNat d0) n 0 ++ visE n (l.drop (i + 1).toNat) := by
 have hn : i.toNat < l.length := by omega
 unfold visE
 rw [List.drop_eq_getElem_cons hn, List.flatMap_cons, show (i + 1).toNat = i.toNat + 1 by omega, getD_at hn]
noncomputable def cx0_h3 : Cx := (cb_l4).withLoops (look L_h4)
def sh_h3 : Sh := ([(1, .d .str), (2, .ptr 500000 0), (5, .d TI64), (6, .deep 500001), (10, .d .bool), (11, .d TI64)], [(500000, .box 25 TG), (500001, .deep ts3 TC2)])
def pre_h3 (s : Str) (n : Int) (_b : Bool) (ri : Int) (g : Gram) (ch : List (List (List Bool))) : Bool := decide (0 ≤ ri) && (decide (n = (List.length s : Int) + 1) && (okC5 (List.length s + 1) ch && (okRp g.2 && Nat.ble (List.length s) 1000)))
noncomputable def res_h3 (s : Str) (n : Int) (b : Bool) (ri : Int) (g : Gram) (ch : List (List (List Bool))) (K : Cont) : Option Fin := K (.exit 6) ⟨[(1, vS s), (2, .d (.one (.ptr 500000 0))), (5, vI n), (6, .d (.one (.dsl 500001 []))), (10, vB (foldG (stepE s) (visE (List.length s + 1) (List.drop ri.toNat g.2)) (ch, b)).2)], l4H g (foldG (stepE s) (visE (List.length s + 1) (List.drop ri.toNat g.2)) (ch, b)).1⟩
def mu_h3 (_s : Str) (_n : Int) (_b : Bool) (ri : Int) (g : Gram) (_ch : List (List (List Bool))) : Nat := List.length g.2 - ri.toNat
theorem r_h3 (s : Str) (n : Int) (b : Bool) (ri : Int) (g : Gram) (ch : List (List (List Bool))) (K : Cont) (hI : pre_h3 s n b ri g ch = true) : (∀ R : St → Option Fin, evC cx0_h3 (loopOf Tryd.f61 3) ⟨[(1, .d (ofD .str s)), (2, .d (.one (.ptr 500000 0))), (5, .d (ofD TI64 n)), (6, .d (.one (.dsl 500001 []))), (10, .d (ofD .bool b)), (11, .d (ofD TI64 ri))], [(500000, some (boxD 25 TG g)), (500001, some (.deep ts3 TC2 ch))]⟩ (onward (headAt cx0_h3 16) R K) = res_h3 s n b ri g ch K) ∨
  (∃ (s' : Str) (n' : Int) (b' : Bool) (ri' : Int) (g' : Gram) (ch' : List (List (List Bool))), pre_h3 s' n' b' ri' g' ch' = true ∧ mu_h3 s' n' b' ri' g' ch' < mu_h3 s n b ri g ch ∧ res_h3 s' n' b' ri' g' ch' K = res_h3 s n b ri g ch K ∧ ∀ R : St → Option Fin, evC cx0_h3 (loopOf Tryd.f61 3) ⟨[(1, .d (ofD .str s)), (2, .d (.one (.ptr 500000 0))), (5, .d (ofD TI64 n)), (6, .d (.one (.dsl 500001 []))), (10, .d (ofD .bool b)), (11, .d (ofD TI64 ri))], [(500000, some (boxD 25 TG g)), (500001, some (.deep ts3 TC2 ch))]⟩ (onward (headAt cx0_h3 16) R K) = R ⟨[(1, .d (ofD .str s')), (2, .d (.one (.ptr 500000 0))), (5, .d (ofD TI64 n')), (6, .d (.one (.dsl 500001 []))), (10, .d (ofD .bool b')), (11, .d (ofD TI64 ri'))], [(500000, some (boxD 25 TG g')), (500001, some (.deep ts3 TC2 ch'))]⟩) := by
 have hx := fun R => x_spec_l4Chart_3 g ch s n ri b R K
 simp only [pre_h3, andd, dec_iff, ble_iff] at hI
 obtain ⟨h0, rfl, h3, h4, h8⟩ := hI
 obtain ⟨g1, g2⟩ := okRp_iff.1 h4
 by_cases hi : ri < (List.length g.2 : Int)
 ·have w : W64 (ri + 1) = ri + 1 := wrap_small (by omega) (by omega)
  obtain ⟨q1, q2, q3⟩ := g2 _ (getD_mem (d := d0) (by omega : ri.toNat < List.length g.2))
  have hl : inb 0 (List.length (List.getD g.2 ri.toNat d0).1) = true := by
   obtain ⟨c, e, _⟩ := bigS_one q1
   rw [e]; rfl
  have kp : pre_h4 s ((List.length s : Int) + 1) b ri (keyK (List.getD g.2 ri.toNat d0)) 0 g ch = true := by
   simp only [pre_h4, andd, dec_iff, ble_iff]
   exact ⟨Int.le_refl 0, by omega, trivial, h3, h4, h0, hi, trivial, h8⟩
  have e0 : ((List.length s : Int) + 1 - 0).toNat = List.length s + 1 := by omega
  have hg := visE_at (n := List.length s + 1) h0 hi
  rw [decide_eq_true hi, inb_ok h0 hi, hl, key_wrap q1, kp, w, e0] at hx
  right
  refine ⟨s, (List.length s : Int) + 1, (foldG (stepE s) (fromsE (List.getD g.2 ri.toNat d0) (List.length s + 1) 0) (ch, b)).2, ri + 1, g, (foldG (stepE s) (fromsE (List.getD g.2 ri.toNat d0) (List.length s + 1) 0) (ch, b)).1, ?_, ?_, ?_, fun R => hx R⟩
  ·simp only [pre_h3, andd, dec_iff, ble_iff]
   refine ⟨by omega, trivial, foldG_ok (stepE_ok s) (p := (ch, b)) (fun v hv => ?_) h3, h4, h8⟩
   obtain ⟨e1, e2, e3⟩ := mem_fromsE.1 hv
   exact ⟨e2, by omega, by rw [e1]; exact q1, by rw [e1]; exact q2, by rw [e1]; exact q3⟩
  ·simp only [mu_h3]; omega
  ·simp only [res_h3, hg, foldG_app]
 ·left
  intro R
  refine (hx R).trans ?_
  rw [decide_eq_false hi]
  have e : List.drop ri.toNat g.2 = [] := List.drop_eq_nil_of_le (by omega)
  simp only [res_h3, e]; rfl
noncomputable def g_h3 : St → Cont → Option Fin := gP sh_h3 (fun v => match v with | ((s, n, b, ri, ()), (g, ch, ())) => pre_h3 s n b ri g ch) (fun v K => match v with | ((s, n, b, ri, ()), (g, ch, ())) => res_h3 s n b ri g ch K)
noncomputable def L_h3 : List (Nat × (St → Cont → Option Fin)) := (16, g_h3) :: L_h4
noncomputable def cx_h3 : Cx := (cb_l4).withLoops (look L_h3)
theorem l_h3 {L : List (Nat × (St → Cont → Option Fin))} (n : Nat) (h1 : L.drop n = L_h4) (h2 : idsFree (L.take n) (loopOf Tryd.f61 3) = true) : ∀ st K r, g_h3 st K = some r → ∃ N, iter (evC ((cb_l4).withLoops (look L)) (loopOf Tryd.f61 3)) (headAt ((cb_l4).withLoops (look L)) 16) N st K = some r :=
 with_drop h1 h2 (gP_ok (fun v => match v with | ((s, n, b, ri, ()), (g, ch, ())) => mu_h3 s n b ri g ch) fun v K hI => by
  obtain ⟨⟨(s : Str), (n : Int), (b : Bool), (ri : Int), ⟨⟩⟩, ⟨(g : Gram), (ch : List (List (List Bool))), ⟨⟩⟩⟩ := v
  rcases r_h3 s n b ri g ch K hI with h1 | ⟨s', n', b', ri', g', ch', h1, h2, h3, h4⟩
  ·exact .inl h1
  ·exact .inr ⟨((s', n', b', ri', ()), (g', ch', ())), h1, h2, h3, h4⟩)
theorem x_spec_l4Chart_2 (g : Gram) (ch : C3) (s : Str) (n : Int) (b : Bool) (R : St → Option Fin) (K : Cont) : evC (cb_l4.withLoops (look L_h3)) (loopOf Tryd.f61 2) ⟨[(1, vS s), (2, .d (.one (.ptr 500000 0))), (5, vI n), (6, .d (.one (.dsl 500001 []))), (10, vB b)], l4H g ch⟩ (onward (headAt (cb_l4.withLoops (look L_h3)) 13) R K) = (
branch (b) (
 need (pre_h3 s n false 0 g ch) <| R (.mk [(1, (vS s)), (2, (.d (.one (.ptr 500000 0)))), (5, (vI n)), (6, (.d (.one (.dsl 500001 ([]))))), (10, (vB (foldG (stepE s) (visE (List.length s + 1) g.snd) (ch, false)).snd))] [(500000, (.some (.box 25 [(.r (.v (Value.string (mk g.fst)))), (.r (.li TRu (g.snd)))]))), (500001, (.some (.deep (ts3) (Ty.bool.list.list) ((foldG (stepE s) (visE (List.length s + 1) g.snd) (ch, false)).fst))))])) ( K (.exit 4) (.mk [(6, (.d (.one (.dsl 500000 ([])))))] [(500000, (.some (.deep (ts3) (Ty.bool.list.list) (ch))))]))) := by kernel_rfl
noncomputable def cx0_h2 : Cx := (cb_l4).withLoops (look L_h3)
def sh_h2 : Sh := ([(1, .d .str), (2, .ptr 500000 0), (5, .d TI64), (6, .deep 500001), (10, .d .bool)], [(500000, .box 25 TG), (500001, .deep ts3 TC2)])
def pre_h2 (s : Str) (n : Int) (_b : Bool) (g : Gram) (ch : List (List (List Bool))) : Bool := decide (n = (List.length s : Int) + 1) && (okC5 (List.length s + 1) ch && (okRp g.2 && Nat.ble (List.length s) 1000))
noncomputable def res_h2 (s : Str) (_n : Int) (b : Bool) (g : Gram) (ch : List (List (List Bool))) (K : Cont) : Option Fin := K (.exit 4) ⟨[(6, .d (.one (.dsl 500000 [])))], [(500000, some (.deep ts3 TC2 (bif b then runC hasN (keysE (List.length s + 1)) (stepE s) (visE (List.length s + 1) g.2) ch else ch)))]⟩
def mu_h2 (s : Str) (_n : Int) (b : Bool) (g : Gram) (ch : List (List (List Bool))) : Nat := 2 * missG hasN ((visE (List.length s + 1) g.2).flatMap (keysE (List.length s + 1))) ch + (bif b then 1 else 0)
theorem r_h2 (s : Str) (n : Int) (b : Bool) (g : Gram) (ch : List (List (List Bool))) (K : Cont) (hI : pre_h2 s n b g ch = true) : (∀ R : St → Option Fin, evC cx0_h2 (loopOf Tryd.f61 2) ⟨[(1, .d (ofD .str s)), (2, .d (.one (.ptr 500000 0))), (5, .d (ofD TI64 n)), (6, .d (.one (.dsl 500001 []))), (10, .d (ofD .bool b))], [(500000, some (boxD 25 TG g)), (500001, some (.deep ts3 TC2 ch))]⟩ (onward (headAt cx0_h2 13) R K) = res_h2 s n b g ch K) ∨
  (∃ (s' : Str) (n' : Int) (b' : Bool) (g' : Gram) (ch' : List (List (List Bool))), pre_h2 s' n' b' g' ch' = true ∧ mu_h2 s' n' b' g' ch' < mu_h2 s n b g ch ∧ res_h2 s' n' b' g' ch' K = res_h2 s n b g ch K ∧ ∀ R : St → Option Fin, evC cx0_h2 (loopOf Tryd.f61 2) ⟨[(1, .d (ofD .str s)), (2, .d (.one (.ptr 500000 0))), (5, .d (ofD TI64 n)), (6, .d (.one (.dsl 500001 []))), (10, .d (ofD .bool b))], [(500000, some (boxD 25 TG g)), (500001, some (.deep ts3 TC2 ch))]⟩ (onward (headAt cx0_h2 13) R K) = R ⟨[(1, .d (ofD .str s')), (2, .d (.one (.ptr 500000 0))), (5, .d (ofD TI64 n')), (6, .d (.one (.dsl 500001 []))), (10, .d (ofD .bool b'))], [(500000, some (boxD 25 TG g')), (500001, some (.deep ts3 TC2 ch'))]⟩) := by
 have hx := fun R => x_spec_l4Chart_2 g ch s n b R K
 simp only [pre_h2, andd, dec_iff, ble_iff] at hI
 obtain ⟨rfl, h3, h4, h8⟩ := hI
 cases b
 ·left
  intro R
  refine (hx R).trans ?_
  simp only [res_h2]; rfl
 ·have hv := good_visE (s := s) h4
  have hp : pre_h3 s ((List.length s : Int) + 1) false 0 g ch = true := by
   simp only [pre_h3, andd, dec_iff, ble_iff]
   exact ⟨Int.le_refl 0, trivial, h3, h4, h8⟩
  rw [hp] at hx
  have hg := runC_at (stepE_ok s) (vs := visE (List.length s + 1) g.2) (m := ch) hv h3
  right
  refine ⟨s, (List.length s : Int) + 1, (foldG (stepE s) (visE (List.length s + 1) g.2) (ch, false)).2, g, (foldG (stepE s) (visE (List.length s + 1) g.2) (ch, false)).1, ?_, ?_, ?_, fun R => hx R⟩
  ·simp only [pre_h2, andd, dec_iff, ble_iff]
   exact ⟨trivial, foldG_ok (stepE_ok s) (p := (ch, false)) hv h3, h4, h8⟩
  ·simp only [mu_h2]
   cases hc : (foldG (stepE s) (visE (List.length s + 1) g.2) (ch, false)).2
   ·obtain ⟨_, h5, _⟩ := foldG_quiet (stepE_ok s) (p := (ch, false)) hv h3 hc
    rw [h5, cond_true, cond_false]
    show 2 * missG hasN _ ch + 0 < 2 * missG hasN _ ch + 1
    omega
   ·have := miss_lt (stepE_ok s) hv h3 hc
    rw [cond_true]; omega
  ·simp only [res_h2]
   exact congrArg (fun z : C3 => K (.exit 4) ⟨[(6, .d (.one (.dsl 500000 [])))], [(500000, some (.deep ts3 TC2 z))]⟩) hg.symm
noncomputable def g_h2 : St → Cont → Option Fin := gP sh_h2 (fun v => match v with | ((s, n, b, ()), (g, ch, ())) => pre_h2 s n b g ch) (fun v K => match v with | ((s, n, b, ()), (g, ch, ())) => res_h2 s n b g ch K)
noncomputable def L_h2 : List (Nat × (St → Cont → Option Fin)) := (13, g_h2) :: L_h3
noncomputable def cx_h2 : Cx := (cb_l4).withLoops (look L_h2)
theorem l_h2 {L : List (Nat × (St → Cont → Option Fin))} (n : Nat) (h1 : L.drop n = L_h3) (h2 : idsFree (L.take n) (loopOf Tryd.f61 2) = true) : ∀ st K r, g_h2 st K = some r → ∃ N, iter (evC ((cb_l4).withLoops (look L)) (loopOf Tryd.f61 2)) (headAt ((cb_l4).withLoops (look L)) 13) N st K = some r :=
 with_drop h1 h2 (gP_ok (fun v => match v with | ((s, n, b, ()), (g, ch, ())) => mu_h2 s n b g ch) fun v K hI => by
  obtain ⟨⟨(s : Str), (n : Int), (b : Bool), ⟨⟩⟩, ⟨(g : Gram), (ch : List (List (List Bool))), ⟨⟩⟩⟩ := v
  rcases r_h2 s n b g ch K hI with h1 | ⟨s', n', b', g', ch', h1, h2, h3, h4⟩
  ·exact .inl h1
  ·exact .inr ⟨((s', n', b', ()), (g', ch', ())), h1, h2, h3, h4⟩)
theorem x_spec_l4Chart_1 (g : Gram) (ch : C3) (rs : List (List Bool)) (s : Str) (n i k : Int) (R : St → Option Fin) (K : Cont) : evC (cb_l4.withLoops (look L_h2)) (loopOf Tryd.f61 1) ⟨[(1, vS s), (2, .d (.one (.ptr 500000 0))), (5, vI n), (6, .d (.one (.dsl 500001 []))), (7, vI i), (8, .d (.one (.dsl 500002 []))), (9, vI k)], l4H g ch ++ [(500002, some (.deep ts2 (.list .bool) rs))]⟩ (onward (headAt (cb_l4.withLoops (look L_h2)) 8) R K) = (
branch (decide (k < n)) (
 need (decide (0 ≤ n ∧ n ≤ n ∧ n * (Tryd.t4.bytes : Int) ≤ 140737488355328 ∧ n ≤ 9223372036854775807)) <|
 need (fits (rs.length + [List.replicate n.toNat false].length) Tryd.t49.bytes) <| R (.mk [(1, (vS s)), (2, (.d (.one (.ptr 500000 0)))), (5, (vI n)), (6, (.d (.one (.dsl 500001 ([]))))), (7, (vI i)), (8, (.d (.one (.dsl 500002 ([]))))), (9, (vI (W64 (k + 1))))] [(500000, (.some (.box 25 [(.r (.v (Value.string (mk g.fst)))), (.r (.li TRu (g.snd)))]))), (500001, (.some (.deep (ts3) (Ty.bool.list.list) (ch)))), (500002, (.some (.deep (ts2) (Ty.bool.list) (rs.append [List.replicate n.toNat false]))))])) ( K (.exit 2) (.mk [(1, (vS s)), (2, (.d (.one (.ptr 500000 0)))), (5, (vI n)), (6, (.d (.one (.dsl 500001 ([]))))), (7, (vI i)), (8, (.d (.one (.dsl 500002 ([])))))] [(500000, (.some (.box 25 [(.r (.v (Value.string (mk g.fst)))), (.r (.li TRu (g.snd)))]))), (500001, (.some (.deep (ts3) (Ty.bool.list.list) (ch)))), (500002, (.some (.deep (ts2) (Ty.bool.list) (rs))))]))) := by kernel_rfl
theorem boolBytes : Tryd.t4.bytes = 1 := by kernel_rfl
theorem boolsBytes : Tryd.t49.bytes = 24 := by kernel_rfl
theorem boolssBytes : Tryd.t92.bytes = 24 := by kernel_rfl
noncomputable def cx0_h1 : Cx := (cb_l4).withLoops (look L_h2)
def sh_h1 : Sh := ([(1, .d .str), (2, .ptr 500000 0), (5, .d TI64), (6, .deep 500001), (7, .d TI64), (8, .deep 500002), (9, .d TI64)], [(500000, .box 25 TG), (500001, .deep ts3 TC2), (500002, .deep ts2 TC1)])
def pre_h1 (_s : Str) (n : Int) (_i : Int) (k : Int) (_g : Gram) (_ch : List (List (List Bool))) (rs : List (List Bool)) : Bool := decide (0 ≤ k) && (decide (k ≤ n) && (decide (n ≤ 1001) && decide (List.length rs = k.toNat)))
noncomputable def res_h1 (s : Str) (n : Int) (i : Int) (k : Int) (g : Gram) (ch : List (List (List Bool))) (rs : List (List Bool)) (K : Cont) : Option Fin := K (.exit 2) ⟨[(1, vS s), (2, .d (.one (.ptr 500000 0))), (5, vI n), (6, .d (.one (.dsl 500001 []))), (7, vI i), (8, .d (.one (.dsl 500002 [])))], l4H g ch ++ [(500002, some (.deep ts2 TC1 (rs ++ List.replicate (n - k).toNat (List.replicate n.toNat false))))]⟩
def mu_h1 (_s : Str) (n : Int) (_i : Int) (k : Int) (_g : Gram) (_ch : List (List (List Bool))) (_rs : List (List Bool)) : Nat := (n - k).toNat
theorem r_h1 (s : Str) (n : Int) (i : Int) (k : Int) (g : Gram) (ch : List (List (List Bool))) (rs : List (List Bool)) (K : Cont) (hI : pre_h1 s n i k g ch rs = true) : (∀ R : St → Option Fin, evC cx0_h1 (loopOf Tryd.f61 1) ⟨[(1, .d (ofD .str s)), (2, .d (.one (.ptr 500000 0))), (5, .d (ofD TI64 n)), (6, .d (.one (.dsl 500001 []))), (7, .d (ofD TI64 i)), (8, .d (.one (.dsl 500002 []))), (9, .d (ofD TI64 k))], [(500000, some (boxD 25 TG g)), (500001, some (.deep ts3 TC2 ch)), (500002, some (.deep ts2 TC1 rs))]⟩ (onward (headAt cx0_h1 8) R K) = res_h1 s n i k g ch rs K) ∨
  (∃ (s' : Str) (n' : Int) (i' : Int) (k' : Int) (g' : Gram) (ch' : List (List (List Bool))) (rs' : List (List Bool)), pre_h1 s' n' i' k' g' ch' rs' = true ∧ mu_h1 s' n' i' k' g' ch' rs' < mu_h1 s n i k g ch rs ∧ res_h1 s' n' i' k' g' ch' rs' K = res_h1 s n i k g ch rs K ∧ ∀ R : St → Option Fin, evC cx0_h1 (loopOf Tryd.f61 1) ⟨[(1, .d (ofD .str s)), (2, .d (.one (.ptr 500000 0))), (5, .d (ofD TI64 n)), (6, .d (.one (.dsl 500001 []))), (7, .d (ofD TI64 i)), (8, .d (.one (.dsl 500002 []))), (9, .d (ofD TI64 k))], [(500000, some (boxD 25 TG g)), (500001, some (.deep ts3 TC2 ch)), (500002, some (.deep ts2 TC1 rs))]⟩ (onward (headAt cx0_h1 8) R K) = R ⟨[(1, .d (ofD .str s')), (2, .d (.one (.ptr 500000 0))), (5, .d (ofD TI64 n')), (6, .d (.one (.dsl 500001 []))), (7, .d (ofD TI64 i')), (8, .d (.one (.dsl 500002 []))), (9, .d (ofD TI64 k'))], [(500000, some (boxD 25 TG g')), (500001, some (.deep ts3 TC2 ch')), (500002, some (.deep ts2 TC1 rs'))]⟩) := by
 have hx := fun R => x_spec_l4Chart_1 g ch rs s n i k R K
 simp only [pre_h1, andd, dec_iff] at hI
 obtain ⟨h0, h1, h2, h3⟩ := hI
 by_cases hk : k < n
 ·have w : W64 (k + 1) = k + 1 := wrap_small (by omega) (by omega)
  have k1 : decide (0 ≤ n ∧ n ≤ n ∧ n * (Tryd.t4.bytes : Int) ≤ 140737488355328 ∧ n ≤ 9223372036854775807) = true := by
   rw [boolBytes]
   exact decide_eq_true ⟨by omega, Int.le_refl _, by omega, by omega⟩
  have k2 : fits (List.length rs + [List.replicate n.toNat false].length) Tryd.t49.bytes = true := by
   rw [boolsBytes]
   exact decide_eq_true (by rw [List.length_singleton]; omega)
  obtain ⟨m, hm⟩ : ∃ m, (n - k).toNat = m + 1 := ⟨(n - k).toNat - 1, by omega⟩
  have hm2 : (n - (k + 1)).toNat = m := by omega
  rw [decide_eq_true hk, k1, k2, w] at hx
  right
  refine ⟨s, n, i, k + 1, g, ch, rs ++ [List.replicate n.toNat false], ?_, ?_, ?_, fun R => hx R⟩
  ·simp only [pre_h1, andd, dec_iff]
   rw [List.length_append, List.length_singleton]
   exact ⟨by omega, by omega, h2, by omega⟩
  ·simp only [mu_h1]; omega
  ·simp only [res_h1, hm, hm2, List.replicate_succ, List.append_assoc]; rfl
 ·left
  intro R
  refine (hx R).trans ?_
  rw [decide_eq_false hk]
  have e : (n - k).toNat = 0 := by omega
  simp only [res_h1, e, List.replicate_zero, List.append_nil]; rfl
noncomputable def g_h1 : St → Cont → Option Fin := gP sh_h1 (fun v => match v with | ((s, n, i, k, ()), (g, ch, rs, ())) => pre_h1 s n i k g ch rs) (fun v K => match v with | ((s, n, i, k, ()), (g, ch, rs, ())) => res_h1 s n i k g ch rs K)
noncomputable def L_h1 : List (Nat × (St → Cont → Option Fin)) := (8, g_h1) :: L_h2
noncomputable def cx_h1 : Cx := (cb_l4).withLoops (look L_h1)
theorem l_h1 {L : List (Nat × (St → Cont → Option Fin))} (n : Nat) (h1 : L.drop n = L_h2) (h2 : idsFree (L.take n) (loopOf Tryd.f61 1) = true) : ∀ st K r, g_h1 st K = some r → ∃ N, iter (evC ((cb_l4).withLoops (look L)) (loopOf Tryd.f61 1)) (headAt ((cb_l4).withLoops (look L)) 8) N st K = some r :=
 with_drop h1 h2 (gP_ok (fun v => match v with | ((s, n, i, k, ()), (g, ch, rs, ())) => mu_h1 s n i k g ch rs) fun v K hI => by
  obtain ⟨⟨(s : Str), (n : Int), (i : Int), (k : Int), ⟨⟩⟩, ⟨(g : Gram), (ch : List (List (List Bool))), (rs : List (List Bool)), ⟨⟩⟩⟩ := v
  rcases r_h1 s n i k g ch rs K hI with h1 | ⟨s', n', i', k', g', ch', rs', h1, h2, h3, h4⟩
  ·exact .inl h1
  ·exact .inr ⟨((s', n', i', k', ()), (g', ch', rs', ())), h1, h2, h3, h4⟩)
theorem x_spec_l4Chart (g : Gram) (ch : C3) (s : Str) (n i : Int) (R : St → Option Fin) (K : Cont) : evC (cb_l4.withLoops (look L_h1)) (loopOf Tryd.f61 0) ⟨[(1, vS s), (2, .d (.one (.ptr 500000 0))), (5, vI n), (6, .d (.one (.dsl 500001 []))), (7, vI i)], l4H g ch⟩ (onward (headAt (cb_l4.withLoops (look L_h1)) 4) R K) = (
branch (decide (i < 5)) (
 need (pre_h1 s n i 0 g ch []) <|
 need (fits (List.length ch + [id (List.replicate (n - 0).toNat (List.replicate n.toNat false))].length) Tryd.t92.bytes) <| R (.mk [(1, (vS s)), (2, (.d (.one (.ptr 500000 0)))), (5, (vI n)), (6, (.d (.one (.dsl 500001 ([]))))), (7, (vI (W64 (i + 1))))] [(500000, (.some (.box 25 [(.r (.v (Value.string (mk g.fst)))), (.r (.li TRu (g.snd)))]))), (500001, (.some (.deep (ts3) (Ty.bool.list.list) (List.append ch [id (List.replicate (n - 0).toNat (List.replicate n.toNat false))]))))])) ( K (.exit 0) (.mk [(1, (vS s)), (2, (.d (.one (.ptr 500000 0)))), (5, (vI n)), (6, (.d (.one (.dsl 500001 ([])))))] [(500000, (.some (.box 25 [(.r (.v (Value.string (mk g.fst)))), (.r (.li TRu (g.snd)))]))), (500001, (.some (.deep (ts3) (Ty.bool.list.list) (ch))))]))) := by kernel_rfl
noncomputable def cx0_h0 : Cx := (cb_l4).withLoops (look L_h1)
def sh_h0 : Sh := ([(1, .d .str), (2, .ptr 500000 0), (5, .d TI64), (6, .deep 500001), (7, .d TI64)], [(500000, .box 25 TG), (500001, .deep ts3 TC2)])
def pre_h0 (_s : Str) (n : Int) (i : Int) (_g : Gram) (ch : List (List (List Bool))) : Bool := decide (0 ≤ i) && (decide (i ≤ 5) && (decide (0 ≤ n) && (decide (n ≤ 1001) && decide (List.length ch = i.toNat))))
noncomputable def res_h0 (s : Str) (n : Int) (i : Int) (g : Gram) (ch : List (List (List Bool))) (K : Cont) : Option Fin := K (.exit 0) ⟨[(1, vS s), (2, .d (.one (.ptr 500000 0))), (5, vI n), (6, .d (.one (.dsl 500001 [])))], l4H g (ch ++ List.replicate (5 - i).toNat (List.replicate n.toNat (List.replicate n.toNat false)))⟩
def mu_h0 (_s : Str) (_n : Int) (i : Int) (_g : Gram) (_ch : List (List (List Bool))) : Nat := (5 - i).toNat
theorem r_h0 (s : Str) (n : Int) (i : Int) (g : Gram) (ch : List (List (List Bool))) (K : Cont) (hI : pre_h0 s n i g ch = true) : (∀ R : St → Option Fin, evC cx0_h0 (loopOf Tryd.f61 0) ⟨[(1, .d (ofD .str s)), (2, .d (.one (.ptr 500000 0))), (5, .d (ofD TI64 n)), (6, .d (.one (.dsl 500001 []))), (7, .d (ofD TI64 i))], [(500000, some (boxD 25 TG g)), (500001, some (.deep ts3 TC2 ch))]⟩ (onward (headAt cx0_h0 4) R K) = res_h0 s n i g ch K) ∨
  (∃ (s' : Str) (n' : Int) (i' : Int) (g' : Gram) (ch' : List (List (List Bool))), pre_h0 s' n' i' g' ch' = true ∧ mu_h0 s' n' i' g' ch' < mu_h0 s n i g ch ∧ res_h0 s' n' i' g' ch' K = res_h0 s n i g ch K ∧ ∀ R : St → Option Fin, evC cx0_h0 (loopOf Tryd.f61 0) ⟨[(1, .d (ofD .str s)), (2, .d (.one (.ptr 500000 0))), (5, .d (ofD TI64 n)), (6, .d (.one (.dsl 500001 []))), (7, .d (ofD TI64 i))], [(500000, some (boxD 25 TG g)), (500001, some (.deep ts3 TC2 ch))]⟩ (onward (headAt cx0_h0 4) R K) = R ⟨[(1, .d (ofD .str s')), (2, .d (.one (.ptr 500000 0))), (5, .d (ofD TI64 n')), (6, .d (.one (.dsl 500001 []))), (7, .d (ofD TI64 i'))], [(500000, some (boxD 25 TG g')), (500001, some (.deep ts3 TC2 ch'))]⟩) := by
 have hx := fun R => x_spec_l4Chart g ch s n i R K
 simp only [pre_h0, andd, dec_iff] at hI
 obtain ⟨h0, h1, h2, h3, h4⟩ := hI
 by_cases hk : i < 5
 ·have w : W64 (i + 1) = i + 1 := wrap_small (by omega) (by omega)
  have kp : pre_h1 s n i 0 g ch [] = true := by
   simp only [pre_h1, andd, dec_iff]
   exact ⟨Int.le_refl 0, h2, h3, rfl⟩
  have k2 : fits (List.length ch + [List.replicate n.toNat (List.replicate n.toNat false)].length) Tryd.t92.bytes = true := by
   rw [boolssBytes]
   exact decide_eq_true (by rw [List.length_singleton]; omega)
  obtain ⟨m, hm⟩ : ∃ m, (5 - i).toNat = m + 1 := ⟨(5 - i).toNat - 1, by omega⟩
  have hm2 : (5 - (i + 1)).toNat = m := by omega
  have e0 : (n - 0).toNat = n.toNat := by omega
  rw [decide_eq_true hk, kp, w, e0] at hx
  change ∀ R : St → Option Fin, _ = branch true (need true (need (fits (List.length ch + [List.replicate n.toNat (List.replicate n.toNat false)].length) Tryd.t92.bytes) _)) _ at hx
  rw [k2] at hx
  right
  refine ⟨s, n, i + 1, g, ch ++ [List.replicate n.toNat (List.replicate n.toNat false)], ?_, ?_, ?_, fun R => hx R⟩
  ·simp only [pre_h0, andd, dec_iff]
   rw [List.length_append, List.length_singleton]
   exact ⟨by omega, by omega, h2, h3, by omega⟩
  ·simp only [mu_h0]; omega
  ·simp only [res_h0, hm, hm2, List.replicate_succ, List.append_assoc]; rfl
 ·left
  intro R
  refine (hx R).trans ?_
  rw [decide_eq_false hk]
  have e : (5 - i).toNat = 0 := by omega
  simp only [res_h0, e, List.replicate_zero, List.append_nil]; rfl
noncomputable def g_h0 : St → Cont → Option Fin := gP sh_h0 (fun v => match v with | ((s, n, i, ()), (g, ch, ())) => pre_h0 s n i g ch) (fun v K => match v with | ((s, n, i, ()), (g, ch, ())) => res_h0 s n i g ch K)
noncomputable def L_h0 : List (Nat × (St → Cont → Option Fin)) := (4, g_h0) :: L_h1
noncomputable def cx_h0 : Cx := (cb_l4).withLoops (look L_h0)
theorem l_h0 {L : List (Nat × (St → Cont → Option Fin))} (n : Nat) (h1 : L.drop n = L_h1) (h2 : idsFree (L.take n) (loopOf Tryd.f61 0) = true) : ∀ st K r, g_h0 st K = some r → ∃ N, iter (evC ((cb_l4).withLoops (look L)) (loopOf Tryd.f61 0)) (headAt ((cb_l4).withLoops (look L)) 4) N st K = some r :=
 with_drop h1 h2 (gP_ok (fun v => match v with | ((s, n, i, ()), (g, ch, ())) => mu_h0 s n i g ch) fun v K hI => by
  obtain ⟨⟨(s : Str), (n : Int), (i : Int), ⟨⟩⟩, ⟨(g : Gram), (ch : List (List (List Bool))), ⟨⟩⟩⟩ := v
  rcases r_h0 s n i g ch K hI with h1 | ⟨s', n', i', g', ch', h1, h2, h3, h4⟩
  ·exact .inl h1
  ·exact .inr ⟨((s', n', i', ()), (g', ch', ())), h1, h2, h3, h4⟩)
theorem y_spec_l4Chart (g : Gram) (s : Str) : evFn cx_h0 Tryd.f61 false [ofD TG g, ofD .str s] [] = (
need (pre_h0 s (W64 ((s.length : Int) + 1)) 0 g []) <|
need (pre_h2 s (W64 ((s.length : Int) + 1)) true g (id (List.replicate ((5 : Int) - 0).toNat (List.replicate (W64 ((s.length : Int) + 1)).toNat (List.replicate (W64 ((s.length : Int) + 1)).toNat false))))) <| some ((.d (.one (.dsl 1000 ([])))), [(1000, (.some (.deep (ts3) (TC2) (bif true then runC hasN (keysE (List.length s + 1)) (stepE s) (visE (List.length s + 1) g.snd) (id (List.replicate ((5 : Int) - 0).toNat (List.replicate (W64 ((s.length : Int) + 1)).toNat (List.replicate (W64 ((s.length : Int) + 1)).toNat false)))) else id (List.replicate ((5 : Int) - 0).toNat (List.replicate (W64 ((s.length : Int) + 1)).toNat (List.replicate (W64 ((s.length : Int) + 1)).toNat false)))))))])) := by kernel_rfl
theorem s_spec_l4Chart (g : Gram) (_hg : Fit TG g) (s : Str) (_hs : Fit .str s) (hpre : (okRp g.2 && Nat.ble (List.length s) 1000) = true) : Sat Tryd.prog 61 [ofD TG g, ofD .str s] [] (.d (.one (.dsl 1000 []))) ([(1000, some (.deep ts3 TC2 (chartC s g.2)))]) :=
 fn_sound (cx := cx_h0) Tryd.func61 rfl ttOk Γ66ok mixed (fun c hc => LoopsOk.all (l := [(4, loopOf Tryd.f61 0), (8, loopOf Tryd.f61 1), (13, loopOf Tryd.f61 2), (16, loopOf Tryd.f61 3), (20, loopOf Tryd.f61 4), (24, loopOf Tryd.f61 5)]) (by cases hc; kernel_rfl) ⟨atLoop rfl (l_h0 1 rfl (by kernel_rfl)), atLoop rfl (l_h1 2 rfl (by kernel_rfl)), atLoop rfl (l_h2 3 rfl (by kernel_rfl)), atLoop rfl (l_h3 4 rfl (by kernel_rfl)), atLoop rfl (l_h4 5 rfl (by kernel_rfl)), atLoop rfl (l_h5 6 rfl (by kernel_rfl)), trivial⟩) (ro := false) (by
  obtain ⟨h1, h2⟩ := andd.1 hpre
  have h2 := ble_iff.1 h2
  have w : W64 ((List.length s : Int) + 1) = (List.length s : Int) + 1 := wrap_small (by omega) (by omega)
  have e1 : ((List.length s : Int) + 1).toNat = List.length s + 1 := by omega
  have e2 : ((5 : Int) - 0).toNat = 5 := rfl
  have p0 : pre_h0 s ((List.length s : Int) + 1) 0 g [] = true := by
   simp only [pre_h0, andd, dec_iff]
   exact ⟨Int.le_refl 0, by omega, by omega, by omega, rfl⟩
  have p2 : pre_h2 s ((List.length s : Int) + 1) true g (zeroC (List.length s + 1)) = true := by
   simp only [pre_h2, andd, dec_iff, ble_iff]
   exact ⟨trivial, zero_ok, h1, h2⟩
  rw [y_spec_l4Chart, w, e1, e2]
  change need (pre_h0 s ((List.length s : Int) + 1) 0 g []) (need (pre_h2 s ((List.length s : Int) + 1) true g (zeroC (List.length s + 1))) _) = _
  rw [p0, p2]; rfl)
noncomputable def c_spec_l4Chart : Con := conN [TG, .str] fun (g : Gram) (s : Str) => (some (okRp g.2 && Nat.ble (List.length s) 1000), .d (.one (.dsl 1000 [])), [(1000, some (.deep ts3 TC2 (chartC s g.2)))])
theorem k_spec_l4Chart : ConOk Tryd.prog 61 c_spec_l4Chart := conN_ok Tryd.call61 fun g hg s hs hqq => s_spec_l4Chart g hg s hs (pre_of hqq)
noncomputable def Γ67 : List (Nat × Con) := (61, c_spec_l4Chart) :: Γ66
theorem Γ67ok : EnvOk Tryd.prog (look Γ67) := .cons k_spec_l4Chart Γ66ok
theorem ok_rp {g : Gram} (h : okG g = true) : okRp g.2 = true := by
 obtain ⟨_, h2, h3⟩ := okG_iff h
 refine okRp_iff.2 ⟨by omega, fun r hr => ?_⟩
 obtain ⟨r1, r2⟩ := h3 r hr
 obtain ⟨r3, r4⟩ := areS_iff r2
 exact ⟨r1, by omega, List.all_eq_true.2 r3⟩
theorem charts_same {g : Gram} {s a : Str} {i j : Int} (h : okG g = true) (ha : bigS a = true) (i0 : 0 ≤ i) (j0 : 0 ≤ j) : atC (chartC s g.2) (byteAt a 0 - 65) i j = derB s (chartM s g.2) a i j := by
 have h1 := (chartC_iff (s := s) (ok_rp h) ha i0 j0).2
 have h2 : derB s (chartM s g.2) a i j = hasM (chartM s g.2) (a, i, j) := by
  unfold derB
  rw [big_not_small ha]; rfl
 rw [h2, Bool.eq_iff_iff]
 exact h1.trans chartM_iff.symm
theorem chart_ok {g : Gram} {s : Str} (h : okG g = true) : okC5 (List.length s + 1) (chartC s g.2) = true := (chartC_iff (s := s) (ok_rp h) (okG_big h) (Int.le_refl 0) (Int.le_refl 0)).1
theorem y_spec_l4Is (g : Gram) (s : Str) : evFn (cxOf Γ67 Tryd.f114.ntmps [] [] [] []) Tryd.f114 true [ofD TG g, ofD .str s] [] = (
need (okRp g.snd && s.length.ble 1000) <|
need (inb 0 (List.length g.fst)) <|
need (inb (W64 (IntKind.u8.wrap (byteAt g.fst 0 - 65))) (List.length (chartC s g.snd))) <|
need (inb 0 (List.getD (chartC s g.snd) (W64 (IntKind.u8.wrap (byteAt g.fst 0 - 65))).toNat []).length) <|
need (inb ((s.length : Int)) ((List.getD (chartC s g.snd) (W64 (IntKind.u8.wrap (byteAt g.fst 0 - 65))).toNat []).getD ((0 : Int).toNat) []).length) <| some ((vB (((List.getD (chartC s g.snd) (W64 (IntKind.u8.wrap (byteAt g.fst 0 - 65))).toNat []).getD ((0 : Int).toNat) []).getD ((s.length : Int)).toNat (dflt Ty.bool))), [])) := by kernel_rfl
theorem s_spec_l4Is (g : Gram) (_hg : Fit TG g) (s : Str) (_hs : Fit .str s) (hpre : (okG g && Nat.ble (List.length s) 1000) = true) : Sat Tryd.prog 114 [ofD TG g, ofD .str s] [] (.d (ofD .bool (isD g s))) [] :=
 fn_sound (cx := cxOf Γ67 Tryd.f114.ntmps [] [] [] []) Tryd.func114 rfl ttOk Γ67ok mixed (fun _ _ => LoopsOk.no fun _ => rfl) (ro := true) (by
  obtain ⟨h1, h2⟩ := andd.1 hpre
  have hb := okG_big h1
  obtain ⟨_, k0, k1⟩ := sgn_big hb
  have w : W64 (IntKind.u8.wrap (byteAt g.1 0 - 65)) = byteAt g.1 0 - 65 := key_wrap (r := (g.1, [])) hb
  obtain ⟨l1, l2, l3⟩ := okC5_at (chart_ok (s := s) h1) k0 k1 (i := 0) (Int.le_refl 0) (by omega)
  have e : isD g s = atC (chartC s g.2) (byteAt g.1 0 - 65) 0 (List.length s : Int) := (charts_same h1 hb (Int.le_refl 0) (by omega)).symm
  have l0 : inb 0 (List.length g.1) = true := by
   obtain ⟨c, e, _⟩ := bigS_one hb
   rw [e]; rfl
  have kk : (okRp g.2 && (List.length s).ble 1000) = true := andd.2 ⟨ok_rp h1, h2⟩
  rw [y_spec_l4Is, w, e, kk, l0]
  change need true (need true (need (inb (byteAt g.1 0 - 65) (List.length (chartC s g.2))) (need (inb 0 (List.length (List.getD (chartC s g.2) (byteAt g.1 0 - 65).toNat []))) (need (inb (List.length s : Int) (List.length (List.getD (List.getD (chartC s g.2) (byteAt g.1 0 - 65).toNat []) (0 : Int).toNat []))) _)))) = _
  rw [l1, l2, l3, inb_ok k0 (by omega), inb_ok (Int.le_refl 0) (by omega), inb_ok (by omega) (by omega)]; rfl)
noncomputable def c_spec_l4Is : Con := conT [TG, .str] fun (g : Gram) (s : Str) => (some (okG g && Nat.ble (List.length s) 1000), .d (ofD .bool (isD g s)))
theorem k_spec_l4Is : ConOk Tryd.prog 114 c_spec_l4Is := conT_ok Tryd.call114 fun g hg s hs hqq => s_spec_l4Is g hg s hs (pre_of hqq)
noncomputable def Γ68 : List (Nat × Con) := (114, c_spec_l4Is) :: Γ67
theorem Γ68ok : EnvOk Tryd.prog (look Γ68) := .cons k_spec_l4Is Γ67ok
end Go.Proofs.YtbijdgkkneffgaaDoor.Ev
