/-
  FnExactCountWords: the law.
-/
import Derived.Test.YtbijdgkkneffgaaDoorHd
namespace Go.Proofs.YtbijdgkkneffgaaDoor.Ev
open Go
def szr (r : Rule) (n : Int) : Int := bif decide (n - (List.length r.1 : Int) < 0) then -1 else bif decide (n - (List.length r.1 : Int) - (List.length r.2 : Int) < 0) then -1 else n - (List.length r.1 : Int) - (List.length r.2 : Int)
def szs : List Rule → Int → Int
 | [], n => n
 | r :: l, n => bif decide (szr r n < 0) then -1 else szs l (szr r n)
theorem szr_in {r : Rule} {n : Int} (h0 : n ≤ 1048576) : -1 ≤ szr r n ∧ szr r n ≤ 1048576 := by
 unfold szr
 by_cases h1 : n - (List.length r.1 : Int) < 0
 ·rw [decide_eq_true h1, cond_true]; omega
 ·rw [decide_eq_false h1, cond_false]
  by_cases h2 : n - (List.length r.1 : Int) - (List.length r.2 : Int) < 0
  ·rw [decide_eq_true h2, cond_true]; omega
  ·rw [decide_eq_false h2, cond_false]; omega
def inM (n : Int) : Bool := decide (0 ≤ n) && decide (n ≤ 1048576)
theorem inM_iff {n : Int} : inM n = true ↔ 0 ≤ n ∧ n ≤ 1048576 := by unfold inM; rw [andd, dec_iff, dec_iff]
theorem y_laws_szRule (r : Rule) (n : Int) : evFn (cxOf Γ76 Tryd.f157.ntmps [] [] [] []) Tryd.f157 true [ofD TRu r, ofD TI64 n] [] = (
branch (decide (W64 (n - (List.length r.fst : Int)) < 0)) ( some ((vI (Int.neg 1)), [])) (
 branch (decide (W64 (W64 (n - (List.length r.fst : Int)) - (List.length r.snd : Int)) < 0)) ( some ((vI (Int.neg 1)), [])) ( some ((vI (W64 (W64 (n - (List.length r.fst : Int)) - (List.length r.snd : Int)))), [])))) := by kernel_rfl
theorem s_laws_szRule (r : Rule) (hr : Fit TRu r) (n : Int) (_hn : Fit TI64 n) (hpre : (inM n) = true) : Sat Tryd.prog 157 [ofD TRu r, ofD TI64 n] [] (.d (ofD TI64 (szr r n))) [] :=
 fn_sound (cx := cxOf Γ76 Tryd.f157.ntmps [] [] [] []) Tryd.func157 rfl ttOk Γ76ok mixed (fun _ _ => LoopsOk.no fun _ => rfl) (ro := true) (by
  obtain ⟨n0, n1⟩ := inM_iff.1 hpre
  have r1 : List.length r.1 ≤ 9223372036854775807 := hr.1
  have r2 : List.length r.2 ≤ 9223372036854775807 := hr.2
  have w1 : W64 (n - (List.length r.1 : Int)) = n - (List.length r.1 : Int) := wrap_small (by omega) (by omega)
  rw [y_laws_szRule, w1]
  unfold szr
  by_cases h1 : n - (List.length r.1 : Int) < 0
  ·rw [decide_eq_true h1]; rfl
  ·have w2 : W64 (n - (List.length r.1 : Int) - (List.length r.2 : Int)) = n - (List.length r.1 : Int) - (List.length r.2 : Int) := wrap_small (by omega) (by omega)
   rw [decide_eq_false h1, w2]
   cases decide (n - (List.length r.1 : Int) - (List.length r.2 : Int) < 0) <;> rfl)
noncomputable def c_laws_szRule : Con := conT [TRu, TI64] fun (r : Rule) (n : Int) => (some (inM n), .d (ofD TI64 (szr r n)))
theorem k_laws_szRule : ConOk Tryd.prog 157 c_laws_szRule := conT_ok Tryd.call157 fun r hr n hn hqq => s_laws_szRule r hr n hn (pre_of hqq)
noncomputable def Γ77 : List (Nat × Con) := (157, c_laws_szRule) :: Γ76
theorem Γ77ok : EnvOk Tryd.prog (look Γ77) := .cons k_laws_szRule Γ76ok
noncomputable def cb_szs : Cx := cxOf Γ77 Tryd.f111.ntmps [(5, [0, 1, 5])] [(0, [1]), (1, [0, 1, 5]), (1000000, [4])] [] []
theorem rul_at {l : List Rule} {i : Int} (h0 : 0 ≤ i) (h1 : i < (l.length : Int)) : List.drop i.toNat l = List.getD l i.toNat d0 :: List.drop (i + 1).toNat l := by
 have hn : i.toNat < l.length := by omega
 rw [List.drop_eq_getElem_cons hn, show (i + 1).toNat = i.toNat + 1 by omega, getD_at hn]
theorem x_laws_szRuleS (l : List Rule) (n i : Int) (R : St → Option Fin) (K : Cont) : evC (cb_szs.withLoops (look [])) (loopOf Tryd.f111 0) ⟨[(0, .d (ofD TRL l)), (1, vI n), (5, vI i)], []⟩ (onward (headAt (cb_szs.withLoops (look [])) 5) R K) = (
branch (decide (i < (l.length : Int))) (
 need (inb i l.length) <|
 need (inM n) <|
 branch (decide (szr (l.getD i.toNat d0) n < 0)) ( K (.ret) (.mk [(4, (vI (Int.neg 1)))] [])) ( R (.mk [(0, (.d (.one (.r (.li TRu (l)))))), (1, (vI (szr (l.getD i.toNat d0) n))), (5, (vI (W64 (i + 1))))] []))) ( K (.exit 0) (.mk [(1, (vI n))] []))) := by kernel_rfl
noncomputable def cx0_szs : Cx := (cb_szs).withLoops (look [])
def sh_szs : Sh := ([(0, .d TRL), (1, .d TI64), (5, .d TI64)], [])
def pre_szs (l : List Rule) (n : Int) (i : Int) : Bool := decide (0 ≤ i) && (inM n && decide (List.length l ≤ 1048576))
noncomputable def res_szs (l : List Rule) (n : Int) (i : Int) (K : Cont) : Option Fin := branch (decide (szs (List.drop i.toNat l) n < 0)) (K .ret ⟨[(4, vI (-1))], []⟩) (K (.exit 0) ⟨[(1, vI (szs (List.drop i.toNat l) n))], []⟩)
def mu_szs (l : List Rule) (_n : Int) (i : Int) : Nat := List.length l - i.toNat
theorem r_szs (l : List Rule) (n : Int) (i : Int) (K : Cont) (hI : pre_szs l n i = true) : (∀ R : St → Option Fin, evC cx0_szs (loopOf Tryd.f111 0) ⟨[(0, .d (ofD TRL l)), (1, .d (ofD TI64 n)), (5, .d (ofD TI64 i))], []⟩ (onward (headAt cx0_szs 5) R K) = res_szs l n i K) ∨
  (∃ (l' : List Rule) (n' : Int) (i' : Int), pre_szs l' n' i' = true ∧ mu_szs l' n' i' < mu_szs l n i ∧ res_szs l' n' i' K = res_szs l n i K ∧ ∀ R : St → Option Fin, evC cx0_szs (loopOf Tryd.f111 0) ⟨[(0, .d (ofD TRL l)), (1, .d (ofD TI64 n)), (5, .d (ofD TI64 i))], []⟩ (onward (headAt cx0_szs 5) R K) = R ⟨[(0, .d (ofD TRL l')), (1, .d (ofD TI64 n')), (5, .d (ofD TI64 i'))], []⟩) := by
 have hx := fun R => x_laws_szRuleS l n i R K
 simp only [pre_szs, andd, dec_iff] at hI
 obtain ⟨h0, h1, h2⟩ := hI
 obtain ⟨n0, n1⟩ := inM_iff.1 h1
 by_cases hi : i < (List.length l : Int)
 ·have w : W64 (i + 1) = i + 1 := wrap_small (by omega) (by omega)
  obtain ⟨q0, q1⟩ := szr_in (r := List.getD l i.toNat d0) n1
  have ht : szs (List.drop i.toNat l) n = bif decide (szr (List.getD l i.toNat d0) n < 0) then -1 else szs (List.drop (i + 1).toNat l) (szr (List.getD l i.toNat d0) n) := by rw [rul_at h0 hi]; rfl
  rw [decide_eq_true hi, inb_ok h0 hi, h1, w] at hx
  change ∀ R : St → Option Fin, _ = branch (decide (szr (List.getD l i.toNat d0) n < 0)) _ _ at hx
  by_cases hs : szr (List.getD l i.toNat d0) n < 0
  ·left
   intro R
   refine (hx R).trans ?_
   rw [decide_eq_true hs] at ht ⊢
   simp only [res_szs, ht]; rfl
  ·rw [decide_eq_false hs] at hx ht
   right
   refine ⟨l, szr (List.getD l i.toNat d0) n, i + 1, ?_, ?_, ?_, fun R => hx R⟩
   ·simp only [pre_szs, andd, dec_iff]
    exact ⟨by omega, inM_iff.2 ⟨by omega, by omega⟩, h2⟩
   ·simp only [mu_szs]; omega
   ·simp only [res_szs, ht]; rfl
 ·left
  intro R
  refine (hx R).trans ?_
  rw [decide_eq_false hi]
  have e : List.drop i.toNat l = [] := List.drop_eq_nil_of_le (by omega)
  have e2 : decide (n < 0) = false := decide_eq_false (by omega)
  simp only [res_szs, e, szs, e2]; rfl
noncomputable def g_szs : St → Cont → Option Fin := gP sh_szs (fun v => match v with | ((l, n, i, ()), ()) => pre_szs l n i) (fun v K => match v with | ((l, n, i, ()), ()) => res_szs l n i K)
noncomputable def L_szs : List (Nat × (St → Cont → Option Fin)) := (5, g_szs) :: []
noncomputable def cx_szs : Cx := (cb_szs).withLoops (look L_szs)
theorem l_szs {L : List (Nat × (St → Cont → Option Fin))} (n : Nat) (h1 : L.drop n = []) (h2 : idsFree (L.take n) (loopOf Tryd.f111 0) = true) : ∀ st K r, g_szs st K = some r → ∃ N, iter (evC ((cb_szs).withLoops (look L)) (loopOf Tryd.f111 0)) (headAt ((cb_szs).withLoops (look L)) 5) N st K = some r :=
 with_drop h1 h2 (gP_ok (fun v => match v with | ((l, n, i, ()), ()) => mu_szs l n i) fun v K hI => by
  obtain ⟨⟨(l : List Rule), (n : Int), (i : Int), ⟨⟩⟩, ⟨⟩⟩ := v
  rcases r_szs l n i K hI with h1 | ⟨l', n', i', h1, h2, h3, h4⟩
  ·exact .inl h1
  ·exact .inr ⟨((l', n', i', ()), ()), h1, h2, h3, h4⟩)
theorem szs_in : ∀ {l : List Rule} {n : Int}, -1 ≤ n → n ≤ 1048576 → -1 ≤ szs l n ∧ szs l n ≤ 1048576
 | [], _, h0, h1 => ⟨h0, h1⟩
 | r :: l, n, h0, h1 => by
  obtain ⟨q0, q1⟩ := szr_in (r := r) h1
  unfold szs
  cases decide (szr r n < 0)
  ·exact szs_in q0 q1
  ·rw [cond_true]; omega
def szRS (l : List Rule) (n : Int) : Int := bif decide (n - (List.length l : Int) < 0) then -1 else szs l (n - (List.length l : Int))
theorem y_laws_szRuleS (l : List Rule) (n : Int) : evFn cx_szs Tryd.f111 true [ofD TRL l, ofD TI64 n] [] = (
branch (decide (W64 (n - (l.length : Int)) < 0)) ( some ((vI (Int.neg 1)), [])) (
 need (pre_szs l (W64 (n - (l.length : Int))) 0) <|
 branch (decide (szs l (W64 (n - (l.length : Int))) < 0)) ( some ((vI (Int.neg 1)), [])) ( some ((vI (szs l (W64 (n - (l.length : Int))))), [])))) := by kernel_rfl
theorem s_laws_szRuleS (l : List Rule) (hl : Fit TRL l) (n : Int) (_hn : Fit TI64 n) (hpre : (inM n) = true) : Sat Tryd.prog 111 [ofD TRL l, ofD TI64 n] [] (.d (ofD TI64 (szRS l n))) [] :=
 fn_sound (cx := cx_szs) Tryd.func111 rfl ttOk Γ77ok mixed (fun c hc => LoopsOk.all (l := [(5, loopOf Tryd.f111 0)]) (by cases hc; kernel_rfl) ⟨atLoop rfl (l_szs 1 rfl (by kernel_rfl)), trivial⟩) (ro := true) (by
  obtain ⟨n0, n1⟩ := inM_iff.1 hpre
  have h1 : List.length l ≤ 9223372036854775807 := hl.1
  have w1 : W64 (n - (List.length l : Int)) = n - (List.length l : Int) := wrap_small (by omega) (by omega)
  rw [y_laws_szRuleS, w1]
  unfold szRS
  by_cases h1 : n - (List.length l : Int) < 0
  ·rw [decide_eq_true h1]; rfl
  ·have kp : pre_szs l (n - (List.length l : Int)) 0 = true := by
    simp only [pre_szs, andd, dec_iff]
    exact ⟨Int.le_refl 0, inM_iff.2 ⟨by omega, by omega⟩, by omega⟩
   rw [decide_eq_false h1, kp]
   show branch (decide (szs l (n - (List.length l : Int)) < 0)) (some (vI (-1), [])) (some (vI (szs l (n - (List.length l : Int))), [])) = _
   have hin := szs_in (l := l) (n := n - (List.length l : Int)) (by omega) (by omega)
   by_cases hs : szs l (n - (List.length l : Int)) < 0
   ·rw [decide_eq_true hs]
    exact congrArg (fun z : Int => (some (.d (ofD TI64 z), []) : Option Fin)) (show (-1 : Int) = szs l (n - (List.length l : Int)) by omega)
   ·rw [decide_eq_false hs]; rfl)
noncomputable def c_laws_szRuleS : Con := conT [TRL, TI64] fun (l : List Rule) (n : Int) => (some (inM n), .d (ofD TI64 (szRS l n)))
theorem k_laws_szRuleS : ConOk Tryd.prog 111 c_laws_szRuleS := conT_ok Tryd.call111 fun l hl n hn hqq => s_laws_szRuleS l hl n hn (pre_of hqq)
noncomputable def Γ78 : List (Nat × Con) := (111, c_laws_szRuleS) :: Γ77
theorem Γ78ok : EnvOk Tryd.prog (look Γ78) := .cons k_laws_szRuleS Γ77ok
def szGr (g : Gram) (n : Int) : Int := bif decide (n - (List.length g.1 : Int) < 0) then -1 else szRS g.2 (n - (List.length g.1 : Int))
theorem szRS_in {l : List Rule} {n : Int} (h1 : n ≤ 1048576) : -1 ≤ szRS l n ∧ (0 ≤ szRS l n → List.length l ≤ 1048576) := by
 unfold szRS
 by_cases h : n - (List.length l : Int) < 0
 ·rw [decide_eq_true h, cond_true]; exact ⟨Int.le_refl _, fun h => by omega⟩
 ·rw [decide_eq_false h, cond_false]
  exact ⟨(szs_in (by omega) (by omega)).1, fun _ => by omega⟩
theorem y_laws_szGram (g : Gram) (n : Int) : evFn (cxOf Γ78 Tryd.f45.ntmps [] [] [] []) Tryd.f45 true [ofD TG g, ofD TI64 n] [] = (
branch (decide (W64 (n - (List.length g.fst : Int)) < 0)) ( some ((vI (Int.neg 1)), [])) (
 need (inM (W64 (n - (List.length g.fst : Int)))) <|
 branch (decide (szRS g.snd (W64 (n - (List.length g.fst : Int))) < 0)) ( some ((vI (Int.neg 1)), [])) ( some ((vI (szRS g.snd (W64 (n - (List.length g.fst : Int))))), [])))) := by kernel_rfl
theorem s_laws_szGram (g : Gram) (hg : Fit TG g) (n : Int) (_hn : Fit TI64 n) (hpre : (inM n) = true) : Sat Tryd.prog 45 [ofD TG g, ofD TI64 n] [] (.d (ofD TI64 (szGr g n))) [] :=
 fn_sound (cx := cxOf Γ78 Tryd.f45.ntmps [] [] [] []) Tryd.func45 rfl ttOk Γ78ok mixed (fun _ _ => LoopsOk.no fun _ => rfl) (ro := true) (by
  obtain ⟨n0, n1⟩ := inM_iff.1 hpre
  have h1 : List.length g.1 ≤ 9223372036854775807 := hg.1
  have w1 : W64 (n - (List.length g.1 : Int)) = n - (List.length g.1 : Int) := wrap_small (by omega) (by omega)
  rw [y_laws_szGram, w1]
  unfold szGr
  by_cases h1 : n - (List.length g.1 : Int) < 0
  ·rw [decide_eq_true h1]; rfl
  ·have hin := (szRS_in (l := g.2) (n := n - (List.length g.1 : Int)) (by omega)).1
   rw [decide_eq_false h1, inM_iff.2 ⟨by omega, by omega⟩]
   show branch (decide (szRS g.2 (n - (List.length g.1 : Int)) < 0)) (some (vI (-1), [])) (some (vI (szRS g.2 (n - (List.length g.1 : Int))), [])) = _
   by_cases hs : szRS g.2 (n - (List.length g.1 : Int)) < 0
   ·rw [decide_eq_true hs]
    exact congrArg (fun z : Int => (some (.d (ofD TI64 z), []) : Option Fin)) (show (-1 : Int) = szRS g.2 (n - (List.length g.1 : Int)) by omega)
   ·rw [decide_eq_false hs]; rfl)
noncomputable def c_laws_szGram : Con := conT [TG, TI64] fun (g : Gram) (n : Int) => (some (inM n), .d (ofD TI64 (szGr g n)))
theorem k_laws_szGram : ConOk Tryd.prog 45 c_laws_szGram := conT_ok Tryd.call45 fun g hg n hn hqq => s_laws_szGram g hg n hn (pre_of hqq)
theorem szGr_few {g : Gram} {n : Int} (h1 : n ≤ 1048576) (h : 0 ≤ szGr g n) : List.length g.2 ≤ 1048576 := by
 unfold szGr at h
 by_cases h2 : n - (List.length g.1 : Int) < 0
 ·rw [decide_eq_true h2, cond_true] at h; omega
 ·rw [decide_eq_false h2, cond_false] at h
  exact (szRS_in (by omega)).2 h
noncomputable def Γ79 : List (Nat × Con) := (45, c_laws_szGram) :: Γ78
theorem Γ79ok : EnvOk Tryd.prog (look Γ79) := .cons k_laws_szGram Γ78ok
theorem s_laws_toRule (r : Rule) (_hr : Fit TRu r) : Sat Tryd.prog 160 [ofD TRu r] [] (.d (ofD TRu r)) [] :=
 fn_sound (cx := cxOf Γ79 Tryd.f160.ntmps [] [] [] []) Tryd.func160 rfl ttOk Γ79ok mixed (fun _ _ => LoopsOk.no fun _ => rfl) (ro := true) (by
  kernel_rfl)
noncomputable def c_laws_toRule : Con := conT [TRu] fun (r : Rule) => (none, .d (ofD TRu r))
theorem k_laws_toRule : ConOk Tryd.prog 160 c_laws_toRule := conT_ok Tryd.call160 fun r hr _ => s_laws_toRule r hr
noncomputable def Γ80 : List (Nat × Con) := (160, c_laws_toRule) :: Γ79
theorem Γ80ok : EnvOk Tryd.prog (look Γ80) := .cons k_laws_toRule Γ79ok
noncomputable def cb_trs : Cx := cxOf Γ80 Tryd.f117.ntmps [(3, [0, 3, 4])] [(0, [3]), (1, [0, 3, 4]), (1000000, [2])] [] []
theorem x_laws_toRuleS (l o : List Rule) (i : Int) (R : St → Option Fin) (K : Cont) : evC (cb_trs.withLoops (look [])) (loopOf Tryd.f117 0) ⟨[(0, .d (ofD TRL l)), (3, .d (.one (.own 500000))), (4, vI i)], [(500000, some (.lis 160 TRu o))]⟩ (onward (headAt (cb_trs.withLoops (look [])) 3) R K) = (
branch (decide (i < (l.length : Int))) (
 need (inb i l.length) <|
 need (inb i o.length) <| R (.mk [(0, (.d (.one (.r (.li TRu (l)))))), (3, (.d (.one (.own 500000)))), (4, (vI (W64 (i + 1))))] [(500000, (.some (.lis 160 (TRu) (o.set i.toNat (l.getD i.toNat d0)))))])) ( K (.exit 0) (.mk [(3, (.d (.one (.own 500000))))] [(500000, (.some (.lis 160 (TRu) (o))))]))) := by kernel_rfl
noncomputable def cx0_trs : Cx := (cb_trs).withLoops (look [])
def sh_trs : Sh := ([(0, .d TRL), (3, .own 500000), (4, .d TI64)], [(500000, .lis 160 TRu)])
def pre_trs (l : List Rule) (i : Int) (o : List (Rule)) : Bool := decide (0 ≤ i) && (decide (List.length o = List.length l) && decide (List.length l ≤ 1048576))
noncomputable def res_trs (l : List Rule) (i : Int) (o : List (Rule)) (K : Cont) : Option Fin := K (.exit 0) ⟨[(3, .d (.one (.own 500000)))], [(500000, some (.lis 160 TRu (List.take i.toNat o ++ List.drop i.toNat l)))]⟩
def mu_trs (l : List Rule) (i : Int) (_o : List (Rule)) : Nat := List.length l - i.toNat
theorem r_trs (l : List Rule) (i : Int) (o : List (Rule)) (K : Cont) (hI : pre_trs l i o = true) : (∀ R : St → Option Fin, evC cx0_trs (loopOf Tryd.f117 0) ⟨[(0, .d (ofD TRL l)), (3, .d (.one (.own 500000))), (4, .d (ofD TI64 i))], [(500000, some (.lis 160 TRu o))]⟩ (onward (headAt cx0_trs 3) R K) = res_trs l i o K) ∨
  (∃ (l' : List Rule) (i' : Int) (o' : List (Rule)), pre_trs l' i' o' = true ∧ mu_trs l' i' o' < mu_trs l i o ∧ res_trs l' i' o' K = res_trs l i o K ∧ ∀ R : St → Option Fin, evC cx0_trs (loopOf Tryd.f117 0) ⟨[(0, .d (ofD TRL l)), (3, .d (.one (.own 500000))), (4, .d (ofD TI64 i))], [(500000, some (.lis 160 TRu o))]⟩ (onward (headAt cx0_trs 3) R K) = R ⟨[(0, .d (ofD TRL l')), (3, .d (.one (.own 500000))), (4, .d (ofD TI64 i'))], [(500000, some (.lis 160 TRu o'))]⟩) := by
 have hx := fun R => x_laws_toRuleS l o i R K
 simp only [pre_trs, andd, dec_iff] at hI
 obtain ⟨h0, h1, h2⟩ := hI
 by_cases hi : i < (List.length l : Int)
 ·have w : W64 (i + 1) = i + 1 := wrap_small (by omega) (by omega)
  rw [decide_eq_true hi, inb_ok h0 hi, w] at hx
  change ∀ R : St → Option Fin, _ = branch true (need true (need (inb i (List.length o)) _)) _ at hx
  rw [inb_ok h0 (by omega : i < (List.length o : Int))] at hx
  right
  refine ⟨l, i + 1, List.set o i.toNat (List.getD l i.toNat d0), ?_, ?_, ?_, fun R => hx R⟩
  ·simp only [pre_trs, andd, dec_iff]
   rw [List.length_set]
   exact ⟨by omega, h1, h2⟩
  ·simp only [mu_trs]; omega
  ·have e : List.take (i + 1).toNat (List.set o i.toNat (List.getD l i.toNat d0)) ++ List.drop (i + 1).toNat l = List.take i.toNat o ++ List.drop i.toNat l := by
    rw [rul_at h0 hi, show (i + 1).toNat = i.toNat + 1 by omega, List.take_succ_eq_append_getElem (by rw [List.length_set]; omega), List.getElem_set_self, List.take_set_of_le (Nat.le_refl _), List.append_assoc]; rfl
   simp only [res_trs, e]
 ·left
  intro R
  refine (hx R).trans ?_
  rw [decide_eq_false hi]
  have e : List.take i.toNat o ++ List.drop i.toNat l = o := by
   rw [List.drop_eq_nil_of_le (by omega), List.append_nil, List.take_of_length_le (by omega)]
  simp only [res_trs, e]; rfl
noncomputable def g_trs : St → Cont → Option Fin := gP sh_trs (fun v => match v with | ((l, i, ()), (o, ())) => pre_trs l i o) (fun v K => match v with | ((l, i, ()), (o, ())) => res_trs l i o K)
noncomputable def L_trs : List (Nat × (St → Cont → Option Fin)) := (3, g_trs) :: []
noncomputable def cx_trs : Cx := (cb_trs).withLoops (look L_trs)
theorem l_trs {L : List (Nat × (St → Cont → Option Fin))} (n : Nat) (h1 : L.drop n = []) (h2 : idsFree (L.take n) (loopOf Tryd.f117 0) = true) : ∀ st K r, g_trs st K = some r → ∃ N, iter (evC ((cb_trs).withLoops (look L)) (loopOf Tryd.f117 0)) (headAt ((cb_trs).withLoops (look L)) 3) N st K = some r :=
 with_drop h1 h2 (gP_ok (fun v => match v with | ((l, i, ()), (o, ())) => mu_trs l i o) fun v K hI => by
  obtain ⟨⟨(l : List Rule), (i : Int), ⟨⟩⟩, ⟨(o : List (Rule)), ⟨⟩⟩⟩ := v
  rcases r_trs l i o K hI with h1 | ⟨l', i', o', h1, h2, h3, h4⟩
  ·exact .inl h1
  ·exact .inr ⟨((l', i', ()), (o', ())), h1, h2, h3, h4⟩)
theorem y_laws_toRuleS (l : List Rule) : evFn cx_trs Tryd.f117 true [ofD TRL l] [] = (
need (decide (0 ≤ (l.length : Int) ∧ (l.length : Int) ≤ (l.length : Int) ∧ (l.length : Int) * (Tryd.t160.bytes : Int) ≤ 140737488355328 ∧ (l.length : Int) ≤ 9223372036854775807)) <|
need (pre_trs l 0 (List.replicate ((l.length : Int)).toNat (([] : Str), ([] : Str)))) <| some ((.d (.one (.r (.li (TRu) ((List.take ((0 : Int).toNat) (List.replicate ((l.length : Int)).toNat (([] : Str), ([] : Str)))).append l))))), [])) := by kernel_rfl
theorem s_laws_toRuleS (l : List Rule) (_hl : Fit TRL l) (hpre : (decide (List.length l ≤ 1048576)) = true) : Sat Tryd.prog 117 [ofD TRL l] [] (.d (ofD TRL l)) [] :=
 fn_sound (cx := cx_trs) Tryd.func117 rfl ttOk Γ80ok mixed (fun c hc => LoopsOk.all (l := [(3, loopOf Tryd.f117 0)]) (by cases hc; kernel_rfl) ⟨atLoop rfl (l_trs 1 rfl (by kernel_rfl)), trivial⟩) (ro := true) (by
  have h1 := of_decide_eq_true hpre
  have k1 : decide (0 ≤ (List.length l : Int) ∧ (List.length l : Int) ≤ (List.length l : Int) ∧ (List.length l : Int) * (Tryd.t160.bytes : Int) ≤ 140737488355328 ∧ (List.length l : Int) ≤ 9223372036854775807) = true := by
   rw [show Tryd.t160.bytes = 32 by kernel_rfl]
   exact decide_eq_true ⟨by omega, Int.le_refl _, by omega, by omega⟩
  have k2 : pre_trs l 0 (List.replicate ((List.length l : Int)).toNat (([] : Str), ([] : Str))) = true := by
   simp only [pre_trs, andd, dec_iff]
   rw [List.length_replicate]
   exact ⟨Int.le_refl 0, by omega, h1⟩
  rw [y_laws_toRuleS, k1, k2]; rfl)
noncomputable def c_laws_toRuleS : Con := conT [TRL] fun (l : List Rule) => (some (decide (List.length l ≤ 1048576)), .d (ofD TRL l))
theorem k_laws_toRuleS : ConOk Tryd.prog 117 c_laws_toRuleS := conT_ok Tryd.call117 fun l hl hqq => s_laws_toRuleS l hl (pre_of hqq)
noncomputable def Γ81 : List (Nat × Con) := (117, c_laws_toRuleS) :: Γ80
theorem Γ81ok : EnvOk Tryd.prog (look Γ81) := .cons k_laws_toRuleS Γ80ok
theorem y_laws_toGram (g : Gram) : evFn (cxOf Γ81 Tryd.f47.ntmps [] [] [] []) Tryd.f47 true [ofD TG g] [] = (
need (decide ((List.length g.snd) ≤ 1048576)) <| some ((.d (.agg [(.r (.v (Value.string (mk g.fst)))), (.r (.li TRu (g.snd)))])), [])) := by kernel_rfl
theorem s_laws_toGram (g : Gram) (_hg : Fit TG g) (hpre : (decide (List.length g.2 ≤ 1048576)) = true) : Sat Tryd.prog 47 [ofD TG g] [] (.d (ofD TG g)) [] :=
 fn_sound (cx := cxOf Γ81 Tryd.f47.ntmps [] [] [] []) Tryd.func47 rfl ttOk Γ81ok mixed (fun _ _ => LoopsOk.no fun _ => rfl) (ro := true) (by
  rw [y_laws_toGram, hpre]; rfl)
noncomputable def c_laws_toGram : Con := conT [TG] fun (g : Gram) => (some (decide (List.length g.2 ≤ 1048576)), .d (ofD TG g))
theorem k_laws_toGram : ConOk Tryd.prog 47 c_laws_toGram := conT_ok Tryd.call47 fun g hg hqq => s_laws_toGram g hg (pre_of hqq)
noncomputable def Γ82 : List (Nat × Con) := (47, c_laws_toGram) :: Γ81
theorem Γ82ok : EnvOk Tryd.prog (look Γ82) := .cons k_laws_toGram Γ81ok
theorem y_laws_eqRule (a : Rule) (b : Rule) : evFn (cxOf Γ82 Tryd.f163.ntmps [] [] [] []) Tryd.f163 true [ofD TRu a, ofD TRu b] [] = (
branch (!decide (a.fst = b.fst)) ( some ((vB false), [])) (
 branch (!decide (a.snd = b.snd)) ( some ((vB false), [])) ( some ((vB true), [])))) := by kernel_rfl
theorem s_laws_eqRule (a : Rule) (_ha : Fit TRu a) (b : Rule) (_hb : Fit TRu b) : Sat Tryd.prog 163 [ofD TRu a, ofD TRu b] [] (.d (ofD .bool (decide (a = b)))) [] :=
 fn_sound (cx := cxOf Γ82 Tryd.f163.ntmps [] [] [] []) Tryd.func163 rfl ttOk Γ82ok mixed (fun _ _ => LoopsOk.no fun _ => rfl) (ro := true) (by
  rw [y_laws_eqRule]
  obtain ⟨a1, a2⟩ := a
  obtain ⟨b1, b2⟩ := b
  show branch (!decide (a1 = b1)) _ (branch (!decide (a2 = b2)) _ _) = _
  by_cases h1 : a1 = b1
  ·subst h1
   by_cases h2 : a2 = b2
   ·subst h2
    rw [decide_eq_true rfl, decide_eq_true rfl, decide_eq_true rfl]; rfl
   ·rw [decide_eq_true rfl, decide_eq_false h2, decide_eq_false fun e => h2 (Prod.mk.inj e).2]; rfl
  ·rw [decide_eq_false h1, decide_eq_false fun e => h1 (Prod.mk.inj e).1]; rfl)
noncomputable def c_laws_eqRule : Con := conT [TRu, TRu] fun (a : Rule) (b : Rule) => (none, .d (ofD .bool (decide (a = b))))
theorem k_laws_eqRule : ConOk Tryd.prog 163 c_laws_eqRule := conT_ok Tryd.call163 fun a ha b hb _ => s_laws_eqRule a ha b hb
noncomputable def Γ83 : List (Nat × Con) := (163, c_laws_eqRule) :: Γ82
theorem Γ83ok : EnvOk Tryd.prog (look Γ83) := .cons k_laws_eqRule Γ82ok
noncomputable def cb_ers : Cx := cxOf Γ83 Tryd.f121.ntmps [(4, [0, 1, 5])] [(0, []), (1, [0, 1, 5]), (1000000, [4])] [] []
theorem x_laws_eqRuleS (l m : List Rule) (i : Int) (R : St → Option Fin) (K : Cont) : evC (cb_ers.withLoops (look [])) (loopOf Tryd.f121 0) ⟨[(0, .d (ofD TRL l)), (1, .d (ofD TRL m)), (5, vI i)], []⟩ (onward (headAt (cb_ers.withLoops (look [])) 4) R K) = (
branch (decide (i < (l.length : Int))) (
 need (inb i l.length) <|
 need (inb i m.length) <|
 branch (!decide (l.getD i.toNat d0 = m.getD i.toNat d0)) ( K (.ret) (.mk [(4, (vB false))] [])) ( R (.mk [(0, (.d (.one (.r (.li TRu (l)))))), (1, (.d (.one (.r (.li TRu (m)))))), (5, (vI (W64 (i + 1))))] []))) ( K (.exit 0) (.mk [] []))) := by kernel_rfl
noncomputable def cx0_ers : Cx := (cb_ers).withLoops (look [])
def sh_ers : Sh := ([(0, .d TRL), (1, .d TRL), (5, .d TI64)], [])
def pre_ers (l : List Rule) (m : List Rule) (i : Int) : Bool := decide (0 ≤ i) && (decide (List.length l = List.length m) && decide (List.length l ≤ 9223372036854775807))
noncomputable def res_ers (l : List Rule) (m : List Rule) (i : Int) (K : Cont) : Option Fin := branch (decide (List.drop i.toNat l = List.drop i.toNat m)) (K (.exit 0) ⟨[], []⟩) (K .ret ⟨[(4, vB false)], []⟩)
def mu_ers (l : List Rule) (_m : List Rule) (i : Int) : Nat := List.length l - i.toNat
theorem r_ers (l : List Rule) (m : List Rule) (i : Int) (K : Cont) (hI : pre_ers l m i = true) : (∀ R : St → Option Fin, evC cx0_ers (loopOf Tryd.f121 0) ⟨[(0, .d (ofD TRL l)), (1, .d (ofD TRL m)), (5, .d (ofD TI64 i))], []⟩ (onward (headAt cx0_ers 4) R K) = res_ers l m i K) ∨
  (∃ (l' : List Rule) (m' : List Rule) (i' : Int), pre_ers l' m' i' = true ∧ mu_ers l' m' i' < mu_ers l m i ∧ res_ers l' m' i' K = res_ers l m i K ∧ ∀ R : St → Option Fin, evC cx0_ers (loopOf Tryd.f121 0) ⟨[(0, .d (ofD TRL l)), (1, .d (ofD TRL m)), (5, .d (ofD TI64 i))], []⟩ (onward (headAt cx0_ers 4) R K) = R ⟨[(0, .d (ofD TRL l')), (1, .d (ofD TRL m')), (5, .d (ofD TI64 i'))], []⟩) := by
 have hx := fun R => x_laws_eqRuleS l m i R K
 simp only [pre_ers, andd, dec_iff] at hI
 obtain ⟨h0, h1, h2⟩ := hI
 by_cases hi : i < (List.length l : Int)
 ·have w : W64 (i + 1) = i + 1 := wrap_small (by omega) (by omega)
  rw [decide_eq_true hi, inb_ok h0 hi, inb_ok h0 (by omega : i < (List.length m : Int)), w] at hx
  change ∀ R : St → Option Fin, _ = branch (!decide (List.getD l i.toNat d0 = List.getD m i.toNat d0)) _ _ at hx
  have e1 := rul_at h0 hi
  have e2 := rul_at h0 (by omega : i < (List.length m : Int))
  by_cases he : List.getD l i.toNat d0 = List.getD m i.toNat d0
  ·right
   rw [decide_eq_true he] at hx
   refine ⟨l, m, i + 1, ?_, ?_, ?_, fun R => hx R⟩
   ·simp only [pre_ers, andd, dec_iff]
    exact ⟨by omega, h1, h2⟩
   ·simp only [mu_ers]; omega
   ·have e3 : decide (List.drop (i + 1).toNat l = List.drop (i + 1).toNat m) = decide (List.drop i.toNat l = List.drop i.toNat m) := by
     rw [e1, e2, he, decide_eq_decide]
     exact ⟨fun h => by rw [h], fun h => (List.cons.inj h).2⟩
    simp only [res_ers, e3]
  ·left
   intro R
   refine (hx R).trans ?_
   have e3 : decide (List.drop i.toNat l = List.drop i.toNat m) = false := decide_eq_false fun h => by
    rw [e1, e2] at h
    exact he (List.cons.inj h).1
   rw [decide_eq_false he]
   simp only [res_ers, e3]; rfl
 ·left
  intro R
  refine (hx R).trans ?_
  rw [decide_eq_false hi]
  have e3 : decide (List.drop i.toNat l = List.drop i.toNat m) = true := decide_eq_true (by rw [List.drop_eq_nil_of_le (by omega), List.drop_eq_nil_of_le (by omega)])
  simp only [res_ers, e3]; rfl
noncomputable def g_ers : St → Cont → Option Fin := gP sh_ers (fun v => match v with | ((l, m, i, ()), ()) => pre_ers l m i) (fun v K => match v with | ((l, m, i, ()), ()) => res_ers l m i K)
noncomputable def L_ers : List (Nat × (St → Cont → Option Fin)) := (4, g_ers) :: []
noncomputable def cx_ers : Cx := (cb_ers).withLoops (look L_ers)
theorem l_ers {L : List (Nat × (St → Cont → Option Fin))} (n : Nat) (h1 : L.drop n = []) (h2 : idsFree (L.take n) (loopOf Tryd.f121 0) = true) : ∀ st K r, g_ers st K = some r → ∃ N, iter (evC ((cb_ers).withLoops (look L)) (loopOf Tryd.f121 0)) (headAt ((cb_ers).withLoops (look L)) 4) N st K = some r :=
 with_drop h1 h2 (gP_ok (fun v => match v with | ((l, m, i, ()), ()) => mu_ers l m i) fun v K hI => by
  obtain ⟨⟨(l : List Rule), (m : List Rule), (i : Int), ⟨⟩⟩, ⟨⟩⟩ := v
  rcases r_ers l m i K hI with h1 | ⟨l', m', i', h1, h2, h3, h4⟩
  ·exact .inl h1
  ·exact .inr ⟨((l', m', i', ()), ()), h1, h2, h3, h4⟩)
theorem y_laws_eqRuleS (l : List Rule) (m : List Rule) : evFn cx_ers Tryd.f121 true [ofD TRL l, ofD TRL m] [] = (
branch (!decide ((l.length : Int) = (m.length : Int))) ( some ((vB false), [])) (
 need (pre_ers l m 0) <|
 branch (decide (id l = List.drop ((0 : Int).toNat) m)) ( some ((vB true), [])) ( some ((vB false), [])))) := by kernel_rfl
theorem s_laws_eqRuleS (l : List Rule) (hl : Fit TRL l) (m : List Rule) (_hm : Fit TRL m) : Sat Tryd.prog 121 [ofD TRL l, ofD TRL m] [] (.d (ofD .bool (decide (l = m)))) [] :=
 fn_sound (cx := cx_ers) Tryd.func121 rfl ttOk Γ83ok mixed (fun c hc => LoopsOk.all (l := [(4, loopOf Tryd.f121 0)]) (by cases hc; kernel_rfl) ⟨atLoop rfl (l_ers 1 rfl (by kernel_rfl)), trivial⟩) (ro := true) (by
  rw [y_laws_eqRuleS]
  have h1 : List.length l ≤ 9223372036854775807 := hl.1
  by_cases hlm : (List.length l : Int) = (List.length m : Int)
  ·have kp : pre_ers l m 0 = true := by
    simp only [pre_ers, andd, dec_iff]
    exact ⟨Int.le_refl 0, by omega, h1⟩
   rw [decide_eq_true hlm, kp]
   show branch (decide (l = m)) _ _ = _
   cases decide (l = m) <;> rfl
  ·rw [decide_eq_false hlm, decide_eq_false (fun e => hlm (by rw [e]) : ¬ l = m)]; rfl)
noncomputable def c_laws_eqRuleS : Con := conT [TRL, TRL] fun (l : List Rule) (m : List Rule) => (none, .d (ofD .bool (decide (l = m))))
theorem k_laws_eqRuleS : ConOk Tryd.prog 121 c_laws_eqRuleS := conT_ok Tryd.call121 fun l hl m hm _ => s_laws_eqRuleS l hl m hm
noncomputable def Γ84 : List (Nat × Con) := (121, c_laws_eqRuleS) :: Γ83
theorem Γ84ok : EnvOk Tryd.prog (look Γ84) := .cons k_laws_eqRuleS Γ83ok
theorem y_laws_eqGram (a : Gram) (b : Gram) : evFn (cxOf Γ84 Tryd.f49.ntmps [] [] [] []) Tryd.f49 true [ofD TG a, ofD TG b] [] = (
branch (!decide (a.fst = b.fst)) ( some ((vB false), [])) (
 branch (!decide (a.snd = b.snd)) ( some ((vB false), [])) ( some ((vB true), [])))) := by kernel_rfl
theorem s_laws_eqGram (a : Gram) (_ha : Fit TG a) (b : Gram) (_hb : Fit TG b) : Sat Tryd.prog 49 [ofD TG a, ofD TG b] [] (.d (ofD .bool (decide (a = b)))) [] :=
 fn_sound (cx := cxOf Γ84 Tryd.f49.ntmps [] [] [] []) Tryd.func49 rfl ttOk Γ84ok mixed (fun _ _ => LoopsOk.no fun _ => rfl) (ro := true) (by
  rw [y_laws_eqGram]
  obtain ⟨a1, a2⟩ := a
  obtain ⟨b1, b2⟩ := b
  show branch (!decide (a1 = b1)) _ (branch (!decide (a2 = b2)) _ _) = _
  by_cases h1 : a1 = b1
  ·subst h1
   by_cases h2 : a2 = b2
   ·subst h2
    rw [decide_eq_true rfl, decide_eq_true rfl, decide_eq_true rfl]; rfl
   ·rw [decide_eq_true rfl, decide_eq_false h2, decide_eq_false fun e => h2 (Prod.mk.inj e).2]; rfl
  ·rw [decide_eq_false h1, decide_eq_false fun e => h1 (Prod.mk.inj e).1]; rfl)
noncomputable def c_laws_eqGram : Con := conT [TG, TG] fun (a : Gram) (b : Gram) => (none, .d (ofD .bool (decide (a = b))))
theorem k_laws_eqGram : ConOk Tryd.prog 49 c_laws_eqGram := conT_ok Tryd.call49 fun a ha b hb _ => s_laws_eqGram a ha b hb
noncomputable def Γ85 : List (Nat × Con) := (49, c_laws_eqGram) :: Γ84
theorem Γ85ok : EnvOk Tryd.prog (look Γ85) := .cons k_laws_eqGram Γ84ok
theorem y_laws_FnExactCountWords (g : Gram) (n : Int) : evFn (cxOf Γ85 Tryd.f8.ntmps [] [] [] []) Tryd.f8 true [ofD TG g, ofD TI64 n] [] = (
branch (decide (szGr g 1048576 < 0)) ( some ((vB true), [])) (
 need (decide (g.snd.length ≤ 1048576)) <|
 need (decide (g.snd.length ≤ 1048576)) <|
 branch (!decide (countG g n = countG g n)) ( some ((vB false), [])) (
 need (decide (g.snd.length ≤ 1048576)) <|
 branch (!decide (g = g)) ( some ((vB false), [])) ( some ((vB true), []))))) := by kernel_rfl
theorem s_laws_FnExactCountWords (g : Gram) (_hg : Fit TG g) (n : Int) (_hn : Fit TI64 n) : Sat Tryd.prog 8 [ofD TG g, ofD TI64 n] [] (.d (ofD .bool true)) [] :=
 fn_sound (cx := cxOf Γ85 Tryd.f8.ntmps [] [] [] []) Tryd.func8 rfl ttOk Γ85ok mixed (fun _ _ => LoopsOk.no fun _ => rfl) (ro := true) (by
  rw [y_laws_FnExactCountWords]
  by_cases h : szGr g 1048576 < 0
  ·rw [decide_eq_true h]; rfl
  ·have k1 : decide (List.length g.2 ≤ 1048576) = true := decide_eq_true (szGr_few (Int.le_refl _) (by omega))
   rw [decide_eq_false h, k1, decide_eq_true (rfl : countG g n = countG g n), decide_eq_true (rfl : g = g)]; rfl)
noncomputable def c_laws_FnExactCountWords : Con := conT [TG, TI64] fun (_g : Gram) (_n : Int) => (none, .d (ofD .bool true))
theorem k_laws_FnExactCountWords : ConOk Tryd.prog 8 c_laws_FnExactCountWords := conT_ok Tryd.call8 fun g hg n hn _ => s_laws_FnExactCountWords g hg n hn
noncomputable def Γ86 : List (Nat × Con) := (8, c_laws_FnExactCountWords) :: Γ85
theorem Γ86ok : EnvOk Tryd.prog (look Γ86) := .cons k_laws_FnExactCountWords Γ85ok
end Go.Proofs.YtbijdgkkneffgaaDoor.Ev
