/-
  FnCountWords, FnCountSum: the laws.
-/
import Derived.Test.YtbijdgkkneffgaaDoorHdc
namespace Go.Proofs.YtbijdgkkneffgaaDoor.Ev
open Go
theorem cnt_filter {p f : Str → Bool} : ∀ {l : List Str} {m : Int}, cntF p (l.filter f) m = cntF (fun w => p w && f w) l m
 | [], _ => rfl
 | w :: l, m => by
  rw [List.filter_cons]
  cases hf : f w
  ·rw [if_neg (by simp), cnt_filter]
   conv => rhs; unfold cntF
   rw [hf, Bool.and_false, cond_false]
  ·rw [if_pos rfl]
   unfold cntF
   rw [cnt_filter, hf, Bool.and_true]
theorem cnt_len {f : Str → Bool} : ∀ {l : List Str} {m : Int}, cntF f l m = m + ((l.filter f).length : Int)
 | [], m => by show m = m + ((0 : Nat) : Int); omega
 | w :: l, m => by
  unfold cntF
  rw [cnt_len, List.filter_cons]
  cases f w
  ·rw [cond_false, if_neg (by simp)]
  ·rw [cond_true, if_pos rfl, List.length_cons]; omega
theorem words_all {g : Gram} {n : Int} (h : okG g = true) (hm : isM n = true) (hl : (wordsG g n).length < 60) : wordsG g n = (upTo (smallsG g) n.toNat).filter (isD g) := by
 have e : wordsG g n = wordsV (isD g) (smallsG g) n.toNat := by unfold wordsG; rw [h, hm]; rfl
 rw [e] at hl ⊢
 unfold wordsV at *
 rw [List.length_take] at hl
 exact List.take_of_length_le (by omega)
theorem words_none {g : Gram} {n : Int} (h : (okG g && isM n) = false) : wordsG g n = [] ∧ countG g n = 0 := by
 unfold wordsG countG
 rw [h]; exact ⟨rfl, rfl⟩
theorem count_words {g : Gram} {n : Int} (hl : (wordsG g n).length < 60) : cntF (fun w => decide ((List.length w : Int) = n)) (wordsG g n) 0 = countG g n := by
 cases hc : okG g && isM n
 ·obtain ⟨h1, h2⟩ := words_none hc
  rw [h1, h2]; rfl
 ·obtain ⟨h1, h2⟩ := andd.1 hc
  obtain ⟨n0, n1⟩ := isM_iff.1 h2
  rw [words_all h1 h2 hl, cnt_filter]
  have := count_upTo (f := isD g) (c := smallsG g) (n := n.toNat)
  rw [show ((n.toNat : Nat) : Int) = n by omega] at this
  rw [this]
  unfold countG
  rw [hc]; rfl
theorem count_le {g : Gram} {n : Int} : 0 ≤ countG g n ∧ countG g n ≤ 256 := by
 cases hc : okG g && isM n
 ·rw [(words_none hc).2]; omega
 ·obtain ⟨n0, n1⟩ := isM_iff.1 (andd.1 hc).2
  have e : countG g n = cntF (isD g) (levW (smallsG g) n.toNat) 0 := by unfold countG; rw [hc]; rfl
  have h1 := cntF_le (f := isD g) (l := levW (smallsG g) n.toNat) (m := 0)
  have h2 : (levW (smallsG g) n.toNat).length ≤ 256 := by rw [len_levW]; exact pow_le smalls_four (by omega)
  omega
def sumC (g : Gram) : Nat → Int → Int → Int
 | 0, _, a => a
 | m + 1, k, a => sumC g m (k + 1) (a + countG g k)
theorem sumC_last {g : Gram} : ∀ {m : Nat} {k a : Int}, sumC g (m + 1) k a = sumC g m k a + countG g (k + m)
 | 0, k, a => by
  show a + countG g k = a + countG g (k + (0 : Nat))
  rw [show k + ((0 : Nat) : Int) = k by omega]
 | m + 1, k, a => by
  show sumC g (m + 1) (k + 1) (a + countG g k) = sumC g m (k + 1) (a + countG g k) + countG g (k + ((m + 1 : Nat) : Int))
  rw [sumC_last, show k + 1 + (m : Int) = k + ((m + 1 : Nat) : Int) by omega]
theorem sum_upTo {g : Gram} (hg : okG g = true) : ∀ {n : Nat}, n ≤ 4 → sumC g (n + 1) 0 0 = cntF (isD g) (upTo (smallsG g) n) 0
 | 0, _ => by
  show 0 + countG g 0 = cntF (isD g) (levW (smallsG g) 0) 0
  unfold countG
  rw [hg, Int.zero_add]; rfl
 | n + 1, h => by
  rw [sumC_last, sum_upTo hg (n := n) (by omega)]
  have e : countG g (0 + ((n + 1 : Nat) : Int)) = cntF (isD g) (levW (smallsG g) (n + 1)) 0 := by
   rw [Int.zero_add]
   unfold countG
   rw [hg, isM_iff.2 ⟨by omega, by omega⟩]; rfl
  rw [e]
  show _ = cntF (isD g) (upTo (smallsG g) n ++ levW (smallsG g) (n + 1)) 0
  rw [cntF_app, cntF_shift (m := cntF (isD g) (upTo (smallsG g) n) 0)]
theorem sum_none {g : Gram} (hg : okG g = false) : ∀ {m : Nat} {k a : Int}, sumC g m k a = a
 | 0, _, _ => rfl
 | m + 1, k, a => by
  show sumC g m (k + 1) (a + countG g k) = a
  rw [sum_none hg, (words_none (n := k) (by rw [hg]; rfl)).2]; omega
theorem sum_words {g : Gram} {n : Int} (n0 : 0 ≤ n) (n1 : n ≤ 4) (hl : (wordsG g n).length < 60) : ((wordsG g n).length : Int) = sumC g (n.toNat + 1) 0 0 := by
 cases hg : okG g
 ·rw [sum_none hg, (words_none (n := n) (by rw [hg]; rfl)).1]; rfl
 ·rw [sum_upTo hg (by omega), words_all hg (isM_iff.2 ⟨n0, n1⟩) hl, cnt_len]; omega
noncomputable def cb_lcw : Cx := cxOf Γ79 Tryd.f12.ntmps [(12, [4, 5, 6, 7, 8])] [(0, [5, 7]), (1, [4, 5, 6, 7, 8]), (1000000, [2])] [] []
theorem x_laws_FnCountWords (n m k i : Int) (l : List Str) (R : St → Option Fin) (K : Cont) : evC (cb_lcw.withLoops (look [])) (loopOf Tryd.f12 0) ⟨[(4, vI n), (5, vI m), (6, .d (ofD TSS l)), (7, vI k), (8, vI i)], []⟩ (onward (headAt (cb_lcw.withLoops (look [])) 12) R K) = (
branch (decide (i < (l.length : Int))) (
 need (inb i l.length) <|
 branch (decide ((List.length (l.getD i.toNat ([] : Str)) : Int) = n)) ( R (.mk [(4, (vI n)), (5, (vI m)), (6, (.d (.one (.r (.li (Ty.str) (l)))))), (7, (vI (W64 (k + 1)))), (8, (vI (W64 (i + 1))))] [])) ( R (.mk [(4, (vI n)), (5, (vI m)), (6, (.d (.one (.r (.li (Ty.str) (l)))))), (7, (vI k)), (8, (vI (W64 (i + 1))))] []))) ( K (.exit 0) (.mk [(5, (vI m)), (7, (vI k))] []))) := by kernel_rfl
noncomputable def cx0_lcw : Cx := (cb_lcw).withLoops (look [])
def sh_lcw : Sh := ([(4, .d TI64), (5, .d TI64), (6, .d TSS), (7, .d TI64), (8, .d TI64)], [])
def pre_lcw (_n : Int) (_m : Int) (l : List Str) (k : Int) (i : Int) : Bool := decide (0 ≤ i) && (decide (List.length l ≤ 1000) && (decide (0 ≤ k) && decide (k ≤ i)))
noncomputable def res_lcw (n : Int) (m : Int) (l : List Str) (k : Int) (i : Int) (K : Cont) : Option Fin := K (.exit 0) ⟨[(5, vI m), (7, vI (cntF (fun w => decide ((List.length w : Int) = n)) (List.drop i.toNat l) k))], []⟩
def mu_lcw (_n : Int) (_m : Int) (l : List Str) (_k : Int) (i : Int) : Nat := List.length l - i.toNat
theorem r_lcw (n : Int) (m : Int) (l : List Str) (k : Int) (i : Int) (K : Cont) (hI : pre_lcw n m l k i = true) : (∀ R : St → Option Fin, evC cx0_lcw (loopOf Tryd.f12 0) ⟨[(4, .d (ofD TI64 n)), (5, .d (ofD TI64 m)), (6, .d (ofD TSS l)), (7, .d (ofD TI64 k)), (8, .d (ofD TI64 i))], []⟩ (onward (headAt cx0_lcw 12) R K) = res_lcw n m l k i K) ∨
  (∃ (n' : Int) (m' : Int) (l' : List Str) (k' : Int) (i' : Int), pre_lcw n' m' l' k' i' = true ∧ mu_lcw n' m' l' k' i' < mu_lcw n m l k i ∧ res_lcw n' m' l' k' i' K = res_lcw n m l k i K ∧ ∀ R : St → Option Fin, evC cx0_lcw (loopOf Tryd.f12 0) ⟨[(4, .d (ofD TI64 n)), (5, .d (ofD TI64 m)), (6, .d (ofD TSS l)), (7, .d (ofD TI64 k)), (8, .d (ofD TI64 i))], []⟩ (onward (headAt cx0_lcw 12) R K) = R ⟨[(4, .d (ofD TI64 n')), (5, .d (ofD TI64 m')), (6, .d (ofD TSS l')), (7, .d (ofD TI64 k')), (8, .d (ofD TI64 i'))], []⟩) := by
 have hx := fun R => x_laws_FnCountWords n m k i l R K
 simp only [pre_lcw, andd, dec_iff] at hI
 obtain ⟨h0, h1, h2, h3⟩ := hI
 by_cases hi : i < (List.length l : Int)
 ·have w : W64 (i + 1) = i + 1 := wrap_small (by omega) (by omega)
  have w2 : W64 (k + 1) = k + 1 := wrap_small (by omega) (by omega)
  have ht : cntF (fun w => decide ((List.length w : Int) = n)) (List.drop i.toNat l) k = cntF (fun w => decide ((List.length w : Int) = n)) (List.drop (i + 1).toNat l) (bif decide ((List.length (List.getD l i.toNat []) : Int) = n) then k + 1 else k) := by rw [dropS_at h0 hi]; rfl
  rw [decide_eq_true hi, inb_ok h0 hi, w, w2] at hx
  change ∀ R : St → Option Fin, _ = branch (decide ((List.length (List.getD l i.toNat []) : Int) = n)) _ _ at hx
  right
  cases hc : decide ((List.length (List.getD l i.toNat []) : Int) = n)
  ·rw [hc] at hx ht
   refine ⟨n, m, l, k, i + 1, ?_, ?_, ?_, fun R => hx R⟩
   ·simp only [pre_lcw, andd, dec_iff]
    exact ⟨by omega, h1, h2, by omega⟩
   ·simp only [mu_lcw]; omega
   ·simp only [res_lcw, ht]; rfl
  ·rw [hc] at hx ht
   refine ⟨n, m, l, k + 1, i + 1, ?_, ?_, ?_, fun R => hx R⟩
   ·simp only [pre_lcw, andd, dec_iff]
    exact ⟨by omega, h1, by omega, by omega⟩
   ·simp only [mu_lcw]; omega
   ·simp only [res_lcw, ht]; rfl
 ·left
  intro R
  refine (hx R).trans ?_
  rw [decide_eq_false hi]
  have e : List.drop i.toNat l = [] := List.drop_eq_nil_of_le (by omega)
  simp only [res_lcw, e]; rfl
noncomputable def g_lcw : St → Cont → Option Fin := gP sh_lcw (fun v => match v with | ((n, m, l, k, i, ()), ()) => pre_lcw n m l k i) (fun v K => match v with | ((n, m, l, k, i, ()), ()) => res_lcw n m l k i K)
noncomputable def L_lcw : List (Nat × (St → Cont → Option Fin)) := (12, g_lcw) :: []
noncomputable def cx_lcw : Cx := (cb_lcw).withLoops (look L_lcw)
theorem l_lcw {L : List (Nat × (St → Cont → Option Fin))} (n : Nat) (h1 : L.drop n = []) (h2 : idsFree (L.take n) (loopOf Tryd.f12 0) = true) : ∀ st K r, g_lcw st K = some r → ∃ N, iter (evC ((cb_lcw).withLoops (look L)) (loopOf Tryd.f12 0)) (headAt ((cb_lcw).withLoops (look L)) 12) N st K = some r :=
 with_drop h1 h2 (gP_ok (fun v => match v with | ((n, m, l, k, i, ()), ()) => mu_lcw n m l k i) fun v K hI => by
  obtain ⟨⟨(n : Int), (m : Int), (l : List Str), (k : Int), (i : Int), ⟨⟩⟩, ⟨⟩⟩ := v
  rcases r_lcw n m l k i K hI with h1 | ⟨n', m', l', k', i', h1, h2, h3, h4⟩
  ·exact .inl h1
  ·exact .inr ⟨((n', m', l', k', i', ()), ()), h1, h2, h3, h4⟩)
theorem y_laws_FnCountWords (l : List Int) : evFn cx_lcw Tryd.f12 true [ofD TB l] [] = (
branch (decide (1048576 < (l.length : Int))) ( some ((vB true), [])) (
 branch (!decide (countG (F_spec_DrawCountWords l).fst (F_spec_DrawCountWords l).snd = countG (F_spec_DrawCountWords l).fst (F_spec_DrawCountWords l).snd)) ( some ((vB false), [])) (
 branch (decide (60 ≤ ((wordsG (F_spec_DrawCountWords l).fst (F_spec_DrawCountWords l).snd).length : Int))) ( some ((vB true), [])) (
  need (pre_lcw (F_spec_DrawCountWords l).snd (countG (F_spec_DrawCountWords l).fst (F_spec_DrawCountWords l).snd) (wordsG (F_spec_DrawCountWords l).fst (F_spec_DrawCountWords l).snd) 0 0) <| some ((vB (decide (countG (F_spec_DrawCountWords l).fst (F_spec_DrawCountWords l).snd = cntF (fun w => decide ((w.length : Int) = (F_spec_DrawCountWords l).snd)) (id (wordsG (F_spec_DrawCountWords l).fst (F_spec_DrawCountWords l).snd)) 0))), []))))) := by kernel_rfl
theorem s_laws_FnCountWords (l : List Int) (_hl : Fit TB l) : Sat Tryd.prog 12 [ofD TB l] [] (.d (ofD .bool true)) [] :=
 fn_sound (cx := cx_lcw) Tryd.func12 rfl ttOk Γ79ok mixed (fun c hc => LoopsOk.all (l := [(12, loopOf Tryd.f12 0)]) (by cases hc; kernel_rfl) ⟨atLoop rfl (l_lcw 1 rfl (by kernel_rfl)), trivial⟩) (ro := true) (by
  rw [y_laws_FnCountWords]
  generalize F_spec_DrawCountWords l = v
  obtain ⟨g, n⟩ := v
  cases decide (1048576 < (List.length l : Int))
  ·have hwl := wordsG_len (g := g) (n := n)
   show branch (!decide (countG g n = countG g n)) _ (branch (decide (60 ≤ (List.length (wordsG g n) : Int))) _ (need (pre_lcw n (countG g n) (wordsG g n) 0 0) (some (vB (decide (countG g n = cntF (fun w => decide ((List.length w : Int) = n)) (wordsG g n) 0)), [])))) = _
   have kp : pre_lcw n (countG g n) (wordsG g n) 0 0 = true := by
    simp only [pre_lcw, andd, dec_iff]
    exact ⟨Int.le_refl 0, by omega, Int.le_refl 0, Int.le_refl 0⟩
   rw [decide_eq_true rfl]
   by_cases h6 : 60 ≤ (List.length (wordsG g n) : Int)
   ·rw [decide_eq_true h6]; rfl
   ·rw [decide_eq_false h6, kp, decide_eq_true (count_words (g := g) (n := n) (by omega)).symm]; rfl
  ·rfl)
noncomputable def c_laws_FnCountWords : Con := conT [TB] fun (_l : List Int) => (none, .d (ofD .bool true))
theorem k_laws_FnCountWords : ConOk Tryd.prog 12 c_laws_FnCountWords := conT_ok Tryd.call12 fun l hl _ => s_laws_FnCountWords l hl
noncomputable def Γ80 : List (Nat × Con) := (12, c_laws_FnCountWords) :: Γ79
theorem Γ80ok : EnvOk Tryd.prog (look Γ80) := .cons k_laws_FnCountWords Γ79ok
noncomputable def cb_lcs : Cx := (cxOf Γ80 Tryd.f11.ntmps [(9, [3, 4, 6, 7])] [(0, [3, 4, 6]), (1, [3, 4, 6, 7]), (1000000, [2])] [] []).parted [5, 13]
theorem x_laws_FnCountSum (g : Gram) (n a k : Int) (R : St → Option Fin) (K : Cont) : evC (cb_lcs.withLoops (look [])) (loopOf Tryd.f11 0) ⟨[(3, .d (.one (.ptr 500000 0))), (4, vI n), (6, vI a), (7, vI k)], [(500000, some (boxD 25 TG g))]⟩ (onward (headAt (cb_lcs.withLoops (look [])) 9) R K) = (
branch (decide (k ≤ n)) ( R (.mk [(3, (.d (.one (.ptr 500000 0)))), (4, (vI n)), (6, (vI (W64 (a + countG g k)))), (7, (vI (W64 (k + 1))))] [(500000, (.some (.box 25 [(.r (.v (Value.string (mk g.fst)))), (.r (.li TRu (g.snd)))])))])) ( K (.exit 0) (.mk [(3, (.d (.one (.ptr 500000 0)))), (4, (vI n)), (6, (vI a))] [(500000, (.some (.box 25 [(.r (.v (Value.string (mk g.fst)))), (.r (.li TRu (g.snd)))])))]))) := by kernel_rfl
noncomputable def cx0_lcs : Cx := (cb_lcs).withLoops (look [])
def sh_lcs : Sh := ([(3, .ptr 500000 0), (4, .d TI64), (6, .d TI64), (7, .d TI64)], [(500000, .box 25 TG)])
def pre_lcs (n : Int) (a : Int) (k : Int) (_g : Gram) : Bool := decide (0 ≤ k) && (decide (n ≤ 4) && (decide (0 ≤ a) && decide (a ≤ 300 * k)))
noncomputable def res_lcs (n : Int) (a : Int) (k : Int) (g : Gram) (K : Cont) : Option Fin := K (.exit 0) ⟨[(3, .d (.one (.ptr 500000 0))), (4, vI n), (6, vI (sumC g (n + 1 - k).toNat k a))], [(500000, some (boxD 25 TG g))]⟩
def mu_lcs (n : Int) (_a : Int) (k : Int) (_g : Gram) : Nat := (n + 1 - k).toNat
theorem r_lcs (n : Int) (a : Int) (k : Int) (g : Gram) (K : Cont) (hI : pre_lcs n a k g = true) : (∀ R : St → Option Fin, evC cx0_lcs (loopOf Tryd.f11 0) ⟨[(3, .d (.one (.ptr 500000 0))), (4, .d (ofD TI64 n)), (6, .d (ofD TI64 a)), (7, .d (ofD TI64 k))], [(500000, some (boxD 25 TG g))]⟩ (onward (headAt cx0_lcs 9) R K) = res_lcs n a k g K) ∨
  (∃ (n' : Int) (a' : Int) (k' : Int) (g' : Gram), pre_lcs n' a' k' g' = true ∧ mu_lcs n' a' k' g' < mu_lcs n a k g ∧ res_lcs n' a' k' g' K = res_lcs n a k g K ∧ ∀ R : St → Option Fin, evC cx0_lcs (loopOf Tryd.f11 0) ⟨[(3, .d (.one (.ptr 500000 0))), (4, .d (ofD TI64 n)), (6, .d (ofD TI64 a)), (7, .d (ofD TI64 k))], [(500000, some (boxD 25 TG g))]⟩ (onward (headAt cx0_lcs 9) R K) = R ⟨[(3, .d (.one (.ptr 500000 0))), (4, .d (ofD TI64 n')), (6, .d (ofD TI64 a')), (7, .d (ofD TI64 k'))], [(500000, some (boxD 25 TG g'))]⟩) := by
 have hx := fun R => x_laws_FnCountSum g n a k R K
 simp only [pre_lcs, andd, dec_iff] at hI
 obtain ⟨h0, h1, h2, h3⟩ := hI
 by_cases hi : k ≤ n
 ·have hc := count_le (g := g) (n := k)
  have w : W64 (k + 1) = k + 1 := wrap_small (by omega) (by omega)
  have w2 : W64 (a + countG g k) = a + countG g k := wrap_small (by omega) (by omega)
  obtain ⟨m, hm⟩ : ∃ m, (n + 1 - k).toNat = m + 1 := ⟨(n - k).toNat, by omega⟩
  have hm2 : (n + 1 - (k + 1)).toNat = m := by omega
  rw [decide_eq_true hi, w, w2] at hx
  right
  refine ⟨n, a + countG g k, k + 1, g, ?_, ?_, ?_, fun R => hx R⟩
  ·simp only [pre_lcs, andd, dec_iff]
   exact ⟨by omega, h1, by omega, by omega⟩
  ·simp only [mu_lcs]; omega
  ·simp only [res_lcs, hm, hm2]; rfl
 ·left
  intro R
  refine (hx R).trans ?_
  rw [decide_eq_false hi]
  have e : (n + 1 - k).toNat = 0 := by omega
  simp only [res_lcs, e]; rfl
noncomputable def g_lcs : St → Cont → Option Fin := gP sh_lcs (fun v => match v with | ((n, a, k, ()), (g, ())) => pre_lcs n a k g) (fun v K => match v with | ((n, a, k, ()), (g, ())) => res_lcs n a k g K)
noncomputable def L_lcs : List (Nat × (St → Cont → Option Fin)) := (9, g_lcs) :: []
noncomputable def cx_lcs : Cx := (cb_lcs).withLoops (look L_lcs)
theorem l_lcs {L : List (Nat × (St → Cont → Option Fin))} (n : Nat) (h1 : L.drop n = []) (h2 : idsFree (L.take n) (loopOf Tryd.f11 0) = true) : ∀ st K r, g_lcs st K = some r → ∃ N, iter (evC ((cb_lcs).withLoops (look L)) (loopOf Tryd.f11 0)) (headAt ((cb_lcs).withLoops (look L)) 9) N st K = some r :=
 with_drop h1 h2 (gP_ok (fun v => match v with | ((n, a, k, ()), (g, ())) => mu_lcs n a k g) fun v K hI => by
  obtain ⟨⟨(n : Int), (a : Int), (k : Int), ⟨⟩⟩, ⟨(g : Gram), ⟨⟩⟩⟩ := v
  rcases r_lcs n a k g K hI with h1 | ⟨n', a', k', g', h1, h2, h3, h4⟩
  ·exact .inl h1
  ·exact .inr ⟨((n', a', k', ()), (g', ())), h1, h2, h3, h4⟩)
theorem y_laws_FnCountSum (l : List Int) : evFn cx_lcs Tryd.f11 true [ofD TB l] [] = (
branch (decide (1048576 < (l.length : Int))) ( some ((vB true), [])) (
 branch (decide ((!decide (countG (F_spec_DrawCountWords l).fst (F_spec_DrawCountWords l).snd = countG (F_spec_DrawCountWords l).fst (F_spec_DrawCountWords l).snd)) = false)) (
 branch (decide ((bif false then true else decide ((F_spec_DrawCountWords l).snd < 0)) = false)) (
  branch (bif false then true else decide (4 < (F_spec_DrawCountWords l).snd)) ( some ((vB (decide (countG (F_spec_DrawCountWords l).fst (F_spec_DrawCountWords l).snd = countG (F_spec_DrawCountWords l).fst (F_spec_DrawCountWords l).snd))), [])) (
  need (pre_lcs (F_spec_DrawCountWords l).snd 0 0 (F_spec_DrawCountWords l).fst) <|
  branch (decide (decide (60 ≤ ((wordsG (F_spec_DrawCountWords l).fst (F_spec_DrawCountWords l).snd).length : Int)) = false)) ( some ((vB (bif false then true else decide (((wordsG (F_spec_DrawCountWords l).fst (F_spec_DrawCountWords l).snd).length : Int) = sumC (F_spec_DrawCountWords l).fst ((F_spec_DrawCountWords l).snd + 1 - 0).toNat 0 0))), [])) ( some ((vB true), [])))) ( some ((vB (decide (countG (F_spec_DrawCountWords l).fst (F_spec_DrawCountWords l).snd = countG (F_spec_DrawCountWords l).fst (F_spec_DrawCountWords l).snd))), []))) ( some ((vB (decide (countG (F_spec_DrawCountWords l).fst (F_spec_DrawCountWords l).snd = countG (F_spec_DrawCountWords l).fst (F_spec_DrawCountWords l).snd))), [])))) := by kernel_rfl
theorem s_laws_FnCountSum (l : List Int) (_hl : Fit TB l) : Sat Tryd.prog 11 [ofD TB l] [] (.d (ofD .bool true)) [] :=
 fn_sound (cx := cx_lcs) Tryd.func11 rfl ttOk Γ80ok mixed (fun c hc => LoopsOk.all (l := [(9, loopOf Tryd.f11 0)]) (by cases hc; kernel_rfl) ⟨atLoop rfl (l_lcs 1 rfl (by kernel_rfl)), trivial⟩) (ro := true) (by
  rw [y_laws_FnCountSum]
  generalize F_spec_DrawCountWords l = v
  obtain ⟨g, n⟩ := v
  cases decide (1048576 < (List.length l : Int))
  ·show branch (decide ((!decide (countG g n = countG g n)) = false)) (branch (decide ((bif false then true else decide (n < 0)) = false)) (branch (bif false then true else decide (4 < n)) (some (vB (decide (countG g n = countG g n)), [])) (need (pre_lcs n 0 0 g) (branch (decide (decide (60 ≤ (List.length (wordsG g n) : Int)) = false)) (some (vB (bif false then true else decide ((List.length (wordsG g n) : Int) = sumC g (n + 1 - 0).toNat 0 0)), [])) (some (vB true, []))))) (some (vB (decide (countG g n = countG g n)), []))) (some (vB (decide (countG g n = countG g n)), [])) = _
   rw [decide_eq_true (rfl : countG g n = countG g n)]
   by_cases n0 : n < 0
   ·rw [decide_eq_true n0]; rfl
   ·by_cases n1 : 4 < n
    ·rw [decide_eq_false n0, decide_eq_true n1]; rfl
    ·have kp : pre_lcs n 0 0 g = true := by
      simp only [pre_lcs, andd, dec_iff]
      exact ⟨Int.le_refl 0, by omega, Int.le_refl 0, by omega⟩
     rw [decide_eq_false n0, decide_eq_false n1, kp]
     by_cases h6 : 60 ≤ (List.length (wordsG g n) : Int)
     ·rw [decide_eq_true h6]; rfl
     ·have hs := sum_words (g := g) (n := n) (by omega) (by omega) (by omega)
      rw [decide_eq_false h6, show (n + 1 - 0).toNat = n.toNat + 1 by omega, decide_eq_true hs]; rfl
  ·rfl)
noncomputable def c_laws_FnCountSum : Con := conT [TB] fun (_l : List Int) => (none, .d (ofD .bool true))
theorem k_laws_FnCountSum : ConOk Tryd.prog 11 c_laws_FnCountSum := conT_ok Tryd.call11 fun l hl _ => s_laws_FnCountSum l hl
noncomputable def Γ81 : List (Nat × Con) := (11, c_laws_FnCountSum) :: Γ80
theorem Γ81ok : EnvOk Tryd.prog (look Γ81) := .cons k_laws_FnCountSum Γ80ok
end Go.Proofs.YtbijdgkkneffgaaDoor.Ev
