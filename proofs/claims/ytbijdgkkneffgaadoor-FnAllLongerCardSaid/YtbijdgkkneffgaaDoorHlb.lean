/-
  FnAllWords, FnAllLonger: the laws.
-/
import Derived.Test.YtbijdgkkneffgaaDoorHd
namespace Go.Proofs.YtbijdgkkneffgaaDoor.Ev
open Go
theorem y_spec_DrawAllWords (l : List Int) : evFn (cxOf Γ82 Tryd.f50.ntmps [] [] [] []) Tryd.f50 true [ofD TB l] [] = (
need (rdAt (F_spec_l1Gram (openV l)).snd 10000000940000 && szG 20 (F_spec_l1Gram (openV l)).fst) <|
need (rdOk (F_spec_l1Bent (F_spec_l1Gram (openV l)).snd (F_spec_l1Gram (openV l)).fst).snd && Nat.blt 0 [2, 3, 1, 0, 4, Int.neg 1, 5].length) <| some ((.tup [(.agg [(.r (.v (Value.string (mk (F_spec_l1Bent (F_spec_l1Gram (openV l)).snd (F_spec_l1Gram (openV l)).fst).fst.fst)))), (.r (.li TRu ((F_spec_l1Bent (F_spec_l1Gram (openV l)).snd (F_spec_l1Gram (openV l)).fst).fst.snd)))]), (.one (.r (.v (Value.int IntKind.i64 (numV (F_spec_l1Bent (F_spec_l1Gram (openV l)).snd (F_spec_l1Gram (openV l)).fst).snd [2, 3, 1, 0, 4, Int.neg 1, 5])))))]), [])) := by kernel_rfl
theorem e_spec_DrawAllWords (l : List Int) (hl : Fit TB l) : ∃ q : Gram × Int, evFn (cxOf Γ82 Tryd.f50.ntmps [] [] [] []) Tryd.f50 true [ofD TB l] [] = some (.tup [ofD TG q.1, ofD TI64 q.2], []) ∧ (szG 20 q.1 = true) := by
 obtain ⟨r, h1, h2⟩ : Ok (evFn (cxOf Γ82 Tryd.f50.ntmps [] [] [] []) Tryd.f50 true [ofD TB l] []) (fun r => ∃ (v : Gram × Int), r = (.tup [ofD TG v.1, ofD TI64 v.2], []) ∧ (szG 20 v.1 = true)) := by
  obtain ⟨h0, h1, h2, h3⟩ := draw_ok hl
  rw [y_spec_DrawAllWords]
  exact Ok.need h1 (Ok.need (andd.2 ⟨h3.ok (openV_at l) (by omega), rfl⟩) (Ok.ret ⟨(_, _), rfl, h2⟩))
 obtain ⟨v, h2, h3⟩ := h2
 exact ⟨v, by rw [h1, h2], h3⟩
noncomputable def F_spec_DrawAllWords (l : List Int) : Gram × Int := oneOf (fun q : Gram × Int => evFn (cxOf Γ82 Tryd.f50.ntmps [] [] [] []) Tryd.f50 true [ofD TB l] [] = some (.tup [ofD TG q.1, ofD TI64 q.2], []) ∧ (szG 20 q.1 = true))
theorem p_spec_DrawAllWords (l : List Int) (hl : Fit TB l) : szG 20 (F_spec_DrawAllWords l).1 = true := (oneOf_spec (e_spec_DrawAllWords l hl)).2
theorem s_spec_DrawAllWords (l : List Int) (hl : Fit TB l) : Sat Tryd.prog 50 [ofD TB l] [] (.tup [ofD TG (F_spec_DrawAllWords l).1, ofD TI64 (F_spec_DrawAllWords l).2]) [] :=
 fn_sound (cx := cxOf Γ82 Tryd.f50.ntmps [] [] [] []) Tryd.func50 rfl ttOk Γ82ok mixed (fun _ _ => LoopsOk.no fun _ => rfl) (ro := true) (oneOf_spec (e_spec_DrawAllWords l hl)).1
noncomputable def c_spec_DrawAllWords : Con := conT [TB] fun (l : List Int) => (none, .tup [ofD TG (F_spec_DrawAllWords l).1, ofD TI64 (F_spec_DrawAllWords l).2])
theorem k_spec_DrawAllWords : ConOk Tryd.prog 50 c_spec_DrawAllWords := conT_ok Tryd.call50 fun l hl _ => s_spec_DrawAllWords l hl
noncomputable def Γ83 : List (Nat × Con) := (50, c_spec_DrawAllWords) :: Γ82
theorem Γ83ok : EnvOk Tryd.prog (look Γ83) := .cons k_spec_DrawAllWords Γ82ok
noncomputable def cb_law : Cx := (cxOf Γ83 Tryd.f10.ntmps [(9, [3, 4, 5, 6, 7])] [(0, [5]), (1, [3, 4, 5, 6, 7]), (1000000, [2])] [] []).parted [11]
theorem x_laws_FnAllWords (g : Gram) (n i : Int) (l m : List Str) (R : St → Option Fin) (K : Cont) : evC (cb_law.withLoops (look [])) (loopOf Tryd.f10 0) ⟨[(3, .d (.one (.ptr 500000 0))), (4, vI n), (5, .d (ofD TSS l)), (6, .d (ofD TSS m)), (7, vI i)], [(500000, some (boxD 25 TG g))]⟩ (onward (headAt (cb_law.withLoops (look [])) 9) R K) = (
branch (decide (i < (l.length : Int))) (
 need (inb i l.length) <|
 need (inb i m.length) <|
 branch (decide ((!decide ((l.getD i.toNat ([] : Str)) = (m.getD i.toNat ([] : Str)))) = false)) (
 need (inb i l.length) <|
 branch (decide ((bif false then true else !(both2 g (l.getD i.toNat ([] : Str)) && isD g (l.getD i.toNat ([] : Str)))) = false)) (
  need (inb i l.length) <|
  branch (decide ((bif false then true else decide (n < (List.length (l.getD i.toNat ([] : Str)) : Int))) = false)) (
  branch (decide (decide (0 < i) = true)) (
   need (inb i l.length) <|
   need (inb (W64 (i - 1)) l.length) <|
   branch (decide ((bif false then true else bif true then decide ((List.length (l.getD i.toNat ([] : Str)) : Int) < (List.length (l.getD (W64 (i - 1)).toNat ([] : Str)) : Int)) else false) = false)) (
   branch (decide (decide (0 < i) = true)) (
    need (inb i l.length) <|
    need (inb (W64 (i - 1)) l.length) <|
    branch (decide ((bif true then decide ((List.length (l.getD i.toNat ([] : Str)) : Int) = (List.length (l.getD (W64 (i - 1)).toNat ([] : Str)) : Int)) else false) = true)) (
    need (inb i l.length) <|
    need (inb (W64 (i - 1)) l.length) <|
    branch (bif false then true else bif true then Op.bytesLess (l.getD i.toNat ([] : Str)) (l.getD (W64 (i - 1)).toNat ([] : Str)) || decide ((l.getD i.toNat ([] : Str)) = (l.getD (W64 (i - 1)).toNat ([] : Str))) else false) ( K (.ret) (.mk [(2, (vB false))] [])) ( R (.mk [(3, (.d (.one (.ptr 500000 0)))), (4, (vI n)), (5, (.d (.one (.r (.li (Ty.str) (l)))))), (6, (.d (.one (.r (.li (Ty.str) (m)))))), (7, (vI (W64 (i + 1))))] [(500000, (.some (.box 25 [(.r (.v (Value.string (mk g.fst)))), (.r (.li TRu (g.snd)))])))]))) ( R (.mk [(3, (.d (.one (.ptr 500000 0)))), (4, (vI n)), (5, (.d (.one (.r (.li (Ty.str) (l)))))), (6, (.d (.one (.r (.li (Ty.str) (m)))))), (7, (vI (W64 (i + 1))))] [(500000, (.some (.box 25 [(.r (.v (Value.string (mk g.fst)))), (.r (.li TRu (g.snd)))])))]))) ( R (.mk [(3, (.d (.one (.ptr 500000 0)))), (4, (vI n)), (5, (.d (.one (.r (.li (Ty.str) (l)))))), (6, (.d (.one (.r (.li (Ty.str) (m)))))), (7, (vI (W64 (i + 1))))] [(500000, (.some (.box 25 [(.r (.v (Value.string (mk g.fst)))), (.r (.li TRu (g.snd)))])))]))) ( K (.ret) (.mk [(2, (vB false))] []))) (
   branch (decide (decide (0 < i) = true)) (
   need (inb i l.length) <|
   need (inb (W64 (i - 1)) l.length) <|
   branch (decide ((bif true then decide ((List.length (l.getD i.toNat ([] : Str)) : Int) = (List.length (l.getD (W64 (i - 1)).toNat ([] : Str)) : Int)) else false) = true)) (
    need (inb i l.length) <|
    need (inb (W64 (i - 1)) l.length) <|
    branch (bif false then true else bif true then Op.bytesLess (l.getD i.toNat ([] : Str)) (l.getD (W64 (i - 1)).toNat ([] : Str)) || decide ((l.getD i.toNat ([] : Str)) = (l.getD (W64 (i - 1)).toNat ([] : Str))) else false) ( K (.ret) (.mk [(2, (vB false))] [])) ( R (.mk [(3, (.d (.one (.ptr 500000 0)))), (4, (vI n)), (5, (.d (.one (.r (.li (Ty.str) (l)))))), (6, (.d (.one (.r (.li (Ty.str) (m)))))), (7, (vI (W64 (i + 1))))] [(500000, (.some (.box 25 [(.r (.v (Value.string (mk g.fst)))), (.r (.li TRu (g.snd)))])))]))) ( R (.mk [(3, (.d (.one (.ptr 500000 0)))), (4, (vI n)), (5, (.d (.one (.r (.li (Ty.str) (l)))))), (6, (.d (.one (.r (.li (Ty.str) (m)))))), (7, (vI (W64 (i + 1))))] [(500000, (.some (.box 25 [(.r (.v (Value.string (mk g.fst)))), (.r (.li TRu (g.snd)))])))]))) ( R (.mk [(3, (.d (.one (.ptr 500000 0)))), (4, (vI n)), (5, (.d (.one (.r (.li (Ty.str) (l)))))), (6, (.d (.one (.r (.li (Ty.str) (m)))))), (7, (vI (W64 (i + 1))))] [(500000, (.some (.box 25 [(.r (.v (Value.string (mk g.fst)))), (.r (.li TRu (g.snd)))])))])))) ( K (.ret) (.mk [(2, (vB false))] []))) ( K (.ret) (.mk [(2, (vB false))] []))) ( K (.ret) (.mk [(2, (vB false))] []))) ( K (.exit 0) (.mk [(5, (.d (.one (.r (.li (Ty.str) (l))))))] []))) := by kernel_rfl
theorem less_irrefl : ∀ {x : Str}, Op.bytesLess x x = false
 | [] => rfl
 | a :: x => by
  show (decide (a < a) || (a == a && Op.bytesLess x x)) = false
  rw [less_irrefl, Bool.and_false, Bool.or_false]
  exact decide_eq_false (by rw [UInt8.lt_iff_toNat_lt]; omega)
theorem less_asymm : ∀ {x y : Str}, Op.bytesLess x y = true → Op.bytesLess y x = false
 | _, [], h => by cases ‹Str› <;> cases h
 | [], _ :: _, _ => rfl
 | a :: x, b :: y, h => by
  have h : (decide (a < b) || (a == b && Op.bytesLess x y)) = true := h
  show (decide (b < a) || (b == a && Op.bytesLess y x)) = false
  rw [Bool.or_eq_true, andd, dec_iff, UInt8.lt_iff_toNat_lt] at h
  rcases h with h | ⟨h1, h2⟩
  ·have hne : (b == a) = false := beq_eq_false_iff_ne.2 fun e => by rw [e] at h; omega
   rw [hne, Bool.false_and, Bool.or_false]
   exact decide_eq_false (by rw [UInt8.lt_iff_toNat_lt]; omega)
  ·rw [less_asymm h2, Bool.and_false, Bool.or_false]
   have := beq_iff_eq.1 h1
   subst this
   exact decide_eq_false (by rw [UInt8.lt_iff_toNat_lt]; omega)
def ltB (x y : Str) : Bool := Nat.blt x.length y.length || (Nat.beq x.length y.length && Op.bytesLess x y)
theorem ltB_iff {x y : Str} : ltB x y = true ↔ ltW x y := by
 unfold ltB ltW
 rw [Bool.or_eq_true, andd, blt_iff]
 exact or_congr Iff.rfl (and_congr ⟨Nat.eq_of_beq_eq_true, fun h => by rw [h]; exact Nat.beq_refl _⟩ Iff.rfl)
def goodW (g : Gram) (n : Int) (w : Str) : Bool := (both2 g w && isD g w) && decide ((List.length w : Int) ≤ n)
noncomputable def cx0_law : Cx := (cb_law).withLoops (look [])
def sh_law : Sh := ([(3, .ptr 500000 0), (4, .d TI64), (5, .d TSS), (6, .d TSS), (7, .d TI64)], [(500000, .box 25 TG)])
def pre_law (n : Int) (l : List Str) (m : List Str) (i : Int) (g : Gram) : Bool := decide (0 ≤ i) && (decide (l = m) && (List.all l (goodW g n) && (decide (l.Pairwise fun x y => ltB x y = true) && decide (List.length l ≤ 1000))))
noncomputable def res_law (_n : Int) (l : List Str) (_m : List Str) (_i : Int) (_g : Gram) (K : Cont) : Option Fin := K (.exit 0) ⟨[(5, .d (ofD TSS l))], []⟩
def mu_law (_n : Int) (l : List Str) (_m : List Str) (i : Int) (_g : Gram) : Nat := List.length l - i.toNat
theorem r_law (n : Int) (l : List Str) (m : List Str) (i : Int) (g : Gram) (K : Cont) (hI : pre_law n l m i g = true) : (∀ R : St → Option Fin, evC cx0_law (loopOf Tryd.f10 0) ⟨[(3, .d (.one (.ptr 500000 0))), (4, .d (ofD TI64 n)), (5, .d (ofD TSS l)), (6, .d (ofD TSS m)), (7, .d (ofD TI64 i))], [(500000, some (boxD 25 TG g))]⟩ (onward (headAt cx0_law 9) R K) = res_law n l m i g K) ∨
  (∃ (n' : Int) (l' : List Str) (m' : List Str) (i' : Int) (g' : Gram), pre_law n' l' m' i' g' = true ∧ mu_law n' l' m' i' g' < mu_law n l m i g ∧ res_law n' l' m' i' g' K = res_law n l m i g K ∧ ∀ R : St → Option Fin, evC cx0_law (loopOf Tryd.f10 0) ⟨[(3, .d (.one (.ptr 500000 0))), (4, .d (ofD TI64 n)), (5, .d (ofD TSS l)), (6, .d (ofD TSS m)), (7, .d (ofD TI64 i))], [(500000, some (boxD 25 TG g))]⟩ (onward (headAt cx0_law 9) R K) = R ⟨[(3, .d (.one (.ptr 500000 0))), (4, .d (ofD TI64 n')), (5, .d (ofD TSS l')), (6, .d (ofD TSS m')), (7, .d (ofD TI64 i'))], [(500000, some (boxD 25 TG g'))]⟩) := by
 have hx := fun R => x_laws_FnAllWords g n i l m R K
 simp only [pre_law, andd, dec_iff] at hI
 obtain ⟨h0, rfl, h2, h3, h4⟩ := hI
 by_cases hi : i < (List.length l : Int)
 ·have w : W64 (i + 1) = i + 1 := wrap_small (by omega) (by omega)
  have hn : i.toNat < List.length l := by omega
  have he := List.all_eq_true.1 h2 _ (getD_mem (d := ([] : Str)) hn)
  unfold goodW at he
  rw [andd, dec_iff] at he
  obtain ⟨e1, e2⟩ := he
  have d1 : decide (n < (List.length (List.getD l i.toNat ([] : Str)) : Int)) = false := decide_eq_false (by omega)
  have hR : ∀ R : St → Option Fin, evC cx0_law (loopOf Tryd.f10 0) ⟨[(3, .d (.one (.ptr 500000 0))), (4, vI n), (5, .d (ofD TSS l)), (6, .d (ofD TSS l)), (7, vI i)], [(500000, some (boxD 25 TG g))]⟩ (onward (headAt cx0_law 9) R K) = R ⟨[(3, .d (.one (.ptr 500000 0))), (4, vI n), (5, .d (ofD TSS l)), (6, .d (ofD TSS l)), (7, vI (i + 1))], [(500000, some (boxD 25 TG g))]⟩ := by
   intro R
   refine (hx R).trans ?_
   by_cases hp : 0 < i
   ·have w2 : W64 (i - 1) = i - 1 := wrap_small (by omega) (by omega)
    have hlt : ltW (List.getD l (i - 1).toNat ([] : Str)) (List.getD l i.toNat ([] : Str)) := by
     have hq := List.pairwise_iff_getElem.1 h3 (i - 1).toNat i.toNat (by omega) hn (by omega)
     rw [List.getD_eq_getElem?_getD, List.getElem?_eq_getElem (by omega : (i - 1).toNat < List.length l), List.getD_eq_getElem?_getD, List.getElem?_eq_getElem hn]
     exact ltB_iff.1 hq
    have d2 : decide ((List.length (List.getD l i.toNat ([] : Str)) : Int) < (List.length (List.getD l (i - 1).toNat ([] : Str)) : Int)) = false := decide_eq_false (by
     rcases hlt with h | ⟨h, _⟩
     ·omega
     ·omega)
    by_cases hq : (List.length (List.getD l i.toNat ([] : Str)) : Int) = (List.length (List.getD l (i - 1).toNat ([] : Str)) : Int)
    ·have hb : Op.bytesLess (List.getD l (i - 1).toNat ([] : Str)) (List.getD l i.toNat ([] : Str)) = true := by
      rcases hlt with h | ⟨_, h⟩
      ·omega
      ·exact h
     have d3 : (Op.bytesLess (List.getD l i.toNat ([] : Str)) (List.getD l (i - 1).toNat ([] : Str)) || decide ((List.getD l i.toNat ([] : Str)) = (List.getD l (i - 1).toNat ([] : Str)))) = false := by
      rw [less_asymm hb, Bool.false_or]
      exact decide_eq_false fun e => by rw [e, less_irrefl] at hb; cases hb
     rw [decide_eq_true hi, inb_ok h0 hi, decide_eq_true (rfl : List.getD l i.toNat ([] : Str) = List.getD l i.toNat ([] : Str)), e1, d1, decide_eq_true hp, w2, inb_ok (by omega : 0 ≤ i - 1) (by omega), d2, decide_eq_true hq, d3, w]; rfl
    ·rw [decide_eq_true hi, inb_ok h0 hi, decide_eq_true (rfl : List.getD l i.toNat ([] : Str) = List.getD l i.toNat ([] : Str)), e1, d1, decide_eq_true hp, w2, inb_ok (by omega : 0 ≤ i - 1) (by omega), d2, decide_eq_false hq, w]; rfl
   ·rw [decide_eq_true hi, inb_ok h0 hi, decide_eq_true (rfl : List.getD l i.toNat ([] : Str) = List.getD l i.toNat ([] : Str)), e1, d1, decide_eq_false hp, w]; rfl
  right
  refine ⟨n, l, l, i + 1, g, ?_, ?_, rfl, hR⟩
  ·simp only [pre_law, andd, dec_iff]
   exact ⟨by omega, trivial, h2, h3, h4⟩
  ·simp only [mu_law]; omega
 ·left
  intro R
  refine (hx R).trans ?_
  rw [decide_eq_false hi]; rfl
noncomputable def g_law : St → Cont → Option Fin := gP sh_law (fun v => match v with | ((n, l, m, i, ()), (g, ())) => pre_law n l m i g) (fun v K => match v with | ((n, l, m, i, ()), (g, ())) => res_law n l m i g K)
noncomputable def L_law : List (Nat × (St → Cont → Option Fin)) := (9, g_law) :: []
noncomputable def cx_law : Cx := (cb_law).withLoops (look L_law)
theorem l_law {L : List (Nat × (St → Cont → Option Fin))} (n : Nat) (h1 : L.drop n = []) (h2 : idsFree (L.take n) (loopOf Tryd.f10 0) = true) : ∀ st K r, g_law st K = some r → ∃ N, iter (evC ((cb_law).withLoops (look L)) (loopOf Tryd.f10 0)) (headAt ((cb_law).withLoops (look L)) 9) N st K = some r :=
 with_drop h1 h2 (gP_ok (fun v => match v with | ((n, l, m, i, ()), (g, ())) => mu_law n l m i g) fun v K hI => by
  obtain ⟨⟨(n : Int), (l : List Str), (m : List Str), (i : Int), ⟨⟩⟩, ⟨(g : Gram), ⟨⟩⟩⟩ := v
  rcases r_law n l m i g K hI with h1 | ⟨n', l', m', i', g', h1, h2, h3, h4⟩
  ·exact .inl h1
  ·exact .inr ⟨((n', l', m', i', ()), (g', ())), h1, h2, h3, h4⟩)
theorem words_good {g : Gram} {n : Int} : List.all (wordsG g n) (goodW g n) = true := List.all_eq_true.2 fun w hw => by
 obtain ⟨_, _, h3, h4, _, h6⟩ := wordsG_mem hw
 unfold goodW
 rw [h6, h3, decide_eq_true h4]; rfl
theorem asc_lt' {c : Str} (h : Asc c) : c.Pairwise (· < ·) := h.imp fun h => UInt8.lt_iff_toNat_lt.2 h
theorem words_pw {g : Gram} {n : Int} : (wordsG g n).Pairwise fun x y => ltB x y = true := by
 unfold wordsG
 cases okG g && isM n
 ·exact .nil
 ·exact (pw_words (asc_lt' setS_asc)).imp fun h => ltB_iff.2 h
theorem y_laws_FnAllWords (l : List Int) : evFn cx_law Tryd.f10 true [ofD TB l] [] = (
branch (decide (1048576 < (l.length : Int))) ( some ((vB true), [])) (
 branch (!decide (((wordsG (F_spec_DrawAllWords l).fst (F_spec_DrawAllWords l).snd).length : Int) = ((wordsG (F_spec_DrawAllWords l).fst (F_spec_DrawAllWords l).snd).length : Int))) ( some ((vB false), [])) (
 need (pre_law (F_spec_DrawAllWords l).snd (wordsG (F_spec_DrawAllWords l).fst (F_spec_DrawAllWords l).snd) (wordsG (F_spec_DrawAllWords l).fst (F_spec_DrawAllWords l).snd) 0 (F_spec_DrawAllWords l).fst) <| some ((vB (decide (((wordsG (F_spec_DrawAllWords l).fst (F_spec_DrawAllWords l).snd).length : Int) ≤ 60))), [])))) := by kernel_rfl
theorem s_laws_FnAllWords (l : List Int) (_hl : Fit TB l) : Sat Tryd.prog 10 [ofD TB l] [] (.d (ofD .bool true)) [] :=
 fn_sound (cx := cx_law) Tryd.func10 rfl ttOk Γ83ok mixed (fun c hc => LoopsOk.all (l := [(9, loopOf Tryd.f10 0)]) (by cases hc; kernel_rfl) ⟨atLoop rfl (l_law 1 rfl (by kernel_rfl)), trivial⟩) (ro := true) (by
  rw [y_laws_FnAllWords]
  generalize F_spec_DrawAllWords l = v
  obtain ⟨g, n⟩ := v
  cases decide (1048576 < (List.length l : Int))
  ·have hwl := wordsG_len (g := g) (n := n)
   have kp : pre_law n (wordsG g n) (wordsG g n) 0 g = true := by
    simp only [pre_law, andd, dec_iff]
    exact ⟨Int.le_refl 0, trivial, words_good, words_pw, by omega⟩
   show branch (!decide ((List.length (wordsG g n) : Int) = (List.length (wordsG g n) : Int))) _ (need (pre_law n (wordsG g n) (wordsG g n) 0 g) (some (vB (decide ((List.length (wordsG g n) : Int) ≤ 60)), []))) = _
   rw [decide_eq_true rfl, kp, decide_eq_true (by omega : (List.length (wordsG g n) : Int) ≤ 60)]; rfl
  ·rfl)
noncomputable def c_laws_FnAllWords : Con := conT [TB] fun (_l : List Int) => (none, .d (ofD .bool true))
theorem k_laws_FnAllWords : ConOk Tryd.prog 10 c_laws_FnAllWords := conT_ok Tryd.call10 fun l hl _ => s_laws_FnAllWords l hl
noncomputable def Γ84 : List (Nat × Con) := (10, c_laws_FnAllWords) :: Γ83
theorem Γ84ok : EnvOk Tryd.prog (look Γ84) := .cons k_laws_FnAllWords Γ83ok
noncomputable def cb_lal : Cx := (cxOf Γ84 Tryd.f9.ntmps [(11, [5, 6, 7])] [(0, []), (1, [5, 6, 7]), (1000000, [2])] [] []).parted [6]
theorem x_laws_FnAllLonger (i : Int) (l m : List Str) (R : St → Option Fin) (K : Cont) : evC (cb_lal.withLoops (look [])) (loopOf Tryd.f9 0) ⟨[(5, .d (ofD TSS l)), (6, .d (ofD TSS m)), (7, vI i)], []⟩ (onward (headAt (cb_lal.withLoops (look [])) 11) R K) = (
branch (decide (i < (l.length : Int))) (
 need (inb i l.length) <|
 need (inb i m.length) <|
 branch (!decide ((l.getD i.toNat ([] : Str)) = (m.getD i.toNat ([] : Str)))) ( K (.ret) (.mk [(2, (vB false))] [])) ( R (.mk [(5, (.d (.one (.r (.li (Ty.str) (l)))))), (6, (.d (.one (.r (.li (Ty.str) (m)))))), (7, (vI (W64 (i + 1))))] []))) ( K (.exit 0) (.mk [] []))) := by kernel_rfl
noncomputable def cx0_lal : Cx := (cb_lal).withLoops (look [])
def sh_lal : Sh := ([(5, .d TSS), (6, .d TSS), (7, .d TI64)], [])
def pre_lal (l : List Str) (m : List Str) (i : Int) : Bool := decide (0 ≤ i) && (decide (List.take (List.length l) m = l) && decide (List.length l ≤ 1000))
noncomputable def res_lal (_l : List Str) (_m : List Str) (_i : Int) (K : Cont) : Option Fin := K (.exit 0) ⟨[], []⟩
def mu_lal (l : List Str) (_m : List Str) (i : Int) : Nat := List.length l - i.toNat
theorem r_lal (l : List Str) (m : List Str) (i : Int) (K : Cont) (hI : pre_lal l m i = true) : (∀ R : St → Option Fin, evC cx0_lal (loopOf Tryd.f9 0) ⟨[(5, .d (ofD TSS l)), (6, .d (ofD TSS m)), (7, .d (ofD TI64 i))], []⟩ (onward (headAt cx0_lal 11) R K) = res_lal l m i K) ∨
  (∃ (l' : List Str) (m' : List Str) (i' : Int), pre_lal l' m' i' = true ∧ mu_lal l' m' i' < mu_lal l m i ∧ res_lal l' m' i' K = res_lal l m i K ∧ ∀ R : St → Option Fin, evC cx0_lal (loopOf Tryd.f9 0) ⟨[(5, .d (ofD TSS l)), (6, .d (ofD TSS m)), (7, .d (ofD TI64 i))], []⟩ (onward (headAt cx0_lal 11) R K) = R ⟨[(5, .d (ofD TSS l')), (6, .d (ofD TSS m')), (7, .d (ofD TI64 i'))], []⟩) := by
 have hx := fun R => x_laws_FnAllLonger i l m R K
 simp only [pre_lal, andd, dec_iff] at hI
 obtain ⟨h0, h1, h2⟩ := hI
 by_cases hi : i < (List.length l : Int)
 ·have w : W64 (i + 1) = i + 1 := wrap_small (by omega) (by omega)
  have hlm : List.length l ≤ List.length m := by
   have := congrArg List.length h1
   rw [List.length_take] at this
   omega
  have he : List.getD l i.toNat ([] : Str) = List.getD m i.toNat ([] : Str) := by
   conv => lhs; rw [← h1]
   rw [List.getD_eq_getElem?_getD, List.getD_eq_getElem?_getD, List.getElem?_take, if_pos (by omega)]
  rw [decide_eq_true hi, inb_ok h0 hi, inb_ok h0 (by omega : i < (List.length m : Int)), decide_eq_true he, w] at hx
  right
  refine ⟨l, m, i + 1, ?_, ?_, rfl, fun R => hx R⟩
  ·simp only [pre_lal, andd, dec_iff]
   exact ⟨by omega, h1, h2⟩
  ·simp only [mu_lal]; omega
 ·left
  intro R
  refine (hx R).trans ?_
  rw [decide_eq_false hi]; rfl
noncomputable def g_lal : St → Cont → Option Fin := gP sh_lal (fun v => match v with | ((l, m, i, ()), ()) => pre_lal l m i) (fun v K => match v with | ((l, m, i, ()), ()) => res_lal l m i K)
noncomputable def L_lal : List (Nat × (St → Cont → Option Fin)) := (11, g_lal) :: []
noncomputable def cx_lal : Cx := (cb_lal).withLoops (look L_lal)
theorem l_lal {L : List (Nat × (St → Cont → Option Fin))} (n : Nat) (h1 : L.drop n = []) (h2 : idsFree (L.take n) (loopOf Tryd.f9 0) = true) : ∀ st K r, g_lal st K = some r → ∃ N, iter (evC ((cb_lal).withLoops (look L)) (loopOf Tryd.f9 0)) (headAt ((cb_lal).withLoops (look L)) 11) N st K = some r :=
 with_drop h1 h2 (gP_ok (fun v => match v with | ((l, m, i, ()), ()) => mu_lal l m i) fun v K hI => by
  obtain ⟨⟨(l : List Str), (m : List Str), (i : Int), ⟨⟩⟩, ⟨⟩⟩ := v
  rcases r_lal l m i K hI with h1 | ⟨l', m', i', h1, h2, h3, h4⟩
  ·exact .inl h1
  ·exact .inr ⟨((l', m', i', ()), ()), h1, h2, h3, h4⟩)
theorem y_laws_FnAllLonger (l : List Int) : evFn cx_lal Tryd.f9 true [ofD TB l] [] = (
branch (decide (1048576 < (l.length : Int))) ( some ((vB true), [])) (
 branch (decide ((!decide (((wordsG (F_spec_DrawAllWords l).fst (F_spec_DrawAllWords l).snd).length : Int) = ((wordsG (F_spec_DrawAllWords l).fst (F_spec_DrawAllWords l).snd).length : Int))) = false)) (
 branch (decide ((bif false then true else decide ((F_spec_DrawAllWords l).snd < 0)) = false)) (
  branch (decide ((bif false then true else decide (3 < (F_spec_DrawAllWords l).snd)) = false)) (
  branch (bif false then true else !okG (F_spec_DrawAllWords l).fst) ( some ((vB (decide (((wordsG (F_spec_DrawAllWords l).fst (F_spec_DrawAllWords l).snd).length : Int) = ((wordsG (F_spec_DrawAllWords l).fst (F_spec_DrawAllWords l).snd).length : Int)))), [])) (
   branch (decide (((wordsG (F_spec_DrawAllWords l).fst (W64 ((F_spec_DrawAllWords l).snd + 1))).length : Int) < ((wordsG (F_spec_DrawAllWords l).fst (F_spec_DrawAllWords l).snd).length : Int))) ( some ((vB false), [])) (
   need (pre_lal (wordsG (F_spec_DrawAllWords l).fst (F_spec_DrawAllWords l).snd) (wordsG (F_spec_DrawAllWords l).fst (W64 ((F_spec_DrawAllWords l).snd + 1))) 0) <| some ((vB true), [])))) ( some ((vB (decide (((wordsG (F_spec_DrawAllWords l).fst (F_spec_DrawAllWords l).snd).length : Int) = ((wordsG (F_spec_DrawAllWords l).fst (F_spec_DrawAllWords l).snd).length : Int)))), []))) ( some ((vB (decide (((wordsG (F_spec_DrawAllWords l).fst (F_spec_DrawAllWords l).snd).length : Int) = ((wordsG (F_spec_DrawAllWords l).fst (F_spec_DrawAllWords l).snd).length : Int)))), []))) ( some ((vB (decide (((wordsG (F_spec_DrawAllWords l).fst (F_spec_DrawAllWords l).snd).length : Int) = ((wordsG (F_spec_DrawAllWords l).fst (F_spec_DrawAllWords l).snd).length : Int)))), [])))) := by kernel_rfl
theorem s_laws_FnAllLonger (l : List Int) (_hl : Fit TB l) : Sat Tryd.prog 9 [ofD TB l] [] (.d (ofD .bool true)) [] :=
 fn_sound (cx := cx_lal) Tryd.func9 rfl ttOk Γ84ok mixed (fun c hc => LoopsOk.all (l := [(11, loopOf Tryd.f9 0)]) (by cases hc; kernel_rfl) ⟨atLoop rfl (l_lal 1 rfl (by kernel_rfl)), trivial⟩) (ro := true) (by
  rw [y_laws_FnAllLonger]
  generalize F_spec_DrawAllWords l = v
  obtain ⟨g, n⟩ := v
  show branch _ _ (branch (decide ((!decide ((List.length (wordsG g n) : Int) = (List.length (wordsG g n) : Int))) = false)) (branch (decide ((bif false then true else decide (n < 0)) = false)) (branch (decide ((bif false then true else decide (3 < n)) = false)) (branch (bif false then true else !okG g) (some (vB (decide ((List.length (wordsG g n) : Int) = (List.length (wordsG g n) : Int))), [])) (branch (decide ((List.length (wordsG g (W64 (n + 1))) : Int) < (List.length (wordsG g n) : Int))) (some (vB false, [])) (need (pre_lal (wordsG g n) (wordsG g (W64 (n + 1))) 0) (some (vB true, []))))) (some (vB (decide ((List.length (wordsG g n) : Int) = (List.length (wordsG g n) : Int))), []))) (some (vB (decide ((List.length (wordsG g n) : Int) = (List.length (wordsG g n) : Int))), []))) (some (vB (decide ((List.length (wordsG g n) : Int) = (List.length (wordsG g n) : Int))), []))) = _
  rw [decide_eq_true (rfl : (List.length (wordsG g n) : Int) = (List.length (wordsG g n) : Int))]
  cases decide (1048576 < (List.length l : Int))
  ·by_cases h0 : n < 0
   ·rw [decide_eq_true h0]; rfl
   ·by_cases h3 : 3 < n
    ·rw [decide_eq_false h0, decide_eq_true h3]; rfl
    ·rw [decide_eq_false h0, decide_eq_false h3]
     cases hg : okG g
     ·rfl
     ·have w : W64 (n + 1) = n + 1 := wrap_small (by omega) (by omega)
      have m1 : isM n = true := isM_iff.2 ⟨by omega, by omega⟩
      have m2 : isM (n + 1) = true := isM_iff.2 ⟨by omega, by omega⟩
      have e1 : wordsG g n = wordsV (isD g) (smallsG g) n.toNat := by unfold wordsG; rw [hg, m1]; rfl
      have e2 : wordsG g (n + 1) = wordsV (isD g) (smallsG g) (n.toNat + 1) := by unfold wordsG; rw [hg, m2, show (n + 1).toNat = n.toNat + 1 by omega]; rfl
      obtain ⟨q, hq⟩ := words_more (f := isD g) (c := smallsG g) (n := n.toNat)
      rw [← e1, ← e2] at hq
      have hwl := wordsG_len (g := g) (n := n)
      have kp : pre_lal (wordsG g n) (wordsG g (n + 1)) 0 = true := by
       simp only [pre_lal, andd, dec_iff]
       exact ⟨Int.le_refl 0, by rw [hq]; exact List.take_left, by omega⟩
      rw [w, decide_eq_false (by rw [hq, List.length_append]; omega : ¬ (List.length (wordsG g (n + 1)) : Int) < (List.length (wordsG g n) : Int)), kp]; rfl
  ·rfl)
noncomputable def c_laws_FnAllLonger : Con := conT [TB] fun (_l : List Int) => (none, .d (ofD .bool true))
theorem k_laws_FnAllLonger : ConOk Tryd.prog 9 c_laws_FnAllLonger := conT_ok Tryd.call9 fun l hl _ => s_laws_FnAllLonger l hl
noncomputable def Γ85 : List (Nat × Con) := (9, c_laws_FnAllLonger) :: Γ84
theorem Γ85ok : EnvOk Tryd.prog (look Γ85) := .cons k_laws_FnAllLonger Γ84ok
end Go.Proofs.YtbijdgkkneffgaaDoor.Ev
