/-
  FnGramOnes: the law.
-/
import Derived.Test.YtbijdgkkneffgaaGreatDoorHf
namespace Go.Proofs.YtbijdgkkneffgaaGreatDoor.Ev
open Go
theorem e_spec_DrawGramOnes (l : List Int) (hl : Fit TB l) : ∃ q : Gram × Str, evFn (cxOf Γ87 Tryz.f6.ntmps [] [] [] []) Tryz.f6 true [ofD TB l] [] = some (.tup [ofD TG q.1, ofD .str q.2], []) ∧ (szG 20 q.1 = true ∧ q.2.length ≤ 1) := by
 obtain ⟨r, h1, h2⟩ : Ok (evFn (cxOf Γ87 Tryz.f6.ntmps [] [] [] []) Tryz.f6 true [ofD TB l] []) (fun r => ∃ (v : Gram × Str), r = (.tup [ofD TG v.1, ofD .str v.2], []) ∧ (szG 20 v.1 = true ∧ v.2.length ≤ 1)) := by
  have y : evFn (cxOf Γ87 Tryz.f6.ntmps [] [] [] []) Tryz.f6 true [ofD TB l] [] = some (.tup [ofD TG (F_spec_DrawGramFor l).1, ofD .str (F_spec_DrawGramFor l).2], []) := by kernel_rfl
  rw [y]
  exact Ok.ret ⟨_, rfl, p_spec_DrawGramFor l hl⟩
 obtain ⟨v, h2, h3⟩ := h2
 exact ⟨v, by rw [h1, h2], h3⟩
noncomputable def F_spec_DrawGramOnes (l : List Int) : Gram × Str := oneOf (fun q : Gram × Str => evFn (cxOf Γ87 Tryz.f6.ntmps [] [] [] []) Tryz.f6 true [ofD TB l] [] = some (.tup [ofD TG q.1, ofD .str q.2], []) ∧ (szG 20 q.1 = true ∧ q.2.length ≤ 1))
theorem p_spec_DrawGramOnes (l : List Int) (hl : Fit TB l) : szG 20 (F_spec_DrawGramOnes l).1 = true ∧ (F_spec_DrawGramOnes l).2.length ≤ 1 := (oneOf_spec (e_spec_DrawGramOnes l hl)).2
theorem s_spec_DrawGramOnes (l : List Int) (hl : Fit TB l) : Sat Tryz.prog 6 [ofD TB l] [] (.tup [ofD TG (F_spec_DrawGramOnes l).1, ofD .str (F_spec_DrawGramOnes l).2]) [] :=
 fn_sound (cx := cxOf Γ87 Tryz.f6.ntmps [] [] [] []) Tryz.func6 rfl ttOk Γ87ok mixed (fun _ _ => LoopsOk.no fun _ => rfl) (ro := true) (oneOf_spec (e_spec_DrawGramOnes l hl)).1
noncomputable def c_spec_DrawGramOnes : Con := conT [TB] fun (l : List Int) => (none, .tup [ofD TG (F_spec_DrawGramOnes l).1, ofD .str (F_spec_DrawGramOnes l).2])
theorem k_spec_DrawGramOnes : ConOk Tryz.prog 6 c_spec_DrawGramOnes := conT_ok Tryz.call6 fun l hl _ => s_spec_DrawGramOnes l hl
noncomputable def Γ88 : List (Nat × Con) := (6, c_spec_DrawGramOnes) :: Γ87
theorem Γ88ok : EnvOk Tryz.prog (look Γ88) := .cons k_spec_DrawGramOnes Γ87ok
def clB (s : Str) (r : Rule) : Bool := !(bigS r.2 && (inS s (byteAt r.1 0) && !inS s (byteAt r.2 0)))
theorem ones_closed {g : Gram} {a : Str} (_h : okG g = true) (ha : bigS a = true) : List.all g.2 (clB (onesG g.2 a)) = true := List.all_eq_true.2 fun r hr => by
 obtain ⟨q1, _, q3⟩ := okS_big ha
 have hs := okSB_iff.1 q1
 unfold clB
 cases hb : bigS r.2
 ·rfl
 ·cases h1 : inS (onesG g.2 a) (byteAt r.1 0)
  ·rfl
  ·obtain ⟨c, e, hc⟩ := bigS_one hb
   have h2 : inS (onesG g.2 a) (byteAt r.2 0) = true := by
    have hm := (onesG_mem hs q3).1 (inS_mem.1 (show inS (onesG g.2 a) ((r.1.getD 0 0).toNat : Int) = true from h1))
    rw [e]
    show inS (onesG g.2 a) (c.toNat : Int) = true
    refine inS_mem.2 ((onesG_mem hs q3).2 (.step (r := (r.1, adR r)) (List.mem_map.2 ⟨r, hr, rfl⟩) hm ?_ hc))
    show c ∈ adR r
    unfold adR
    rw [hb, cond_true, e]; exact List.mem_cons_self
   rw [h2]; rfl
theorem ones_der {g : Gram} {a s : Str} (h : okG g = true) (ha : bigS a = true) {c : UInt8} (hm : Met (a, onesR g.2) c) {i j : Int} (i0 : 0 ≤ i) (i1 : i ≤ j) (i2 : j ≤ (List.length s : Int)) (hd : DerG s g.2 [c] i j) : DerG s g.2 a i j := by
 induction hm with
 | start hc =>
  obtain ⟨c0, e, _⟩ := bigS_one ha
  have hc : _ ∈ a := hc
  rw [e, List.mem_singleton] at hc
  rw [e, ← hc]; exact hd
 | @step r c hr _ g2 g3 ih =>
  obtain ⟨r0, hr0, rfl⟩ := List.mem_map.1 hr
  obtain ⟨c1, e1, _⟩ := bigS_one ((okG_iff h).2.2 r0 hr0).1
  have g2 : c ∈ adR r0 := g2
  rcases adR_one (r := r0) with e | ⟨c2, e, _, e2⟩
  ·rw [e] at g2; cases g2
  ·rw [e, List.mem_singleton] at g2
   subst g2
   refine ih ?_
   show DerG s g.2 [r0.1.getD 0 0] i j
   rw [show [r0.1.getD 0 0] = r0.1 by rw [e1]; rfl]
   refine Der_closed r0 hr0 i j i0 i1 i2 ?_
   rw [e2]
   refine ⟨j, i1, Int.le_refl _, ?_, rfl⟩
   unfold derP
   rw [if_neg (by rw [show smallS [c] = small c from rfl]; exact fun h => big_small c ⟨g3, h⟩)]
   exact hd
def goodU (u : Gram) (w : Str) : Bool := both2 u w && isD u w
theorem ones_words {g : Gram} {a : Str} (h : okG g = true) (ha : bigS a = true) {c : UInt8} (hc : c ∈ onesG g.2 a) {n : Int} : List.all (wordsG ([c], g.2) n) (goodU (a, g.2)) = true := List.all_eq_true.2 fun w hw => by
 obtain ⟨q1, _, q3⟩ := okS_big ha
 have hs := okSB_iff.1 q1
 obtain ⟨h1, _, h3, _, _, h6⟩ := wordsG_mem hw
 have hm := (onesG_mem hs q3).1 hc
 have hcb : bigS ([c] : Str) = true := okG_big h1
 unfold goodU
 have hok : okG (a, g.2) = true := by
  unfold okG at h ⊢
  rw [andd] at h ⊢
  exact ⟨ha, h.2⟩
 rw [andd]
 constructor
 ·unfold both2 at h6 ⊢
  rw [b2, andd] at h6 ⊢
  exact ⟨hok, h6.2⟩
 ·exact (isD_iff (g := (a, g.2)) ha).2 (ones_der h ha hm (Int.le_refl 0) (by omega) (Int.le_refl _) ((isD_iff (g := (([c] : Str), g.2)) hcb).1 h3))
noncomputable def cb_lgo : Cx := (cxOf Γ88 Tryz.f3.ntmps [(21, [3, 4, 5, 7, 9, 10, 11]), (13, [3, 4, 5, 7]), (8, [3, 4, 5, 6])] [(2, [4, 5]), (3, [3, 4, 5, 7]), (4, [3, 4, 5, 7]), (5, [3, 4, 5, 7, 9, 10, 11]), (0, [3, 4, 5]), (1, [3, 4, 5, 6]), (1000000, [2])] [] []).parted [5, 10]
theorem x_laws_FnGramOnes_2 (g u : Gram) (a s : Str) (j k : Int) (l : List Str) (R : St → Option Fin) (K : Cont) : evC (cb_lgo.withLoops (look [])) (loopOf Tryz.f3 2) ⟨[(3, .d (.one (.ptr 500000 0))), (4, vS a), (5, vS s), (7, vI j), (9, .d (.one (.ptr 500001 0))), (10, .d (ofD TSS l)), (11, vI k)], [(500000, some (boxD 25 TG g)), (500001, some (boxD 25 TG u))]⟩ (onward (headAt (cb_lgo.withLoops (look [])) 21) R K) = (
branch (decide (k < (l.length : Int))) (
 need (inb k l.length) <|
 branch (!(both2 u (l.getD k.toNat ([] : Str)) && isD u (l.getD k.toNat ([] : Str)))) ( K (.ret) (.mk [(2, (vB false))] [])) ( R (.mk [(3, (.d (.one (.ptr 500000 0)))), (4, (vS a)), (5, (vS s)), (7, (vI j)), (9, (.d (.one (.ptr 500001 0)))), (10, (.d (.one (.r (.li (Ty.str) (l)))))), (11, (vI (W64 (k + 1))))] [(500000, (.some (.box 25 [(.r (.v (Value.string (mk g.fst)))), (.r (.li TRu (g.snd)))]))), (500001, (.some (.box 25 [(.r (.v (Value.string (mk u.fst)))), (.r (.li TRu (u.snd)))])))]))) ( K (.exit 4) (.mk [(3, (.d (.one (.ptr 500000 0)))), (4, (vS a)), (5, (vS s)), (7, (vI j))] [(500000, (.some (.box 25 [(.r (.v (Value.string (mk g.fst)))), (.r (.li TRu (g.snd)))])))]))) := by kernel_rfl
noncomputable def cx0_u3 : Cx := (cb_lgo).withLoops (look [])
def sh_u3 : Sh := ([(3, .ptr 500000 0), (4, .d .str), (5, .d .str), (7, .d TI64), (9, .ptr 500001 0), (10, .d TSS), (11, .d TI64)], [(500000, .box 25 TG), (500001, .box 25 TG)])
def pre_u3 (_a : Str) (_s : Str) (_j : Int) (l : List Str) (k : Int) (_g : Gram) (u : Gram) : Bool := decide (0 ≤ k) && (List.all l (goodU u) && decide (List.length l ≤ 1000))
noncomputable def res_u3 (a : Str) (s : Str) (j : Int) (_l : List Str) (_k : Int) (g : Gram) (_u : Gram) (K : Cont) : Option Fin := K (.exit 4) ⟨[(3, .d (.one (.ptr 500000 0))), (4, vS a), (5, vS s), (7, vI j)], gH g⟩
def mu_u3 (_a : Str) (_s : Str) (_j : Int) (l : List Str) (k : Int) (_g : Gram) (_u : Gram) : Nat := List.length l - k.toNat
theorem r_u3 (a : Str) (s : Str) (j : Int) (l : List Str) (k : Int) (g : Gram) (u : Gram) (K : Cont) (hI : pre_u3 a s j l k g u = true) : (∀ R : St → Option Fin, evC cx0_u3 (loopOf Tryz.f3 2) ⟨[(3, .d (.one (.ptr 500000 0))), (4, .d (ofD .str a)), (5, .d (ofD .str s)), (7, .d (ofD TI64 j)), (9, .d (.one (.ptr 500001 0))), (10, .d (ofD TSS l)), (11, .d (ofD TI64 k))], [(500000, some (boxD 25 TG g)), (500001, some (boxD 25 TG u))]⟩ (onward (headAt cx0_u3 21) R K) = res_u3 a s j l k g u K) ∨
  (∃ (a' : Str) (s' : Str) (j' : Int) (l' : List Str) (k' : Int) (g' : Gram) (u' : Gram), pre_u3 a' s' j' l' k' g' u' = true ∧ mu_u3 a' s' j' l' k' g' u' < mu_u3 a s j l k g u ∧ res_u3 a' s' j' l' k' g' u' K = res_u3 a s j l k g u K ∧ ∀ R : St → Option Fin, evC cx0_u3 (loopOf Tryz.f3 2) ⟨[(3, .d (.one (.ptr 500000 0))), (4, .d (ofD .str a)), (5, .d (ofD .str s)), (7, .d (ofD TI64 j)), (9, .d (.one (.ptr 500001 0))), (10, .d (ofD TSS l)), (11, .d (ofD TI64 k))], [(500000, some (boxD 25 TG g)), (500001, some (boxD 25 TG u))]⟩ (onward (headAt cx0_u3 21) R K) = R ⟨[(3, .d (.one (.ptr 500000 0))), (4, .d (ofD .str a')), (5, .d (ofD .str s')), (7, .d (ofD TI64 j')), (9, .d (.one (.ptr 500001 0))), (10, .d (ofD TSS l')), (11, .d (ofD TI64 k'))], [(500000, some (boxD 25 TG g')), (500001, some (boxD 25 TG u'))]⟩) := by
 have hx := fun R => x_laws_FnGramOnes_2 g u a s j k l R K
 simp only [pre_u3, andd, dec_iff] at hI
 obtain ⟨h0, h1, h2⟩ := hI
 by_cases hi : k < (List.length l : Int)
 ·have w : W64 (k + 1) = k + 1 := wrap_small (by omega) (by omega)
  have hw := List.all_eq_true.1 h1 _ (getD_mem (d := ([] : Str)) (by omega : k.toNat < List.length l))
  unfold goodU at hw
  rw [decide_eq_true hi, inb_ok h0 hi, w, hw] at hx
  right
  refine ⟨a, s, j, l, k + 1, g, u, ?_, ?_, rfl, fun R => hx R⟩
  ·simp only [pre_u3, andd, dec_iff]
   exact ⟨by omega, h1, h2⟩
  ·simp only [mu_u3]; omega
 ·left
  intro R
  refine (hx R).trans ?_
  rw [decide_eq_false hi]; rfl
noncomputable def g_u3 : St → Cont → Option Fin := gP sh_u3 (fun v => match v with | ((a, s, j, l, k, ()), (g, u, ())) => pre_u3 a s j l k g u) (fun v K => match v with | ((a, s, j, l, k, ()), (g, u, ())) => res_u3 a s j l k g u K)
noncomputable def L_u3 : List (Nat × (St → Cont → Option Fin)) := (21, g_u3) :: []
noncomputable def cx_u3 : Cx := (cb_lgo).withLoops (look L_u3)
theorem l_u3 {L : List (Nat × (St → Cont → Option Fin))} (n : Nat) (h1 : L.drop n = []) (h2 : idsFree (L.take n) (loopOf Tryz.f3 2) = true) : ∀ st K r, g_u3 st K = some r → ∃ N, iter (evC ((cb_lgo).withLoops (look L)) (loopOf Tryz.f3 2)) (headAt ((cb_lgo).withLoops (look L)) 21) N st K = some r :=
 with_drop h1 h2 (gP_ok (fun v => match v with | ((a, s, j, l, k, ()), (g, u, ())) => mu_u3 a s j l k g u) fun v K hI => by
  obtain ⟨⟨(a : Str), (s : Str), (j : Int), (l : List Str), (k : Int), ⟨⟩⟩, ⟨(g : Gram), (u : Gram), ⟨⟩⟩⟩ := v
  rcases r_u3 a s j l k g u K hI with h1 | ⟨a', s', j', l', k', g', u', h1, h2, h3, h4⟩
  ·exact .inl h1
  ·exact .inr ⟨((a', s', j', l', k', ()), (g', u', ())), h1, h2, h3, h4⟩)
theorem x_laws_FnGramOnes_1 (g : Gram) (a s : Str) (j : Int) (R : St → Option Fin) (K : Cont) : evC (cb_lgo.withLoops (look L_u3)) (loopOf Tryz.f3 1) ⟨[(3, .d (.one (.ptr 500000 0))), (4, vS a), (5, vS s), (7, vI j)], [(500000, some (boxD 25 TG g))]⟩ (onward (headAt (cb_lgo.withLoops (look L_u3)) 13) R K) = (
branch (decide (j < (s.length : Int))) (
 need (inr j (W64 (j + 1)) s.length) <|
 need (pre_u3 a s j (wordsG (List.take ((W64 (j + 1)).toNat - j.toNat) (List.drop j.toNat s), g.snd) 2) 0 g (a, g.snd)) <| R (.mk [(3, (.d (.one (.ptr 500000 0)))), (4, (vS a)), (5, (vS s)), (7, (vI (W64 (j + 1))))] [(500000, (.some (.box 25 [(.r (.v (Value.string (mk g.fst)))), (.r (.li TRu (g.snd)))])))])) ( K (.exit 2) (.mk [(4, (vS a)), (5, (vS s))] []))) := by kernel_rfl
noncomputable def cx0_u2 : Cx := (cb_lgo).withLoops (look L_u3)
def sh_u2 : Sh := ([(3, .ptr 500000 0), (4, .d .str), (5, .d .str), (7, .d TI64)], [(500000, .box 25 TG)])
def pre_u2 (a : Str) (s : Str) (j : Int) (g : Gram) : Bool := decide (0 ≤ j) && (okG g && (bigS a && decide (s = onesG g.2 a)))
noncomputable def res_u2 (a : Str) (s : Str) (_j : Int) (_g : Gram) (K : Cont) : Option Fin := K (.exit 2) ⟨[(4, vS a), (5, vS s)], []⟩
def mu_u2 (_a : Str) (s : Str) (j : Int) (_g : Gram) : Nat := List.length s - j.toNat
theorem r_u2 (a : Str) (s : Str) (j : Int) (g : Gram) (K : Cont) (hI : pre_u2 a s j g = true) : (∀ R : St → Option Fin, evC cx0_u2 (loopOf Tryz.f3 1) ⟨[(3, .d (.one (.ptr 500000 0))), (4, .d (ofD .str a)), (5, .d (ofD .str s)), (7, .d (ofD TI64 j))], [(500000, some (boxD 25 TG g))]⟩ (onward (headAt cx0_u2 13) R K) = res_u2 a s j g K) ∨
  (∃ (a' : Str) (s' : Str) (j' : Int) (g' : Gram), pre_u2 a' s' j' g' = true ∧ mu_u2 a' s' j' g' < mu_u2 a s j g ∧ res_u2 a' s' j' g' K = res_u2 a s j g K ∧ ∀ R : St → Option Fin, evC cx0_u2 (loopOf Tryz.f3 1) ⟨[(3, .d (.one (.ptr 500000 0))), (4, .d (ofD .str a)), (5, .d (ofD .str s)), (7, .d (ofD TI64 j))], [(500000, some (boxD 25 TG g))]⟩ (onward (headAt cx0_u2 13) R K) = R ⟨[(3, .d (.one (.ptr 500000 0))), (4, .d (ofD .str a')), (5, .d (ofD .str s')), (7, .d (ofD TI64 j'))], [(500000, some (boxD 25 TG g'))]⟩) := by
 have hx := fun R => x_laws_FnGramOnes_1 g a s j R K
 simp only [pre_u2, andd, dec_iff] at hI
 obtain ⟨h0, h1, h2, h3⟩ := hI
 have hl : List.length s ≤ 5 := by
  obtain ⟨q1, _, q3⟩ := okS_big h2
  have := onesG_okS (l := g.2) (okSB_iff.1 q1) q3
  rw [h3]
  exact big_five this.1 this.2
 by_cases hi : j < (List.length s : Int)
 ·have w : W64 (j + 1) = j + 1 := wrap_small (by omega) (by omega)
  have hc : List.getD s j.toNat 0 ∈ onesG g.2 a := by
   rw [← h3]; exact getD_mem (by omega)
  have kp : pre_u3 a s j (wordsG ([List.getD s j.toNat 0], g.2) 2) 0 g (a, g.2) = true := by
   simp only [pre_u3, andd, dec_iff]
   have := wordsG_len (g := (([List.getD s j.toNat 0] : Str), g.2)) (n := 2)
   exact ⟨Int.le_refl 0, ones_words h1 h2 hc, by omega⟩
  rw [decide_eq_true hi, w, inr_iff.2 (by omega : 0 ≤ j ∧ j ≤ j + 1 ∧ j + 1 ≤ (List.length s : Int)), slice_one h0 hi, kp] at hx
  right
  refine ⟨a, s, j + 1, g, ?_, ?_, rfl, fun R => hx R⟩
  ·simp only [pre_u2, andd, dec_iff]
   exact ⟨by omega, h1, h2, h3⟩
  ·simp only [mu_u2]; omega
 ·left
  intro R
  refine (hx R).trans ?_
  rw [decide_eq_false hi]; rfl
noncomputable def g_u2 : St → Cont → Option Fin := gP sh_u2 (fun v => match v with | ((a, s, j, ()), (g, ())) => pre_u2 a s j g) (fun v K => match v with | ((a, s, j, ()), (g, ())) => res_u2 a s j g K)
noncomputable def L_u2 : List (Nat × (St → Cont → Option Fin)) := (13, g_u2) :: L_u3
noncomputable def cx_u2 : Cx := (cb_lgo).withLoops (look L_u2)
theorem l_u2 {L : List (Nat × (St → Cont → Option Fin))} (n : Nat) (h1 : L.drop n = L_u3) (h2 : idsFree (L.take n) (loopOf Tryz.f3 1) = true) : ∀ st K r, g_u2 st K = some r → ∃ N, iter (evC ((cb_lgo).withLoops (look L)) (loopOf Tryz.f3 1)) (headAt ((cb_lgo).withLoops (look L)) 13) N st K = some r :=
 with_drop h1 h2 (gP_ok (fun v => match v with | ((a, s, j, ()), (g, ())) => mu_u2 a s j g) fun v K hI => by
  obtain ⟨⟨(a : Str), (s : Str), (j : Int), ⟨⟩⟩, ⟨(g : Gram), ⟨⟩⟩⟩ := v
  rcases r_u2 a s j g K hI with h1 | ⟨a', s', j', g', h1, h2, h3, h4⟩
  ·exact .inl h1
  ·exact .inr ⟨((a', s', j', ()), (g', ())), h1, h2, h3, h4⟩)
theorem x_laws_FnGramOnes (g : Gram) (a s : Str) (i : Int) (R : St → Option Fin) (K : Cont) : evC (cb_lgo.withLoops (look L_u2)) (loopOf Tryz.f3 0) ⟨[(3, .d (.one (.ptr 500000 0))), (4, vS a), (5, vS s), (6, vI i)], [(500000, some (boxD 25 TG g))]⟩ (onward (headAt (cb_lgo.withLoops (look L_u2)) 8) R K) = (
branch (decide (i < (List.length g.snd : Int))) (
 need (inb i (List.length g.snd)) <|
 branch (decide (bigS (List.getD g.snd i.toNat d0).snd = true)) (
 need (inb i (List.length g.snd)) <|
 need (inb 0 (List.length (List.getD g.snd i.toNat d0).fst)) <|
 branch (decide ((bif true then inS s (byteAt (List.getD g.snd i.toNat d0).fst 0) else false) = true)) (
  need (inb i (List.length g.snd)) <|
  need (inb 0 (List.length (List.getD g.snd i.toNat d0).snd)) <|
  branch (bif true then !inS s (byteAt (List.getD g.snd i.toNat d0).snd 0) else false) ( K (.ret) (.mk [(2, (vB false))] [])) ( R (.mk [(3, (.d (.one (.ptr 500000 0)))), (4, (vS a)), (5, (vS s)), (6, (vI (W64 (i + 1))))] [(500000, (.some (.box 25 [(.r (.v (Value.string (mk g.fst)))), (.r (.li TRu (g.snd)))])))]))) ( R (.mk [(3, (.d (.one (.ptr 500000 0)))), (4, (vS a)), (5, (vS s)), (6, (vI (W64 (i + 1))))] [(500000, (.some (.box 25 [(.r (.v (Value.string (mk g.fst)))), (.r (.li TRu (g.snd)))])))]))) ( R (.mk [(3, (.d (.one (.ptr 500000 0)))), (4, (vS a)), (5, (vS s)), (6, (vI (W64 (i + 1))))] [(500000, (.some (.box 25 [(.r (.v (Value.string (mk g.fst)))), (.r (.li TRu (g.snd)))])))]))) ( K (.exit 0) (.mk [(3, (.d (.one (.ptr 500000 0)))), (4, (vS a)), (5, (vS s))] [(500000, (.some (.box 25 [(.r (.v (Value.string (mk g.fst)))), (.r (.li TRu (g.snd)))])))]))) := by kernel_rfl
noncomputable def cx0_u1 : Cx := (cb_lgo).withLoops (look L_u2)
def sh_u1 : Sh := ([(3, .ptr 500000 0), (4, .d .str), (5, .d .str), (6, .d TI64)], [(500000, .box 25 TG)])
def pre_u1 (_a : Str) (s : Str) (i : Int) (g : Gram) : Bool := decide (0 ≤ i) && (okG g && List.all g.2 (clB s))
noncomputable def res_u1 (a : Str) (s : Str) (_i : Int) (g : Gram) (K : Cont) : Option Fin := K (.exit 0) ⟨[(3, .d (.one (.ptr 500000 0))), (4, vS a), (5, vS s)], gH g⟩
def mu_u1 (_a : Str) (_s : Str) (i : Int) (g : Gram) : Nat := List.length g.2 - i.toNat
theorem r_u1 (a : Str) (s : Str) (i : Int) (g : Gram) (K : Cont) (hI : pre_u1 a s i g = true) : (∀ R : St → Option Fin, evC cx0_u1 (loopOf Tryz.f3 0) ⟨[(3, .d (.one (.ptr 500000 0))), (4, .d (ofD .str a)), (5, .d (ofD .str s)), (6, .d (ofD TI64 i))], [(500000, some (boxD 25 TG g))]⟩ (onward (headAt cx0_u1 8) R K) = res_u1 a s i g K) ∨
  (∃ (a' : Str) (s' : Str) (i' : Int) (g' : Gram), pre_u1 a' s' i' g' = true ∧ mu_u1 a' s' i' g' < mu_u1 a s i g ∧ res_u1 a' s' i' g' K = res_u1 a s i g K ∧ ∀ R : St → Option Fin, evC cx0_u1 (loopOf Tryz.f3 0) ⟨[(3, .d (.one (.ptr 500000 0))), (4, .d (ofD .str a)), (5, .d (ofD .str s)), (6, .d (ofD TI64 i))], [(500000, some (boxD 25 TG g))]⟩ (onward (headAt cx0_u1 8) R K) = R ⟨[(3, .d (.one (.ptr 500000 0))), (4, .d (ofD .str a')), (5, .d (ofD .str s')), (6, .d (ofD TI64 i'))], [(500000, some (boxD 25 TG g'))]⟩) := by
 have hx := fun R => x_laws_FnGramOnes g a s i R K
 simp only [pre_u1, andd, dec_iff] at hI
 obtain ⟨h0, h1, h2⟩ := hI
 have hlen : List.length g.2 ≤ 8 := (okG_iff h1).2.1
 by_cases hi : i < (List.length g.2 : Int)
 ·have w : W64 (i + 1) = i + 1 := wrap_small (by omega) (by omega)
  have hmem : List.getD g.2 i.toNat d0 ∈ g.2 := getD_mem (by omega)
  have hcl := List.all_eq_true.1 h2 _ hmem
  obtain ⟨c1, e1, _⟩ := bigS_one ((okG_iff h1).2.2 _ hmem).1
  have l1 : inb 0 (List.length (List.getD g.2 i.toNat d0).1) = true := by rw [e1]; rfl
  rw [decide_eq_true hi, inb_ok h0 hi, l1, w] at hx
  right
  refine ⟨a, s, i + 1, g, ?_, ?_, rfl, fun R => (hx R).trans ?_⟩
  ·simp only [pre_u1, andd, dec_iff]
   exact ⟨by omega, h1, h2⟩
  ·simp only [mu_u1]; omega
  ·unfold clB at hcl
   cases hb : bigS (List.getD g.2 i.toNat d0).2
   ·rfl
   ·rw [hb] at hcl
    obtain ⟨c2, e2, _⟩ := bigS_one hb
    have l2 : inb 0 (List.length (List.getD g.2 i.toNat d0).2) = true := by rw [e2]; rfl
    rw [l2]
    cases hp : inS s (byteAt (List.getD g.2 i.toNat d0).1 0)
    ·rfl
    ·rw [hp] at hcl
     cases hq : inS s (byteAt (List.getD g.2 i.toNat d0).2 0)
     ·rw [hq] at hcl; cases hcl
     ·rfl
 ·left
  intro R
  refine (hx R).trans ?_
  rw [decide_eq_false hi]; rfl
noncomputable def g_u1 : St → Cont → Option Fin := gP sh_u1 (fun v => match v with | ((a, s, i, ()), (g, ())) => pre_u1 a s i g) (fun v K => match v with | ((a, s, i, ()), (g, ())) => res_u1 a s i g K)
noncomputable def L_u1 : List (Nat × (St → Cont → Option Fin)) := (8, g_u1) :: L_u2
noncomputable def cx_u1 : Cx := (cb_lgo).withLoops (look L_u1)
theorem l_u1 {L : List (Nat × (St → Cont → Option Fin))} (n : Nat) (h1 : L.drop n = L_u2) (h2 : idsFree (L.take n) (loopOf Tryz.f3 0) = true) : ∀ st K r, g_u1 st K = some r → ∃ N, iter (evC ((cb_lgo).withLoops (look L)) (loopOf Tryz.f3 0)) (headAt ((cb_lgo).withLoops (look L)) 8) N st K = some r :=
 with_drop h1 h2 (gP_ok (fun v => match v with | ((a, s, i, ()), (g, ())) => mu_u1 a s i g) fun v K hI => by
  obtain ⟨⟨(a : Str), (s : Str), (i : Int), ⟨⟩⟩, ⟨(g : Gram), ⟨⟩⟩⟩ := v
  rcases r_u1 a s i g K hI with h1 | ⟨a', s', i', g', h1, h2, h3, h4⟩
  ·exact .inl h1
  ·exact .inr ⟨((a', s', i', ()), (g', ())), h1, h2, h3, h4⟩)
theorem y_laws_FnGramOnes (l : List Int) : evFn cx_u1 Tryz.f3 true [ofD TB l] [] = (
branch (decide (1048576 < (l.length : Int))) ( some ((vB true), [])) (
 branch (decide ((!decide ((bif okG (F_spec_DrawGramOnes l).fst && bigS (F_spec_DrawGramOnes l).snd then onesG (F_spec_DrawGramOnes l).fst.snd (F_spec_DrawGramOnes l).snd else []) = (bif okG (F_spec_DrawGramOnes l).fst && bigS (F_spec_DrawGramOnes l).snd then onesG (F_spec_DrawGramOnes l).fst.snd (F_spec_DrawGramOnes l).snd else []))) = false)) (
 branch (decide ((bif false then true else !okG (F_spec_DrawGramOnes l).fst) = false)) (
  branch (bif false then true else !bigS (F_spec_DrawGramOnes l).snd) ( some ((vB (decide ((bif okG (F_spec_DrawGramOnes l).fst && bigS (F_spec_DrawGramOnes l).snd then onesG (F_spec_DrawGramOnes l).fst.snd (F_spec_DrawGramOnes l).snd else []) = (bif okG (F_spec_DrawGramOnes l).fst && bigS (F_spec_DrawGramOnes l).snd then onesG (F_spec_DrawGramOnes l).fst.snd (F_spec_DrawGramOnes l).snd else [])))), [])) (
  need (pre_u1 (F_spec_DrawGramOnes l).snd (bif okG (F_spec_DrawGramOnes l).fst && bigS (F_spec_DrawGramOnes l).snd then onesG (F_spec_DrawGramOnes l).fst.snd (F_spec_DrawGramOnes l).snd else []) 0 (F_spec_DrawGramOnes l).fst) <|
  need (pre_u2 (F_spec_DrawGramOnes l).snd (bif okG (F_spec_DrawGramOnes l).fst && bigS (F_spec_DrawGramOnes l).snd then onesG (F_spec_DrawGramOnes l).fst.snd (F_spec_DrawGramOnes l).snd else []) 0 (F_spec_DrawGramOnes l).fst) <|
  need (inb 0 (List.length (F_spec_DrawGramOnes l).snd)) <| some ((vB (inS (bif okG (F_spec_DrawGramOnes l).fst && bigS (F_spec_DrawGramOnes l).snd then onesG (F_spec_DrawGramOnes l).fst.snd (F_spec_DrawGramOnes l).snd else []) (byteAt (F_spec_DrawGramOnes l).snd 0))), []))) ( some ((vB (decide ((bif okG (F_spec_DrawGramOnes l).fst && bigS (F_spec_DrawGramOnes l).snd then onesG (F_spec_DrawGramOnes l).fst.snd (F_spec_DrawGramOnes l).snd else []) = (bif okG (F_spec_DrawGramOnes l).fst && bigS (F_spec_DrawGramOnes l).snd then onesG (F_spec_DrawGramOnes l).fst.snd (F_spec_DrawGramOnes l).snd else [])))), []))) ( some ((vB (decide ((bif okG (F_spec_DrawGramOnes l).fst && bigS (F_spec_DrawGramOnes l).snd then onesG (F_spec_DrawGramOnes l).fst.snd (F_spec_DrawGramOnes l).snd else []) = (bif okG (F_spec_DrawGramOnes l).fst && bigS (F_spec_DrawGramOnes l).snd then onesG (F_spec_DrawGramOnes l).fst.snd (F_spec_DrawGramOnes l).snd else [])))), [])))) := by kernel_rfl
theorem s_laws_FnGramOnes (l : List Int) (_hl : Fit TB l) : Sat Tryz.prog 3 [ofD TB l] [] (.d (ofD .bool true)) [] :=
 fn_sound (cx := cx_u1) Tryz.func3 rfl ttOk Γ88ok mixed (fun c hc => LoopsOk.all (l := [(8, loopOf Tryz.f3 0), (13, loopOf Tryz.f3 1), (21, loopOf Tryz.f3 2)]) (by cases hc; kernel_rfl) ⟨atLoop rfl (l_u1 1 rfl (by kernel_rfl)), atLoop rfl (l_u2 2 rfl (by kernel_rfl)), atLoop rfl (l_u3 3 rfl (by kernel_rfl)), trivial⟩) (ro := true) (by
  rw [y_laws_FnGramOnes]
  generalize F_spec_DrawGramOnes l = v
  obtain ⟨g, a⟩ := v
  cases decide (1048576 < (List.length l : Int))
  ·show branch (decide ((!decide ((bif okG g && bigS a then onesG g.2 a else []) = (bif okG g && bigS a then onesG g.2 a else []))) = false)) (branch (decide ((bif false then true else !okG g) = false)) (branch (bif false then true else !bigS a) (some (vB (decide ((bif okG g && bigS a then onesG g.2 a else []) = (bif okG g && bigS a then onesG g.2 a else []))), [])) (need (pre_u1 a (bif okG g && bigS a then onesG g.2 a else []) 0 g) (need (pre_u2 a (bif okG g && bigS a then onesG g.2 a else []) 0 g) (need (inb 0 (List.length a)) (some (vB (inS (bif okG g && bigS a then onesG g.2 a else []) (byteAt a 0)), [])))))) (some (vB (decide ((bif okG g && bigS a then onesG g.2 a else []) = (bif okG g && bigS a then onesG g.2 a else []))), []))) (some (vB (decide ((bif okG g && bigS a then onesG g.2 a else []) = (bif okG g && bigS a then onesG g.2 a else []))), [])) = _
   rw [decide_eq_true (rfl : (bif okG g && bigS a then onesG g.2 a else []) = (bif okG g && bigS a then onesG g.2 a else []))]
   cases h1 : okG g
   ·rfl
   ·cases h2 : bigS a
    ·rfl
    ·obtain ⟨q1, _, q3⟩ := okS_big h2
     obtain ⟨c, e, _⟩ := bigS_one h2
     have k1 : pre_u1 a (onesG g.2 a) 0 g = true := by
      simp only [pre_u1, andd, dec_iff]
      exact ⟨Int.le_refl 0, h1, ones_closed h1 h2⟩
     have k2 : pre_u2 a (onesG g.2 a) 0 g = true := by
      simp only [pre_u2, andd, dec_iff]
      exact ⟨Int.le_refl 0, h1, h2, trivial⟩
     have k3 : inb 0 (List.length a) = true := by rw [e]; rfl
     have k4 : inS (onesG g.2 a) (byteAt a 0) = true := inS_mem.2 (show a.getD (0 : Int).toNat 0 ∈ onesG g.2 a from (onesG_mem (okSB_iff.1 q1) q3).2 (.start (by rw [e]; exact List.mem_cons_self)))
     show need (pre_u1 a (onesG g.2 a) 0 g) (need (pre_u2 a (onesG g.2 a) 0 g) (need (inb 0 (List.length a)) (some (vB (inS (onesG g.2 a) (byteAt a 0)), [])))) = _
     rw [k1, k2, k3, k4]; rfl
  ·rfl)
noncomputable def c_laws_FnGramOnes : Con := conT [TB] fun (_l : List Int) => (none, .d (ofD .bool true))
theorem k_laws_FnGramOnes : ConOk Tryz.prog 3 c_laws_FnGramOnes := conT_ok Tryz.call3 fun l hl _ => s_laws_FnGramOnes l hl
noncomputable def Γ89 : List (Nat × Con) := (3, c_laws_FnGramOnes) :: Γ88
theorem Γ89ok : EnvOk Tryz.prog (look Γ89) := .cons k_laws_FnGramOnes Γ88ok
end Go.Proofs.YtbijdgkkneffgaaGreatDoor.Ev
