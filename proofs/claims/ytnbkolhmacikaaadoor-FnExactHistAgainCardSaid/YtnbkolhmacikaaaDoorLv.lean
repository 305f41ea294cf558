/-
  The law of undoing all.
-/
import Derived.Test.YtnbkolhmacikaaaDoorLu
namespace Go.Proofs.YtnbkolhmacikaaaDoor.Ev
open Go
theorem LoopsOk.two {cx : Cx} {c b1 b2 : Code} {i1 i2 : Nat} {g1 g2 : St → Cont → Option Fin} (hl : loopsOf c = [(i1, b1), (i2, b2)]) (hg1 : cx.loops i1 = some g1) (hg2 : cx.loops i2 = some g2)
    (h1 : ∀ st K r, g1 st K = some r → ∃ N, iter (evC cx b1) (headAt cx i1) N st K = some r) (h2 : ∀ st K r, g2 st K = some r → ∃ N, iter (evC cx b2) (headAt cx i2) N st K = some r) : LoopsOk cx c :=
  LoopsOk.of hl fun id b hm g hg => by
    simp only [List.mem_cons, Prod.mk.injEq, List.mem_nil_iff, or_false] at hm
    rcases hm with ⟨rfl, rfl⟩ | ⟨rfl, rfl⟩
    · rw [hg1] at hg; cases hg; exact h1
    · rw [hg2] at hg; cases hg; exact h2
noncomputable def cx0_all1 : Cx := cxOf Γ63 Tryd.f13.ntmps [(15, [3, 4, 5, 6, 8, 9]), (10, [3, 4, 5, 6, 7])] [(2, [3, 4, 5, 6, 8]), (3, [3, 4, 5, 6, 8, 9]), (0, [3, 4, 5, 6]), (1, [3, 4, 5, 6, 7]), (1000000, [2])] [] []
def sh_all1 : Sh := ([(3, .ptr 500000 0), (4, .d .str), (5, .d .str), (6, .ptr 500001 0), (7, .d TI64)], [(500000, .box 24 TH), (500001, .box 24 TH)])
def V_all1 (a : Str) (b : Str) (i : Int) (h : Hist) (x : Hist) : sh_all1.V := ((a, b, i, ()), (h, x, ()))
def out_all1 (o : Hist × Str × Str × Hist) : St := ⟨[(3, .d (.one (.ptr 500000 0))), (4, vS o.2.1), (5, vS o.2.2.1), (6, .d (.one (.ptr 500001 0)))], [(500000, some (boxD 24 TH o.1)), (500001, some (boxD 24 TH o.2.2.2))]⟩
def inv_all1 (_a : Str) (_b : Str) (i : Int) (_h : Hist) (x : Hist) : Bool := smallH x && (okHist x && decide (i ≤ 1048576))
def post_all1 (a : Str) (b : Str) (i : Int) (h : Hist) (x : Hist) (o : Hist × Str × Str × Hist) : Prop := o = (h, a, b, backs i.toNat x)
def mu_all1 (_a : Str) (_b : Str) (i : Int) (_h : Hist) (_x : Hist) : Nat := i.toNat
theorem r_all1 (a : Str) (b : Str) (i : Int) (h : Hist) (x : Hist) (hI : inv_all1 a b i h x = true) : (∃ o : Hist × Str × Str × Hist, post_all1 a b i h x o ∧ ∀ (R : St → Option Fin) (K : Cont), evC cx0_all1 (loopOf Tryd.f13 0) ⟨[(3, .d (.one (.ptr 500000 0))), (4, .d (ofD .str a)), (5, .d (ofD .str b)), (6, .d (.one (.ptr 500001 0))), (7, .d (ofD TI64 i))], [(500000, some (boxD 24 TH h)), (500001, some (boxD 24 TH x))]⟩ (onward (headAt cx0_all1 10) R K) = K (.exit 0) (out_all1 o)) ∨
    (∃ (a' : Str) (b' : Str) (i' : Int) (h' : Hist) (x' : Hist), inv_all1 a' b' i' h' x' = true ∧ mu_all1 a' b' i' h' x' < mu_all1 a b i h x ∧ (∀ o, post_all1 a' b' i' h' x' o → post_all1 a b i h x o) ∧ ∀ (R : St → Option Fin) (K : Cont), evC cx0_all1 (loopOf Tryd.f13 0) ⟨[(3, .d (.one (.ptr 500000 0))), (4, .d (ofD .str a)), (5, .d (ofD .str b)), (6, .d (.one (.ptr 500001 0))), (7, .d (ofD TI64 i))], [(500000, some (boxD 24 TH h)), (500001, some (boxD 24 TH x))]⟩ (onward (headAt cx0_all1 10) R K) = R ⟨[(3, .d (.one (.ptr 500000 0))), (4, .d (ofD .str a')), (5, .d (ofD .str b')), (6, .d (.one (.ptr 500001 0))), (7, .d (ofD TI64 i'))], [(500000, some (boxD 24 TH h')), (500001, some (boxD 24 TH x'))]⟩) := by
  have hx : ∀ (R : St → Option Fin) (K : Cont), evC cx0_all1 (loopOf Tryd.f13 0) ⟨[(3, .d (.one (.ptr 500000 0))), (4, vS a), (5, vS b), (6, .d (.one (.ptr 500001 0))), (7, vI i)], [(500000, some (boxD 24 TH h)), (500001, some (boxD 24 TH x))]⟩ (onward (headAt cx0_all1 10) R K) =
    branch (decide (0 < i)) (need (smallH x) (R ⟨[(3, .d (.one (.ptr 500000 0))), (4, vS a), (5, vS b), (6, .d (.one (.ptr 500001 0))), (7, vI (W64 (i - 1)))], [(500000, some (boxD 24 TH h)), (500001, some (boxD 24 TH (backH x).1))]⟩))
      (K (.exit 0) (out_all1 (h, a, b, x))) := fun R K => by kernel_rfl
  simp only [inv_all1, Bool.and_eq_true, decide_eq_true_eq] at hI
  obtain ⟨h1, h2, h3⟩ := hI
  by_cases hi : 0 < i
  · right
    obtain ⟨k1, k2, _⟩ := back_keeps h1 h2
    refine ⟨a, b, i - 1, h, (backH x).1, ?_, ?_, ?_, fun R K => ?_⟩
    · simp only [inv_all1, Bool.and_eq_true, decide_eq_true_eq]; exact ⟨k2, k1, by omega⟩
    · simp only [mu_all1]; omega
    · rintro o ho
      unfold post_all1 at ho ⊢
      rw [ho, show i.toNat = (i - 1).toNat + 1 by omega]; rfl
    · refine (hx R K).trans ?_
      rw [decide_eq_true hi, h1, show W64 (i - 1) = i - 1 from wrap_small (by omega) (by omega)]; rfl
  · left
    refine ⟨(h, a, b, x), by unfold post_all1; rw [show i.toNat = 0 by omega]; rfl, fun R K => ?_⟩
    refine (hx R K).trans ?_
    rw [decide_eq_false hi]; rfl
def I_all1 : sh_all1.V → Bool := fun v => match v with | ((a, b, i, ()), (h, x, ())) => inv_all1 a b i h x
def P_all1 : sh_all1.V → Hist × Str × Str × Hist → Prop := fun v o => match v with | ((a, b, i, ()), (h, x, ())) => post_all1 a b i h x o
def M_all1 : sh_all1.V → Nat := fun v => match v with | ((a, b, i, ()), (h, x, ())) => mu_all1 a b i h x
theorem a_all1 : ∀ v : sh_all1.V, I_all1 v = true → ∃ o, P_all1 v o ∧ ∀ K r, K (.exit 0) (out_all1 o) = some r → ∃ N, iter (evC cx0_all1 (loopOf Tryd.f13 0)) (headAt cx0_all1 10) N (sh_all1.mk v) K = some r :=
  loop_any (fun v => I_all1 v = true) P_all1 (.exit 0) M_all1 fun v hI => by
    obtain ⟨⟨(a : Str), (b : Str), (i : Int), ⟨⟩⟩, ⟨(h : Hist), (x : Hist), ⟨⟩⟩⟩ := v
    rcases r_all1 a b i h x hI with ⟨o, h1, h2⟩ | ⟨a', b', i', h', x', h1, h2, h3, h4⟩
    · exact .inl ⟨o, h1, h2⟩
    · exact .inr ⟨V_all1 a' b' i' h' x', h1, h2, h3, h4⟩
noncomputable def g_all1 : St → Cont → Option Fin := gEnd sh_all1 I_all1 out_all1 (evC cx0_all1 (loopOf Tryd.f13 0)) (headAt cx0_all1 10) P_all1 (.exit 0)
noncomputable def E_all1 (a : Str) (b : Str) (i : Int) (h : Hist) (x : Hist) : Hist × Str × Str × Hist := endOf sh_all1.mk out_all1 (evC cx0_all1 (loopOf Tryd.f13 0)) (headAt cx0_all1 10) P_all1 (.exit 0) (V_all1 a b i h x)
theorem q_all1 (a : Str) (b : Str) (i : Int) (h : Hist) (x : Hist) (hI : inv_all1 a b i h x = true) : post_all1 a b i h x (E_all1 a b i h x) := (endOf_spec (a_all1 (V_all1 a b i h x) hI)).1
noncomputable def cx_all1 : Cx := cx0_all1.withLoops (look [(10, g_all1)])
theorem l_all1 : ∀ st K r, g_all1 st K = some r → ∃ N, iter (evC cx_all1 (loopOf Tryd.f13 0)) (headAt cx_all1 10) N st K = some r := with_ok (by kernel_rfl) (gEnd_ok a_all1)
noncomputable def cx0_all2 : Cx := cxOf Γ63 Tryd.f13.ntmps [(15, [3, 4, 5, 6, 8, 9]), (10, [3, 4, 5, 6, 7])] [(2, [3, 4, 5, 6, 8]), (3, [3, 4, 5, 6, 8, 9]), (0, [3, 4, 5, 6]), (1, [3, 4, 5, 6, 7]), (1000000, [2])] [] []
def sh_all2 : Sh := ([(3, .ptr 500000 0), (4, .d .str), (5, .d .str), (6, .ptr 500001 0), (8, .ptr 500002 0), (9, .d TI64)], [(500000, .box 24 TH), (500001, .box 24 TH), (500002, .box 24 TH)])
def V_all2 (a : Str) (b : Str) (i : Int) (h : Hist) (x : Hist) (y : Hist) : sh_all2.V := ((a, b, i, ()), (h, x, y, ()))
def out_all2 (o : Hist × Str × Str × Hist × Hist) : St := ⟨[(3, .d (.one (.ptr 500000 0))), (4, vS o.2.1), (5, vS o.2.2.1), (6, .d (.one (.ptr 500001 0))), (8, .d (.one (.ptr 500002 0)))], [(500000, some (boxD 24 TH o.1)), (500001, some (boxD 24 TH o.2.2.2.1)), (500002, some (boxD 24 TH o.2.2.2.2))]⟩
def inv_all2 (_a : Str) (_b : Str) (i : Int) (_h : Hist) (_x : Hist) (y : Hist) : Bool := smallH y && (okHist y && decide (i ≤ 1048576))
def post_all2 (a : Str) (b : Str) (i : Int) (h : Hist) (x : Hist) (y : Hist) (o : Hist × Str × Str × Hist × Hist) : Prop := o = (h, a, b, x, agains i.toNat y)
def mu_all2 (_a : Str) (_b : Str) (i : Int) (_h : Hist) (_x : Hist) (_y : Hist) : Nat := i.toNat
theorem r_all2 (a : Str) (b : Str) (i : Int) (h : Hist) (x : Hist) (y : Hist) (hI : inv_all2 a b i h x y = true) : (∃ o : Hist × Str × Str × Hist × Hist, post_all2 a b i h x y o ∧ ∀ (R : St → Option Fin) (K : Cont), evC cx0_all2 (loopOf Tryd.f13 1) ⟨[(3, .d (.one (.ptr 500000 0))), (4, .d (ofD .str a)), (5, .d (ofD .str b)), (6, .d (.one (.ptr 500001 0))), (8, .d (.one (.ptr 500002 0))), (9, .d (ofD TI64 i))], [(500000, some (boxD 24 TH h)), (500001, some (boxD 24 TH x)), (500002, some (boxD 24 TH y))]⟩ (onward (headAt cx0_all2 15) R K) = K (.exit 2) (out_all2 o)) ∨
    (∃ (a' : Str) (b' : Str) (i' : Int) (h' : Hist) (x' : Hist) (y' : Hist), inv_all2 a' b' i' h' x' y' = true ∧ mu_all2 a' b' i' h' x' y' < mu_all2 a b i h x y ∧ (∀ o, post_all2 a' b' i' h' x' y' o → post_all2 a b i h x y o) ∧ ∀ (R : St → Option Fin) (K : Cont), evC cx0_all2 (loopOf Tryd.f13 1) ⟨[(3, .d (.one (.ptr 500000 0))), (4, .d (ofD .str a)), (5, .d (ofD .str b)), (6, .d (.one (.ptr 500001 0))), (8, .d (.one (.ptr 500002 0))), (9, .d (ofD TI64 i))], [(500000, some (boxD 24 TH h)), (500001, some (boxD 24 TH x)), (500002, some (boxD 24 TH y))]⟩ (onward (headAt cx0_all2 15) R K) = R ⟨[(3, .d (.one (.ptr 500000 0))), (4, .d (ofD .str a')), (5, .d (ofD .str b')), (6, .d (.one (.ptr 500001 0))), (8, .d (.one (.ptr 500002 0))), (9, .d (ofD TI64 i'))], [(500000, some (boxD 24 TH h')), (500001, some (boxD 24 TH x')), (500002, some (boxD 24 TH y'))]⟩) := by
  have hx : ∀ (R : St → Option Fin) (K : Cont), evC cx0_all2 (loopOf Tryd.f13 1) ⟨[(3, .d (.one (.ptr 500000 0))), (4, vS a), (5, vS b), (6, .d (.one (.ptr 500001 0))), (8, .d (.one (.ptr 500002 0))), (9, vI i)], [(500000, some (boxD 24 TH h)), (500001, some (boxD 24 TH x)), (500002, some (boxD 24 TH y))]⟩ (onward (headAt cx0_all2 15) R K) =
    branch (decide (0 < i)) (need (smallH y) (R ⟨[(3, .d (.one (.ptr 500000 0))), (4, vS a), (5, vS b), (6, .d (.one (.ptr 500001 0))), (8, .d (.one (.ptr 500002 0))), (9, vI (W64 (i - 1)))], [(500000, some (boxD 24 TH h)), (500001, some (boxD 24 TH x)), (500002, some (boxD 24 TH (againH y).1))]⟩))
      (K (.exit 2) (out_all2 (h, a, b, x, y))) := fun R K => by kernel_rfl
  simp only [inv_all2, Bool.and_eq_true, decide_eq_true_eq] at hI
  obtain ⟨h1, h2, h3⟩ := hI
  by_cases hi : 0 < i
  · right
    obtain ⟨k1, k2, _⟩ := again_keeps h1 h2
    refine ⟨a, b, i - 1, h, x, (againH y).1, ?_, ?_, ?_, fun R K => ?_⟩
    · simp only [inv_all2, Bool.and_eq_true, decide_eq_true_eq]; exact ⟨k2, k1, by omega⟩
    · simp only [mu_all2]; omega
    · rintro o ho
      unfold post_all2 at ho ⊢
      rw [ho, show i.toNat = (i - 1).toNat + 1 by omega]; rfl
    · refine (hx R K).trans ?_
      rw [decide_eq_true hi, h1, show W64 (i - 1) = i - 1 from wrap_small (by omega) (by omega)]; rfl
  · left
    refine ⟨(h, a, b, x, y), by unfold post_all2; rw [show i.toNat = 0 by omega]; rfl, fun R K => ?_⟩
    refine (hx R K).trans ?_
    rw [decide_eq_false hi]; rfl
def I_all2 : sh_all2.V → Bool := fun v => match v with | ((a, b, i, ()), (h, x, y, ())) => inv_all2 a b i h x y
def P_all2 : sh_all2.V → Hist × Str × Str × Hist × Hist → Prop := fun v o => match v with | ((a, b, i, ()), (h, x, y, ())) => post_all2 a b i h x y o
def M_all2 : sh_all2.V → Nat := fun v => match v with | ((a, b, i, ()), (h, x, y, ())) => mu_all2 a b i h x y
theorem a_all2 : ∀ v : sh_all2.V, I_all2 v = true → ∃ o, P_all2 v o ∧ ∀ K r, K (.exit 2) (out_all2 o) = some r → ∃ N, iter (evC cx0_all2 (loopOf Tryd.f13 1)) (headAt cx0_all2 15) N (sh_all2.mk v) K = some r :=
  loop_any (fun v => I_all2 v = true) P_all2 (.exit 2) M_all2 fun v hI => by
    obtain ⟨⟨(a : Str), (b : Str), (i : Int), ⟨⟩⟩, ⟨(h : Hist), (x : Hist), (y : Hist), ⟨⟩⟩⟩ := v
    rcases r_all2 a b i h x y hI with ⟨o, h1, h2⟩ | ⟨a', b', i', h', x', y', h1, h2, h3, h4⟩
    · exact .inl ⟨o, h1, h2⟩
    · exact .inr ⟨V_all2 a' b' i' h' x' y', h1, h2, h3, h4⟩
noncomputable def g_all2 : St → Cont → Option Fin := gEnd sh_all2 I_all2 out_all2 (evC cx0_all2 (loopOf Tryd.f13 1)) (headAt cx0_all2 15) P_all2 (.exit 2)
noncomputable def E_all2 (a : Str) (b : Str) (i : Int) (h : Hist) (x : Hist) (y : Hist) : Hist × Str × Str × Hist × Hist := endOf sh_all2.mk out_all2 (evC cx0_all2 (loopOf Tryd.f13 1)) (headAt cx0_all2 15) P_all2 (.exit 2) (V_all2 a b i h x y)
theorem q_all2 (a : Str) (b : Str) (i : Int) (h : Hist) (x : Hist) (y : Hist) (hI : inv_all2 a b i h x y = true) : post_all2 a b i h x y (E_all2 a b i h x y) := (endOf_spec (a_all2 (V_all2 a b i h x y) hI)).1
noncomputable def cx_all2 : Cx := cx0_all2.withLoops (look [(15, g_all2)])
theorem l_all2 : ∀ st K r, g_all2 st K = some r → ∃ N, iter (evC cx_all2 (loopOf Tryd.f13 1)) (headAt cx_all2 15) N st K = some r := with_ok (by kernel_rfl) (gEnd_ok a_all2)
noncomputable def cx_all : Cx := cx0_all1.withLoops (look [(10, g_all1), (15, g_all2)])
noncomputable def allX (h : Hist) : Hist × Str × Str × Hist := E_all1 (firstH h) (lastH h) h.2.1.length h h
noncomputable def allY (h : Hist) : Hist × Str × Str × Hist × Hist := E_all2 (allX h).2.1 (allX h).2.2.1 (allX h).1.2.2.length (allX h).1 (allX h).2.2.2 (allX h).1
def tree_HistAll (c : Bool) (h : Hist) (i1 i2 : Bool) (o : Hist × Str × Str × Hist × Hist) : Option Fin := branch c yes (branch (bif bif !decide (firstH h = firstH h) then true else !decide (lastH h = lastH h) then true else !okHist h) (some (vB (bif decide (firstH h = firstH h) then decide (lastH h = lastH h) else false), []))
  (need i1 (need i2 (some (vB (bif bif bif bif decide (o.2.2.2.1.1 = o.2.1) then decide ((o.2.2.2.1.2.1.length : Int) = 0) else false then decide (o.2.2.2.2.1 = o.2.2.1) else false then decide ((o.2.2.2.2.2.2.length : Int) = 0) else false then decide ((o.2.2.2.1.2.2.length : Int) = W64 ((o.1.2.1.length : Int) + (o.1.2.2.length : Int))) else false), [])))))
theorem y_laws_FnHistAll (l : List Int) : evFn cx_all Tryd.f13 true [ofD TB l] [] = tree_HistAll (decide (1048576 < (l.length : Int))) (F_spec_DrawHistBack l)
  (inv_all1 (firstH (F_spec_DrawHistBack l)) (lastH (F_spec_DrawHistBack l)) (F_spec_DrawHistBack l).2.1.length (F_spec_DrawHistBack l) (F_spec_DrawHistBack l))
  (inv_all2 (allX (F_spec_DrawHistBack l)).2.1 (allX (F_spec_DrawHistBack l)).2.2.1 (allX (F_spec_DrawHistBack l)).1.2.2.length (allX (F_spec_DrawHistBack l)).1 (allX (F_spec_DrawHistBack l)).2.2.2 (allX (F_spec_DrawHistBack l)).1) (allY (F_spec_DrawHistBack l)) := by kernel_rfl
theorem s_laws_FnHistAll (l : List Int) (hl : Fit TB l) : Sat Tryd.prog 13 [ofD TB l] [] (.d (ofD .bool true)) [] :=
  fn_sound (cx := cx_all) Tryd.func13 rfl ttOk Γ63ok mixed (fun c hc => LoopsOk.two (i1 := 10) (i2 := 15) (b1 := loopOf Tryd.f13 0) (b2 := loopOf Tryd.f13 1) (g1 := g_all1) (g2 := g_all2) (by cases hc; kernel_rfl) rfl rfl (with_ok (by kernel_rfl) (gEnd_ok a_all1)) (with_ok (cx := cx0_all2) (by kernel_rfl) (gEnd_ok a_all2))) (ro := true) (by
    rw [y_laws_FnHistAll]
    have hs := szN_small (p_spec_DrawHistBack l hl) (by omega)
    have hz := p_spec_DrawHistBack l hl
    generalize F_spec_DrawHistBack l = h at hs hz ⊢
    unfold tree_HistAll
    cases decide (1048576 < (l.length : Int))
    · rw [decide_eq_true rfl, decide_eq_true rfl]
      cases ho : okHist h
      · rfl
      · have hn := lenH_le hs ho
        have i1 : inv_all1 (firstH h) (lastH h) h.2.1.length h h = true := by
          simp only [inv_all1, Bool.and_eq_true, decide_eq_true_eq]; exact ⟨hs, ho, by omega⟩
        have q1 : allX h = (h, firstH h, lastH h, backs h.2.1.length h) := q_all1 (firstH h) (lastH h) h.2.1.length h h i1
        have i2 : inv_all2 (firstH h) (lastH h) h.2.2.length h (backs h.2.1.length h) h = true := by
          simp only [inv_all2, Bool.and_eq_true, decide_eq_true_eq]; exact ⟨hs, ho, by omega⟩
        have q2 : allY h = (h, firstH h, lastH h, backs h.2.1.length h, agains h.2.2.length h) := by
          unfold allY; rw [q1]
          exact q_all2 (firstH h) (lastH h) h.2.2.length h (backs h.2.1.length h) h i2
        rw [i1, q2, q1]
        dsimp only
        rw [i2]
        obtain ⟨b1, b2, b3⟩ := backs_all hs ho rfl
        obtain ⟨a1, a2⟩ := agains_all hs ho
        rw [b1, b2, b3, a1, a2, decide_eq_true rfl, decide_eq_true rfl, show W64 ((h.2.1.length : Int) + (h.2.2.length : Int)) = ((h.2.1.length + h.2.2.length : Nat) : Int) by rw [len_w (by omega)]; omega, decide_eq_true rfl]
        rfl
    · rfl)
noncomputable def c_laws_FnHistAll : Con := conT [TB] fun (_l : List Int) => (none, .d (ofD .bool true))
theorem k_laws_FnHistAll : ConOk Tryd.prog 13 c_laws_FnHistAll := conT_ok Tryd.call13 fun l hl _ => s_laws_FnHistAll l hl
end Go.Proofs.YtnbkolhmacikaaaDoor.Ev
