/-
  FnAllParts: the law.
-/
import Derived.Test.YtbijdgkkneffgaaDoorHc
namespace Go.Proofs.YtbijdgkkneffgaaDoor.Ev
open Go
abbrev TPL : Ty := .list TP
abbrev pz : Part := ([], 0, 0)
noncomputable def cb_lap : Cx := (cxOf Γ65 Tryd.f3.ntmps [(10, [3, 4, 5, 6, 7, 8])] [(0, [3, 4, 7]), (1, [3, 4, 5, 6, 7, 8]), (1000000, [2])] [] []).parted [12, 18]
theorem x_laws_FnAllParts (g : Gram) (s : Str) (l m : List Part) (b : Bool) (i : Int) (R : St → Option Fin) (K : Cont) : evC (cb_lap.withLoops (look [])) (loopOf Tryd.f3 0) ⟨[(3, .d (.one (.ptr 500000 0))), (4, vS s), (5, .d (ofD TPL l)), (6, .d (ofD TPL m)), (7, vB b), (8, vI i)], [(500000, some (boxD 25 TG g))]⟩ (onward (headAt (cb_lap.withLoops (look [])) 10) R K) = (
branch (decide (i < (l.length : Int))) (
 need (inb i l.length) <|
 need (inb i m.length) <|
 branch (decide ((!(decide ((l.getD i.toNat pz).fst = (m.getD i.toNat pz).fst) && (decide ((l.getD i.toNat pz).snd.fst = (m.getD i.toNat pz).snd.fst) && (decide ((l.getD i.toNat pz).snd.snd = (m.getD i.toNat pz).snd.snd) && true)))) = false)) (
  need (inb i l.length) <|
  branch (decide ((bif false then true else decide ((l.getD i.toNat pz).snd.fst < 0)) = false)) (
   need (inb i l.length) <|
   need (inb i l.length) <|
   branch (decide ((bif false then true else decide ((l.getD i.toNat pz).snd.snd < (l.getD i.toNat pz).snd.fst)) = false)) (
    need (inb i l.length) <|
    branch (bif false then true else decide ((s.length : Int) < (l.getD i.toNat pz).snd.snd)) ( K (.ret) (.mk [(2, (vB false))] [])) (
     need (inb i l.length) <|
     need (inb i l.length) <|
     need (inb i l.length) <|
     need (inr (l.getD i.toNat pz).snd.fst (l.getD i.toNat pz).snd.snd s.length) <|
     branch (!(both2 ((l.getD i.toNat pz).fst, g.snd) (List.take (Int.toNat (l.getD i.toNat pz).snd.snd - Int.toNat (l.getD i.toNat pz).snd.fst) (List.drop (Int.toNat (l.getD i.toNat pz).snd.fst) s)) && isD ((l.getD i.toNat pz).fst, g.snd) (List.take (Int.toNat (l.getD i.toNat pz).snd.snd - Int.toNat (l.getD i.toNat pz).snd.fst) (List.drop (Int.toNat (l.getD i.toNat pz).snd.fst) s)))) ( K (.ret) (.mk [(2, (vB false))] [])) (
      branch (decide (b = false)) (
       need (inb i l.length) <| R (.mk [(3, (.d (.one (.ptr 500000 0)))), (4, (vS s)), (5, (.d (.one (.r (.li (TP) (l)))))), (6, (.d (.one (.r (.li (TP) (m)))))), (7, (vB (bif false then true else decide ((l.getD i.toNat pz).fst = g.fst) && (decide ((l.getD i.toNat pz).snd.fst = 0) && (decide ((l.getD i.toNat pz).snd.snd = (s.length : Int)) && true))))), (8, (vI (W64 (i + 1))))] [(500000, (.some (.box 25 [(.r (.v (Value.string (mk g.fst)))), (.r (.li TRu (g.snd)))])))])) ( R (.mk [(3, (.d (.one (.ptr 500000 0)))), (4, (vS s)), (5, (.d (.one (.r (.li (TP) (l)))))), (6, (.d (.one (.r (.li (TP) (m)))))), (7, (vB true)), (8, (vI (W64 (i + 1))))] [(500000, (.some (.box 25 [(.r (.v (Value.string (mk g.fst)))), (.r (.li TRu (g.snd)))])))]))))) ( K (.ret) (.mk [(2, (vB false))] []))) ( K (.ret) (.mk [(2, (vB false))] []))) ( K (.ret) (.mk [(2, (vB false))] []))) ( K (.exit 0) (.mk [(3, (.d (.one (.ptr 500000 0)))), (4, (vS s)), (7, (vB b))] [(500000, (.some (.box 25 [(.r (.v (Value.string (mk g.fst)))), (.r (.li TRu (g.snd)))])))]))) := by kernel_rfl
def goodP (g : Gram) (s : Str) (e : Part) : Bool := decide (0 ≤ e.2.1) && (decide (e.2.1 ≤ e.2.2) && (decide (e.2.2 ≤ (List.length s : Int)) && (both2 (e.1, g.2) (subS s e.2.1 e.2.2) && isD (e.1, g.2) (subS s e.2.1 e.2.2))))
def isAllP (g : Gram) (s : Str) (e : Part) : Bool := decide (e.1 = g.1) && (decide (e.2.1 = 0) && (decide (e.2.2 = (List.length s : Int)) && true))
abbrev gHp (g : Gram) : Heap := [(500000, some (boxD 25 TG g))]
noncomputable def cx0_lap : Cx := (cb_lap).withLoops (look [])
def sh_lap : Sh := ([(3, .ptr 500000 0), (4, .d .str), (5, .d TPL), (6, .d TPL), (7, .d .bool), (8, .d TI64)], [(500000, .box 25 TG)])
def pre_lap (s : Str) (l : List Part) (m : List Part) (_b : Bool) (i : Int) (g : Gram) : Bool := decide (0 ≤ i) && (decide (l = m) && (List.all l (goodP g s) && decide (List.length l ≤ 9000000000000000000)))
noncomputable def res_lap (s : Str) (l : List Part) (_m : List Part) (b : Bool) (i : Int) (g : Gram) (K : Cont) : Option Fin := K (.exit 0) ⟨[(3, .d (.one (.ptr 500000 0))), (4, vS s), (7, vB (b || List.any (List.drop i.toNat l) (isAllP g s)))], gHp g⟩
def mu_lap (_s : Str) (l : List Part) (_m : List Part) (_b : Bool) (i : Int) (_g : Gram) : Nat := List.length l - i.toNat
theorem r_lap (s : Str) (l : List Part) (m : List Part) (b : Bool) (i : Int) (g : Gram) (K : Cont) (hI : pre_lap s l m b i g = true) : (∀ R : St → Option Fin, evC cx0_lap (loopOf Tryd.f3 0) ⟨[(3, .d (.one (.ptr 500000 0))), (4, .d (ofD .str s)), (5, .d (ofD TPL l)), (6, .d (ofD TPL m)), (7, .d (ofD .bool b)), (8, .d (ofD TI64 i))], [(500000, some (boxD 25 TG g))]⟩ (onward (headAt cx0_lap 10) R K) = res_lap s l m b i g K) ∨
    (∃ (s' : Str) (l' : List Part) (m' : List Part) (b' : Bool) (i' : Int) (g' : Gram), pre_lap s' l' m' b' i' g' = true ∧ mu_lap s' l' m' b' i' g' < mu_lap s l m b i g ∧ res_lap s' l' m' b' i' g' K = res_lap s l m b i g K ∧ ∀ R : St → Option Fin, evC cx0_lap (loopOf Tryd.f3 0) ⟨[(3, .d (.one (.ptr 500000 0))), (4, .d (ofD .str s)), (5, .d (ofD TPL l)), (6, .d (ofD TPL m)), (7, .d (ofD .bool b)), (8, .d (ofD TI64 i))], [(500000, some (boxD 25 TG g))]⟩ (onward (headAt cx0_lap 10) R K) = R ⟨[(3, .d (.one (.ptr 500000 0))), (4, .d (ofD .str s')), (5, .d (ofD TPL l')), (6, .d (ofD TPL m')), (7, .d (ofD .bool b')), (8, .d (ofD TI64 i'))], [(500000, some (boxD 25 TG g'))]⟩) := by
  have hx := fun R => x_laws_FnAllParts g s l m b i R K
  simp only [pre_lap, andd, dec_iff] at hI
  obtain ⟨h0, rfl, h2, h3⟩ := hI
  by_cases hi : i < (List.length l : Int)
  · have w : W64 (i + 1) = i + 1 := wrap_small (by omega) (by omega)
    have hn : i.toNat < List.length l := by omega
    have he := List.all_eq_true.1 h2 _ (getD_mem (d := pz) hn)
    have hd : List.drop i.toNat l = List.getD l i.toNat pz :: List.drop (i + 1).toNat l := by
      rw [List.drop_eq_getElem_cons hn, show (i + 1).toNat = i.toNat + 1 by omega, List.getD_eq_getElem?_getD, List.getElem?_eq_getElem hn]; rfl
    rw [decide_eq_true hi, inb_ok h0 hi, w] at hx
    change ∀ R : St → Option Fin, _ = branch true _ _ at hx
    generalize List.getD l i.toNat pz = e at hx he hd
    obtain ⟨a, p, q⟩ := e
    unfold goodP at he
    simp only [andd, dec_iff] at he
    obtain ⟨e1, e2, e3, e4, e5⟩ := he
    have d1 : decide (p < 0) = false := decide_eq_false (by omega)
    have d2 : decide (q < p) = false := decide_eq_false (by omega)
    have d3 : decide ((List.length s : Int) < q) = false := decide_eq_false (by omega)
    have d4 : inr p q (List.length s) = true := inr_iff.2 ⟨e1, e2, e3⟩
    have d5 : both2 (a, g.2) (List.take (q.toNat - p.toNat) (List.drop p.toNat s)) = true := e4
    have d6 : isD (a, g.2) (List.take (q.toNat - p.toNat) (List.drop p.toNat s)) = true := e5
    have hg : List.any (List.drop i.toNat l) (isAllP g s) = (isAllP g s (a, p, q) || List.any (List.drop (i + 1).toNat l) (isAllP g s)) := by rw [hd, List.any_cons]
    simp only [decide_true, Bool.and_self, Bool.not_true, Bool.not_false, cond_false, d1, d2, d3, d4, d5, d6, branch_true, branch_false, need_t, decide_false] at hx
    right
    cases b
    · refine ⟨s, l, l, isAllP g s (a, p, q), i + 1, g, ?_, ?_, ?_, fun R => hx R⟩
      · simp only [pre_lap, andd, dec_iff]
        exact ⟨by omega, trivial, h2, h3⟩
      · simp only [mu_lap]; omega
      · simp only [res_lap, hg, Bool.false_or]
    · refine ⟨s, l, l, true, i + 1, g, ?_, ?_, ?_, fun R => hx R⟩
      · simp only [pre_lap, andd, dec_iff]
        exact ⟨by omega, trivial, h2, h3⟩
      · simp only [mu_lap]; omega
      · simp only [res_lap, Bool.true_or]
  · left
    intro R
    refine (hx R).trans ?_
    rw [decide_eq_false hi]
    have e : List.drop i.toNat l = [] := List.drop_eq_nil_of_le (by omega)
    simp only [res_lap, e, List.any_nil, Bool.or_false]; rfl
noncomputable def g_lap : St → Cont → Option Fin := gP sh_lap (fun v => match v with | ((s, l, m, b, i, ()), (g, ())) => pre_lap s l m b i g) (fun v K => match v with | ((s, l, m, b, i, ()), (g, ())) => res_lap s l m b i g K)
noncomputable def L_lap : List (Nat × (St → Cont → Option Fin)) := (10, g_lap) :: []
noncomputable def cx_lap : Cx := (cb_lap).withLoops (look L_lap)
theorem l_lap {L : List (Nat × (St → Cont → Option Fin))} (n : Nat) (h1 : L.drop n = []) (h2 : idsFree (L.take n) (loopOf Tryd.f3 0) = true) : ∀ st K r, g_lap st K = some r → ∃ N, iter (evC ((cb_lap).withLoops (look L)) (loopOf Tryd.f3 0)) (headAt ((cb_lap).withLoops (look L)) 10) N st K = some r :=
  with_drop h1 h2 (gP_ok (fun v => match v with | ((s, l, m, b, i, ()), (g, ())) => mu_lap s l m b i g) fun v K hI => by
    obtain ⟨⟨(s : Str), (l : List Part), (m : List Part), (b : Bool), (i : Int), ⟨⟩⟩, ⟨(g : Gram), ⟨⟩⟩⟩ := v
    rcases r_lap s l m b i g K hI with h1 | ⟨s', l', m', b', i', g', h1, h2, h3, h4⟩
    · exact .inl h1
    · exact .inr ⟨((s', l', m', b', i', ()), (g', ())), h1, h2, h3, h4⟩)
theorem partsF_len {f : Str → Int → Int → Bool} {n : Int} (hn : n ≤ 1000) : ∀ {l : List Str}, (partsF f n l).length ≤ l.length * 2000000
  | [] => Nat.zero_le _
  | a :: l => by
    have h1 := partsF_len (f := f) hn (l := l)
    have h2 := frsP_len (f := f a) (a := a) hn (m := (n + 1).toNat) (i := 0) (Int.le_refl 0)
    unfold partsF at *
    rw [List.flatMap_cons, List.length_append, List.length_cons]
    omega
theorem both_mk {g : Gram} {s a : Str} (h : both2 g s = true) (ha : bigS a = true) {p q : Int} (p0 : 0 ≤ p) (p1 : p ≤ q) (p2 : q ≤ (List.length s : Int)) : both2 (a, g.2) (subS s p q) = true := by
  obtain ⟨h1, h2, h3⟩ := both_iff h
  unfold both2
  rw [b2, andd, areSm_iff]
  have hl := sub_len p0 p1 p2
  refine ⟨?_, by omega, List.all_eq_true.2 fun c hc => List.all_eq_true.1 h3 c (List.mem_of_mem_drop (List.mem_of_mem_take hc))⟩
  unfold okG at h1 ⊢
  rw [andd] at h1 ⊢
  exact ⟨ha, h1.2⟩
theorem parts_len {g : Gram} {s : Str} (h : both2 g s = true) : (partsG g s).length ≤ 10000000 := by
  obtain ⟨_, h2, _⟩ := both_iff h
  have h3 := partsF_len (f := fun a i j => derB s (chartM s g.2) a i j) (n := (List.length s : Int)) (by omega) (l := abcde)
  rw [show List.length abcde = 5 from rfl] at h3
  exact h3
theorem parts_good {g : Gram} {s : Str} (h : both2 g s = true) : List.all (partsG g s) (goodP g s) = true := List.all_eq_true.2 fun e he => by
  obtain ⟨a, p, q⟩ := e
  obtain ⟨h1, h2, h3, h4, h5⟩ := (mem_partsF (by omega)).1 he
  have ha : bigS a = true := abcde_big a h1
  have h2 : 0 ≤ p := h2
  have h3 : p ≤ q := h3
  have h4 : q ≤ (List.length s : Int) := h4
  have h5 : derB s (chartM s g.2) a p q = true := h5
  unfold goodP
  simp only [andd, dec_iff]
  refine ⟨h2, h3, h4, both_mk h ha h2 h3 h4, (isD_iff (g := (a, g.2)) ha).2 ?_⟩
  rw [sub_len h2 h3 h4]
  refine (Der_sub h2 h3 h4).2 (chartM_iff.1 ?_)
  unfold derB at h5
  rw [big_not_small ha] at h5
  exact h5
theorem parts_any {g : Gram} {s : Str} (h : both2 g s = true) : List.any (partsG g s) (isAllP g s) = isD g s := by
  obtain ⟨h1, _⟩ := both_iff h
  rw [Bool.eq_iff_iff, List.any_eq_true]
  constructor
  · rintro ⟨⟨a, p, q⟩, he, h2⟩
    obtain ⟨_, _, _, _, h5⟩ := (mem_partsF (by omega)).1 he
    unfold isAllP at h2
    simp only [andd, dec_iff] at h2
    obtain ⟨rfl, rfl, rfl, _⟩ := h2
    exact h5
  · intro h2
    refine ⟨(g.1, 0, (List.length s : Int)), (mem_partsF (by omega)).2 ⟨?_, Int.le_refl _, by show (0 : Int) ≤ (List.length s : Int); omega, Int.le_refl _, h2⟩, ?_⟩
    · obtain ⟨c, e, hc⟩ := bigS_one (okG_big h1)
      show g.1 ∈ abcde
      rw [e]
      unfold bigc at hc
      rw [andd, ble_iff, ble_iff] at hc
      have hcc : c.toNat = 65 ∨ c.toNat = 66 ∨ c.toNat = 67 ∨ c.toNat = 68 ∨ c.toNat = 69 := by omega
      have eq : ∀ {n : Nat} (d : UInt8), d.toNat = n → c.toNat = n → c = d := fun d h1 h2 => UInt8.toNat_inj.1 (h2.trans h1.symm)
      rcases hcc with h | h | h | h | h
      · rw [eq 65 rfl h]; decide
      · rw [eq 66 rfl h]; decide
      · rw [eq 67 rfl h]; decide
      · rw [eq 68 rfl h]; decide
      · rw [eq 69 rfl h]; decide
    · unfold isAllP
      simp only [andd, dec_iff]
      exact ⟨trivial, trivial, trivial, trivial⟩
theorem y_laws_FnAllParts (l : List Int) : evFn cx_lap Tryd.f3 true [ofD TB l] [] = (
branch (decide (1048576 < (l.length : Int))) ( some ((vB true), [])) (
 branch (!decide ((List.length (bif both2 (F_spec_DrawAllParts l).fst (F_spec_DrawAllParts l).snd then partsG (F_spec_DrawAllParts l).fst (F_spec_DrawAllParts l).snd else []) : Int) = (List.length (bif both2 (F_spec_DrawAllParts l).fst (F_spec_DrawAllParts l).snd then partsG (F_spec_DrawAllParts l).fst (F_spec_DrawAllParts l).snd else []) : Int))) ( some ((vB false), [])) (
  need (pre_lap (F_spec_DrawAllParts l).snd (bif both2 (F_spec_DrawAllParts l).fst (F_spec_DrawAllParts l).snd then partsG (F_spec_DrawAllParts l).fst (F_spec_DrawAllParts l).snd else []) (bif both2 (F_spec_DrawAllParts l).fst (F_spec_DrawAllParts l).snd then partsG (F_spec_DrawAllParts l).fst (F_spec_DrawAllParts l).snd else []) false 0 (F_spec_DrawAllParts l).fst) <| some ((vB (decide ((false || (id (bif both2 (F_spec_DrawAllParts l).fst (F_spec_DrawAllParts l).snd then partsG (F_spec_DrawAllParts l).fst (F_spec_DrawAllParts l).snd else [])).any (isAllP (F_spec_DrawAllParts l).fst (F_spec_DrawAllParts l).snd)) = (both2 (F_spec_DrawAllParts l).fst (F_spec_DrawAllParts l).snd && isD (F_spec_DrawAllParts l).fst (F_spec_DrawAllParts l).snd)))), [])))) := by kernel_rfl
theorem s_laws_FnAllParts (l : List Int) (_hl : Fit TB l) : Sat Tryd.prog 3 [ofD TB l] [] (.d (ofD .bool true)) [] :=
  fn_sound (cx := cx_lap) Tryd.func3 rfl ttOk Γ65ok mixed (fun c hc => LoopsOk.all (l := [(10, loopOf Tryd.f3 0)]) (by cases hc; kernel_rfl) ⟨atLoop rfl (l_lap 1 rfl (by kernel_rfl)), trivial⟩) (ro := true) (by
    rw [y_laws_FnAllParts]
    generalize F_spec_DrawAllParts l = v
    obtain ⟨g, s⟩ := v
    show branch _ _ (branch (!decide ((List.length (bif both2 g s then partsG g s else []) : Int) = (List.length (bif both2 g s then partsG g s else []) : Int))) _ (need (pre_lap s (bif both2 g s then partsG g s else []) (bif both2 g s then partsG g s else []) false 0 g) (some ((vB (decide ((false || List.any (bif both2 g s then partsG g s else []) (isAllP g s)) = (both2 g s && isD g s)))), [])))) = _
    rw [decide_eq_true rfl]
    cases decide (1048576 < (List.length l : Int))
    · cases hb : both2 g s
      · rfl
      · have kp : pre_lap s (partsG g s) (partsG g s) false 0 g = true := by
          simp only [pre_lap, andd, dec_iff]
          have := parts_len hb
          exact ⟨Int.le_refl 0, trivial, parts_good hb, by omega⟩
        show need (pre_lap s (partsG g s) (partsG g s) false 0 g) (some ((vB (decide ((false || List.any (partsG g s) (isAllP g s)) = (true && isD g s)))), [])) = _
        rw [kp, parts_any hb, decide_eq_true (show (false || isD g s) = (true && isD g s) by cases isD g s <;> rfl)]; rfl
    · rfl)
noncomputable def c_laws_FnAllParts : Con := conT [TB] fun (_l : List Int) => (none, .d (ofD .bool true))
theorem k_laws_FnAllParts : ConOk Tryd.prog 3 c_laws_FnAllParts := conT_ok Tryd.call3 fun l hl _ => s_laws_FnAllParts l hl
noncomputable def Γ66 : List (Nat × Con) := (3, c_laws_FnAllParts) :: Γ65
theorem Γ66ok : EnvOk Tryd.prog (look Γ66) := .cons k_laws_FnAllParts Γ65ok

end Go.Proofs.YtbijdgkkneffgaaDoor.Ev

-- G=66