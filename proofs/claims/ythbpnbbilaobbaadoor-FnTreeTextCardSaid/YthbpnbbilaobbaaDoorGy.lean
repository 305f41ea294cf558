/-
  Which trees are right.
-/
import Derived.Test.YthbpnbbilaobbaaDoorGv
namespace Go.Proofs.YthbpnbbilaobbaaDoor.Ev
open Go
/-- a node that is one of its rule -/
def nodeOk (g : Gram) (t : GTree) : Bool := inb t.rule (List.length g.2) && (decide ((List.getD g.2 t.rule.toNat d0).1 = t.sign) && decide (t.kids.length = (rgt g t.rule).length))
def leafOk (t : GTree) : Bool := decide (t.rule = -1) && Nat.beq t.kids.length 0
/-- all kids bear their signs, and f is so of each -/
def kidsL (f : GTree → Bool) : List GTree → Str → Bool
  | [], _ => true
  | k :: ks, c :: s => decide (k.sign = [c]) && (f k && kidsL f ks s)
  | _ :: _, [] => false
def shapeT (g : Gram) : Nat → GTree → Bool
  | 0, _ => false
  | n + 1, t => bif smallS t.sign then leafOk t else bif nodeOk g t then kidsL (shapeT g n) t.kids (rgt g t.rule) else false
theorem kids_fit {t : GTree} (h : Fit .tree t) : t.kids.length ≤ big ∧ ∀ k ∈ t.kids, Fit .tree k := by
  cases h with
  | node h1 h2 h3 h4 => exact ⟨h3, h4⟩
theorem rule_fit {t : GTree} (h : Fit .tree t) : IntKind.i64.wrap t.rule = t.rule := by
  cases h with
  | node h1 h2 h3 h4 => exact h2
theorem kidsL_at {f : GTree → Bool} {t : GTree} {s : Str} {i : Int} (h0 : 0 ≤ i) (h1 : i < (t.kids.length : Int)) (h2 : t.kids.length = s.length) : kidsL f (t.kids.drop i.toNat) (s.drop i.toNat) = (decide ((kidT t i).sign = [s.getD i.toNat 0]) && (f (kidT t i) && kidsL f (t.kids.drop (i + 1).toNat) (s.drop (i + 1).toNat))) := by
  have hn : i.toNat < t.kids.length := by omega
  have hs : i.toNat < s.length := by omega
  have e1 : kidT t i = t.kids[i.toNat] := by
    show t.kids.getD i.toNat tz = _
    rw [List.getD_eq_getElem?_getD, List.getElem?_eq_getElem hn]; rfl
  rw [List.drop_eq_getElem_cons hn, List.drop_eq_getElem_cons hs, e1, show (i + 1).toNat = i.toNat + 1 by omega, List.getD_eq_getElem?_getD, List.getElem?_eq_getElem hs]; rfl
theorem node_iff {g : Gram} {t : GTree} (h : nodeOk g t = true) : inb t.rule (List.length g.2) = true ∧ (List.getD g.2 t.rule.toNat d0).1 = t.sign ∧ t.kids.length = (rgt g t.rule).length := by
  unfold nodeOk at h
  rw [andd, andd, dec_iff, dec_iff] at h
  exact h
noncomputable def conShape (n : Nat) : Con := conT [TG, .tree, TI64] fun (g : Gram) (t : GTree) (d : Int) => (some (decide (0 ≤ d) && (decide (d < (n : Int)) && Nat.ble n 100)), .d (ofD .bool (shapeT g d.toNat t)))
structure LevS where
  n : Nat
  h : ConOk Tryd.prog 117 (conShape n)
noncomputable section
variable [Inhabited LevS]
abbrev lvS : Nat := (default : LevS).n
noncomputable def c_spec_l3ShapeR : Con := conShape lvS
theorem k_spec_l3ShapeR : ConOk Tryd.prog 117 c_spec_l3ShapeR := (default : LevS).h
noncomputable def Γ61 : List (Nat × Con) := (117, c_spec_l3ShapeR) :: Γ60
theorem Γ61ok : EnvOk Tryd.prog (look Γ61) := .cons k_spec_l3ShapeR Γ60ok

noncomputable def cb_shape : Cx := (cxOf Γ61 Tryd.f117.ntmps [(8, [2, 3, 4, 7])] [(0, []), (1, [2, 3, 4, 7]), (1000000, [6])] [] []).parted [10]
theorem x_spec_l3Shape (g : Gram) (t : GTree) (d i : Int) (R : St → Option Fin) (K : Cont) : evC (cb_shape.withLoops (look [])) (loopOf Tryd.f117 0) ⟨[(2, vI d), (3, .d (.one (.ptr 500000 0))), (4, .d (.one (.ptr 500001 0))), (7, vI i)], [(500000, some (boxD 25 TG g)), (500001, some (boxD 60 .tree t))]⟩ (onward (headAt (cb_shape.withLoops (look [])) 8) R K) = (
branch (decide (i < (t.kids.length : Int))) (
 need (inb i t.kids.length) <|
 need (inb t.rule (List.length g.snd)) <|
 need (inr i (W64 (i + 1)) (List.length (List.getD g.snd t.rule.toNat d0).snd)) <|
 branch (decide ((!decide ((GTree.sign (t.kids.getD i.toNat tz)) = (List.take ((W64 (i + 1)).toNat - i.toNat) (List.drop i.toNat (List.getD g.snd t.rule.toNat d0).snd)))) = false)) (
  need (inb i t.kids.length) <|
  need (decide (0 ≤ W64 (d - 1)) && (decide (W64 (d - 1) < (lvS : Int)) && Nat.ble lvS 100)) <|
  branch (bif false then true else !shapeT g (W64 (d - 1)).toNat (GTree.node (GTree.sign (t.kids.getD i.toNat tz)) (GTree.rule (t.kids.getD i.toNat tz)) (GTree.kids (t.kids.getD i.toNat tz)))) ( K (.ret) (.mk [(6, (vB false))] [])) ( R (.mk [(2, (vI d)), (3, (.d (.one (.ptr 500000 0)))), (4, (.d (.one (.ptr 500001 0)))), (7, (vI (W64 (i + 1))))] [(500000, (.some (.box 25 [(.r (.v (Value.string (mk g.fst)))), (.r (.li TRu (g.snd)))]))), (500001, (.some (.box 60 [(.r (.v (Value.string (mk t.sign)))), (.r (.v (Value.int IntKind.i64 t.rule))), (.r (.li (Ty.tree) (t.kids)))])))]))) ( K (.ret) (.mk [(6, (vB false))] []))) ( K (.exit 0) (.mk [] []))) := by kernel_rfl
noncomputable def cx0_shp : Cx := (cb_shape).withLoops (look [])
def sh_shp : Sh := ([(2, .d TI64), (3, .ptr 500000 0), (4, .ptr 500001 0), (7, .d TI64)], [(500000, .box 25 TG), (500001, .box 60 .tree)])
def pre_shp (d : Int) (i : Int) (g : Gram) (t : GTree) : Bool := decide (0 ≤ i) && (nodeOk g t && (decide (1 ≤ d) && (decide (d ≤ (lvS : Int)) && (Nat.ble lvS 100 && Nat.ble t.kids.length 9223372036854775807))))
noncomputable def res_shp (d : Int) (i : Int) (g : Gram) (t : GTree) (K : Cont) : Option Fin := branch (kidsL (shapeT g (d.toNat - 1)) (t.kids.drop i.toNat) ((rgt g t.rule).drop i.toNat)) (K (.exit 0) ⟨[], []⟩) (K .ret ⟨[(6, vB false)], []⟩)
def mu_shp (_d : Int) (i : Int) (_g : Gram) (t : GTree) : Nat := t.kids.length - i.toNat
theorem r_shp (d : Int) (i : Int) (g : Gram) (t : GTree) (K : Cont) (hI : pre_shp d i g t = true) : (∀ R : St → Option Fin, evC cx0_shp (loopOf Tryd.f117 0) ⟨[(2, .d (ofD TI64 d)), (3, .d (.one (.ptr 500000 0))), (4, .d (.one (.ptr 500001 0))), (7, .d (ofD TI64 i))], [(500000, some (boxD 25 TG g)), (500001, some (boxD 60 .tree t))]⟩ (onward (headAt cx0_shp 8) R K) = res_shp d i g t K) ∨
    (∃ (d' : Int) (i' : Int) (g' : Gram) (t' : GTree), pre_shp d' i' g' t' = true ∧ mu_shp d' i' g' t' < mu_shp d i g t ∧ res_shp d' i' g' t' K = res_shp d i g t K ∧ ∀ R : St → Option Fin, evC cx0_shp (loopOf Tryd.f117 0) ⟨[(2, .d (ofD TI64 d)), (3, .d (.one (.ptr 500000 0))), (4, .d (.one (.ptr 500001 0))), (7, .d (ofD TI64 i))], [(500000, some (boxD 25 TG g)), (500001, some (boxD 60 .tree t))]⟩ (onward (headAt cx0_shp 8) R K) = R ⟨[(2, .d (ofD TI64 d')), (3, .d (.one (.ptr 500000 0))), (4, .d (.one (.ptr 500001 0))), (7, .d (ofD TI64 i'))], [(500000, some (boxD 25 TG g')), (500001, some (boxD 60 .tree t'))]⟩) := by
  have hx := fun R => x_spec_l3Shape g t d i R K
  rw [tEta (t.kids.getD i.toNat tz)] at hx
  simp only [pre_shp] at hI
  rw [andd, andd, andd, andd, andd, dec_iff, dec_iff, dec_iff, ble_iff, ble_iff] at hI
  obtain ⟨h0, h1, h2, h3, h4, h5⟩ := hI
  obtain ⟨n1, n2, n3⟩ := node_iff h1
  by_cases hi : i < (t.kids.length : Int)
  · have hg := kidsL_at (f := shapeT g (d.toNat - 1)) h0 hi n3
    have w1 : W64 (i + 1) = i + 1 := wrap_small (by omega) (by omega)
    have w2 : W64 (d - 1) = d - 1 := wrap_small (by omega) (by omega)
    have n4 : i < ((rgt g t.rule).length : Int) := by rw [← n3]; exact hi
    have hsl : List.take ((i + 1).toNat - i.toNat) (List.drop i.toNat (List.getD g.2 t.rule.toNat d0).2) = [(rgt g t.rule).getD i.toNat 0] := slice_one (s := rgt g t.rule) h0 n4
    have k1 : inr i (i + 1) (List.length (List.getD g.2 t.rule.toNat d0).2) = true := inr_iff.2 ⟨h0, by omega, show i + 1 ≤ ((rgt g t.rule).length : Int) by omega⟩
    have k2 : (decide (0 ≤ d - 1) && (decide (d - 1 < (lvS : Int)) && Nat.ble lvS 100)) = true := andd.2 ⟨dec_iff.2 (by omega), andd.2 ⟨dec_iff.2 (by omega), ble_iff.2 h4⟩⟩
    rw [w1, w2, decide_eq_true hi, inb_ok h0 hi, n1, k1, k2, hsl, show (d - 1).toNat = d.toNat - 1 by omega] at hx
    change ∀ R, _ = branch true (need true (need true (need true (branch (decide ((!decide ((kidT t i).sign = [(rgt g t.rule).getD i.toNat 0])) = false)) (need true (need true (branch (bif false then true else !shapeT g (d.toNat - 1) (kidT t i)) _ _))) _)))) _ at hx
    cases c1 : decide ((kidT t i).sign = [(rgt g t.rule).getD i.toNat 0])
    · rw [c1] at hx hg
      left
      intro R
      refine (hx R).trans ?_
      simp only [res_shp, hg]; rfl
    · rw [c1] at hx hg
      cases c2 : shapeT g (d.toNat - 1) (kidT t i)
      · rw [c2] at hx hg
        left
        intro R
        refine (hx R).trans ?_
        simp only [res_shp, hg]; rfl
      · rw [c2] at hx hg
        right
        refine ⟨d, i + 1, g, t, ?_, ?_, ?_, fun R => hx R⟩
        · simp only [pre_shp]
          rw [andd, andd, andd, andd, andd, dec_iff, dec_iff, dec_iff, ble_iff, ble_iff]
          exact ⟨by omega, h1, h2, h3, h4, h5⟩
        · simp only [mu_shp]; omega
        · simp only [res_shp, hg]; rfl
  · left
    intro R
    refine (hx R).trans ?_
    rw [decide_eq_false hi]
    have e : t.kids.drop i.toNat = [] := List.drop_eq_nil_of_le (by omega)
    simp only [res_shp, e]; rfl
noncomputable def g_shp : St → Cont → Option Fin := gP sh_shp (fun v => match v with | ((d, i, ()), (g, t, ())) => pre_shp d i g t) (fun v K => match v with | ((d, i, ()), (g, t, ())) => res_shp d i g t K)
noncomputable def L_shp : List (Nat × (St → Cont → Option Fin)) := (8, g_shp) :: []
noncomputable def cx_shp : Cx := (cb_shape).withLoops (look L_shp)
theorem l_shp {L : List (Nat × (St → Cont → Option Fin))} (n : Nat) (h1 : L.drop n = []) (h2 : idsFree (L.take n) (loopOf Tryd.f117 0) = true) : ∀ st K r, g_shp st K = some r → ∃ N, iter (evC ((cb_shape).withLoops (look L)) (loopOf Tryd.f117 0)) (headAt ((cb_shape).withLoops (look L)) 8) N st K = some r :=
  with_drop h1 h2 (gP_ok (fun v => match v with | ((d, i, ()), (g, t, ())) => mu_shp d i g t) fun v K hI => by
    obtain ⟨⟨(d : Int), (i : Int), ⟨⟩⟩, ⟨(g : Gram), (t : GTree), ⟨⟩⟩⟩ := v
    rcases r_shp d i g t K hI with h1 | ⟨d', i', g', t', h1, h2, h3, h4⟩
    · exact .inl h1
    · exact .inr ⟨((d', i', ()), (g', t', ())), h1, h2, h3, h4⟩)
theorem y_spec_l3Shape (g : Gram) (t : GTree) (d : Int) : evFn cx_shp Tryd.f117 true [ofD TG g, ofD .tree t, ofD TI64 d] [] = (
branch (decide (d < 1)) ( some ((vB false), [])) (
 branch (smallS t.sign) ( some ((vB (bif decide (t.rule = Int.neg 1) then decide ((t.kids.length : Int) = 0) else false)), [])) (
  need (bif decide ((bif decide (t.rule < 0) then true else decide ((List.length g.snd : Int) ≤ t.rule)) = false) then inb t.rule (List.length g.snd) else true) <|
  need (bif decide ((bif bif decide (t.rule < 0) then true else decide ((List.length g.snd : Int) ≤ t.rule) then true else !decide ((List.getD g.snd t.rule.toNat d0).fst = t.sign)) = false) then inb t.rule (List.length g.snd) else true) <|
  branch (bif bif bif decide (t.rule < 0) then true else decide ((List.length g.snd : Int) ≤ t.rule) then true else !decide ((List.getD g.snd t.rule.toNat d0).fst = t.sign) then true else !decide ((t.kids.length : Int) = (List.length (List.getD g.snd t.rule.toNat d0).snd : Int))) ( some ((vB false), [])) (
   need (pre_shp d 0 g (GTree.node t.sign t.rule t.kids)) <|
   branch (kidsL (shapeT g (d.toNat - 1)) (id (GTree.node t.sign t.rule t.kids).kids) (id (rgt g (GTree.node t.sign t.rule t.kids).rule))) ( some ((vB true), [])) ( some ((vB false), [])))))) := by kernel_rfl
theorem shape_up : ConOk Tryd.prog 117 (conShape (lvS + 1)) := conT_ok Tryd.call117 fun (g : Gram) _ (t : GTree) ht (d : Int) _ hqq => by
  have hpre := pre_of hqq
  rw [andd, andd, dec_iff, dec_iff, ble_iff] at hpre
  obtain ⟨h1, h2, h3⟩ := hpre
  refine fn_sound (cx := cx_shp) Tryd.func117 rfl ttOk Γ61ok mixed (fun c hc => LoopsOk.all (l := [(8, loopOf Tryd.f117 0)]) (by cases hc; kernel_rfl) ⟨atLoop rfl (l_shp 1 rfl (by kernel_rfl)), trivial⟩) (ro := true) ?_
  refine (y_spec_l3Shape g t d).trans ?_
  rw [tEta]
  by_cases hd1 : d < 1
  · rw [decide_eq_true hd1, show d.toNat = 0 by omega]; rfl
  · rw [decide_eq_false hd1]
    obtain ⟨m, hm⟩ : ∃ m, d.toNat = m + 1 := ⟨d.toNat - 1, by omega⟩
    rw [hm, show m + 1 - 1 = m from rfl]
    show branch (smallS t.sign) _ _ = some (vB (bif smallS t.sign then leafOk t else bif nodeOk g t then kidsL (shapeT g m) t.kids (rgt g t.rule) else false), [])
    cases smallS t.sign
    · simp only [branch_false, cond_false]
      cases hN : nodeOk g t
      · have hor : (bif bif bif decide (t.rule < 0) then true else decide ((List.length g.2 : Int) ≤ t.rule) then true else !decide ((List.getD g.2 t.rule.toNat d0).1 = t.sign) then true else !decide ((t.kids.length : Int) = (List.length (List.getD g.2 t.rule.toNat d0).2 : Int))) = true := by
          unfold nodeOk at hN
          by_cases a1 : t.rule < 0
          · rw [decide_eq_true a1]; rfl
          · by_cases a2 : (List.length g.2 : Int) ≤ t.rule
            · rw [decide_eq_true a2]; cases decide (t.rule < 0) <;> rfl
            · rw [inb_ok (by omega) (by omega), Bool.true_and] at hN
              rw [decide_eq_false a1, decide_eq_false a2]
              by_cases a3 : (List.getD g.2 t.rule.toNat d0).1 = t.sign
              · rw [decide_eq_true a3] at hN ⊢
                have a4 : ¬ (t.kids.length : Int) = (List.length (List.getD g.2 t.rule.toNat d0).2 : Int) := fun e => by
                  have : t.kids.length = (rgt g t.rule).length := by have : (t.kids.length : Int) = ((rgt g t.rule).length : Int) := e; omega
                  rw [decide_eq_true this] at hN; cases hN
                rw [decide_eq_false a4]; rfl
              · rw [decide_eq_false a3]; rfl
        rw [hor]
        have e1 : (bif decide ((bif decide (t.rule < 0) then true else decide ((List.length g.2 : Int) ≤ t.rule)) = false) then inb t.rule (List.length g.2) else true) = true := by
          by_cases a1 : t.rule < 0
          · rw [decide_eq_true a1]; rfl
          · by_cases a2 : (List.length g.2 : Int) ≤ t.rule
            · rw [decide_eq_true a2]; cases decide (t.rule < 0) <;> rfl
            · rw [inb_ok (by omega) (by omega)]; simp only [Bool.cond_self]
        have e2 : (bif decide ((bif bif decide (t.rule < 0) then true else decide ((List.length g.2 : Int) ≤ t.rule) then true else !decide ((List.getD g.2 t.rule.toNat d0).1 = t.sign)) = false) then inb t.rule (List.length g.2) else true) = true := by
          by_cases a1 : t.rule < 0
          · rw [decide_eq_true a1]; rfl
          · by_cases a2 : (List.length g.2 : Int) ≤ t.rule
            · rw [decide_eq_true a2]; cases decide (t.rule < 0) <;> rfl
            · rw [inb_ok (by omega) (by omega)]; simp only [Bool.cond_self]
        rw [e1, e2]; rfl
      · obtain ⟨n1, n2, n3⟩ := node_iff hN
        obtain ⟨b1, b2⟩ := inb_iff.1 n1
        have n5 : (t.kids.length : Int) = (List.length (List.getD g.2 t.rule.toNat d0).2 : Int) := congrArg Int.ofNat n3
        have hp : pre_shp d 0 g t = true := by
          simp only [pre_shp]
          rw [andd, andd, andd, andd, andd, dec_iff, dec_iff, dec_iff, ble_iff, ble_iff]
          exact ⟨by omega, hN, by omega, by omega, by omega, (kids_fit ht).1⟩
        rw [decide_eq_false (by omega : ¬ t.rule < 0), decide_eq_false (by omega : ¬ (List.length g.2 : Int) ≤ t.rule), decide_eq_true n2, decide_eq_true n5, n1, hp]
        show branch (kidsL (shapeT g m) t.kids (rgt g t.rule)) _ _ = _
        cases kidsL (shapeT g m) t.kids (rgt g t.rule) <;> rfl
    · have e : (bif decide (t.rule = Int.neg 1) then decide ((t.kids.length : Int) = 0) else false) = leafOk t := by
        unfold leafOk
        rw [show Int.neg 1 = -1 from rfl, b2]
        congr 1
        cases h : Nat.beq t.kids.length 0
        · refine decide_eq_false fun hh => ?_
          rw [show t.kids.length = 0 by omega] at h; cases h
        · have := Nat.eq_of_beq_eq_true h
          exact decide_eq_true (by omega)
      rw [e]; rfl
end
theorem shape_all : ∀ n, ConOk Tryd.prog 117 (conShape n)
  | 0 => conT_ok Tryd.call117 fun g _ t _ (d : Int) _ hqq => by
    have hpre := pre_of hqq
    rw [andd, andd, dec_iff, dec_iff, ble_iff] at hpre
    omega
  | n + 1 => @shape_up ⟨⟨n, shape_all n⟩⟩
noncomputable def c_spec_l3Shape : Con := conShape 50
theorem k_spec_l3Shape : ConOk Tryd.prog 117 c_spec_l3Shape := shape_all 50
noncomputable def Γ62 : List (Nat × Con) := (117, c_spec_l3Shape) :: Γ60
theorem Γ62ok : EnvOk Tryd.prog (look Γ62) := .cons k_spec_l3Shape Γ60ok

/-- few kids, so deep -/
def fewK : Nat → GTree → Bool
  | 0, _ => true
  | n + 1, t => Nat.ble t.kids.length 4 && List.all t.kids (fewK n)
def sumT (f : GTree → Nat) : List GTree → Nat
  | [] => 0
  | k :: ks => f k + sumT f ks
/-- how many nodes, so deep -/
def manyT : Nat → GTree → Nat
  | 0, _ => 1
  | n + 1, t => 1 + sumT (manyT n) t.kids
theorem sum_le {f : GTree → Nat} {m : Nat} : ∀ {l : List GTree}, (∀ t ∈ l, f t ≤ m) → sumT f l ≤ l.length * m
  | [], _ => Nat.zero_le _
  | t :: l, h => by
    have h1 := h t List.mem_cons_self
    have h2 := sum_le (l := l) fun t ht => h t (List.mem_cons_of_mem _ ht)
    unfold sumT
    rw [List.length_cons, Nat.add_mul]
    omega
theorem many_le : ∀ {n : Nat} {t : GTree}, fewK n t = true → manyT n t ≤ 5 ^ n
  | 0, _, _ => Nat.le_refl _
  | n + 1, t, h => by
    unfold fewK at h
    rw [andd, ble_iff] at h
    have hs := sum_le (f := manyT n) (m := 5 ^ n) (l := t.kids) fun k hk => many_le (List.all_eq_true.1 h.2 k hk)
    have hp : 0 < 5 ^ n := Nat.pow_pos (by omega)
    have h3 := Nat.mul_le_mul_right (5 ^ n) h.1
    unfold manyT
    rw [Nat.pow_succ]
    omega
theorem sum_at {f : GTree → Nat} {t : GTree} {i : Int} (h0 : 0 ≤ i) (h1 : i < (t.kids.length : Int)) : sumT f (t.kids.drop i.toNat) = f (kidT t i) + sumT f (t.kids.drop (i + 1).toNat) := by
  have hn : i.toNat < t.kids.length := by omega
  have e1 : kidT t i = t.kids[i.toNat] := by
    show t.kids.getD i.toNat tz = _
    rw [List.getD_eq_getElem?_getD, List.getElem?_eq_getElem hn]; rfl
  rw [List.drop_eq_getElem_cons hn, e1, show (i + 1).toNat = i.toNat + 1 by omega]; rfl
noncomputable def conMany (n : Nat) : Con := conT [.tree, TI64] fun (t : GTree) (d : Int) => (some (decide (0 ≤ d) && (decide (d < (n : Int)) && (Nat.ble n 25 && fewK d.toNat t))), .d (ofD TI64 ((manyT d.toNat t : Nat) : Int)))
structure LevM where
  n : Nat
  h : ConOk Tryd.prog 118 (conMany n)
noncomputable section
variable [Inhabited LevM]
abbrev lvM : Nat := (default : LevM).n
noncomputable def c_spec_l3ManyR : Con := conMany lvM
theorem k_spec_l3ManyR : ConOk Tryd.prog 118 c_spec_l3ManyR := (default : LevM).h
noncomputable def Γ63 : List (Nat × Con) := (118, c_spec_l3ManyR) :: Γ62
theorem Γ63ok : EnvOk Tryd.prog (look Γ63) := .cons k_spec_l3ManyR Γ62ok

noncomputable def cb_many : Cx := cxOf Γ63 Tryd.f118.ntmps [(3, [1, 2, 5, 6])] [(0, [5]), (1, [1, 2, 5, 6]), (1000000, [4])] [] []
theorem x_spec_l3Many (t : GTree) (d n i : Int) (R : St → Option Fin) (K : Cont) : evC (cb_many.withLoops (look [])) (loopOf Tryd.f118 0) ⟨[(1, vI d), (2, .d (.one (.ptr 500000 0))), (5, vI n), (6, vI i)], [(500000, some (boxD 60 .tree t))]⟩ (onward (headAt (cb_many.withLoops (look [])) 3) R K) = (
branch (bif decide (i < (t.kids.length : Int)) then decide (0 < d) else false) (
 need (inb i t.kids.length) <|
 need (decide (0 ≤ W64 (d - 1)) && (decide (W64 (d - 1) < (lvM : Int)) && (lvM.ble 25 && fewK (W64 (d - 1)).toNat (GTree.node (GTree.sign (t.kids.getD i.toNat tz)) (GTree.rule (t.kids.getD i.toNat tz)) (GTree.kids (t.kids.getD i.toNat tz)))))) <| R (.mk [(1, (vI d)), (2, (.d (.one (.ptr 500000 0)))), (5, (vI (W64 (n + (manyT (W64 (d - 1)).toNat (GTree.node (GTree.sign (t.kids.getD i.toNat tz)) (GTree.rule (t.kids.getD i.toNat tz)) (GTree.kids (t.kids.getD i.toNat tz))) : Int))))), (6, (vI (W64 (i + 1))))] [(500000, (.some (.box 60 [(.r (.v (Value.string (mk t.sign)))), (.r (.v (Value.int IntKind.i64 t.rule))), (.r (.li (Ty.tree) (t.kids)))])))])) ( K (.exit 0) (.mk [(5, (vI n))] []))) := by kernel_rfl
noncomputable def cx0_mny : Cx := (cb_many).withLoops (look [])
def sh_mny : Sh := ([(1, .d TI64), (2, .ptr 500000 0), (5, .d TI64), (6, .d TI64)], [(500000, .box 60 .tree)])
def pre_mny (d : Int) (n : Int) (i : Int) (t : GTree) : Bool := decide (0 ≤ i) && (decide (0 ≤ d) && (decide (d ≤ (lvM : Int)) && (Nat.ble lvM 25 && (fewK d.toNat t && (decide (0 ≤ n) && decide (n ≤ 1 + i * 59604644775390625))))))
noncomputable def res_mny (d : Int) (n : Int) (i : Int) (t : GTree) (K : Cont) : Option Fin := K (.exit 0) ⟨[(5, vI (n + ((bif decide (0 < d) then sumT (manyT (d.toNat - 1)) (t.kids.drop i.toNat) else 0 : Nat) : Int)))], []⟩
def mu_mny (_d : Int) (_n : Int) (i : Int) (t : GTree) : Nat := t.kids.length - i.toNat
theorem r_mny (d : Int) (n : Int) (i : Int) (t : GTree) (K : Cont) (hI : pre_mny d n i t = true) : (∀ R : St → Option Fin, evC cx0_mny (loopOf Tryd.f118 0) ⟨[(1, .d (ofD TI64 d)), (2, .d (.one (.ptr 500000 0))), (5, .d (ofD TI64 n)), (6, .d (ofD TI64 i))], [(500000, some (boxD 60 .tree t))]⟩ (onward (headAt cx0_mny 3) R K) = res_mny d n i t K) ∨
    (∃ (d' : Int) (n' : Int) (i' : Int) (t' : GTree), pre_mny d' n' i' t' = true ∧ mu_mny d' n' i' t' < mu_mny d n i t ∧ res_mny d' n' i' t' K = res_mny d n i t K ∧ ∀ R : St → Option Fin, evC cx0_mny (loopOf Tryd.f118 0) ⟨[(1, .d (ofD TI64 d)), (2, .d (.one (.ptr 500000 0))), (5, .d (ofD TI64 n)), (6, .d (ofD TI64 i))], [(500000, some (boxD 60 .tree t))]⟩ (onward (headAt cx0_mny 3) R K) = R ⟨[(1, .d (ofD TI64 d')), (2, .d (.one (.ptr 500000 0))), (5, .d (ofD TI64 n')), (6, .d (ofD TI64 i'))], [(500000, some (boxD 60 .tree t'))]⟩) := by
  have hx := fun R => x_spec_l3Many t d n i R K
  rw [tEta (t.kids.getD i.toNat tz)] at hx
  simp only [pre_mny] at hI
  rw [andd, andd, andd, andd, andd, andd, dec_iff, dec_iff, dec_iff, ble_iff, dec_iff, dec_iff] at hI
  obtain ⟨h0, h1, h2, h3, h4, h5, h6⟩ := hI
  by_cases hd : 0 < d
  · obtain ⟨m, hm⟩ : ∃ m, d.toNat = m + 1 := ⟨d.toNat - 1, by omega⟩
    rw [hm] at h4
    obtain ⟨f1, f2⟩ := andd.1 h4
    have f1 := ble_iff.1 f1
    by_cases hi : i < (t.kids.length : Int)
    · have hkid := List.all_eq_true.1 f2 _ (kid_in h0 hi)
      have hb := many_le hkid
      have hb2 : 5 ^ m ≤ 5 ^ 24 := Nat.pow_le_pow_right (by omega) (by omega)
      have hb3 : (5 : Nat) ^ 24 = 59604644775390625 := by decide
      have w1 : W64 (i + 1) = i + 1 := wrap_small (by omega) (by omega)
      have w2 : W64 (d - 1) = d - 1 := wrap_small (by omega) (by omega)
      have w3 : W64 (n + (manyT m (kidT t i) : Int)) = n + (manyT m (kidT t i) : Int) := wrap_small (by omega) (by omega)
      have k2 : (decide (0 ≤ d - 1) && (decide (d - 1 < (lvM : Int)) && (lvM.ble 25 && fewK m (kidT t i)))) = true := andd.2 ⟨dec_iff.2 (by omega), andd.2 ⟨dec_iff.2 (by omega), andd.2 ⟨ble_iff.2 h3, hkid⟩⟩⟩
      have hg := sum_at (f := manyT m) h0 hi
      rw [w1, w2, decide_eq_true hi, decide_eq_true hd, inb_ok h0 hi, show (d - 1).toNat = m by omega] at hx
      change ∀ R : St → Option Fin, _ = branch (bif true then true else false) (need true (need (decide (0 ≤ d - 1) && (decide (d - 1 < (lvM : Int)) && (lvM.ble 25 && fewK m (kidT t i)))) (R ⟨[(1, vI d), (2, .d (.one (.ptr 500000 0))), (5, vI (W64 (n + (manyT m (kidT t i) : Int)))), (6, vI (i + 1))], _⟩))) _ at hx
      rw [k2, w3] at hx
      right
      refine ⟨d, n + (manyT m (kidT t i) : Int), i + 1, t, ?_, ?_, ?_, fun R => hx R⟩
      · simp only [pre_mny]
        rw [andd, andd, andd, andd, andd, andd, dec_iff, dec_iff, dec_iff, ble_iff, dec_iff, dec_iff, hm]
        exact ⟨by omega, h1, h2, h3, h4, by omega, by omega⟩
      · simp only [mu_mny]; omega
      · simp only [res_mny, hm, Nat.add_sub_cancel]
        rw [decide_eq_true hd, cond_true, cond_true, hg]
        rw [show n + (manyT m (kidT t i) : Int) + (sumT (manyT m) (t.kids.drop (i + 1).toNat) : Int) = n + ((manyT m (kidT t i) + sumT (manyT m) (t.kids.drop (i + 1).toNat) : Nat) : Int) by omega]
    · left
      intro R
      refine (hx R).trans ?_
      rw [decide_eq_false hi]
      have e : t.kids.drop i.toNat = [] := List.drop_eq_nil_of_le (by omega)
      simp only [res_mny, e]
      rw [decide_eq_true hd]
      show K (.exit 0) ⟨[(5, vI n)], []⟩ = K (.exit 0) ⟨[(5, vI (n + ((0 : Nat) : Int)))], []⟩
      rw [show n + ((0 : Nat) : Int) = n by omega]
  · left
    intro R
    refine (hx R).trans ?_
    simp only [res_mny]
    rw [decide_eq_false hd]
    show branch (bif decide (i < (t.kids.length : Int)) then false else false) _ _ = K (.exit 0) ⟨[(5, vI (n + ((0 : Nat) : Int)))], []⟩
    rw [show n + ((0 : Nat) : Int) = n by omega]
    cases decide (i < (t.kids.length : Int)) <;> rfl
noncomputable def g_mny : St → Cont → Option Fin := gP sh_mny (fun v => match v with | ((d, n, i, ()), (t, ())) => pre_mny d n i t) (fun v K => match v with | ((d, n, i, ()), (t, ())) => res_mny d n i t K)
noncomputable def L_mny : List (Nat × (St → Cont → Option Fin)) := (3, g_mny) :: []
noncomputable def cx_mny : Cx := (cb_many).withLoops (look L_mny)
theorem l_mny {L : List (Nat × (St → Cont → Option Fin))} (n : Nat) (h1 : L.drop n = []) (h2 : idsFree (L.take n) (loopOf Tryd.f118 0) = true) : ∀ st K r, g_mny st K = some r → ∃ N, iter (evC ((cb_many).withLoops (look L)) (loopOf Tryd.f118 0)) (headAt ((cb_many).withLoops (look L)) 3) N st K = some r :=
  with_drop h1 h2 (gP_ok (fun v => match v with | ((d, n, i, ()), (t, ())) => mu_mny d n i t) fun v K hI => by
    obtain ⟨⟨(d : Int), (n : Int), (i : Int), ⟨⟩⟩, ⟨(t : GTree), ⟨⟩⟩⟩ := v
    rcases r_mny d n i t K hI with h1 | ⟨d', n', i', t', h1, h2, h3, h4⟩
    · exact .inl h1
    · exact .inr ⟨((d', n', i', ()), (t', ())), h1, h2, h3, h4⟩)
theorem y_spec_l3Many (t : GTree) (d : Int) : evFn cx_mny Tryd.f118 true [ofD .tree t, ofD TI64 d] [] = (
need (pre_mny d 1 0 (GTree.node t.sign t.rule t.kids)) <| some ((vI (1 + ((bif decide (0 < d) then sumT (manyT (d.toNat - 1)) (id (GTree.node t.sign t.rule t.kids).kids) else 0 : Nat) : Int))), [])) := by kernel_rfl
theorem many_up : ConOk Tryd.prog 118 (conMany (lvM + 1)) := conT_ok Tryd.call118 fun (t : GTree) _ (d : Int) _ hqq => by
  have hpre := pre_of hqq
  rw [andd, andd, andd, dec_iff, dec_iff, ble_iff] at hpre
  obtain ⟨h1, h2, h3, h4⟩ := hpre
  refine fn_sound (cx := cx_mny) Tryd.func118 rfl ttOk Γ63ok mixed (fun c hc => LoopsOk.all (l := [(3, loopOf Tryd.f118 0)]) (by cases hc; kernel_rfl) ⟨atLoop rfl (l_mny 1 rfl (by kernel_rfl)), trivial⟩) (ro := true) ?_
  refine (y_spec_l3Many t d).trans ?_
  have hp : pre_mny d 1 0 t = true := by
    simp only [pre_mny]
    rw [andd, andd, andd, andd, andd, andd, dec_iff, dec_iff, dec_iff, ble_iff, dec_iff, dec_iff]
    exact ⟨by omega, h1, by omega, by omega, h4, by omega, by omega⟩
  rw [tEta, hp]
  by_cases hd : 0 < d
  · obtain ⟨m, hm⟩ : ∃ m, d.toNat = m + 1 := ⟨d.toNat - 1, by omega⟩
    rw [decide_eq_true hd, hm]
    show some (vI (1 + ((sumT (manyT m) t.kids : Nat) : Int)), []) = some (vI ((1 + sumT (manyT m) t.kids : Nat) : Int), [])
    rw [show (1 + ((sumT (manyT m) t.kids : Nat) : Int)) = ((1 + sumT (manyT m) t.kids : Nat) : Int) by omega]
  · rw [decide_eq_false hd, show d.toNat = 0 by omega]; rfl
end
theorem many_all : ∀ n, ConOk Tryd.prog 118 (conMany n)
  | 0 => conT_ok Tryd.call118 fun t _ (d : Int) _ hqq => by
    have hpre := pre_of hqq
    rw [andd, andd, dec_iff, dec_iff] at hpre
    omega
  | n + 1 => @many_up ⟨⟨n, many_all n⟩⟩
noncomputable def c_spec_l3Many : Con := conMany 25
theorem k_spec_l3Many : ConOk Tryd.prog 118 c_spec_l3Many := many_all 25
noncomputable def Γ64 : List (Nat × Con) := (118, c_spec_l3Many) :: Γ62
theorem Γ64ok : EnvOk Tryd.prog (look Γ64) := .cons k_spec_l3Many Γ62ok

/-- of a tree that is right, few kids -/
theorem kidsL_all {f p : GTree → Bool} : ∀ {l : List GTree} {s : Str}, (∀ k ∈ l, f k = true → p k = true) → kidsL f l s = true → l.all p = true
  | [], _, _, _ => rfl
  | k :: ks, [], _, h => by cases h
  | k :: ks, c :: s, h, h2 => by
    unfold kidsL at h2
    rw [andd, andd] at h2
    rw [List.all_cons, h k List.mem_cons_self h2.2.1, kidsL_all (l := ks) (fun k' hk => h k' (List.mem_cons_of_mem _ hk)) h2.2.2]; rfl
theorem right_len {g : Gram} (h : okG g = true) {k : Int} (hk : inb k (List.length g.2) = true) : (rgt g k).length ≤ 4 := by
  obtain ⟨h0, h1⟩ := inb_iff.1 hk
  have hn : k.toNat < List.length g.2 := by omega
  have := ((okG_iff h).2.2 (List.getD g.2 k.toNat d0) (by rw [getD_at hn]; exact List.getElem_mem hn)).2
  have := (areS_iff this).2
  show (List.getD g.2 k.toNat d0).2.length ≤ 4
  omega
theorem shape_few {g : Gram} (h : okG g = true) : ∀ {n : Nat} {t : GTree}, shapeT g n t = true → fewK n t = true
  | 0, _, _ => rfl
  | n + 1, t, hs => by
    unfold shapeT at hs
    unfold fewK
    cases h1 : smallS t.sign <;> rw [h1] at hs
    · cases h2 : nodeOk g t <;> rw [h2] at hs
      · cases hs
      · obtain ⟨n1, _, n3⟩ := node_iff h2
        exact andd.2 ⟨ble_iff.2 (by rw [n3]; exact right_len h n1), kidsL_all (fun k _ hk => shape_few h hk) hs⟩
    · have : t.kids = [] := List.length_eq_zero_iff.1 (Nat.eq_of_beq_eq_true (andd.1 hs).2)
      rw [this]; rfl
/-- a tree of right rules, of 60 nodes at most -/
def okT (g : Gram) (t : GTree) : Bool := okG g && (shapeT g 20 t && Nat.ble (manyT 20 t) 60)
theorem y_spec_TreeOk (g : Gram) (t : GTree) : evFn ((cxOf Γ64 Tryd.f48.ntmps [] [] [] []).parted [1]) Tryd.f48 true [ofD TG g, ofD .tree t] [] = (
branch (decide (okG g = true)) (
 branch (decide ((bif true then shapeT g (Int.toNat 20) (GTree.node t.sign t.rule t.kids) else false) = true)) (
  need (decide (0 ≤ 20) && (decide (20 < (25 : Int)) && (Nat.ble 25 25 && fewK (Int.toNat 20) (GTree.node t.sign t.rule t.kids)))) <| some ((vB (bif true then decide ((manyT (Int.toNat 20) (GTree.node t.sign t.rule t.kids) : Int) ≤ 60) else false)), [])) ( some ((vB false), []))) ( some ((vB false), []))) := by kernel_rfl
theorem s_spec_TreeOk (g : Gram) (_hg : Fit TG g) (t : GTree) (_ht : Fit .tree t) : Sat Tryd.prog 48 [ofD TG g, ofD .tree t] [] (.d (ofD .bool (okT g t))) [] :=
  fn_sound (cx := ((cxOf Γ64 Tryd.f48.ntmps [] [] [] []).parted [1])) Tryd.func48 rfl ttOk Γ64ok mixed (fun _ _ => LoopsOk.no fun _ => rfl) (ro := true) (by
    refine (y_spec_TreeOk g t).trans ?_
    rw [tEta]
    show branch (decide (okG g = true)) (branch (decide ((bif true then shapeT g 20 t else false) = true)) (need (decide ((0 : Int) ≤ 20) && (decide (20 < (25 : Int)) && (Nat.ble 25 25 && fewK 20 t))) (some (vB (bif true then decide ((manyT 20 t : Int) ≤ 60) else false), []))) (some (vB false, []))) (some (vB false, [])) = some (vB (okT g t), [])
    unfold okT
    cases hG : okG g
    · rfl
    · cases hS : shapeT g 20 t
      · rfl
      · have e : decide ((manyT 20 t : Int) ≤ 60) = Nat.ble (manyT 20 t) 60 := by rw [ble_dec, decide_eq_decide]; omega
        rw [shape_few hG hS, cond_true, cond_true, e]; rfl)
noncomputable def c_spec_TreeOk : Con := conT [TG, .tree] fun (g : Gram) (t : GTree) => (none, .d (ofD .bool (okT g t)))
theorem k_spec_TreeOk : ConOk Tryd.prog 48 c_spec_TreeOk := conT_ok Tryd.call48 fun g hg t ht _ => s_spec_TreeOk g hg t ht
noncomputable def Γ65 : List (Nat × Con) := (48, c_spec_TreeOk) :: Γ64
theorem Γ65ok : EnvOk Tryd.prog (look Γ65) := .cons k_spec_TreeOk Γ64ok

/-- the program's way: what is left is counted down -/
def isK (f : GTree → Int → Bool × Int) : List GTree → Str → Int → Bool × Int
  | [], _, l => (true, l)
  | k :: ks, c :: s, l => bif decide (k.sign = [c]) then (bif (f k l).1 then isK f ks s (f k l).2 else (false, (f k l).2)) else (false, l)
  | _ :: _, [], l => (false, l)
def isT (g : Gram) : Nat → GTree → Int → Bool × Int
  | 0, _, l => (false, l - 1)
  | n + 1, t, l => bif decide (l - 1 < 0) then (false, l - 1) else bif smallS t.sign then (leafOk t, l - 1) else bif nodeOk g t then isK (isT g n) t.kids (rgt g t.rule) (l - 1) else (false, l - 1)
theorem isK_at {f : GTree → Int → Bool × Int} {ks : List GTree} {s : Str} {i l : Int} (h0 : 0 ≤ i) (h1 : i < (ks.length : Int)) (h2 : ks.length = s.length) : isK f (ks.drop i.toNat) (s.drop i.toNat) l = bif decide ((ks.getD i.toNat tz).sign = [s.getD i.toNat 0]) then (bif (f (ks.getD i.toNat tz) l).1 then isK f (ks.drop (i + 1).toNat) (s.drop (i + 1).toNat) (f (ks.getD i.toNat tz) l).2 else (false, (f (ks.getD i.toNat tz) l).2)) else (false, l) := by
  have hn : i.toNat < ks.length := by omega
  have hs : i.toNat < s.length := by omega
  have e1 : ks.getD i.toNat tz = ks[i.toNat] := by rw [List.getD_eq_getElem?_getD, List.getElem?_eq_getElem hn]; rfl
  rw [List.drop_eq_getElem_cons hn, List.drop_eq_getElem_cons hs, e1, show (i + 1).toNat = i.toNat + 1 by omega, List.getD_eq_getElem?_getD, List.getElem?_eq_getElem hs]; rfl
/-- what is told and what is left -/
theorem isK_eq {f : GTree → Int → Bool × Int} {h : GTree → Bool} {m : GTree → Nat} (hf : ∀ k l, 0 ≤ l → (f k l).1 = (h k && decide ((m k : Int) ≤ l)) ∧ ((f k l).1 = true → (f k l).2 = l - m k)) :
    ∀ {ks : List GTree} {s : Str} {l : Int}, 0 ≤ l → (isK f ks s l).1 = (kidsL h ks s && decide ((sumT m ks : Int) ≤ l)) ∧ ((isK f ks s l).1 = true → (isK f ks s l).2 = l - sumT m ks)
  | [], _, l, hl => by
    unfold isK kidsL sumT
    exact ⟨by simp; omega, fun _ => by simp⟩
  | k :: ks, [], l, _ => by
    unfold isK kidsL
    exact ⟨rfl, fun e => by cases e⟩
  | k :: ks, c :: s, l, hl => by
    obtain ⟨f1, f2⟩ := hf k l hl
    unfold isK kidsL sumT
    cases hs : decide (k.sign = [c])
    · exact ⟨rfl, fun e => by cases e⟩
    · rw [cond_true]
      cases hk : (f k l).1
      · rw [hk] at f1
        refine ⟨?_, fun e => by cases e⟩
        show false = _
        cases hh : h k
        · rfl
        · rw [hh, Bool.true_and] at f1
          have := of_decide_eq_false f1.symm
          rw [Bool.true_and, Bool.true_and]
          have h3 : decide (((m k + sumT m ks : Nat) : Int) ≤ l) = false := decide_eq_false (by omega)
          rw [h3, Bool.and_false]
      · rw [hk] at f1
        have f2 := f2 hk
        have f1 := andd.1 f1.symm
        have hle := of_decide_eq_true f1.2
        obtain ⟨g1, g2⟩ := isK_eq hf (ks := ks) (s := s) (l := (f k l).2) (by omega)
        rw [cond_true]
        refine ⟨?_, fun e => ?_⟩
        · rw [g1, f1.1, Bool.true_and, Bool.true_and]
          congr 1
          rw [decide_eq_decide]; omega
        · rw [g2 e]; omega
theorem isT_eq {g : Gram} : ∀ {n : Nat} {t : GTree} {l : Int}, 0 ≤ l → (isT g n t l).1 = (shapeT g n t && decide ((manyT n t : Int) ≤ l)) ∧ ((isT g n t l).1 = true → (isT g n t l).2 = l - manyT n t)
  | 0, t, l, _ => ⟨rfl, fun e => by cases e⟩
  | n + 1, t, l, hl => by
    unfold isT shapeT manyT
    by_cases h1 : l - 1 < 0
    · rw [decide_eq_true h1]
      refine ⟨?_, fun e => by cases e⟩
      have : decide (((1 + sumT (manyT n) t.kids : Nat) : Int) ≤ l) = false := decide_eq_false (by omega)
      rw [this, Bool.and_false]; rfl
    · rw [decide_eq_false h1, cond_false]
      cases hs : smallS t.sign
      · rw [cond_false, cond_false]
        cases hn : nodeOk g t
        · exact ⟨rfl, fun e => by cases e⟩
        · rw [cond_true, cond_true]
          obtain ⟨g1, g2⟩ := isK_eq (f := isT g n) (h := shapeT g n) (m := manyT n) (fun k l' hl' => isT_eq hl') (ks := t.kids) (s := rgt g t.rule) (l := l - 1) (by omega)
          refine ⟨?_, fun e => ?_⟩
          · rw [g1]
            congr 1
            rw [decide_eq_decide]; omega
          · rw [g2 e]; omega
      · rw [cond_true, cond_true]
        cases hL : leafOk t
        · exact ⟨rfl, fun e => by cases e⟩
        · have hk : t.kids = [] := List.length_eq_zero_iff.1 (Nat.eq_of_beq_eq_true (andd.1 hL).2)
          have hz : sumT (manyT n) t.kids = 0 := by rw [hk]; rfl
          rw [hz]
          refine ⟨?_, fun _ => by show l - 1 = _; omega⟩
          show true = (true && decide (((1 + 0 : Nat) : Int) ≤ l))
          rw [decide_eq_true (by omega : ((1 + 0 : Nat) : Int) ≤ l)]; rfl
theorem leaf_eq (t : GTree) : (bif decide (t.rule = Int.neg 1) then decide ((t.kids.length : Int) = 0) else false) = leafOk t := by
  unfold leafOk
  rw [show Int.neg 1 = -1 from rfl, b2]
  congr 1
  cases h : Nat.beq t.kids.length 0
  · refine decide_eq_false fun hh => ?_
    rw [show t.kids.length = 0 by omega] at h; cases h
  · have := Nat.eq_of_beq_eq_true h
    exact decide_eq_true (by omega)
theorem out_eq (r : Int) (n : Nat) : (bif decide (r < 0) then true else decide ((n : Int) ≤ r)) = !inb r n := by
  by_cases a1 : r < 0
  · rw [decide_eq_true a1]
    cases h : inb r n
    · rfl
    · have := (inb_iff.1 h).1; omega
  · rw [decide_eq_false a1, cond_false]
    by_cases a2 : (n : Int) ≤ r
    · rw [decide_eq_true a2]
      cases h : inb r n
      · rfl
      · have := (inb_iff.1 h).2; omega
    · rw [decide_eq_false a2, inb_ok (by omega) (by omega)]; rfl
theorem len_eq (a b : Nat) : decide ((a : Int) = (b : Int)) = decide (a = b) := by rw [decide_eq_decide]; omega
abbrev TTL : Ty := .list .tree
abbrev intO (l : Int) : Obj := .box 3 [.r (.v (.int .i64 l))]
def isPre (n : Nat) (d l : Int) : Bool := decide (0 ≤ d) && (decide (d < (n : Int)) && (Nat.ble n 100 && (decide (0 ≤ l) && decide (l ≤ 1000))))
noncomputable def conIs (n : Nat) : Con := ⟨false, fun ds os => match ds, os with
  | [dg, dt, dd, .one (.ptr 0 0)], [.box b [.r (.v (.int .i64 l))]] => match asD TG dg, asD .tree dt, asD TI64 dd, Nat.beq b 3 with
    | some g, some t, some d, true => some (some (isPre n d l), .d (ofD .bool (isT g (Int.toNat d) t l).1), [(0, some (intO (isT g (Int.toNat d) t l).2))])
    | _, _, _, _ => none
  | _, _ => none⟩
def satIs (n : Nat) : Prop := ∀ (g : Gram) (t : GTree) (d l : Int), Fit TG g → Fit .tree t → isPre n d l = true →
  Sat Tryd.prog 116 [ofD TG g, ofD .tree t, ofD TI64 d, .one (.ptr 0 0)] [intO l] (.d (ofD .bool (isT g d.toNat t l).1)) [(0, some (intO (isT g d.toNat t l).2))]
theorem k_is {n : Nat} (h : satIs n) : ConOk Tryd.prog 116 (conIs n) := by
  refine ⟨Tryd.call116, fun ds os c x objs hc hok => ?_⟩
  unfold conIs at hc
  dsimp only at hc
  split at hc
  · rename_i dg dt dd b l
    split at hc
    · rename_i g t d e1 e2 e3 e4
      cases hc
      have e4 := Nat.eq_of_beq_eq_true e4
      subst e4
      intro w F β args H hds
      cases hds with | cons h1 h2 => cases h2 with | cons h2 h3 => cases h3 with | cons h3 h4 =>
      have s1 := asD_sound e1 h1 (hOf [intO l]) β
      have s2 := asD_sound e2 h2 (hOf [intO l]) β
      exact h g t d l (RepD_fit s1) (RepD_fit s2) (pre_of hok) w F β _ H (.cons s1 (.cons s2 (.cons (asD_sound e3 h3 _ β) h4)))
    · cases hc
  · cases hc
structure LevI where
  n : Nat
  h : satIs n
noncomputable section
variable [Inhabited LevI]
abbrev lvI : Nat := (default : LevI).n
noncomputable def c_impl_isTreeR : Con := conIs lvI
theorem k_impl_isTreeR : ConOk Tryd.prog 116 c_impl_isTreeR := k_is (default : LevI).h
noncomputable def Γ66 : List (Nat × Con) := (116, c_impl_isTreeR) :: Γ65
theorem Γ66ok : EnvOk Tryd.prog (look Γ66) := .cons k_impl_isTreeR Γ65ok

noncomputable def cb_isT : Cx := (cxOf Γ66 Tryd.f116.ntmps [(12, [2, 3, 4, 9, 69, 70, 71])] [(0, []), (1, [2, 3, 4, 9, 69, 70, 71]), (1000000, [8])] [] []).parted [14]
theorem x_impl_isTree (g : Gram) (r : Rule) (ks : List GTree) (d l n i : Int) (R : St → Option Fin) (K : Cont) : evC (cb_isT.withLoops (look [])) (loopOf Tryd.f116 0) ⟨[(2, vI d), (3, vP 0), (4, .d (.one (.ptr 500000 0))), (9, .d (.one (.ptr 500001 0))), (69, .d (ofD TTL ks)), (70, vI n), (71, vI i)], [(0, some (intO l)), (500000, some (boxD 25 TG g)), (500001, some (boxD 57 TRu r))]⟩ (onward (headAt (cb_isT.withLoops (look [])) 12) R K) = (
branch (decide (i < n)) (
 need (inb i ks.length) <|
 need (inr i (W64 (i + 1)) (List.length r.snd)) <|
 branch (decide ((!decide ((GTree.sign (ks.getD i.toNat tz)) = (List.take ((W64 (i + 1)).toNat - i.toNat) (List.drop i.toNat r.snd)))) = false)) (
  need (isPre lvI (W64 (d - 1)) l) <|
  branch (bif false then true else !(isT g (W64 (d - 1)).toNat (GTree.node (GTree.sign (ks.getD i.toNat tz)) (GTree.rule (ks.getD i.toNat tz)) (GTree.kids (ks.getD i.toNat tz))) l).fst) ( K (.ret) (.mk [(8, (vB false))] [(0, (.some (.box 3 [(.r (.v (Value.int IntKind.i64 (isT g (W64 (d - 1)).toNat (GTree.node (GTree.sign (ks.getD i.toNat tz)) (GTree.rule (ks.getD i.toNat tz)) (GTree.kids (ks.getD i.toNat tz))) l).snd)))])))])) ( R (.mk [(2, (vI d)), (3, (.d (.one (.ptr 0 0)))), (4, (.d (.one (.ptr 500000 0)))), (9, (.d (.one (.ptr 500001 0)))), (69, (.d (.one (.r (.li (Ty.tree) (ks)))))), (70, (vI n)), (71, (vI (W64 (i + 1))))] [(0, (.some (.box 3 [(.r (.v (Value.int IntKind.i64 (isT g (W64 (d - 1)).toNat (GTree.node (GTree.sign (ks.getD i.toNat tz)) (GTree.rule (ks.getD i.toNat tz)) (GTree.kids (ks.getD i.toNat tz))) l).snd)))]))), (500000, (.some (.box 25 [(.r (.v (Value.string (mk g.fst)))), (.r (.li TRu (g.snd)))]))), (500001, (.some (.box 57 [(.r (.v (Value.string (mk r.fst)))), (.r (.v (Value.string (mk r.snd))))])))]))) ( K (.ret) (.mk [(8, (vB false))] [(0, (.some (.box 3 [(.r (.v (Value.int IntKind.i64 l)))])))]))) ( K (.exit 0) (.mk [] [(0, (.some (.box 3 [(.r (.v (Value.int IntKind.i64 l)))])))]))) := by kernel_rfl
noncomputable def cx0_ist : Cx := (cb_isT).withLoops (look [])
def sh_ist : Sh := ([(2, .d TI64), (3, .ptr 0 0), (4, .ptr 500000 0), (9, .ptr 500001 0), (69, .d TTL), (70, .d TI64), (71, .d TI64)], [(0, .mix 3 [.d TI64]), (500000, .box 25 TG), (500001, .box 57 TRu)])
def pre_ist (d : Int) (ks : List GTree) (n : Int) (i : Int) (l : Int) (_g : Gram) (r : Rule) : Bool := decide (0 ≤ i) && (decide (n = (List.length ks : Int)) && (decide (List.length ks = List.length r.2) && (isPre (lvI + 1) d l && (decide (1 ≤ d) && Nat.ble (List.length ks) big))))
noncomputable def res_ist (d : Int) (ks : List GTree) (_n : Int) (i : Int) (l : Int) (g : Gram) (r : Rule) (K : Cont) : Option Fin := branch (isK (isT g (d.toNat - 1)) (List.drop i.toNat ks) (r.2.drop i.toNat) l).1 (K (.exit 0) ⟨[], [(0, some (intO (isK (isT g (d.toNat - 1)) (List.drop i.toNat ks) (r.2.drop i.toNat) l).2))]⟩) (K .ret ⟨[(8, vB false)], [(0, some (intO (isK (isT g (d.toNat - 1)) (List.drop i.toNat ks) (r.2.drop i.toNat) l).2))]⟩)
def mu_ist (_d : Int) (ks : List GTree) (_n : Int) (i : Int) (_l : Int) (_g : Gram) (_r : Rule) : Nat := List.length ks - i.toNat
theorem r_ist (d : Int) (ks : List GTree) (n : Int) (i : Int) (l : Int) (g : Gram) (r : Rule) (K : Cont) (hI : pre_ist d ks n i l g r = true) : (∀ R : St → Option Fin, evC cx0_ist (loopOf Tryd.f116 0) ⟨[(2, .d (ofD TI64 d)), (3, .d (.one (.ptr 0 0))), (4, .d (.one (.ptr 500000 0))), (9, .d (.one (.ptr 500001 0))), (69, .d (ofD TTL ks)), (70, .d (ofD TI64 n)), (71, .d (ofD TI64 i))], [(0, some (.box 3 ((cellsR TI64 l).map C.r))), (500000, some (boxD 25 TG g)), (500001, some (boxD 57 TRu r))]⟩ (onward (headAt cx0_ist 12) R K) = res_ist d ks n i l g r K) ∨
    (∃ (d' : Int) (ks' : List GTree) (n' : Int) (i' : Int) (l' : Int) (g' : Gram) (r' : Rule), pre_ist d' ks' n' i' l' g' r' = true ∧ mu_ist d' ks' n' i' l' g' r' < mu_ist d ks n i l g r ∧ res_ist d' ks' n' i' l' g' r' K = res_ist d ks n i l g r K ∧ ∀ R : St → Option Fin, evC cx0_ist (loopOf Tryd.f116 0) ⟨[(2, .d (ofD TI64 d)), (3, .d (.one (.ptr 0 0))), (4, .d (.one (.ptr 500000 0))), (9, .d (.one (.ptr 500001 0))), (69, .d (ofD TTL ks)), (70, .d (ofD TI64 n)), (71, .d (ofD TI64 i))], [(0, some (.box 3 ((cellsR TI64 l).map C.r))), (500000, some (boxD 25 TG g)), (500001, some (boxD 57 TRu r))]⟩ (onward (headAt cx0_ist 12) R K) = R ⟨[(2, .d (ofD TI64 d')), (3, .d (.one (.ptr 0 0))), (4, .d (.one (.ptr 500000 0))), (9, .d (.one (.ptr 500001 0))), (69, .d (ofD TTL ks')), (70, .d (ofD TI64 n')), (71, .d (ofD TI64 i'))], [(0, some (.box 3 ((cellsR TI64 l').map C.r))), (500000, some (boxD 25 TG g')), (500001, some (boxD 57 TRu r'))]⟩) := by
  have hx := fun R => x_impl_isTree g r ks d l n i R K
  rw [tEta (ks.getD i.toNat tz)] at hx
  simp only [pre_ist] at hI
  rw [andd, andd, andd, andd, andd, dec_iff, dec_iff, dec_iff, dec_iff, ble_iff] at hI
  obtain ⟨h0, rfl, h1, h2, h3, h4⟩ := hI
  have h5 := h2
  unfold isPre at h5
  rw [andd, andd, andd, andd, dec_iff, dec_iff, ble_iff, dec_iff, dec_iff] at h5
  obtain ⟨p1, p2, p3, p4, p5⟩ := h5
  by_cases hi : i < (List.length ks : Int)
  · have hg := isK_at (f := isT g (d.toNat - 1)) (l := l) h0 hi h1
    have w1 : W64 (i + 1) = i + 1 := W1 h0 hi h4
    have w2 : W64 (d - 1) = d - 1 := wrap_small (by omega) (by omega)
    have n4 : i < ((r.2.length : Nat) : Int) := by rw [← h1]; exact hi
    have hsl : List.take ((i + 1).toNat - i.toNat) (List.drop i.toNat r.2) = [List.getD r.2 i.toNat 0] := slice_one (s := r.2) h0 n4
    have k1 : inr i (i + 1) (List.length r.2) = true := inr_iff.2 ⟨h0, by omega, by omega⟩
    have k2 : isPre lvI (d - 1) l = true := by
      unfold isPre
      rw [andd, andd, andd, andd, dec_iff, dec_iff, ble_iff, dec_iff, dec_iff]
      exact ⟨by omega, by omega, by omega, p4, p5⟩
    rw [w1, w2, decide_eq_true hi, inb_ok h0 hi, k1, k2, hsl, show (d - 1).toNat = d.toNat - 1 by omega] at hx
    obtain ⟨q1, q2⟩ := isT_eq (g := g) (n := d.toNat - 1) (t := ks.getD i.toNat tz) p4
    cases c1 : decide ((ks.getD i.toNat tz).sign = [List.getD r.2 i.toNat 0])
    · rw [c1] at hx
      left
      intro R
      refine (hx R).trans ?_
      rw [show decide ((ks.getD i.toNat tz).sign = [r.2.getD i.toNat 0]) = false from c1] at hg
      simp only [res_ist, hg]; rfl
    · rw [c1] at hx
      rw [show decide ((ks.getD i.toNat tz).sign = [r.2.getD i.toNat 0]) = true from c1] at hg
      generalize hq : isT g (d.toNat - 1) (ks.getD i.toNat tz) l = q at hx hg q1 q2
      obtain ⟨qa, qb⟩ := q
      cases qa
      · left
        intro R
        refine (hx R).trans ?_
        simp only [res_ist, hg]; rfl
      · right
        have q2 := q2 rfl
        have q1 := of_decide_eq_true (andd.1 q1.symm).2
        refine ⟨d, ks, (List.length ks : Int), i + 1, qb, g, r, ?_, ?_, ?_, fun R => hx R⟩
        · simp only [pre_ist]
          rw [andd, andd, andd, andd, andd, dec_iff, dec_iff, dec_iff, dec_iff, ble_iff]
          refine ⟨by omega, trivial, h1, ?_, h3, h4⟩
          unfold isPre
          rw [andd, andd, andd, andd, dec_iff, dec_iff, ble_iff, dec_iff, dec_iff]
          have q2 : qb = l - manyT (d.toNat - 1) (ks.getD i.toNat tz) := q2
          exact ⟨p1, p2, p3, by omega, by omega⟩
        · simp only [mu_ist]; omega
        · simp only [res_ist, hg]; rfl
  · left
    intro R
    refine (hx R).trans ?_
    rw [decide_eq_false hi]
    have e : List.drop i.toNat ks = [] := List.drop_eq_nil_of_le (by omega)
    simp only [res_ist, e]; rfl
noncomputable def g_ist : St → Cont → Option Fin := gP sh_ist (fun v => match v with | ((d, ks, n, i, ()), ((l, ()), g, r, ())) => pre_ist d ks n i l g r) (fun v K => match v with | ((d, ks, n, i, ()), ((l, ()), g, r, ())) => res_ist d ks n i l g r K)
noncomputable def L_ist : List (Nat × (St → Cont → Option Fin)) := (12, g_ist) :: []
noncomputable def cx_ist : Cx := (cb_isT).withLoops (look L_ist)
theorem l_ist {L : List (Nat × (St → Cont → Option Fin))} (n : Nat) (h1 : L.drop n = []) (h2 : idsFree (L.take n) (loopOf Tryd.f116 0) = true) : ∀ st K r, g_ist st K = some r → ∃ N, iter (evC ((cb_isT).withLoops (look L)) (loopOf Tryd.f116 0)) (headAt ((cb_isT).withLoops (look L)) 12) N st K = some r :=
  with_drop h1 h2 (gP_ok (fun v => match v with | ((d, ks, n, i, ()), ((l, ()), g, r, ())) => mu_ist d ks n i l g r) fun v K hI => by
    obtain ⟨⟨(d : Int), (ks : List GTree), (n : Int), (i : Int), ⟨⟩⟩, ⟨⟨(l : Int), ⟨⟩⟩, (g : Gram), (r : Rule), ⟨⟩⟩⟩ := v
    rcases r_ist d ks n i l g r K hI with h1 | ⟨d', ks', n', i', l', g', r', h1, h2, h3, h4⟩
    · exact .inl h1
    · exact .inr ⟨((d', ks', n', i', ()), ((l', ()), g', r', ())), h1, h2, h3, h4⟩)
theorem y_isTree (g : Gram) (t : GTree) (d l : Int) : evFn cx_ist Tryd.f116 true [ofD TG g, ofD .tree t, ofD TI64 d, .one (.ptr 0 0)] [intO l] = (
branch (bif decide (W64 (l - 1) < 0) then true else decide (d < 1)) ( some ((vB false), [(0, (.some (.box 3 [(.r (.v (Value.int IntKind.i64 (W64 (l - 1)))))])))])) (
 branch (smallS t.sign) ( some ((vB (bif decide (t.rule = Int.neg 1) then decide ((t.kids.length : Int) = 0) else false)), [(0, (.some (.box 3 [(.r (.v (Value.int IntKind.i64 (W64 (l - 1)))))])))])) (
  branch (bif decide (t.rule < 0) then true else decide ((List.length g.snd : Int) ≤ t.rule)) ( some ((vB false), [(0, (.some (.box 3 [(.r (.v (Value.int IntKind.i64 (W64 (l - 1)))))])))])) (
   need (inb t.rule (List.length g.snd)) <|
   branch (bif !decide ((List.getD g.snd t.rule.toNat d0).fst = t.sign) then true else !decide ((t.kids.length : Int) = (List.length (List.getD g.snd t.rule.toNat d0).snd : Int))) ( some ((vB false), [(0, (.some (.box 3 [(.r (.v (Value.int IntKind.i64 (W64 (l - 1)))))])))])) (
    need (pre_ist d t.kids ((t.kids.length : Int)) 0 (W64 (l - 1)) g (List.getD g.snd t.rule.toNat d0)) <|
    branch ((isK (isT g (d.toNat - 1)) t.kids (id (List.getD g.snd t.rule.toNat d0).snd) (W64 (l - 1))).fst) ( some ((vB true), [(0, (.some (.box 3 [(.r (.v (Value.int IntKind.i64 (isK (isT g (d.toNat - 1)) t.kids (id (List.getD g.snd t.rule.toNat d0).snd) (W64 (l - 1))).snd)))])))])) ( some ((vB false), [(0, (.some (.box 3 [(.r (.v (Value.int IntKind.i64 (isK (isT g (d.toNat - 1)) t.kids (id (List.getD g.snd t.rule.toNat d0).snd) (W64 (l - 1))).snd)))])))]))))))) := by kernel_rfl
theorem is_up : satIs (lvI + 1) := fun g t d l hg ht hpre => by
  have h5 := hpre
  unfold isPre at h5
  rw [andd, andd, andd, andd, dec_iff, dec_iff, ble_iff, dec_iff, dec_iff] at h5
  obtain ⟨p1, p2, p3, p4, p5⟩ := h5
  refine fn_sound (cx := cx_ist) Tryd.func116 rfl ttOk Γ66ok mixed (fun c hc => LoopsOk.all (l := [(12, loopOf Tryd.f116 0)]) (by cases hc; kernel_rfl) ⟨atLoop rfl (l_ist 1 rfl (by kernel_rfl)), trivial⟩) (ro := true) ?_
  refine (y_isTree g t d l).trans ?_
  have w : W64 (l - 1) = l - 1 := wrap_small (by omega) (by omega)
  rw [w, out_eq, leaf_eq, len_eq]
  by_cases hd1 : d < 1
  · rw [decide_eq_true hd1, show d.toNat = 0 by omega]
    show branch (bif decide (l - 1 < 0) then true else true) _ _ = some (vB false, [(0, some (intO (l - 1)))])
    rw [Bool.cond_self]; rfl
  · rw [decide_eq_false hd1]
    obtain ⟨m, hm⟩ : ∃ m, d.toNat = m + 1 := ⟨d.toNat - 1, by omega⟩
    rw [hm, show m + 1 - 1 = m from rfl]
    unfold isT
    by_cases hl : l - 1 < 0
    · rw [decide_eq_true hl]; rfl
    · rw [decide_eq_false hl]
      cases smallS t.sign
      · have hne : nodeOk g t = (inb t.rule (List.length g.2) && (decide ((List.getD g.2 t.rule.toNat d0).1 = t.sign) && decide (t.kids.length = List.length (List.getD g.2 t.rule.toNat d0).2))) := rfl
        rw [hne]
        cases hi : inb t.rule (List.length g.2)
        · rfl
        · cases c1 : decide ((List.getD g.2 t.rule.toNat d0).1 = t.sign)
          · rfl
          · cases c2 : decide (t.kids.length = List.length (List.getD g.2 t.rule.toNat d0).2)
            · rfl
            · have hp : pre_ist d t.kids (t.kids.length : Int) 0 (l - 1) g (List.getD g.2 t.rule.toNat d0) = true := by
                simp only [pre_ist]
                rw [andd, andd, andd, andd, andd, dec_iff, dec_iff, dec_iff, dec_iff, ble_iff]
                refine ⟨by omega, trivial, of_decide_eq_true c2, ?_, by omega, (kids_fit ht).1⟩
                unfold isPre
                rw [andd, andd, andd, andd, dec_iff, dec_iff, ble_iff, dec_iff, dec_iff]
                exact ⟨p1, p2, p3, by omega, by omega⟩
              rw [hp]
              show branch (isK (isT g m) t.kids (List.getD g.2 t.rule.toNat d0).2 (l - 1)).1 _ _ = some (vB (isK (isT g m) t.kids (List.getD g.2 t.rule.toNat d0).2 (l - 1)).1, [(0, some (intO (isK (isT g m) t.kids (List.getD g.2 t.rule.toNat d0).2 (l - 1)).2))])
              cases (isK (isT g m) t.kids (List.getD g.2 t.rule.toNat d0).2 (l - 1)).1 <;> rfl
      · rfl
end
theorem is_all : ∀ n, satIs n
  | 0 => fun g t d l _ _ hpre => by
    unfold isPre at hpre
    rw [andd, andd, dec_iff, dec_iff] at hpre
    omega
  | n + 1 => @is_up ⟨⟨n, is_all n⟩⟩
noncomputable def c_impl_isTree : Con := conIs 50
theorem k_impl_isTree : ConOk Tryd.prog 116 c_impl_isTree := k_is (is_all 50)
noncomputable def Γ67 : List (Nat × Con) := (116, c_impl_isTree) :: Γ65
theorem Γ67ok : EnvOk Tryd.prog (look Γ67) := .cons k_impl_isTree Γ65ok

theorem y_impl_TreeOk (g : Gram) (t : GTree) : evFn ((cxOf Γ67 Tryd.f47.ntmps [] [] [] []).parted [2]) Tryd.f47 true [ofD TG g, ofD .tree t] [] = (
branch (decide (okG g = true)) ( some ((vB (bif true then (isT g (Int.toNat 20) (GTree.node t.sign t.rule t.kids) 60).fst else false)), [])) ( some ((vB false), []))) := by kernel_rfl
theorem s_impl_TreeOk (g : Gram) (_hg : Fit TG g) (t : GTree) (_ht : Fit .tree t) : Sat Tryd.prog 47 [ofD TG g, ofD .tree t] [] (.d (ofD .bool (okT g t))) [] :=
  fn_sound (cx := ((cxOf Γ67 Tryd.f47.ntmps [] [] [] []).parted [2])) Tryd.func47 rfl ttOk Γ67ok mixed (fun _ _ => LoopsOk.no fun _ => rfl) (ro := true) (by
    refine (y_impl_TreeOk g t).trans ?_
    rw [tEta]
    have h := (isT_eq (g := g) (n := 20) (t := t) (l := 60) (by omega)).1
    have e : decide ((manyT 20 t : Int) ≤ 60) = Nat.ble (manyT 20 t) 60 := by rw [ble_dec, decide_eq_decide]; omega
    rw [e] at h
    show branch (decide (okG g = true)) (some (vB (isT g 20 t 60).1, [])) (some (vB false, [])) = some (vB (okG g && (shapeT g 20 t && Nat.ble (manyT 20 t) 60)), [])
    rw [h]
    cases okG g <;> rfl)
noncomputable def c_impl_TreeOk : Con := conT [TG, .tree] fun (g : Gram) (t : GTree) => (none, .d (ofD .bool (okT g t)))
theorem k_impl_TreeOk : ConOk Tryd.prog 47 c_impl_TreeOk := conT_ok Tryd.call47 fun g hg t ht _ => s_impl_TreeOk g hg t ht
noncomputable def Γ68 : List (Nat × Con) := (47, c_impl_TreeOk) :: Γ67
theorem Γ68ok : EnvOk Tryd.prog (look Γ68) := .cons k_impl_TreeOk Γ67ok

end Go.Proofs.YthbpnbbilaobbaaDoor.Ev

-- G=68