/-
  Draws of rules of few texts.
-/
import Derived.Test.YtbijdgkkneffgaaDoorHd
namespace Go.Proofs.YtbijdgkkneffgaaDoor.Ev
open Go
def addV (l : List Rule) (r : Rule) : List Rule := bif decide (placeV l r < 0) then l ++ [r] else l
theorem y_spec_l12Add (l : List (Den TRu)) (r : Rule) : evFn (cxOf Γ76 Tryd.f166.ntmps [] [] [] []) Tryd.f166 false [.one (.own 0), ofD TRu r] [.lis 160 TRu l] = (
branch (decide (0 ≤ placeV l r)) ( some ((.d (.one (.own 0))), [(0, (.some (.lis 160 (TRu) (l))))])) (
 need (fits (l.length + [r].length) Tryd.t160.bytes) <| some ((.d (.one (.own 1000))), [(1000, (.some (.lis 160 (ty160) (l.append [r])))), (0, (.none))]))) := by kernel_rfl
theorem s_spec_l12Add (l : List Rule) (r : Rule) (h : decide (List.length l ≤ 1000) = true) : Sat Tryd.prog 166 [.one (.own 0), ofD TRu r] [.lis 160 TRu l] (.d (.one (.own 1000))) [(1000, some (.lis 160 TRu (addV l r))), (0, none)] := by
 have h := of_decide_eq_true h
 have snd : ∀ {x : T} {objs : Heap}, evFn (cxOf Γ76 Tryd.f166.ntmps [] [] [] []) Tryd.f166 false [.one (.own 0), ofD TRu r] [.lis 160 TRu l] = some (x, objs) → Sat Tryd.prog 166 [.one (.own 0), ofD TRu r] [.lis 160 TRu l] x objs := fun he =>
  fn_sound (cx := cxOf Γ76 Tryd.f166.ntmps [] [] [] []) Tryd.func166 rfl ttOk Γ76ok mixed (fun _ _ => LoopsOk.no fun _ => rfl) (ro := false) he
 have y := y_spec_l12Add l r
 rw [ruleBytes, fits_ok (by show List.length l + 1 ≤ 100000; omega) (by omega)] at y
 unfold addV
 by_cases hp : 0 ≤ placeV l r
 ·rw [decide_eq_true hp] at y
  rw [decide_eq_false (by omega : ¬ placeV l r < 0)]
  exact sat_move (snd y)
 ·rw [decide_eq_false hp] at y
  rw [decide_eq_true (by omega : placeV l r < 0)]
  exact snd y
noncomputable def c_spec_l12Add : Con := conLN 160 TRu [TRu] fun (l : List Rule) (r : Rule) => (some (decide (List.length l ≤ 1000)), addV l r)
theorem k_spec_l12Add : ConOk Tryd.prog 166 c_spec_l12Add := conLN_ok rfl Tryd.call166 fun l _ r _ hqq => s_spec_l12Add l r (pre_of hqq)
noncomputable def Γ77 : List (Nat × Con) := (166, c_spec_l12Add) :: Γ76
theorem Γ77ok : EnvOk Tryd.prog (look Γ77) := .cons k_spec_l12Add Γ76ok
noncomputable def cb_l15 : Cx := cxOf Γ77 Tryd.f128.ntmps [(5, [0, 2, 3, 4])] [(0, [0, 2, 3]), (1, [0, 2, 3, 4]), (1000000, [2])] [] []
theorem x_spec_l15Gram (x : Rd) (z s : Str) (l : List Rule) (i : Int) (R : St → Option Fin) (K : Cont) : evC cb_l15 (loopOf Tryd.f128 0) ⟨[(0, vP 0), (2, .d (.one (.ptr 500000 0))), (3, .d (.one (.ptr 500001 0))), (4, vI i)], [(0, bR x), (500000, some (.box 25 [.r (.v (.string (mk z))), .r (.v (.slice none 0 0))])), (500001, some (.box 25 [.r (.v (.string (mk s))), .own 500002])), (500002, some (.lis 160 TRu l))]⟩ (onward (headAt cb_l15 5) R K) = (
branch (decide (0 < i)) (
 need (rdOk x && Nat.blt 0 [[65], [65], [66]].length) <|
 need (rdOk (rdGo x 1) && Nat.blt 0 [[97], [97, 98], [66], [97, 66], [], [66, 66], [99]].length) <|
 branch (decide ((ofV x [[65], [65], [66]]) = [66])) (
 need (rdOk (rdGo (rdGo x 1) 1) && Nat.blt 0 [[98], [], [67, 99], [67], [99, 100]].length) <|
 need (decide (l.length ≤ 1000)) <| R (.mk [(0, (.d (.one (.ptr 0 0)))), (2, (.d (.one (.ptr 500000 0)))), (3, (.d (.one (.ptr 500001 0)))), (4, (vI (W64 (i - 1))))] [(0, (bR (rdGo (rdGo (rdGo x 1) 1) 1))), (500000, (.some (.box 25 [(.r (.v (Value.string (mk z)))), (.r (.v (Value.slice none 0 0)))]))), (500001, (.some (.box 25 [(.r (.v (Value.string (mk s)))), (.own 500002)]))), (500002, (.some (.lis 160 (TRu) (addV l (ofV x [[65], [65], [66]], ofV (rdGo (rdGo x 1) 1) [[98], [], [67, 99], [67], [99, 100]])))))])) (
 need (decide (l.length ≤ 1000)) <| R (.mk [(0, (.d (.one (.ptr 0 0)))), (2, (.d (.one (.ptr 500000 0)))), (3, (.d (.one (.ptr 500001 0)))), (4, (vI (W64 (i - 1))))] [(0, (bR (rdGo (rdGo x 1) 1))), (500000, (.some (.box 25 [(.r (.v (Value.string (mk z)))), (.r (.v (Value.slice none 0 0)))]))), (500001, (.some (.box 25 [(.r (.v (Value.string (mk s)))), (.own 500002)]))), (500002, (.some (.lis 160 (TRu) (addV l (ofV x [[65], [65], [66]], ofV (rdGo x 1) [[97], [97, 98], [66], [97, 66], [], [66, 66], [99]])))))]))) ( K (.exit 0) (.mk [(0, (.d (.one (.ptr 0 0)))), (2, (.d (.one (.ptr 500000 0)))), (3, (.d (.one (.ptr 500001 0))))] [(0, (bR x)), (500000, (.some (.box 25 [(.r (.v (Value.string (mk z)))), (.r (.v (Value.slice none 0 0)))]))), (500001, (.some (.box 25 [(.r (.v (Value.string (mk s)))), (.own 500002)]))), (500002, (.some (.lis 160 (TRu) (l))))]))) := by kernel_rfl
theorem addV_sz {l : List Rule} {r : Rule} (hl : l.all szR = true) (hr : szR r = true) : (addV l r).all szR = true ∧ (addV l r).length ≤ l.length + 1 := by
 unfold addV
 cases decide (placeV l r < 0)
 ·exact ⟨hl, Nat.le_add_right _ _⟩
 ·refine ⟨?_, by rw [cond_true, List.length_append]; exact Nat.le_refl _⟩
  rw [cond_true, List.all_append, hl]
  show (true && (szR r && true)) = true
  rw [hr]; rfl
noncomputable def cx0_l15 : Cx := cb_l15
def sh_l15 : Sh := ([(0, .ptr 0 0), (2, .ptr 500000 0), (3, .ptr 500001 0), (4, .d TI64)], [(0, .box 170 TR), (500000, .mix 25 [.d .str, .nil]), (500001, .mix 25 [.d .str, .own 500002]), (500002, .lis 160 TRu)])
def V_l15 (i : Int) (x : Den TR) (z : Str) (s : Str) (l : List (Rule)) : sh_l15.V := ((i, ()), (x, (z, ()), (s, ()), l, ()))
def out_l15 (o : (Str × List Rule) × Str × Rd) : St := ⟨[(0, vP 0), (2, .d (.one (.ptr 500000 0))), (3, .d (.one (.ptr 500001 0)))], [(0, bR o.2.2), (500000, smO o.2.1), (500001, grO o.1.1), (500002, some (.lis 160 TRu o.1.2))]⟩
def inv_l15 (i : Int) (x : Den TR) (_z : Str) (_s : Str) (l : List (Rule)) : Bool := fitR x && (rdAt x (10000000990000 - i * 10) && (decide (i ≤ 100) && (decide ((l.length : Int) + i ≤ 100) && (Nat.ble l.length 100 && l.all szR))))
def post_l15 (i : Int) (x : Den TR) (_z : Str) (s : Str) (l : List (Rule)) (o : (Str × List Rule) × Str × Rd) : Prop := o.1.1 = s ∧ o.1.2.all szR = true ∧ o.1.2.length ≤ l.length + i.toNat ∧ Adv x o.2.2 ((i * 10).toNat : Int)
def mu_l15 (i : Int) (_x : Den TR) (_z : Str) (_s : Str) (_l : List (Rule)) : Nat := i.toNat
theorem r_l15 (i : Int) (x : Den TR) (z : Str) (s : Str) (l : List (Rule)) (hI : inv_l15 i x z s l = true) : (∃ o : (Str × List Rule) × Str × Rd, post_l15 i x z s l o ∧ ∀ (R : St → Option Fin) (K : Cont), evC cx0_l15 (loopOf Tryd.f128 0) ⟨[(0, .d (.one (.ptr 0 0))), (2, .d (.one (.ptr 500000 0))), (3, .d (.one (.ptr 500001 0))), (4, .d (ofD TI64 i))], [(0, some (boxD 170 TR x)), (500000, some (.box 25 ((cellsR .str z).map C.r ++ [.r (.v (.slice none 0 0))]))), (500001, some (.box 25 ((cellsR .str s).map C.r ++ [.own 500002]))), (500002, some (.lis 160 TRu l))]⟩ (onward (headAt cx0_l15 5) R K) = K (.exit 0) (out_l15 o)) ∨
  (∃ (i' : Int) (x' : Den TR) (z' : Str) (s' : Str) (l' : List (Rule)), inv_l15 i' x' z' s' l' = true ∧ mu_l15 i' x' z' s' l' < mu_l15 i x z s l ∧ (∀ o, post_l15 i' x' z' s' l' o → post_l15 i x z s l o) ∧ ∀ (R : St → Option Fin) (K : Cont), evC cx0_l15 (loopOf Tryd.f128 0) ⟨[(0, .d (.one (.ptr 0 0))), (2, .d (.one (.ptr 500000 0))), (3, .d (.one (.ptr 500001 0))), (4, .d (ofD TI64 i))], [(0, some (boxD 170 TR x)), (500000, some (.box 25 ((cellsR .str z).map C.r ++ [.r (.v (.slice none 0 0))]))), (500001, some (.box 25 ((cellsR .str s).map C.r ++ [.own 500002]))), (500002, some (.lis 160 TRu l))]⟩ (onward (headAt cx0_l15 5) R K) = R ⟨[(0, .d (.one (.ptr 0 0))), (2, .d (.one (.ptr 500000 0))), (3, .d (.one (.ptr 500001 0))), (4, .d (ofD TI64 i'))], [(0, some (boxD 170 TR x')), (500000, some (.box 25 ((cellsR .str z').map C.r ++ [.r (.v (.slice none 0 0))]))), (500001, some (.box 25 ((cellsR .str s').map C.r ++ [.own 500002]))), (500002, some (.lis 160 TRu l'))]⟩) := by
 simp only [inv_l15, andd, dec_iff, ble_iff] at hI
 obtain ⟨h1, h2, h3, h4, h6, h5⟩ := hI
 have hr := rdAt_iff.1 h2
 have b0 : BY x := by unfold fitR at h1; exact byB_iff.1 (andd.1 h1).1
 by_cases hi : 0 < i
 ·right
  have e : W64 (i - 1) = i - 1 := wrap_small (by omega) (by omega)
  have k0 : rdOk x = true := ok1 h2 (by omega)
  have a1 := Adv.one x
  have k1 : rdOk (rdGo x 1) = true := a1.ok h2 (by omega)
  have a2 := Adv.two x
  have k2 : rdOk (rdGo (rdGo x 1) 1) = true := a2.ok h2 (by omega)
  have a3 : Adv x (rdGo (rdGo (rdGo x 1) 1) 1) 3 := (a2.trans (Adv.one (go2 x))).le (by omega)
  have hl : (ofV x [[65], [65], [66]]).length ≤ 1 := ofV_len (by decide)
  have hl1 : (ofV (rdGo x 1) [[97], [97, 98], [66], [97, 66], [], [66, 66], [99]]).length ≤ 2 := ofV_len (by decide)
  have hl2 : (ofV (rdGo (rdGo x 1) 1) [[98], [], [67, 99], [67], [99, 100]]).length ≤ 2 := ofV_len (by decide)
  have hx := fun R K => x_spec_l15Gram x z s l i R K
  have kl : decide (List.length l ≤ 1000) = true := decide_eq_true (by omega)
  rw [decide_eq_true hi, k0, k1, k2, e, kl] at hx
  have go : ∀ (y : Rd) (r : Rule) (d : Int), Adv x y d → d ≤ 10 → szR r = true → inv_l15 (i - 1) y z s (addV l r) = true ∧ mu_l15 (i - 1) y z s (addV l r) < mu_l15 i x z s l ∧ ∀ o, post_l15 (i - 1) y z s (addV l r) o → post_l15 i x z s l o := fun y r d ha hd hz => by
   obtain ⟨z1, z2⟩ := addV_sz h5 hz
   refine ⟨?_, by simp only [mu_l15]; omega, ?_⟩
   ·simp only [inv_l15, andd, dec_iff, ble_iff]
    exact ⟨by rw [fitR_adv ha]; exact h1, (ha.le hd).at h2 (by omega), by omega, by omega, by omega, z1⟩
   ·rintro o ⟨g1, g2, g3, g4⟩
    exact ⟨g1, g2, by omega, ((ha.le hd).trans g4).le (by omega)⟩
  cases hc : decide ((ofV x [[65], [65], [66]]) = [66])
  ·obtain ⟨q1, q2, q3⟩ := go (rdGo (rdGo x 1) 1) (ofV x [[65], [65], [66]], ofV (rdGo x 1) [[97], [97, 98], [66], [97, 66], [], [66, 66], [99]]) 2 a2 (by omega) (andd.2 ⟨ble_iff.2 (by show (ofV x _).length ≤ 8; omega), ble_iff.2 (by show (ofV (rdGo x 1) _).length ≤ 8; omega)⟩)
   exact ⟨i - 1, _, z, s, _, q1, q2, q3, fun R K => (hx R K).trans (by rw [hc]; rfl)⟩
  ·obtain ⟨q1, q2, q3⟩ := go (rdGo (rdGo (rdGo x 1) 1) 1) (ofV x [[65], [65], [66]], ofV (rdGo (rdGo x 1) 1) [[98], [], [67, 99], [67], [99, 100]]) 3 a3 (by omega) (andd.2 ⟨ble_iff.2 (by show (ofV x _).length ≤ 8; omega), ble_iff.2 (by show (ofV (rdGo (rdGo x 1) 1) _).length ≤ 8; omega)⟩)
   exact ⟨i - 1, _, z, s, _, q1, q2, q3, fun R K => (hx R K).trans (by rw [hc]; rfl)⟩
 ·left
  refine ⟨((s, l), z, x), ⟨rfl, h5, Nat.le_add_right _ _, (Adv.refl x).le (by omega)⟩, fun R K => ?_⟩
  refine (x_spec_l15Gram x z s l i R K).trans ?_
  rw [decide_eq_false hi]; rfl
def I_l15 : sh_l15.V → Bool := fun v => match v with | ((i, ()), (x, (z, ()), (s, ()), l, ())) => inv_l15 i x z s l
def P_l15 : sh_l15.V → (Str × List Rule) × Str × Rd → Prop := fun v o => match v with | ((i, ()), (x, (z, ()), (s, ()), l, ())) => post_l15 i x z s l o
def M_l15 : sh_l15.V → Nat := fun v => match v with | ((i, ()), (x, (z, ()), (s, ()), l, ())) => mu_l15 i x z s l
theorem a_l15 : ∀ v : sh_l15.V, I_l15 v = true → ∃ o, P_l15 v o ∧ ∀ K r, K (.exit 0) (out_l15 o) = some r → ∃ N, iter (evC cx0_l15 (loopOf Tryd.f128 0)) (headAt cx0_l15 5) N (sh_l15.mk v) K = some r :=
 loop_any (fun v => I_l15 v = true) P_l15 (.exit 0) M_l15 fun v hI => by
  obtain ⟨⟨(i : Int), ⟨⟩⟩, ⟨(x : Den TR), ⟨(z : Str), ⟨⟩⟩, ⟨(s : Str), ⟨⟩⟩, (l : List (Rule)), ⟨⟩⟩⟩ := v
  rcases r_l15 i x z s l hI with ⟨o, h1, h2⟩ | ⟨i', x', z', s', l', h1, h2, h3, h4⟩
  ·exact .inl ⟨o, h1, h2⟩
  ·exact .inr ⟨V_l15 i' x' z' s' l', h1, h2, h3, h4⟩
noncomputable def g_l15 : St → Cont → Option Fin := gEnd sh_l15 I_l15 out_l15 (evC cx0_l15 (loopOf Tryd.f128 0)) (headAt cx0_l15 5) P_l15 (.exit 0)
noncomputable def E_l15 (i : Int) (x : Den TR) (z : Str) (s : Str) (l : List (Rule)) : (Str × List Rule) × Str × Rd := endOf sh_l15.mk out_l15 (evC cx0_l15 (loopOf Tryd.f128 0)) (headAt cx0_l15 5) P_l15 (.exit 0) (V_l15 i x z s l)
theorem q_l15 (i : Int) (x : Den TR) (z : Str) (s : Str) (l : List (Rule)) (hI : inv_l15 i x z s l = true) : post_l15 i x z s l (E_l15 i x z s l) := (endOf_spec (a_l15 (V_l15 i x z s l) hI)).1
noncomputable def cx_l15 : Cx := cx0_l15.withLoops (look [(5, g_l15)])
theorem l_l15 : ∀ st K r, g_l15 st K = some r → ∃ N, iter (evC cx_l15 (loopOf Tryd.f128 0)) (headAt cx_l15 5) N st K = some r := with_ok (by kernel_rfl) (gEnd_ok a_l15)
noncomputable abbrev l15E (x : Rd) : (Str × List Rule) × Str × Rd := E_l15 (numV (rdGo x 1) [3, 4, 5]) (rdGo (rdGo x 1) 1) ([] : Str) ([65] : Str) []
theorem y_spec_l15Gram (x : Rd) : evFn cx_l15 Tryd.f128 true [.one (.ptr 0 0)] [boxD 170 TR x] = (
need (rdOk x) <|
branch (decide (0 < pickV x 3)) (
 need (rdAt (rdGo x 1) 10000000900000) <|
 need (rdAt (F_spec_l1Gram (rdGo x 1)).2 10000000940000 && szG 20 (F_spec_l1Gram (rdGo x 1)).1) <| some (.d (ofD TG (F_spec_l1Bent (F_spec_l1Gram (rdGo x 1)).2 (F_spec_l1Gram (rdGo x 1)).1).1), [(0, (bR (F_spec_l1Bent (F_spec_l1Gram (rdGo x 1)).2 (F_spec_l1Gram (rdGo x 1)).1).2))])) (
 need (rdOk (rdGo x 1) && Nat.blt 0 [3, 4, 5].length) <|
 need (inv_l15 (numV (rdGo x 1) [3, 4, 5]) (rdGo (rdGo x 1) 1) ([] : Str) ([65] : Str) []) <|
 need (rdOk (l15E x).2.2) <|
 branch (decide (pickV (l15E x).2.2 2 = 0)) (
 need (rdOk (rdGo (l15E x).2.2 1) && Nat.blt 0 [[100], [], [65], [67]].length) <|
 need (decide ((l15E x).1.2.length ≤ 1000)) <| some (.d (ofD TG ((l15E x).1.1, addV (l15E x).1.2 (([67] : Str), ofV (rdGo (l15E x).2.2 1) [[100], [], [65], [67]]))), [(0, (bR (rdGo (rdGo (l15E x).2.2 1) 1)))])) (some (.d (ofD TG ((l15E x).1.1, (l15E x).1.2)), [(0, (bR (rdGo (l15E x).2.2 1)))])))) := by kernel_rfl
theorem e_spec_l15Gram (x : Rd)  (hx : Fit TR x)  (hpre : (rdAt x 10000000800000) = true) : ∃ q : (Gram) × Rd, evFn (cx_l15) Tryd.f128 true [.one (.ptr 0 0)] [boxD 170 TR x] = some (.d (ofD TG q.1), [(0, some (boxD 170 TR q.2))]) ∧ (szG 20 q.1 = true ∧ Adv x q.2 400) := by
 obtain ⟨r, h1, h2⟩ : Ok (evFn (cx_l15) Tryd.f128 true [.one (.ptr 0 0)] [boxD 170 TR x]) (fun r => ∃ (v : Gram) (x' : Rd), r = (.d (ofD TG v), [(0, some (boxD 170 TR x'))]) ∧ (szG 20 v = true ∧ Adv x x' 400)) := by
  have f0 := fit_fitR hx
  have b0 : BY x := fun b hb => byteFit hx.1 b hb
  have k0 := ok1 hpre (by omega)
  have a1 := Adv.one x
  have k1 : rdOk (rdGo x 1) = true := a1.ok hpre (by omega)
  have c1 : rdAt (rdGo x 1) 10000000900000 = true := a1.at hpre (by omega)
  have e1 : Fit TR (rdGo x 1) := a1.fit hx hpre (by omega)
  obtain ⟨p1, p2⟩ := p_spec_l1Gram (rdGo x 1) e1 c1
  have a2 := a1.trans p2
  have c2 : (rdAt (F_spec_l1Gram (rdGo x 1)).2 10000000940000 && szG 20 (F_spec_l1Gram (rdGo x 1)).1) = true := andd.2 ⟨a2.at hpre (by omega), szG_le p1 (by omega)⟩
  have e2 : Fit TR (F_spec_l1Gram (rdGo x 1)).2 := a2.fit hx hpre (by omega)
  obtain ⟨p3, p4⟩ := p_spec_l1Bent (F_spec_l1Gram (rdGo x 1)).2 (F_spec_l1Gram (rdGo x 1)).1 e2 c2
  have n1 := numV_le (l := [3, 4, 5]) (a := 3) (b := 5) (by decide) (BY_adv a1 b0) k1 (by decide)
  have hi : inv_l15 (numV (rdGo x 1) [3, 4, 5]) (rdGo (rdGo x 1) 1) [] [65] [] = true := by
   simp only [inv_l15, andd, dec_iff, ble_iff]
   exact ⟨by rw [show rdGo (rdGo x 1) 1 = go2 x from rfl, fitR_adv (Adv.two x)]; exact f0, (Adv.two x).at hpre (by omega), by omega, by simp; omega, by simp, rfl⟩
  obtain ⟨g1, g2, g3, g4⟩ := q_l15 (numV (rdGo x 1) [3, 4, 5]) (rdGo (rdGo x 1) 1) [] [65] [] hi
  have g3 : (l15E x).1.2.length ≤ 5 := by
   have : (l15E x).1.2.length ≤ 0 + (numV (rdGo x 1) [3, 4, 5]).toNat := g3
   omega
  have a5 : Adv x (l15E x).2.2 60 := ((Adv.two x).trans g4).le (by omega)
  have a6 : Adv x (rdGo (l15E x).2.2 1) 61 := (a5.trans (Adv.one _)).le (by omega)
  have a7 : Adv x (rdGo (rdGo (l15E x).2.2 1) 1) 62 := (a6.trans (Adv.one _)).le (by omega)
  have mk : ∀ l : List Rule, l.all szR = true → l.length ≤ 6 → szG 20 ((l15E x).1.1, l) = true := fun l h1 h2 => by
   unfold szG
   rw [show (l15E x).1.1 = [65] from g1]
   exact andd.2 ⟨rfl, andd.2 ⟨ble_iff.2 (by show l.length ≤ 20; omega), h1⟩⟩
  have hl2 : (ofV (rdGo (l15E x).2.2 1) [[100], [], [65], [67]]).length ≤ 1 := ofV_len (by decide)
  obtain ⟨z1, z2⟩ := addV_sz (l := (l15E x).1.2) (r := (([67] : Str), ofV (rdGo (l15E x).2.2 1) [[100], [], [65], [67]])) g2 (andd.2 ⟨rfl, ble_iff.2 (by show (ofV (rdGo (l15E x).2.2 1) _).length ≤ 8; omega)⟩)
  rw [y_spec_l15Gram]
  exact Ok.need k0 (Ok.br (fun _ => Ok.need c1 (Ok.need c2 (Ok.ret ⟨_, _, rfl, p3 6 (by omega) p1, (a2.trans p4).le (by omega)⟩))) fun _ => Ok.need (andd.2 ⟨k1, rfl⟩) (Ok.need hi (Ok.need (a5.ok hpre (by omega)) (Ok.br (fun _ => Ok.need (andd.2 ⟨a6.ok hpre (by omega), rfl⟩) (Ok.need (decide_eq_true (by omega)) (Ok.ret ⟨_, _, rfl, mk _ z1 (by omega), a7.le (by omega)⟩))) fun _ => Ok.ret ⟨_, _, rfl, mk _ g2 (by omega), a6.le (by omega)⟩))))
 obtain ⟨v, x', h2, h3⟩ := h2
 exact ⟨(v, x'), by rw [h1, h2], h3⟩
noncomputable def F_spec_l15Gram (x : Rd)  : (Gram) × Rd := oneOf (fun q : (Gram) × Rd => evFn (cx_l15) Tryd.f128 true [.one (.ptr 0 0)] [boxD 170 TR x] = some (.d (ofD TG q.1), [(0, some (boxD 170 TR q.2))]) ∧ (szG 20 q.1 = true ∧ Adv x q.2 400))
theorem p_spec_l15Gram (x : Rd)  (hx : Fit TR x)  (hpre : (rdAt x 10000000800000) = true) : szG 20 (F_spec_l15Gram x ).1 = true ∧ Adv x (F_spec_l15Gram x ).2 400 := (oneOf_spec (e_spec_l15Gram x  hx  hpre)).2
theorem s_spec_l15Gram (x : Rd)  (hx : Fit TR x)  (hpre : (rdAt x 10000000800000) = true) : Sat Tryd.prog 128 [.one (.ptr 0 0)] [boxD 170 TR x] (.d (ofD TG (F_spec_l15Gram x ).1)) [(0, some (boxD 170 TR (F_spec_l15Gram x ).2))] :=
 fn_sound (cx := cx_l15) Tryd.func128 rfl ttOk Γ77ok mixed (fun c hc => LoopsOk.one (b := loopOf Tryd.f128 0) (id := 5) (g := g_l15) (by cases hc; kernel_rfl) rfl l_l15) (ro := true) (oneOf_spec (e_spec_l15Gram x  hx  hpre)).1
noncomputable def c_spec_l15Gram : Con := conB 170 TR [] fun (x : Rd)  => (some (rdAt x 10000000800000), .d (ofD TG (F_spec_l15Gram x ).1), (F_spec_l15Gram x ).2)
theorem k_spec_l15Gram : ConOk Tryd.prog 128 c_spec_l15Gram := conB_ok Tryd.call128 fun x hx  hqq => s_spec_l15Gram x  hx  (pre_of hqq)
noncomputable def Γ78 : List (Nat × Con) := (128, c_spec_l15Gram) :: Γ77
theorem Γ78ok : EnvOk Tryd.prog (look Γ78) := .cons k_spec_l15Gram Γ77ok
theorem y_spec_DrawCountWords (l : List Int) : evFn (cxOf Γ78 Tryd.f54.ntmps [] [] [] []) Tryd.f54 true [ofD TB l] [] = (
need (rdOk (F_spec_l15Gram (openV l)).snd && Nat.blt 0 [2, 3, 1, 0, 4, Int.neg 1, 5].length) <| some ((.tup [(.agg [(.r (.v (Value.string (mk (F_spec_l15Gram (openV l)).fst.fst)))), (.r (.li TRu ((F_spec_l15Gram (openV l)).fst.snd)))]), (.one (.r (.v (Value.int IntKind.i64 (numV (F_spec_l15Gram (openV l)).snd [2, 3, 1, 0, 4, Int.neg 1, 5])))))]), [])) := by kernel_rfl
theorem e_spec_DrawCountWords (l : List Int) (hl : Fit TB l) : ∃ q : Gram × Int, evFn (cxOf Γ78 Tryd.f54.ntmps [] [] [] []) Tryd.f54 true [ofD TB l] [] = some (.tup [ofD TG q.1, ofD TI64 q.2], []) ∧ (szG 20 q.1 = true) := by
 obtain ⟨r, h1, h2⟩ : Ok (evFn (cxOf Γ78 Tryd.f54.ntmps [] [] [] []) Tryd.f54 true [ofD TB l] []) (fun r => ∃ (v : Gram × Int), r = (.tup [ofD TG v.1, ofD TI64 v.2], []) ∧ (szG 20 v.1 = true)) := by
  have h0 : rdAt (openV l) 10000000800000 = true := rfl
  obtain ⟨h1, h2⟩ := p_spec_l15Gram (openV l) (openV_fit hl) h0
  rw [y_spec_DrawCountWords]
  exact Ok.need (andd.2 ⟨h2.ok (openV_at l) (by omega), rfl⟩) (Ok.ret ⟨(_, _), rfl, h1⟩)
 obtain ⟨v, h2, h3⟩ := h2
 exact ⟨v, by rw [h1, h2], h3⟩
noncomputable def F_spec_DrawCountWords (l : List Int) : Gram × Int := oneOf (fun q : Gram × Int => evFn (cxOf Γ78 Tryd.f54.ntmps [] [] [] []) Tryd.f54 true [ofD TB l] [] = some (.tup [ofD TG q.1, ofD TI64 q.2], []) ∧ (szG 20 q.1 = true))
theorem p_spec_DrawCountWords (l : List Int) (hl : Fit TB l) : szG 20 (F_spec_DrawCountWords l).1 = true := (oneOf_spec (e_spec_DrawCountWords l hl)).2
theorem s_spec_DrawCountWords (l : List Int) (hl : Fit TB l) : Sat Tryd.prog 54 [ofD TB l] [] (.tup [ofD TG (F_spec_DrawCountWords l).1, ofD TI64 (F_spec_DrawCountWords l).2]) [] :=
 fn_sound (cx := cxOf Γ78 Tryd.f54.ntmps [] [] [] []) Tryd.func54 rfl ttOk Γ78ok mixed (fun _ _ => LoopsOk.no fun _ => rfl) (ro := true) (oneOf_spec (e_spec_DrawCountWords l hl)).1
noncomputable def c_spec_DrawCountWords : Con := conT [TB] fun (l : List Int) => (none, .tup [ofD TG (F_spec_DrawCountWords l).1, ofD TI64 (F_spec_DrawCountWords l).2])
theorem k_spec_DrawCountWords : ConOk Tryd.prog 54 c_spec_DrawCountWords := conT_ok Tryd.call54 fun l hl _ => s_spec_DrawCountWords l hl
noncomputable def Γ79 : List (Nat × Con) := (54, c_spec_DrawCountWords) :: Γ78
theorem Γ79ok : EnvOk Tryd.prog (look Γ79) := .cons k_spec_DrawCountWords Γ78ok
end Go.Proofs.YtbijdgkkneffgaaDoor.Ev
