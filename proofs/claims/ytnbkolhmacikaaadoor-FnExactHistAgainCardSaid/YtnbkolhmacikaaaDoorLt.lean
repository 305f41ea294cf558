/-
  Draws of texts, edits, histories.
-/
import Derived.Test.YtnbkolhmacikaaaDoorLe
namespace Go.Proofs.YtnbkolhmacikaaaDoor.Ev
open Go
abbrev vP (i : Nat) : T := .d (.one (.ptr i 0))
abbrev bR (x : Rd) : Option Obj := some (boxD 87 TR x)
theorem byB_adv {x x' : Rd} {c : Int} (h : Adv x x' c) : byB x' = byB x := by unfold byB; rw [h.1]
theorem ofV_len {x : Rd} {l : List Str} {k : Nat} (h : ∀ s ∈ l, s.length ≤ k) : (ofV x l).length ≤ k := by
  unfold ofV
  rw [List.getD_eq_getElem?_getD]
  cases hq : l[(pickV x l.length).toNat]? with
  | none => simp
  | some s => exact h s (List.mem_of_getElem? hq)

def fitR (x : Rd) : Bool := byB x && Nat.ble x.1.length 9223372036854775807
theorem fitR_fit {x : Rd} {k : Int} (h : fitR x = true) (hk : rdAt x k = true) (h1 : k ≤ 1000000) : Fit TR x := by
  unfold fitR at h
  rw [Bool.and_eq_true, byB_iff, Nat.ble_eq] at h
  have := rdAt_iff.1 hk
  refine ⟨⟨h.2, fun (b : Int) hb => ?_⟩, wrap_small (by omega) (by omega)⟩
  have := h.1 b hb
  show IntKind.u8.wrap b = b
  rw [IntKind.wrap_u8]; omega
theorem fit_fitR {x : Rd} (h : Fit TR x) : fitR x = true := by
  unfold fitR
  rw [Bool.and_eq_true, byB_iff, Nat.ble_eq]
  exact ⟨fun b hb => byteFit h.1 b hb, h.1.1⟩
theorem fitR_adv {x x' : Rd} {c : Int} (h : Adv x x' c) : fitR x' = fitR x := by unfold fitR byB; rw [h.1]
def openV (l : List Int) : Rd := (l.take 2000, 0)
theorem y_spec_l17Open (l : List Int) : evFn (cxOf Γ52 Tryd.f64.ntmps [] [] [] []) Tryd.f64 false [ofD TB l] [] = branch (decide (2000 < (l.length : Int))) (need (inr 0 2000 l.length) (some (vP 1000, [(1000, bR (l.take 2000, 0))]))) (some (vP 1000, [(1000, bR (l, 0))])) := by kernel_rfl
theorem s_spec_l17Open (l : List Int) (_hl : Fit TB l) : Sat Tryd.prog 64 [ofD TB l] [] (vP 1000) ([(1000, bR (openV l))]) :=
  fn_sound (cx := cxOf Γ52 Tryd.f64.ntmps [] [] [] []) Tryd.func64 rfl ttOk Γ52ok mixed (fun c hc => LoopsOk.nil (by cases hc; kernel_rfl)) (ro := false) (by
    rw [y_spec_l17Open]; unfold openV
    by_cases h : 2000 < (l.length : Int)
    · rw [decide_eq_true h, show inr 0 2000 l.length = true from decide_eq_true ⟨by omega, by omega, by omega⟩]; rfl
    · rw [decide_eq_false h, List.take_of_length_le (by omega)]; rfl)
noncomputable def c_spec_l17Open : Con := conN [TB] fun (l : List Int) => (none, vP 1000, [(1000, bR (openV l))])
theorem k_spec_l17Open : ConOk Tryd.prog 64 c_spec_l17Open := conN_ok Tryd.call64 fun l hl _ => s_spec_l17Open l hl
noncomputable def Γ53 : List (Nat × Con) := (64, c_spec_l17Open) :: Γ52
theorem Γ53ok : EnvOk Tryd.prog (look Γ53) := .cons k_spec_l17Open Γ52ok

theorem openV_by {l : List Int} (h : Fit TB l) : byB (openV l) = true := byB_iff.2 fun b hb => byteFit h b (List.mem_of_mem_take hb)
theorem openV_at (l : List Int) : rdAt (openV l) 0 = true := rfl

def l4abc : List Str := [[97], [98], [97], [99], [98], [100]]
noncomputable def cx0_l4Text : Cx := cxOf Γ53 Tryd.f72.ntmps [(3, [0, 1, 5, 6])] [(0, [5]), (1, [0, 1, 5, 6]), (1000000, [4])] [] []
def sh_l4Text : Sh := ([(0, .ptr 0 0), (1, .d TI64), (5, .d .str), (6, .d TI64)], [(0, .box 87 TR)])
def V_l4Text (n : Int) (s : Str) (i : Int) (x : Den TR) : sh_l4Text.V := ((n, s, i, ()), (x, ()))
def out_l4Text (o : Str × Rd) : St := ⟨[(5, vS o.1)], [(0, bR o.2)]⟩
def inv_l4Text (n : Int) (s : Str) (i : Int) (x : Den TR) : Bool := rdAt x (999000 + i) && (decide (0 ≤ i ∧ n ≤ 1000 ∧ i ≤ 1000) && decide (s.length ≤ i.toNat))
def post_l4Text (n : Int) (s : Str) (i : Int) (x : Den TR) (o : Str × Rd) : Prop := o.1.length ≤ s.length + (n - i).toNat ∧ Adv x o.2 ((n - i).toNat : Int)
def mu_l4Text (n : Int) (_s : Str) (i : Int) (_x : Den TR) : Nat := (n - i).toNat
theorem r_l4Text (n : Int) (s : Str) (i : Int) (x : Den TR) (hI : inv_l4Text n s i x = true) : (∃ o : Str × Rd, post_l4Text n s i x o ∧ ∀ (R : St → Option Fin) (K : Cont), evC cx0_l4Text (loopOf Tryd.f72 0) ⟨[(0, .d (.one (.ptr 0 0))), (1, .d (ofD TI64 n)), (5, .d (ofD .str s)), (6, .d (ofD TI64 i))], [(0, some (boxD 87 TR x))]⟩ (onward (headAt cx0_l4Text 3) R K) = K (.exit 0) (out_l4Text o)) ∨
    (∃ (n' : Int) (s' : Str) (i' : Int) (x' : Den TR), inv_l4Text n' s' i' x' = true ∧ mu_l4Text n' s' i' x' < mu_l4Text n s i x ∧ (∀ o, post_l4Text n' s' i' x' o → post_l4Text n s i x o) ∧ ∀ (R : St → Option Fin) (K : Cont), evC cx0_l4Text (loopOf Tryd.f72 0) ⟨[(0, .d (.one (.ptr 0 0))), (1, .d (ofD TI64 n)), (5, .d (ofD .str s)), (6, .d (ofD TI64 i))], [(0, some (boxD 87 TR x))]⟩ (onward (headAt cx0_l4Text 3) R K) = R ⟨[(0, .d (.one (.ptr 0 0))), (1, .d (ofD TI64 n')), (5, .d (ofD .str s')), (6, .d (ofD TI64 i'))], [(0, some (boxD 87 TR x'))]⟩) := by
  have hx : ∀ (R : St → Option Fin) (K : Cont), evC cx0_l4Text (loopOf Tryd.f72 0) ⟨[(0, vP 0), (1, vI n), (5, vS s), (6, vI i)], [(0, bR x)]⟩ (onward (headAt cx0_l4Text 3) R K) =
    branch (decide (i < n)) (need (rdOk x && Nat.blt 0 l4abc.length) (need (decide (s.length + (ofV x l4abc).length ≤ 9223372036854775807)) (R ⟨[(0, vP 0), (1, vI n), (5, vS (s ++ ofV x l4abc)), (6, vI (W64 (i + 1)))], [(0, bR (rdGo x 1))]⟩)))
      (K (.exit 0) ⟨[(5, vS s)], [(0, bR x)]⟩) := fun R K => by kernel_rfl
  simp only [inv_l4Text, Bool.and_eq_true, decide_eq_true_eq] at hI
  obtain ⟨h1, ⟨h2, h3, h4⟩, h5⟩ := hI
  have hr := rdAt_iff.1 h1
  by_cases hi : i < n
  · right
    have e : W64 (i + 1) = i + 1 := wrap_small (by omega) (by omega)
    have ho : (ofV x l4abc).length ≤ 1 := ofV_len (by decide)
    refine ⟨n, s ++ ofV x l4abc, i + 1, rdGo x 1, ?_, ?_, ?_, ?_⟩
    · simp only [inv_l4Text, Bool.and_eq_true, decide_eq_true_eq, List.length_append]
      exact ⟨(Adv.one x).at h1 (by omega), by omega, by omega⟩
    · simp only [mu_l4Text]; omega
    · rintro o ⟨g1, g2⟩
      rw [List.length_append] at g1
      exact ⟨by omega, ((Adv.one x).trans g2).le (by omega)⟩
    · intro R K
      refine (hx R K).trans ?_
      rw [decide_eq_true hi, branch_true, rdOk_iff.2 ⟨hr.1, by omega⟩, decide_eq_true (by omega : s.length + (ofV x l4abc).length ≤ 9223372036854775807), e]
      rfl
  · left
    refine ⟨(s, x), ⟨by show s.length ≤ s.length + _; omega, (Adv.refl x).le (by omega)⟩, fun R K => ?_⟩
    refine (hx R K).trans ?_
    rw [decide_eq_false hi]; rfl
def I_l4Text : sh_l4Text.V → Bool := fun v => match v with | ((n, s, i, ()), (x, ())) => inv_l4Text n s i x
def P_l4Text : sh_l4Text.V → Str × Rd → Prop := fun v o => match v with | ((n, s, i, ()), (x, ())) => post_l4Text n s i x o
def M_l4Text : sh_l4Text.V → Nat := fun v => match v with | ((n, s, i, ()), (x, ())) => mu_l4Text n s i x
theorem a_l4Text : ∀ v : sh_l4Text.V, I_l4Text v = true → ∃ o, P_l4Text v o ∧ ∀ K r, K (.exit 0) (out_l4Text o) = some r → ∃ N, iter (evC cx0_l4Text (loopOf Tryd.f72 0)) (headAt cx0_l4Text 3) N (sh_l4Text.mk v) K = some r :=
  loop_any (fun v => I_l4Text v = true) P_l4Text (.exit 0) M_l4Text fun v hI => by
    obtain ⟨⟨(n : Int), (s : Str), (i : Int), ⟨⟩⟩, ⟨(x : Den TR), ⟨⟩⟩⟩ := v
    rcases r_l4Text n s i x hI with ⟨o, h1, h2⟩ | ⟨n', s', i', x', h1, h2, h3, h4⟩
    · exact .inl ⟨o, h1, h2⟩
    · exact .inr ⟨V_l4Text n' s' i' x', h1, h2, h3, h4⟩
noncomputable def g_l4Text : St → Cont → Option Fin := gEnd sh_l4Text I_l4Text out_l4Text (evC cx0_l4Text (loopOf Tryd.f72 0)) (headAt cx0_l4Text 3) P_l4Text (.exit 0)
noncomputable def E_l4Text (n : Int) (s : Str) (i : Int) (x : Den TR) : Str × Rd := endOf sh_l4Text.mk out_l4Text (evC cx0_l4Text (loopOf Tryd.f72 0)) (headAt cx0_l4Text 3) P_l4Text (.exit 0) (V_l4Text n s i x)
theorem q_l4Text (n : Int) (s : Str) (i : Int) (x : Den TR) (hI : inv_l4Text n s i x = true) : post_l4Text n s i x (E_l4Text n s i x) := (endOf_spec (a_l4Text (V_l4Text n s i x) hI)).1
noncomputable def cx_l4Text : Cx := cx0_l4Text.withLoops (look [(3, g_l4Text)])
theorem l_l4Text : ∀ st K r, g_l4Text st K = some r → ∃ N, iter (evC cx_l4Text (loopOf Tryd.f72 0)) (headAt cx_l4Text 3) N st K = some r := with_ok (by kernel_rfl) (gEnd_ok a_l4Text)
theorem y_spec_l4Text (x : Rd) (n : Int) : evFn cx_l4Text Tryd.f72 true [.one (.ptr 0 0), ofD TI64 n] [boxD 87 TR x] = need (inv_l4Text n [] 0 x) (some (.d (ofD .str (E_l4Text n [] 0 x).1), [(0, bR (E_l4Text n [] 0 x).2)])) := by kernel_rfl
theorem e_spec_l4Text (x : Rd) (n : Int) (_hx : Fit TR x) (_hn : Fit TI64 n) (hpre : (rdAt x 999000 && decide (n ≤ 1000)) = true) : ∃ q : (Str) × Rd, evFn (cx_l4Text) Tryd.f72 true [.one (.ptr 0 0), ofD TI64 n] [boxD 87 TR x] = some (.d (ofD .str q.1), [(0, some (boxD 87 TR q.2))]) ∧ (List.length q.1 ≤ n.toNat ∧ Adv x q.2 (n.toNat : Int)) := by
  obtain ⟨r, h1, h2⟩ : Ok (evFn (cx_l4Text) Tryd.f72 true [.one (.ptr 0 0), ofD TI64 n] [boxD 87 TR x]) (fun r => ∃ (v : Str) (x' : Rd), r = (.d (ofD .str v), [(0, some (boxD 87 TR x'))]) ∧ (List.length v ≤ n.toNat ∧ Adv x x' (n.toNat : Int))) := by
    rw [Bool.and_eq_true, decide_eq_true_eq] at hpre
    have hi : inv_l4Text n [] 0 x = true := by
      simp only [inv_l4Text, Bool.and_eq_true, decide_eq_true_eq]
      exact ⟨by simpa using hpre.1, ⟨by omega, hpre.2, by omega⟩, by simp⟩
    have hp := q_l4Text n [] 0 x hi
    rw [y_spec_l4Text, hi]
    refine Ok.ret ⟨_, _, rfl, ?_⟩
    unfold post_l4Text at hp
    simpa using hp
  obtain ⟨v, x', h2, h3⟩ := h2
  exact ⟨(v, x'), by rw [h1, h2], h3⟩
noncomputable def F_spec_l4Text (x : Rd) (n : Int) : (Str) × Rd := oneOf (fun q : (Str) × Rd => evFn (cx_l4Text) Tryd.f72 true [.one (.ptr 0 0), ofD TI64 n] [boxD 87 TR x] = some (.d (ofD .str q.1), [(0, some (boxD 87 TR q.2))]) ∧ (List.length q.1 ≤ n.toNat ∧ Adv x q.2 (n.toNat : Int)))
theorem p_spec_l4Text (x : Rd) (n : Int) (hx : Fit TR x) (hn : Fit TI64 n) (hpre : (rdAt x 999000 && decide (n ≤ 1000)) = true) : List.length (F_spec_l4Text x n).1 ≤ n.toNat ∧ Adv x (F_spec_l4Text x n).2 (n.toNat : Int) := (oneOf_spec (e_spec_l4Text x n hx hn hpre)).2
theorem s_spec_l4Text (x : Rd) (n : Int) (hx : Fit TR x) (hn : Fit TI64 n) (hpre : (rdAt x 999000 && decide (n ≤ 1000)) = true) : Sat Tryd.prog 72 [.one (.ptr 0 0), ofD TI64 n] [boxD 87 TR x] (.d (ofD .str (F_spec_l4Text x n).1)) [(0, some (boxD 87 TR (F_spec_l4Text x n).2))] :=
  fn_sound (cx := cx_l4Text) Tryd.func72 rfl ttOk Γ53ok mixed (fun c hc => LoopsOk.one (b := loopOf Tryd.f72 0) (id := 3) (g := g_l4Text) (by cases hc; kernel_rfl) rfl l_l4Text) (ro := true) (oneOf_spec (e_spec_l4Text x n hx hn hpre)).1
noncomputable def c_spec_l4Text : Con := conB 87 TR [TI64] fun (x : Rd) (n : Int) => (some (rdAt x 999000 && decide (n ≤ 1000)), .d (ofD .str (F_spec_l4Text x n).1), (F_spec_l4Text x n).2)
theorem k_spec_l4Text : ConOk Tryd.prog 72 c_spec_l4Text := conB_ok Tryd.call72 fun x hx n hn hqq => s_spec_l4Text x n hx hn (pre_of hqq)
noncomputable def Γ54 : List (Nat × Con) := (72, c_spec_l4Text) :: Γ53
theorem Γ54ok : EnvOk Tryd.prog (look Γ54) := .cons k_spec_l4Text Γ53ok

abbrev go2 (x : Rd) : Rd := rdGo (rdGo x 1) 1
theorem Adv.two (x : Rd) : Adv x (go2 x) 2 := (Adv.one x).trans (Adv.one _)
theorem ok1 {x : Rd} {k : Int} (h : rdAt x k = true) (hk : k ≤ 1000000) : rdOk x = true := (Adv.refl x).ok h (by omega)
theorem at1 {x : Rd} {k : Int} (h : rdAt x k = true) {k' : Int} (hk : k + 1 ≤ k') : rdAt (rdGo x 1) k' = true := (Adv.one x).at h hk
def outE (e : Edit) (x : Rd) : Option Fin := some (.d (ofD TE e), [(0, bR x)])
def kAny (x : Rd) (e : Edit) : Option Fin := need (rdOk x) (branch (decide (pickV x 48 = 0)) (need (rdOk (rdGo x 1) && Nat.blt 0 3) (outE (numV (rdGo x 1) [0, 4, -1], e.2.1, e.2.2) (go2 x)))
  (branch (decide (pickV x 48 = 1)) (need (rdOk (rdGo x 1) && Nat.blt 0 3) (outE (e.1, numV (rdGo x 1) [-1, 99, 9223372036854775807], e.2.2) (go2 x)))
  (branch (decide (pickV x 48 = 2)) (need (rdOk (rdGo x 1) && Nat.blt 0 4) (outE (e.1, e.2.1, ofV (rdGo x 1) [[], [65], [101], [97, 98]]) (go2 x))) (outE e (rdGo x 1)))))
theorem y_spec_l8Any (x : Rd) (s : Str) : evFn (cxOf Γ54 Tryd.f67.ntmps [] [(0, [4, 5]), (1000000, [4])] [] []) Tryd.f67 true [.one (.ptr 0 0), ofD .str s] [boxD 87 TR x] =
  need (rdOk x && Nat.blt 0 5) (need (rdOk (rdGo x 1)) (need (rdOk (go2 x) && Nat.blt 0 5) (branch (decide (numV x [1, 2, 3, 1, 3] = 2)) (kAny (rdGo (go2 x) 1) (numV x [1, 2, 3, 1, 3], pickV (rdGo x 1) (W64 ((s.length : Int) + 1)), []))
    (kAny (rdGo (go2 x) 1) (numV x [1, 2, 3, 1, 3], pickV (rdGo x 1) (W64 ((s.length : Int) + 1)), ofV (go2 x) [[97], [98], [99], [100], [98]]))))) := by kernel_rfl
theorem kAny_ok {x : Rd} {e : Edit} {k : Int} (hk : rdAt x k = true) (h : k ≤ 999990) : Ok (kAny x e) (fun r => ∃ v x', r = (.d (ofD TE v), [(0, bR x')]) ∧ Adv x x' 2) := by
  unfold kAny outE
  have h1 := ok1 hk (by omega)
  have h2 := ok1 (at1 hk (Int.le_refl _)) (by omega)
  rw [h1, h2]
  refine Ok.need rfl (Ok.br (fun _ => Ok.need rfl (Ok.ret ⟨_, _, rfl, .two x⟩)) fun _ => Ok.br (fun _ => Ok.need rfl (Ok.ret ⟨_, _, rfl, .two x⟩)) fun _ => Ok.br (fun _ => Ok.need rfl (Ok.ret ⟨_, _, rfl, .two x⟩)) fun _ => Ok.ret ⟨_, _, rfl, (Adv.one x).le (by omega)⟩)
theorem e_spec_l8Any (x : Rd) (s : Str) (_hx : Fit TR x) (_hs : Fit .str s) (hpre : (rdAt x 999000) = true) : ∃ q : (Edit) × Rd, evFn (cxOf Γ54 Tryd.f67.ntmps [] [(0, [4, 5]), (1000000, [4])] [] []) Tryd.f67 true [.one (.ptr 0 0), ofD .str s] [boxD 87 TR x] = some (.d (ofD TE q.1), [(0, some (boxD 87 TR q.2))]) ∧ (Adv x q.2 5) := by
  obtain ⟨r, h1, h2⟩ : Ok (evFn (cxOf Γ54 Tryd.f67.ntmps [] [(0, [4, 5]), (1000000, [4])] [] []) Tryd.f67 true [.one (.ptr 0 0), ofD .str s] [boxD 87 TR x]) (fun r => ∃ (v : Edit) (x' : Rd), r = (.d (ofD TE v), [(0, some (boxD 87 TR x'))]) ∧ (Adv x x' 5)) := by
    have e1 := at1 hpre (Int.le_refl _)
    have e2 := at1 e1 (Int.le_refl _)
    have e3 := at1 e2 (Int.le_refl _)
    have a3 : Adv x (rdGo (go2 x) 1) 3 := (Adv.two x).trans (Adv.one _)
    rw [y_spec_l8Any, ok1 hpre (by omega), ok1 e1 (by omega), ok1 e2 (by omega)]
    refine Ok.need rfl (Ok.need rfl (Ok.need rfl (Ok.br (fun _ => (kAny_ok e3 (by omega)).mono ?_) fun _ => (kAny_ok e3 (by omega)).mono ?_)))
    · rintro r ⟨v, x', h1, h2⟩; exact ⟨v, x', h1, a3.trans h2⟩
    · rintro r ⟨v, x', h1, h2⟩; exact ⟨v, x', h1, a3.trans h2⟩
  obtain ⟨v, x', h2, h3⟩ := h2
  exact ⟨(v, x'), by rw [h1, h2], h3⟩
noncomputable def F_spec_l8Any (x : Rd) (s : Str) : (Edit) × Rd := oneOf (fun q : (Edit) × Rd => evFn (cxOf Γ54 Tryd.f67.ntmps [] [(0, [4, 5]), (1000000, [4])] [] []) Tryd.f67 true [.one (.ptr 0 0), ofD .str s] [boxD 87 TR x] = some (.d (ofD TE q.1), [(0, some (boxD 87 TR q.2))]) ∧ (Adv x q.2 5))
theorem p_spec_l8Any (x : Rd) (s : Str) (hx : Fit TR x) (hs : Fit .str s) (hpre : (rdAt x 999000) = true) : Adv x (F_spec_l8Any x s).2 5 := (oneOf_spec (e_spec_l8Any x s hx hs hpre)).2
theorem s_spec_l8Any (x : Rd) (s : Str) (hx : Fit TR x) (hs : Fit .str s) (hpre : (rdAt x 999000) = true) : Sat Tryd.prog 67 [.one (.ptr 0 0), ofD .str s] [boxD 87 TR x] (.d (ofD TE (F_spec_l8Any x s).1)) [(0, some (boxD 87 TR (F_spec_l8Any x s).2))] :=
  fn_sound (cx := cxOf Γ54 Tryd.f67.ntmps [] [(0, [4, 5]), (1000000, [4])] [] []) Tryd.func67 rfl ttOk Γ54ok mixed (fun c hc => LoopsOk.nil (by cases hc; kernel_rfl)) (ro := true) (oneOf_spec (e_spec_l8Any x s hx hs hpre)).1
noncomputable def c_spec_l8Any : Con := conB 87 TR [.str] fun (x : Rd) (s : Str) => (some (rdAt x 999000), .d (ofD TE (F_spec_l8Any x s).1), (F_spec_l8Any x s).2)
theorem k_spec_l8Any : ConOk Tryd.prog 67 c_spec_l8Any := conB_ok Tryd.call67 fun x hx s hs hqq => s_spec_l8Any x s hx hs (pre_of hqq)
noncomputable def Γ55 : List (Nat × Con) := (67, c_spec_l8Any) :: Γ54
theorem Γ55ok : EnvOk Tryd.prog (look Γ55) := .cons k_spec_l8Any Γ54ok

/-- a history of bounded size -/
def sizeH (h : Hist) : Bool := Nat.ble h.1.length 1000 && (Nat.ble h.2.1.length 1000 && Nat.ble h.2.2.length 1000)
theorem sizeH_iff {h : Hist} : sizeH h = true ↔ h.1.length ≤ 1000 ∧ h.2.1.length ≤ 1000 ∧ h.2.2.length ≤ 1000 := by unfold sizeH; rw [Bool.and_eq_true, Bool.and_eq_true, Nat.ble_eq, Nat.ble_eq, Nat.ble_eq]
theorem sizeH_small {h : Hist} (hs : sizeH h = true) : smallH h = true := by have := sizeH_iff.1 hs; exact smallH_iff.2 ⟨by omega, by omega⟩
theorem size_ok {h : Hist} (ho : okHist h = true) (hs : smallH h = true) : sizeH h = true := by
  have h1 := (longOk_iff.1 (okHist_iff.1 ho).1).2
  have h2 := lenH_le hs ho
  exact sizeH_iff.2 ⟨by omega, by omega, by omega⟩
theorem do_size {h : Hist} {e : Edit} (hs : sizeH h = true) (hd : (doH h e).2 = true) : sizeH (doH h e).1 = true := by
  obtain ⟨g1, g2, _⟩ := do_back (sizeH_small hs) hd
  exact size_ok g1 g2
theorem back_size {h : Hist} (hs : sizeH h = true) (hd : (backH h).2 = true) : sizeH (backH h).1 = true := by
  cases ho : okHist h
  · rw [backH_bad ho] at hd; cases hd
  · obtain ⟨g1, g2, _⟩ := back_keeps (sizeH_small hs) ho
    exact size_ok g1 g2
theorem again_size {h : Hist} (hs : sizeH h = true) (hd : (againH h).2 = true) : sizeH (againH h).1 = true := by
  cases ho : okHist h
  · rw [again_bad ho] at hd; cases hd
  · obtain ⟨g1, g2, _⟩ := again_keeps (sizeH_small hs) ho
    exact size_ok g1 g2
theorem new_size (t : Str) : sizeH (newH t) = true := by
  unfold newH
  cases h : longOk t
  · rfl
  · have := (longOk_iff.1 h).2
    exact sizeH_iff.2 ⟨by show t.length ≤ 1000; omega, by simp, by simp⟩
noncomputable def cx0_l14Some : Cx := cxOf Γ55 Tryd.f66.ntmps [(3, [0, 2, 3, 4])] [(0, [2, 3]), (1, [0, 2, 3, 4]), (2, [0, 2, 3, 4, 5, 6]), (1000000, [2])] [] []
def sh_l14Some : Sh := ([(0, .ptr 0 0), (2, .ptr 500000 0), (3, .ptr 500001 0), (4, .d TI64)], [(0, .box 87 TR), (500000, .mix 24 [.d .str, .nil, .nil]), (500001, .box 24 TH)])
def V_l14Some (i : Int) (x : Den TR) (z : Str) (h : Hist) : sh_l14Some.V := ((i, ()), (x, (z, ()), h, ()))
def out_l14Some (o : Hist × Str × Rd) : St := ⟨[(2, .d (.one (.ptr 500000 0))), (3, .d (.one (.ptr 500001 0)))], [(500000, some (.box 24 [.r (.v (.string (mk o.2.1))), .r (.v (.slice none 0 0)), .r (.v (.slice none 0 0))])), (500001, some (boxD 24 TH o.1)), (0, bR o.2.2)]⟩
def inv_l14Some (i : Int) (x : Den TR) (_z : Str) (h : Hist) : Bool := sizeH h && (fitR x && (rdAt x (990000 - i * 10) && decide (i ≤ 1000)))
def post_l14Some (i : Int) (x : Den TR) (_z : Str) (_h : Hist) (o : Hist × Str × Rd) : Prop := sizeH o.1 = true ∧ Adv x o.2.2 ((i * 10).toNat : Int)
def mu_l14Some (i : Int) (_x : Den TR) (_z : Str) (_h : Hist) : Nat := i.toNat
theorem r_l14Some (i : Int) (x : Den TR) (z : Str) (h : Hist) (hI : inv_l14Some i x z h = true) : (∃ o : Hist × Str × Rd, post_l14Some i x z h o ∧ ∀ (R : St → Option Fin) (K : Cont), evC cx0_l14Some (loopOf Tryd.f66 0) ⟨[(0, .d (.one (.ptr 0 0))), (2, .d (.one (.ptr 500000 0))), (3, .d (.one (.ptr 500001 0))), (4, .d (ofD TI64 i))], [(0, some (boxD 87 TR x)), (500000, some (.box 24 ((cellsR .str z).map C.r ++ [.r (.v (.slice none 0 0))] ++ [.r (.v (.slice none 0 0))]))), (500001, some (boxD 24 TH h))]⟩ (onward (headAt cx0_l14Some 3) R K) = K (.exit 0) (out_l14Some o)) ∨
    (∃ (i' : Int) (x' : Den TR) (z' : Str) (h' : Hist), inv_l14Some i' x' z' h' = true ∧ mu_l14Some i' x' z' h' < mu_l14Some i x z h ∧ (∀ o, post_l14Some i' x' z' h' o → post_l14Some i x z h o) ∧ ∀ (R : St → Option Fin) (K : Cont), evC cx0_l14Some (loopOf Tryd.f66 0) ⟨[(0, .d (.one (.ptr 0 0))), (2, .d (.one (.ptr 500000 0))), (3, .d (.one (.ptr 500001 0))), (4, .d (ofD TI64 i))], [(0, some (boxD 87 TR x)), (500000, some (.box 24 ((cellsR .str z).map C.r ++ [.r (.v (.slice none 0 0))] ++ [.r (.v (.slice none 0 0))]))), (500001, some (boxD 24 TH h))]⟩ (onward (headAt cx0_l14Some 3) R K) = R ⟨[(0, .d (.one (.ptr 0 0))), (2, .d (.one (.ptr 500000 0))), (3, .d (.one (.ptr 500001 0))), (4, .d (ofD TI64 i'))], [(0, some (boxD 87 TR x')), (500000, some (.box 24 ((cellsR .str z').map C.r ++ [.r (.v (.slice none 0 0))] ++ [.r (.v (.slice none 0 0))]))), (500001, some (boxD 24 TH h'))]⟩) := by
  have hx : ∀ (R : St → Option Fin) (K : Cont), evC cx0_l14Some (loopOf Tryd.f66 0) ⟨[(0, vP 0), (2, .d (.one (.ptr 500000 0))), (3, .d (.one (.ptr 500001 0))), (4, vI i)], [(0, bR x), (500000, some (.box 24 [.r (.v (.string (mk z))), .r (.v (.slice none 0 0)), .r (.v (.slice none 0 0))])), (500001, some (boxD 24 TH h))]⟩ (onward (headAt cx0_l14Some 3) R K) =
    (let next : Rd → Hist → Option Fin := fun x h => R ⟨[(0, vP 0), (2, .d (.one (.ptr 500000 0))), (3, .d (.one (.ptr 500001 0))), (4, vI (W64 (i - 1)))], [(0, bR x), (500000, some (.box 24 [.r (.v (.string (mk z))), .r (.v (.slice none 0 0)), .r (.v (.slice none 0 0))])), (500001, some (boxD 24 TH h))]⟩
    branch (decide (0 < i)) (need (rdOk x) (branch (decide (pickV x 4 = 0)) (need (smallH h) (branch (backH h).2 (next (rdGo x 1) (backH h).1) (next (rdGo x 1) h)))
      (branch (decide (pickV x 4 = 1)) (need (smallH h) (branch (againH h).2 (next (rdGo x 1) (againH h).1) (next (rdGo x 1) h)))
        (need (rdAt (rdGo x 1) 999000) (need (smallH h) (branch (doH h (F_spec_l8Any (rdGo x 1) h.1).1).2 (next (F_spec_l8Any (rdGo x 1) h.1).2 (doH h (F_spec_l8Any (rdGo x 1) h.1).1).1) (next (F_spec_l8Any (rdGo x 1) h.1).2 h)))))))
      (K (.exit 0) (out_l14Some (h, z, x)))) := fun R K => by kernel_rfl
  simp only [inv_l14Some, Bool.and_eq_true, decide_eq_true_eq] at hI
  obtain ⟨h1, h2, h3, h4⟩ := hI
  have hr := rdAt_iff.1 h3
  have hsm := sizeH_small h1
  by_cases hi : 0 < i
  · right
    have e : W64 (i - 1) = i - 1 := wrap_small (by omega) (by omega)
    have hk : rdOk x = true := ok1 h3 (by omega)
    have hk2 : rdAt (rdGo x 1) 999000 = true := at1 h3 (by omega)
    have fx : Fit TR (rdGo x 1) := fitR_fit (by rw [fitR_adv (.one x)]; exact h2) hk2 (by omega)
    have fs : Fit .str h.1 := by show h.1.length ≤ 9223372036854775807; have := (sizeH_iff.1 h1).1; omega
    have pe := p_spec_l8Any (rdGo x 1) h.1 fx fs hk2
    have fin : ∀ (x' : Rd) (h' : Hist), Adv x x' 6 → sizeH h' = true → (∀ (R : St → Option Fin) (K : Cont), evC cx0_l14Some (loopOf Tryd.f66 0) ⟨[(0, vP 0), (2, .d (.one (.ptr 500000 0))), (3, .d (.one (.ptr 500001 0))), (4, vI i)], [(0, bR x), (500000, some (.box 24 [.r (.v (.string (mk z))), .r (.v (.slice none 0 0)), .r (.v (.slice none 0 0))])), (500001, some (boxD 24 TH h))]⟩ (onward (headAt cx0_l14Some 3) R K) =
        R ⟨[(0, vP 0), (2, .d (.one (.ptr 500000 0))), (3, .d (.one (.ptr 500001 0))), (4, vI (i - 1))], [(0, bR x'), (500000, some (.box 24 [.r (.v (.string (mk z))), .r (.v (.slice none 0 0)), .r (.v (.slice none 0 0))])), (500001, some (boxD 24 TH h'))]⟩) →
        ∃ (i' : Int) (x' : Rd) (z' : Str) (h' : Hist), inv_l14Some i' x' z' h' = true ∧ mu_l14Some i' x' z' h' < mu_l14Some i x z h ∧ (∀ o, post_l14Some i' x' z' h' o → post_l14Some i x z h o) ∧ ∀ (R : St → Option Fin) (K : Cont), evC cx0_l14Some (loopOf Tryd.f66 0) ⟨[(0, vP 0), (2, .d (.one (.ptr 500000 0))), (3, .d (.one (.ptr 500001 0))), (4, vI i)], [(0, bR x), (500000, some (.box 24 [.r (.v (.string (mk z))), .r (.v (.slice none 0 0)), .r (.v (.slice none 0 0))])), (500001, some (boxD 24 TH h))]⟩ (onward (headAt cx0_l14Some 3) R K) =
          R ⟨[(0, vP 0), (2, .d (.one (.ptr 500000 0))), (3, .d (.one (.ptr 500001 0))), (4, vI i')], [(0, bR x'), (500000, some (.box 24 [.r (.v (.string (mk z'))), .r (.v (.slice none 0 0)), .r (.v (.slice none 0 0))])), (500001, some (boxD 24 TH h'))]⟩ := by
      intro x' h' ha hs hR
      refine ⟨i - 1, x', z, h', ?_, by simp only [mu_l14Some]; omega, ?_, hR⟩
      · simp only [inv_l14Some, Bool.and_eq_true, decide_eq_true_eq]
        exact ⟨hs, by rw [fitR_adv ha]; exact h2, ha.at h3 (by omega), by omega⟩
      · rintro o ⟨g1, g2⟩
        exact ⟨g1, (ha.trans g2).le (by omega)⟩
    cases c0 : decide (pickV x 4 = 0)
    · cases c1 : decide (pickV x 4 = 1)
      · cases cd : (doH h (F_spec_l8Any (rdGo x 1) h.1).1).2
        · exact fin _ h (((Adv.one x).trans pe).le (by omega)) h1 fun R K => by rw [hx R K, decide_eq_true hi, hk, c0, c1, hk2, hsm, cd, e]; rfl
        · exact fin _ _ (((Adv.one x).trans pe).le (by omega)) (do_size h1 cd) fun R K => by rw [hx R K, decide_eq_true hi, hk, c0, c1, hk2, hsm, cd, e]; rfl
      · cases cd : (againH h).2
        · exact fin _ h ((Adv.one x).le (by omega)) h1 fun R K => by rw [hx R K, decide_eq_true hi, hk, c0, c1, hsm, cd, e]; rfl
        · exact fin _ _ ((Adv.one x).le (by omega)) (again_size h1 cd) fun R K => by rw [hx R K, decide_eq_true hi, hk, c0, c1, hsm, cd, e]; rfl
    · cases cd : (backH h).2
      · exact fin _ h ((Adv.one x).le (by omega)) h1 fun R K => by rw [hx R K, decide_eq_true hi, hk, c0, hsm, cd, e]; rfl
      · exact fin _ _ ((Adv.one x).le (by omega)) (back_size h1 cd) fun R K => by rw [hx R K, decide_eq_true hi, hk, c0, hsm, cd, e]; rfl
  · left
    refine ⟨(h, z, x), ⟨h1, (Adv.refl x).le (by omega)⟩, fun R K => ?_⟩
    refine (hx R K).trans ?_
    rw [decide_eq_false hi]; rfl
def I_l14Some : sh_l14Some.V → Bool := fun v => match v with | ((i, ()), (x, (z, ()), h, ())) => inv_l14Some i x z h
def P_l14Some : sh_l14Some.V → Hist × Str × Rd → Prop := fun v o => match v with | ((i, ()), (x, (z, ()), h, ())) => post_l14Some i x z h o
def M_l14Some : sh_l14Some.V → Nat := fun v => match v with | ((i, ()), (x, (z, ()), h, ())) => mu_l14Some i x z h
theorem a_l14Some : ∀ v : sh_l14Some.V, I_l14Some v = true → ∃ o, P_l14Some v o ∧ ∀ K r, K (.exit 0) (out_l14Some o) = some r → ∃ N, iter (evC cx0_l14Some (loopOf Tryd.f66 0)) (headAt cx0_l14Some 3) N (sh_l14Some.mk v) K = some r :=
  loop_any (fun v => I_l14Some v = true) P_l14Some (.exit 0) M_l14Some fun v hI => by
    obtain ⟨⟨(i : Int), ⟨⟩⟩, ⟨(x : Den TR), ⟨(z : Str), ⟨⟩⟩, (h : Hist), ⟨⟩⟩⟩ := v
    rcases r_l14Some i x z h hI with ⟨o, h1, h2⟩ | ⟨i', x', z', h', h1, h2, h3, h4⟩
    · exact .inl ⟨o, h1, h2⟩
    · exact .inr ⟨V_l14Some i' x' z' h', h1, h2, h3, h4⟩
noncomputable def g_l14Some : St → Cont → Option Fin := gEnd sh_l14Some I_l14Some out_l14Some (evC cx0_l14Some (loopOf Tryd.f66 0)) (headAt cx0_l14Some 3) P_l14Some (.exit 0)
noncomputable def E_l14Some (i : Int) (x : Den TR) (z : Str) (h : Hist) : Hist × Str × Rd := endOf sh_l14Some.mk out_l14Some (evC cx0_l14Some (loopOf Tryd.f66 0)) (headAt cx0_l14Some 3) P_l14Some (.exit 0) (V_l14Some i x z h)
theorem q_l14Some (i : Int) (x : Den TR) (z : Str) (h : Hist) (hI : inv_l14Some i x z h = true) : post_l14Some i x z h (E_l14Some i x z h) := (endOf_spec (a_l14Some (V_l14Some i x z h) hI)).1
noncomputable def cx_l14Some : Cx := cx0_l14Some.withLoops (look [(3, g_l14Some)])
theorem l_l14Some : ∀ st K r, g_l14Some st K = some r → ∃ N, iter (evC cx_l14Some (loopOf Tryd.f66 0)) (headAt cx_l14Some 3) N st K = some r := with_ok (by kernel_rfl) (gEnd_ok a_l14Some)
theorem y_spec_l14Some (x : Rd) : evFn cx_l14Some Tryd.f66 true [.one (.ptr 0 0)] [boxD 87 TR x] =
  need (rdOk x) (need (rdAt (rdGo x 1) 999000 && decide (pickV x 6 ≤ 1000)) (need (rdOk (F_spec_l4Text (rdGo x 1) (pickV x 6)).2 && Nat.blt 0 6)
    (need (inv_l14Some (numV (F_spec_l4Text (rdGo x 1) (pickV x 6)).2 [3, 5, 2, 0, 8, 14]) (rdGo (F_spec_l4Text (rdGo x 1) (pickV x 6)).2 1) [] (newH (F_spec_l4Text (rdGo x 1) (pickV x 6)).1))
      (some (.d (ofD TH (E_l14Some (numV (F_spec_l4Text (rdGo x 1) (pickV x 6)).2 [3, 5, 2, 0, 8, 14]) (rdGo (F_spec_l4Text (rdGo x 1) (pickV x 6)).2 1) [] (newH (F_spec_l4Text (rdGo x 1) (pickV x 6)).1)).1), [(0, bR (E_l14Some (numV (F_spec_l4Text (rdGo x 1) (pickV x 6)).2 [3, 5, 2, 0, 8, 14]) (rdGo (F_spec_l4Text (rdGo x 1) (pickV x 6)).2 1) [] (newH (F_spec_l4Text (rdGo x 1) (pickV x 6)).1)).2.2)]))))) := by kernel_rfl
theorem numV_mem {x : Rd} {l : List Int} (h : l ≠ []) (hx : BY x) (hk : rdOk x = true) : numV x l ∈ l := by
  have hp : 0 < l.length := List.length_pos_iff.2 h
  have hr := pickV_range (n := l.length) hx hk (by omega)
  unfold numV
  rw [List.getD_eq_getElem?_getD, List.getElem?_eq_getElem (by omega)]
  exact List.getElem_mem _
theorem e_spec_l14Some (x : Rd)  (hx : Fit TR x)  (hpre : (rdAt x 900000) = true) : ∃ q : (Hist) × Rd, evFn (cx_l14Some) Tryd.f66 true [.one (.ptr 0 0)] [boxD 87 TR x] = some (.d (ofD TH q.1), [(0, some (boxD 87 TR q.2))]) ∧ (sizeH q.1 = true ∧ Adv x q.2 2000) := by
  obtain ⟨r, h1, h2⟩ : Ok (evFn (cx_l14Some) Tryd.f66 true [.one (.ptr 0 0)] [boxD 87 TR x]) (fun r => ∃ (v : Hist) (x' : Rd), r = (.d (ofD TH v), [(0, some (boxD 87 TR x'))]) ∧ (sizeH v = true ∧ Adv x x' 2000)) := by
    have f0 := fit_fitR hx
    have hr := rdAt_iff.1 hpre
    have b0 : BY x := fun b hb => byteFit hx.1 b hb
    have k0 := ok1 hpre (by omega)
    have r0 := pickV_range (n := 6) b0 k0 (by omega)
    have k1 : rdAt (rdGo x 1) 999000 = true := at1 hpre (by omega)
    have f1 : Fit TR (rdGo x 1) := fitR_fit (by rw [fitR_adv (.one x)]; exact f0) k1 (by omega)
    have pt := p_spec_l4Text (rdGo x 1) (pickV x 6) f1 (wrap_small (by omega) (by omega)) (by rw [k1, decide_eq_true (by omega)]; rfl)
    rw [y_spec_l14Some]
    generalize F_spec_l4Text (rdGo x 1) (pickV x 6) = q at pt ⊢
    obtain ⟨s, y⟩ := q
    obtain ⟨p1, p2⟩ := pt
    simp only at p1 p2 ⊢
    have a2 : Adv x y 7 := ((Adv.one x).trans p2).le (by omega)
    have k2 : rdOk y = true := a2.ok hpre (by omega)
    have b2 : BY y := by unfold BY; rw [a2.1]; exact b0
    have hm := numV_mem (l := [3, 5, 2, 0, 8, 14]) (by simp) b2 k2
    have hn : 0 ≤ numV y [3, 5, 2, 0, 8, 14] ∧ numV y [3, 5, 2, 0, 8, 14] ≤ 14 := by
      generalize numV y [3, 5, 2, 0, 8, 14] = n at hm
      simp only [List.mem_cons, List.mem_nil_iff, or_false] at hm
      omega
    generalize numV y [3, 5, 2, 0, 8, 14] = n at hn ⊢
    have a3 : Adv x (rdGo y 1) 8 := a2.trans (.one y)
    have hi : inv_l14Some n (rdGo y 1) [] (newH s) = true := by
      simp only [inv_l14Some, Bool.and_eq_true, decide_eq_true_eq]
      exact ⟨new_size s, by rw [fitR_adv a3]; exact f0, a3.at hpre (by omega), by omega⟩
    have hq := q_l14Some n (rdGo y 1) [] (newH s) hi
    rw [k0, k1, decide_eq_true (by omega : pickV x 6 ≤ 1000), k2, hi]
    exact Ok.need rfl (Ok.need rfl (Ok.need rfl (Ok.need rfl (Ok.ret ⟨_, _, rfl, hq.1, (a3.trans hq.2).le (by omega)⟩))))
  obtain ⟨v, x', h2, h3⟩ := h2
  exact ⟨(v, x'), by rw [h1, h2], h3⟩
noncomputable def F_spec_l14Some (x : Rd)  : (Hist) × Rd := oneOf (fun q : (Hist) × Rd => evFn (cx_l14Some) Tryd.f66 true [.one (.ptr 0 0)] [boxD 87 TR x] = some (.d (ofD TH q.1), [(0, some (boxD 87 TR q.2))]) ∧ (sizeH q.1 = true ∧ Adv x q.2 2000))
theorem p_spec_l14Some (x : Rd)  (hx : Fit TR x)  (hpre : (rdAt x 900000) = true) : sizeH (F_spec_l14Some x ).1 = true ∧ Adv x (F_spec_l14Some x ).2 2000 := (oneOf_spec (e_spec_l14Some x  hx  hpre)).2
theorem s_spec_l14Some (x : Rd)  (hx : Fit TR x)  (hpre : (rdAt x 900000) = true) : Sat Tryd.prog 66 [.one (.ptr 0 0)] [boxD 87 TR x] (.d (ofD TH (F_spec_l14Some x ).1)) [(0, some (boxD 87 TR (F_spec_l14Some x ).2))] :=
  fn_sound (cx := cx_l14Some) Tryd.func66 rfl ttOk Γ55ok mixed (fun c hc => LoopsOk.one (b := loopOf Tryd.f66 0) (id := 3) (g := g_l14Some) (by cases hc; kernel_rfl) rfl l_l14Some) (ro := true) (oneOf_spec (e_spec_l14Some x  hx  hpre)).1
noncomputable def c_spec_l14Some : Con := conB 87 TR [] fun (x : Rd)  => (some (rdAt x 900000), .d (ofD TH (F_spec_l14Some x ).1), (F_spec_l14Some x ).2)
theorem k_spec_l14Some : ConOk Tryd.prog 66 c_spec_l14Some := conB_ok Tryd.call66 fun x hx  hqq => s_spec_l14Some x  hx  (pre_of hqq)
noncomputable def Γ56 : List (Nat × Con) := (66, c_spec_l14Some) :: Γ55
theorem Γ56ok : EnvOk Tryd.prog (look Γ56) := .cons k_spec_l14Some Γ55ok

def szN (k : Nat) (h : Hist) : Prop := h.1.length ≤ k ∧ h.2.1.length ≤ k ∧ h.2.2.length ≤ k
theorem szN_of {h : Hist} (hs : sizeH h = true) : szN 1000 h := sizeH_iff.1 hs
theorem szN_small {k : Nat} {h : Hist} (hs : szN k h) (hk : k ≤ 1048576) : smallH h = true := smallH_iff.2 ⟨by have := hs.2.1; omega, by have := hs.2.2; omega⟩
noncomputable def cx0_l14Bent : Cx := cxOf Γ56 Tryd.f65.ntmps [(10, [4, 5])] [(0, [4, 5]), (1, [4, 5]), (2, [4, 5]), (1000000, [4])] [] []
def sh_l14Bent : Sh := ([(4, .ptr 500000 0), (5, .ptr 500001 0)], [(500000, .mix 24 [.d .str, .nil, .nil]), (500001, .mix 24 [.d .str, .own 500002, .own 500003]), (0, .box 87 TR), (500002, .lis 46 TE), (500003, .lis 46 TE)])
def V_l14Bent (z : Str) (s : Str) (x : Den TR) (l : List (Edit)) (m : List (Edit)) : sh_l14Bent.V := ((), ((z, ()), (s, ()), x, l, m, ()))
def out_l14Bent (o : Str × Str × Rd × List Edit × List Edit) : St := ⟨[(4, .d (.one (.ptr 500000 0))), (5, .d (.one (.ptr 500001 0)))], [(500000, some (.box 24 [.r (.v (.string (mk o.1))), .r (.v (.slice none 0 0)), .r (.v (.slice none 0 0))])), (500001, some (.box 24 [.r (.v (.string (mk o.2.1))), .own 500002, .own 500003])), (0, bR o.2.2.1), (500002, some (.lis 46 TE o.2.2.2.1)), (500003, some (.lis 46 TE o.2.2.2.2))]⟩
def inv_l14Bent (_z : Str) (_s : Str) (_x : Den TR) (_l : List (Edit)) (_m : List (Edit)) : Bool := true
def post_l14Bent (_z : Str) (s : Str) (x : Den TR) (l : List (Edit)) (m : List (Edit)) (o : Str × Str × Rd × List Edit × List Edit) : Prop := o.2.1 = s ∧ o.2.2.1 = x ∧ o.2.2.2.2 = m ∧ o.2.2.2.1.length ≤ l.length + (11 - l.length)
def mu_l14Bent (_z : Str) (_s : Str) (_x : Den TR) (l : List (Edit)) (_m : List (Edit)) : Nat := 11 - l.length
theorem r_l14Bent (z : Str) (s : Str) (x : Den TR) (l : List (Edit)) (m : List (Edit)) (_hI : inv_l14Bent z s x l m = true) : (∃ o : Str × Str × Rd × List Edit × List Edit, post_l14Bent z s x l m o ∧ ∀ (R : St → Option Fin) (K : Cont), evC cx0_l14Bent (loopOf Tryd.f65 0) ⟨[(4, .d (.one (.ptr 500000 0))), (5, .d (.one (.ptr 500001 0)))], [(500000, some (.box 24 ((cellsR .str z).map C.r ++ [.r (.v (.slice none 0 0))] ++ [.r (.v (.slice none 0 0))]))), (500001, some (.box 24 ((cellsR .str s).map C.r ++ [.own 500002] ++ [.own 500003]))), (0, some (boxD 87 TR x)), (500002, some (.lis 46 TE l)), (500003, some (.lis 46 TE m))]⟩ (onward (headAt cx0_l14Bent 10) R K) = K (.exit 1) (out_l14Bent o)) ∨
    (∃ (z' : Str) (s' : Str) (x' : Den TR) (l' : List (Edit)) (m' : List (Edit)), inv_l14Bent z' s' x' l' m' = true ∧ mu_l14Bent z' s' x' l' m' < mu_l14Bent z s x l m ∧ (∀ o, post_l14Bent z' s' x' l' m' o → post_l14Bent z s x l m o) ∧ ∀ (R : St → Option Fin) (K : Cont), evC cx0_l14Bent (loopOf Tryd.f65 0) ⟨[(4, .d (.one (.ptr 500000 0))), (5, .d (.one (.ptr 500001 0)))], [(500000, some (.box 24 ((cellsR .str z).map C.r ++ [.r (.v (.slice none 0 0))] ++ [.r (.v (.slice none 0 0))]))), (500001, some (.box 24 ((cellsR .str s).map C.r ++ [.own 500002] ++ [.own 500003]))), (0, some (boxD 87 TR x)), (500002, some (.lis 46 TE l)), (500003, some (.lis 46 TE m))]⟩ (onward (headAt cx0_l14Bent 10) R K) = R ⟨[(4, .d (.one (.ptr 500000 0))), (5, .d (.one (.ptr 500001 0)))], [(500000, some (.box 24 ((cellsR .str z').map C.r ++ [.r (.v (.slice none 0 0))] ++ [.r (.v (.slice none 0 0))]))), (500001, some (.box 24 ((cellsR .str s').map C.r ++ [.own 500002] ++ [.own 500003]))), (0, some (boxD 87 TR x')), (500002, some (.lis 46 TE l')), (500003, some (.lis 46 TE m'))]⟩) := by
  have hx : ∀ (R : St → Option Fin) (K : Cont), evC cx0_l14Bent (loopOf Tryd.f65 0) ⟨[(4, .d (.one (.ptr 500000 0))), (5, .d (.one (.ptr 500001 0)))], [(500000, some (.box 24 [.r (.v (.string (mk z))), .r (.v (.slice none 0 0)), .r (.v (.slice none 0 0))])), (500001, some (.box 24 [.r (.v (.string (mk s))), .own 500002, .own 500003])), (0, bR x), (500002, some (.lis 46 TE l)), (500003, some (.lis 46 TE m))]⟩ (onward (headAt cx0_l14Bent 10) R K) =
    branch (decide ((l.length : Int) ≤ 10)) (need (fits (l.length + 1) 32) (R ⟨[(4, .d (.one (.ptr 500000 0))), (5, .d (.one (.ptr 500001 0)))], [(500000, some (.box 24 [.r (.v (.string (mk z))), .r (.v (.slice none 0 0)), .r (.v (.slice none 0 0))])), (500001, some (.box 24 [.r (.v (.string (mk s))), .own 500002, .own 500003])), (0, bR x), (500002, some (.lis 46 TE (l ++ [(1, 0, [97])]))), (500003, some (.lis 46 TE m))]⟩))
      (K (.exit 1) (out_l14Bent (z, s, x, l, m))) := fun R K => by kernel_rfl
  by_cases hi : l.length ≤ 10
  · right
    refine ⟨z, s, x, l ++ [(1, 0, [97])], m, rfl, by simp only [mu_l14Bent, List.length_append, List.length_singleton]; omega, ?_, fun R K => ?_⟩
    · rintro o ⟨g1, g2, g3, g4⟩
      rw [List.length_append, List.length_singleton] at g4
      exact ⟨g1, g2, g3, by omega⟩
    · refine (hx R K).trans ?_
      rw [decide_eq_true (by omega : (l.length : Int) ≤ 10), show fits (l.length + 1) 32 = true from decide_eq_true (by omega)]; rfl
  · left
    refine ⟨(z, s, x, l, m), ⟨rfl, rfl, rfl, by show l.length ≤ _; omega⟩, fun R K => ?_⟩
    refine (hx R K).trans ?_
    rw [decide_eq_false (by omega : ¬ (l.length : Int) ≤ 10)]; rfl
def I_l14Bent : sh_l14Bent.V → Bool := fun v => match v with | ((), ((z, ()), (s, ()), x, l, m, ())) => inv_l14Bent z s x l m
def P_l14Bent : sh_l14Bent.V → Str × Str × Rd × List Edit × List Edit → Prop := fun v o => match v with | ((), ((z, ()), (s, ()), x, l, m, ())) => post_l14Bent z s x l m o
def M_l14Bent : sh_l14Bent.V → Nat := fun v => match v with | ((), ((z, ()), (s, ()), x, l, m, ())) => mu_l14Bent z s x l m
theorem a_l14Bent : ∀ v : sh_l14Bent.V, I_l14Bent v = true → ∃ o, P_l14Bent v o ∧ ∀ K r, K (.exit 1) (out_l14Bent o) = some r → ∃ N, iter (evC cx0_l14Bent (loopOf Tryd.f65 0)) (headAt cx0_l14Bent 10) N (sh_l14Bent.mk v) K = some r :=
  loop_any (fun v => I_l14Bent v = true) P_l14Bent (.exit 1) M_l14Bent fun v hI => by
    obtain ⟨⟨⟨⟩⟩, ⟨⟨(z : Str), ⟨⟩⟩, ⟨(s : Str), ⟨⟩⟩, (x : Den TR), (l : List (Edit)), (m : List (Edit)), ⟨⟩⟩⟩ := v
    rcases r_l14Bent z s x l m hI with ⟨o, h1, h2⟩ | ⟨z', s', x', l', m', h1, h2, h3, h4⟩
    · exact .inl ⟨o, h1, h2⟩
    · exact .inr ⟨V_l14Bent z' s' x' l' m', h1, h2, h3, h4⟩
noncomputable def g_l14Bent : St → Cont → Option Fin := gEnd sh_l14Bent I_l14Bent out_l14Bent (evC cx0_l14Bent (loopOf Tryd.f65 0)) (headAt cx0_l14Bent 10) P_l14Bent (.exit 1)
noncomputable def E_l14Bent (z : Str) (s : Str) (x : Den TR) (l : List (Edit)) (m : List (Edit)) : Str × Str × Rd × List Edit × List Edit := endOf sh_l14Bent.mk out_l14Bent (evC cx0_l14Bent (loopOf Tryd.f65 0)) (headAt cx0_l14Bent 10) P_l14Bent (.exit 1) (V_l14Bent z s x l m)
theorem q_l14Bent (z : Str) (s : Str) (x : Den TR) (l : List (Edit)) (m : List (Edit)) (hI : inv_l14Bent z s x l m = true) : post_l14Bent z s x l m (E_l14Bent z s x l m) := (endOf_spec (a_l14Bent (V_l14Bent z s x l m) hI)).1
noncomputable def cx_l14Bent : Cx := cx0_l14Bent.withLoops (look [(10, g_l14Bent)])
theorem l_l14Bent : ∀ st K r, g_l14Bent st K = some r → ∃ N, iter (evC cx_l14Bent (loopOf Tryd.f65 0)) (headAt cx_l14Bent 10) N st K = some r := with_ok (by kernel_rfl) (gEnd_ok a_l14Bent)
def outH (h : Hist) (x : Rd) : Option Fin := some (.d (ofD TH h), [(0, bR x)])
theorem y_spec_l14Bent (x : Rd) (h : Hist) : evFn cx_l14Bent Tryd.f65 true [.one (.ptr 0 0), ofD TH h] [boxD 87 TR x] =
  need (smallH h) (need (rdOk x) (branch (decide (pickV x 40 = 0)) (need (rdOk (rdGo x 1) && Nat.blt 0 3) (need (decide (h.1.length + (ofV (rdGo x 1) [[101], [65], [97]]).length ≤ 9223372036854775807)) (outH (h.1 ++ ofV (rdGo x 1) [[101], [65], [97]], h.2.1, h.2.2) (go2 x))))
  (branch (decide (pickV x 40 = 1)) (need (rdAt (rdGo x 1) 999000) (need (fits (h.2.1.length + 1) 32) (outH (h.1, h.2.1 ++ [(F_spec_l8Any (rdGo x 1) h.1).1], h.2.2) (F_spec_l8Any (rdGo x 1) h.1).2)))
  (branch (decide (pickV x 40 = 2)) (need (rdOk (rdGo x 1) && Nat.blt 0 3) (need (fits (h.2.2.length + 1) 32) (outH (h.1, h.2.1, h.2.2 ++ [(2, numV (rdGo x 1) [0, 9, -1], [])]) (go2 x))))
  (branch (decide (pickV x 40 = 3)) (need (inv_l14Bent [] h.1 (rdGo x 1) h.2.1 h.2.2) (outH ((E_l14Bent [] h.1 (rdGo x 1) h.2.1 h.2.2).2.1, (E_l14Bent [] h.1 (rdGo x 1) h.2.1 h.2.2).2.2.2.1, (E_l14Bent [] h.1 (rdGo x 1) h.2.1 h.2.2).2.2.2.2) (E_l14Bent [] h.1 (rdGo x 1) h.2.1 h.2.2).2.2.1)) (outH h (rdGo x 1))))))) := by kernel_rfl
theorem e_spec_l14Bent (x : Rd) (h : Hist) (hx : Fit TR x)  (hpre : ((smallH h && Nat.ble (List.length h.1) 1048576) && rdAt x 900000) = true) : ∃ q : (Hist) × Rd, evFn (cx_l14Bent) Tryd.f65 true [.one (.ptr 0 0), ofD TH h] [boxD 87 TR x] = some (.d (ofD TH q.1), [(0, some (boxD 87 TR q.2))]) ∧ ((∀ k, szN k h → szN (k + 11) q.1) ∧ Adv x q.2 10) := by
  obtain ⟨r, h1, h2⟩ : Ok (evFn (cx_l14Bent) Tryd.f65 true [.one (.ptr 0 0), ofD TH h] [boxD 87 TR x]) (fun r => ∃ (v : Hist) (x' : Rd), r = (.d (ofD TH v), [(0, some (boxD 87 TR x'))]) ∧ ((∀ k, szN k h → szN (k + 11) v) ∧ Adv x x' 10)) := by
    rw [Bool.and_eq_true] at hpre
    obtain ⟨hs, hk⟩ := hpre
    rw [Bool.and_eq_true, Nat.ble_eq] at hs
    obtain ⟨hs, ht⟩ := hs
    have f0 := fit_fitR hx
    have k1 : rdAt (rdGo x 1) 999000 = true := at1 hk (by omega)
    have f1 : Fit TR (rdGo x 1) := fitR_fit (by rw [fitR_adv (.one x)]; exact f0) k1 (by omega)
    have hsm := smallH_iff.1 hs
    have hf : h.1.length ≤ 9223372036854775807 := by omega
    rw [y_spec_l14Bent, hs, ok1 hk (by omega), ok1 k1 (by omega), k1, show fits (h.2.1.length + 1) 32 = true from decide_eq_true (by omega), show fits (h.2.2.length + 1) 32 = true from decide_eq_true (by omega)]
    have ho : (ofV (rdGo x 1) [[101], [65], [97]]).length ≤ 1 := ofV_len (by decide)
    unfold outH
    refine Ok.need rfl (Ok.need rfl (Ok.br (fun _ => Ok.need rfl ?_) fun _ => Ok.br (fun _ => Ok.need rfl (Ok.need rfl (Ok.ret ⟨_, _, rfl, ?_, ?_⟩))) fun _ => Ok.br (fun _ => Ok.need rfl (Ok.need rfl (Ok.ret ⟨_, _, rfl, ?_, ?_⟩))) fun _ => Ok.br (fun _ => Ok.need rfl (Ok.ret ⟨_, _, rfl, ?_, ?_⟩)) fun _ => Ok.ret ⟨_, _, rfl, ?_, ?_⟩))
    · rw [decide_eq_true (by omega : h.1.length + (ofV (rdGo x 1) [[101], [65], [97]]).length ≤ 9223372036854775807)]
      refine Ok.need rfl (Ok.ret ⟨_, _, rfl, ?_, (Adv.two x).le (by omega)⟩)
      rintro k ⟨g1, g2, g3⟩; exact ⟨by show (h.1 ++ ofV (rdGo x 1) _).length ≤ _; rw [List.length_append]; omega, by show h.2.1.length ≤ _; omega, by show h.2.2.length ≤ _; omega⟩
    · rintro k ⟨g1, g2, g3⟩; exact ⟨by show h.1.length ≤ _; omega, by show (h.2.1 ++ [_]).length ≤ _; rw [List.length_append, List.length_singleton]; omega, by show h.2.2.length ≤ _; omega⟩
    · exact ((Adv.one x).trans (p_spec_l8Any (rdGo x 1) h.1 f1 hf k1)).le (by omega)
    · rintro k ⟨g1, g2, g3⟩; exact ⟨by show h.1.length ≤ _; omega, by show h.2.1.length ≤ _; omega, by show (h.2.2 ++ [_]).length ≤ _; rw [List.length_append, List.length_singleton]; omega⟩
    · exact (Adv.two x).le (by omega)
    · obtain ⟨q1, q2, q3, q4⟩ := q_l14Bent [] h.1 (rdGo x 1) h.2.1 h.2.2 rfl
      rintro k ⟨g1, g2, g3⟩
      exact ⟨by show (E_l14Bent [] h.1 (rdGo x 1) h.2.1 h.2.2).2.1.length ≤ _; rw [q1]; omega, by show (E_l14Bent [] h.1 (rdGo x 1) h.2.1 h.2.2).2.2.2.1.length ≤ _; omega, by show (E_l14Bent [] h.1 (rdGo x 1) h.2.1 h.2.2).2.2.2.2.length ≤ _; rw [q3]; omega⟩
    · obtain ⟨q1, q2, q3, q4⟩ := q_l14Bent [] h.1 (rdGo x 1) h.2.1 h.2.2 rfl
      rw [q2]; exact (Adv.one x).le (by omega)
    · rintro k ⟨g1, g2, g3⟩; exact ⟨by omega, by omega, by omega⟩
    · exact (Adv.one x).le (by omega)
  obtain ⟨v, x', h2, h3⟩ := h2
  exact ⟨(v, x'), by rw [h1, h2], h3⟩
noncomputable def F_spec_l14Bent (x : Rd) (h : Hist) : (Hist) × Rd := oneOf (fun q : (Hist) × Rd => evFn (cx_l14Bent) Tryd.f65 true [.one (.ptr 0 0), ofD TH h] [boxD 87 TR x] = some (.d (ofD TH q.1), [(0, some (boxD 87 TR q.2))]) ∧ ((∀ k, szN k h → szN (k + 11) q.1) ∧ Adv x q.2 10))
theorem p_spec_l14Bent (x : Rd) (h : Hist) (hx : Fit TR x)  (hpre : ((smallH h && Nat.ble (List.length h.1) 1048576) && rdAt x 900000) = true) : (∀ k, szN k h → szN (k + 11) (F_spec_l14Bent x h).1) ∧ Adv x (F_spec_l14Bent x h).2 10 := (oneOf_spec (e_spec_l14Bent x h hx  hpre)).2
theorem s_spec_l14Bent (x : Rd) (h : Hist) (hx : Fit TR x)  (hpre : ((smallH h && Nat.ble (List.length h.1) 1048576) && rdAt x 900000) = true) : Sat Tryd.prog 65 [.one (.ptr 0 0), ofD TH h] [boxD 87 TR x] (.d (ofD TH (F_spec_l14Bent x h).1)) [(0, some (boxD 87 TR (F_spec_l14Bent x h).2))] :=
  fn_sound (cx := cx_l14Bent) Tryd.func65 rfl ttOk Γ56ok mixed (fun c hc => LoopsOk.one (b := loopOf Tryd.f65 0) (id := 10) (g := g_l14Bent) (by cases hc; kernel_rfl) rfl l_l14Bent) (ro := true) (oneOf_spec (e_spec_l14Bent x h hx  hpre)).1
noncomputable def c_spec_l14Bent : Con := conB 87 TR [TH] fun (x : Rd) (h : Hist) => (some ((smallH h && Nat.ble (List.length h.1) 1048576) && rdAt x 900000), .d (ofD TH (F_spec_l14Bent x h).1), (F_spec_l14Bent x h).2)
theorem k_spec_l14Bent : ConOk Tryd.prog 65 c_spec_l14Bent := conB_ok Tryd.call65 fun x hx h _ hqq => s_spec_l14Bent x h hx  (pre_of hqq)
noncomputable def Γ57 : List (Nat × Con) := (65, c_spec_l14Bent) :: Γ56
theorem Γ57ok : EnvOk Tryd.prog (look Γ57) := .cons k_spec_l14Bent Γ56ok

noncomputable def someV (l : List Int) : Hist × Rd := F_spec_l14Some (openV l)
theorem openV_fit {l : List Int} (hl : Fit TB l) {y : Rd} {c k : Int} (h : Adv (openV l) y c) (hc : c ≤ k) (hk : k ≤ 1000000) : Fit TR y ∧ rdAt y k = true := by
  have h1 : rdAt y k = true := h.at (openV_at l) (by omega)
  refine ⟨fitR_fit (by rw [fitR_adv h]; unfold fitR; rw [openV_by hl, Bool.true_and, Nat.ble_eq]; show (l.take 2000).length ≤ _; rw [List.length_take]; omega) h1 hk, h1⟩
theorem some_ok {l : List Int} (hl : Fit TB l) : szN 1000 (someV l).1 ∧ Adv (openV l) (someV l).2 2000 := by
  have p := p_spec_l14Some (openV l) (openV_fit hl (Adv.refl _) (k := 0) (by omega) (by omega)).1 rfl
  exact ⟨szN_of p.1, p.2⟩
theorem some_pre {l : List Int} (hl : Fit TB l) : ((smallH (someV l).1 && Nat.ble (List.length (someV l).1.1) 1048576) && rdAt (someV l).2 900000) = true := by
  obtain ⟨h1, h2⟩ := some_ok hl
  rw [szN_small h1 (by omega), h2.at (openV_at l) (by omega), Nat.ble_eq_true_of_le (by have := h1.1; omega)]; rfl
noncomputable def bentV (l : List Int) : Hist × Rd := F_spec_l14Bent (someV l).2 (someV l).1
theorem bent_ok {l : List Int} (hl : Fit TB l) : szN 1011 (bentV l).1 ∧ Adv (openV l) (bentV l).2 2010 := by
  obtain ⟨h1, h2⟩ := some_ok hl
  have p := p_spec_l14Bent (someV l).2 (someV l).1 (openV_fit hl h2 (k := 900000) (by omega) (by omega)).1 (some_pre hl)
  exact ⟨p.1 1000 h1, (h2.trans p.2).le (by omega)⟩
theorem e_spec_l14Draw (l : List Int) (hl : Fit TB l) : ∃ q : Hist, evFn (cxOf Γ57 Tryd.f62.ntmps [] [] [] []) Tryd.f62 true [ofD TB l] [] = some (.d (ofD TH q), []) ∧ (szN 1011 q) := by
  obtain ⟨r, h1, h2⟩ : Ok (evFn (cxOf Γ57 Tryd.f62.ntmps [] [] [] []) Tryd.f62 true [ofD TB l] []) (fun r => ∃ (v : Hist), r = (.d (ofD TH v), []) ∧ (szN 1011 v)) := by
    have y : evFn (cxOf Γ57 Tryd.f62.ntmps [] [] [] []) Tryd.f62 true [ofD TB l] [] = need (rdAt (openV l) 900000) (need ((smallH (someV l).1 && Nat.ble (List.length (someV l).1.1) 1048576) && rdAt (someV l).2 900000) (some (.d (ofD TH (bentV l).1), []))) := by kernel_rfl
    rw [y, some_pre hl]
    exact Ok.need rfl (Ok.need rfl (Ok.ret ⟨_, rfl, (bent_ok hl).1⟩))
  obtain ⟨v, h2, h3⟩ := h2
  exact ⟨v, by rw [h1, h2], h3⟩
noncomputable def F_spec_l14Draw (l : List Int) : Hist := oneOf (fun q : Hist => evFn (cxOf Γ57 Tryd.f62.ntmps [] [] [] []) Tryd.f62 true [ofD TB l] [] = some (.d (ofD TH q), []) ∧ (szN 1011 q))
theorem p_spec_l14Draw (l : List Int) (hl : Fit TB l) : szN 1011 (F_spec_l14Draw l) := (oneOf_spec (e_spec_l14Draw l hl)).2
theorem s_spec_l14Draw (l : List Int) (hl : Fit TB l) : Sat Tryd.prog 62 [ofD TB l] [] (.d (ofD TH (F_spec_l14Draw l))) [] :=
  fn_sound (cx := cxOf Γ57 Tryd.f62.ntmps [] [] [] []) Tryd.func62 rfl ttOk Γ57ok mixed (fun c hc => LoopsOk.nil (by cases hc; kernel_rfl)) (ro := true) (oneOf_spec (e_spec_l14Draw l hl)).1
noncomputable def c_spec_l14Draw : Con := conT [TB] fun (l : List Int) => (none, .d (ofD TH (F_spec_l14Draw l)))
theorem k_spec_l14Draw : ConOk Tryd.prog 62 c_spec_l14Draw := conT_ok Tryd.call62 fun l hl _ => s_spec_l14Draw l hl
noncomputable def Γ58 : List (Nat × Con) := (62, c_spec_l14Draw) :: Γ57
theorem Γ58ok : EnvOk Tryd.prog (look Γ58) := .cons k_spec_l14Draw Γ57ok

theorem e_spec_DrawHistAgain (l : List Int) (hl : Fit TB l) : ∃ q : Hist, evFn (cxOf Γ58 Tryd.f39.ntmps [] [] [] []) Tryd.f39 true [ofD TB l] [] = some (.d (ofD TH q), []) ∧ (szN 1011 q) := by
  obtain ⟨r, h1, h2⟩ : Ok (evFn (cxOf Γ58 Tryd.f39.ntmps [] [] [] []) Tryd.f39 true [ofD TB l] []) (fun r => ∃ (v : Hist), r = (.d (ofD TH v), []) ∧ (szN 1011 v)) := by
    have y : evFn (cxOf Γ58 Tryd.f39.ntmps [] [] [] []) Tryd.f39 true [ofD TB l] [] = some (.d (ofD TH (F_spec_l14Draw l)), []) := by kernel_rfl
    rw [y]
    exact Ok.ret ⟨_, rfl, p_spec_l14Draw l hl⟩
  obtain ⟨v, h2, h3⟩ := h2
  exact ⟨v, by rw [h1, h2], h3⟩
noncomputable def F_spec_DrawHistAgain (l : List Int) : Hist := oneOf (fun q : Hist => evFn (cxOf Γ58 Tryd.f39.ntmps [] [] [] []) Tryd.f39 true [ofD TB l] [] = some (.d (ofD TH q), []) ∧ (szN 1011 q))
theorem p_spec_DrawHistAgain (l : List Int) (hl : Fit TB l) : szN 1011 (F_spec_DrawHistAgain l) := (oneOf_spec (e_spec_DrawHistAgain l hl)).2
theorem s_spec_DrawHistAgain (l : List Int) (hl : Fit TB l) : Sat Tryd.prog 39 [ofD TB l] [] (.d (ofD TH (F_spec_DrawHistAgain l))) [] :=
  fn_sound (cx := cxOf Γ58 Tryd.f39.ntmps [] [] [] []) Tryd.func39 rfl ttOk Γ58ok mixed (fun c hc => LoopsOk.nil (by cases hc; kernel_rfl)) (ro := true) (oneOf_spec (e_spec_DrawHistAgain l hl)).1
noncomputable def c_spec_DrawHistAgain : Con := conT [TB] fun (l : List Int) => (none, .d (ofD TH (F_spec_DrawHistAgain l)))
theorem k_spec_DrawHistAgain : ConOk Tryd.prog 39 c_spec_DrawHistAgain := conT_ok Tryd.call39 fun l hl _ => s_spec_DrawHistAgain l hl
noncomputable def Γ59 : List (Nat × Con) := (39, c_spec_DrawHistAgain) :: Γ58
theorem Γ59ok : EnvOk Tryd.prog (look Γ59) := .cons k_spec_DrawHistAgain Γ58ok

theorem e_spec_DrawHistBack (l : List Int) (hl : Fit TB l) : ∃ q : Hist, evFn (cxOf Γ59 Tryd.f43.ntmps [] [] [] []) Tryd.f43 true [ofD TB l] [] = some (.d (ofD TH q), []) ∧ (szN 1011 q) := by
  obtain ⟨r, h1, h2⟩ : Ok (evFn (cxOf Γ59 Tryd.f43.ntmps [] [] [] []) Tryd.f43 true [ofD TB l] []) (fun r => ∃ (v : Hist), r = (.d (ofD TH v), []) ∧ (szN 1011 v)) := by
    have y : evFn (cxOf Γ59 Tryd.f43.ntmps [] [] [] []) Tryd.f43 true [ofD TB l] [] = some (.d (ofD TH (F_spec_l14Draw l)), []) := by kernel_rfl
    rw [y]
    exact Ok.ret ⟨_, rfl, p_spec_l14Draw l hl⟩
  obtain ⟨v, h2, h3⟩ := h2
  exact ⟨v, by rw [h1, h2], h3⟩
noncomputable def F_spec_DrawHistBack (l : List Int) : Hist := oneOf (fun q : Hist => evFn (cxOf Γ59 Tryd.f43.ntmps [] [] [] []) Tryd.f43 true [ofD TB l] [] = some (.d (ofD TH q), []) ∧ (szN 1011 q))
theorem p_spec_DrawHistBack (l : List Int) (hl : Fit TB l) : szN 1011 (F_spec_DrawHistBack l) := (oneOf_spec (e_spec_DrawHistBack l hl)).2
theorem s_spec_DrawHistBack (l : List Int) (hl : Fit TB l) : Sat Tryd.prog 43 [ofD TB l] [] (.d (ofD TH (F_spec_DrawHistBack l))) [] :=
  fn_sound (cx := cxOf Γ59 Tryd.f43.ntmps [] [] [] []) Tryd.func43 rfl ttOk Γ59ok mixed (fun c hc => LoopsOk.nil (by cases hc; kernel_rfl)) (ro := true) (oneOf_spec (e_spec_DrawHistBack l hl)).1
noncomputable def c_spec_DrawHistBack : Con := conT [TB] fun (l : List Int) => (none, .d (ofD TH (F_spec_DrawHistBack l)))
theorem k_spec_DrawHistBack : ConOk Tryd.prog 43 c_spec_DrawHistBack := conT_ok Tryd.call43 fun l hl _ => s_spec_DrawHistBack l hl
noncomputable def Γ60 : List (Nat × Con) := (43, c_spec_DrawHistBack) :: Γ59
theorem Γ60ok : EnvOk Tryd.prog (look Γ60) := .cons k_spec_DrawHistBack Γ59ok

theorem e_spec_DrawHistDo (l : List Int) (hl : Fit TB l) : ∃ q : Hist × Edit, evFn (cxOf Γ60 Tryd.f42.ntmps [] [] [] []) Tryd.f42 true [ofD TB l] [] = some (.tup [ofD TH q.1, ofD TE q.2], []) ∧ (szN 1011 q.1) := by
  obtain ⟨r, h1, h2⟩ : Ok (evFn (cxOf Γ60 Tryd.f42.ntmps [] [] [] []) Tryd.f42 true [ofD TB l] []) (fun r => ∃ (v : Hist × Edit), r = (.tup [ofD TH v.1, ofD TE v.2], []) ∧ (szN 1011 v.1)) := by
    have y : evFn (cxOf Γ60 Tryd.f42.ntmps [] [] [] []) Tryd.f42 true [ofD TB l] [] = need (rdAt (openV l) 900000) (need ((smallH (someV l).1 && Nat.ble (List.length (someV l).1.1) 1048576) && rdAt (someV l).2 900000) (need (rdAt (bentV l).2 999000) (some (.tup [ofD TH (bentV l).1, ofD TE (F_spec_l8Any (bentV l).2 (bentV l).1.1).1], [])))) := by kernel_rfl
    rw [y, some_pre hl, (bent_ok hl).2.at (openV_at l) (k' := 999000) (by omega)]
    exact Ok.need rfl (Ok.need rfl (Ok.need rfl (Ok.ret ⟨((bentV l).1, (F_spec_l8Any (bentV l).2 (bentV l).1.1).1), rfl, (bent_ok hl).1⟩)))
  obtain ⟨v, h2, h3⟩ := h2
  exact ⟨v, by rw [h1, h2], h3⟩
noncomputable def F_spec_DrawHistDo (l : List Int) : Hist × Edit := oneOf (fun q : Hist × Edit => evFn (cxOf Γ60 Tryd.f42.ntmps [] [] [] []) Tryd.f42 true [ofD TB l] [] = some (.tup [ofD TH q.1, ofD TE q.2], []) ∧ (szN 1011 q.1))
theorem p_spec_DrawHistDo (l : List Int) (hl : Fit TB l) : szN 1011 (F_spec_DrawHistDo l).1 := (oneOf_spec (e_spec_DrawHistDo l hl)).2
theorem s_spec_DrawHistDo (l : List Int) (hl : Fit TB l) : Sat Tryd.prog 42 [ofD TB l] [] (.tup [ofD TH (F_spec_DrawHistDo l).1, ofD TE (F_spec_DrawHistDo l).2]) [] :=
  fn_sound (cx := cxOf Γ60 Tryd.f42.ntmps [] [] [] []) Tryd.func42 rfl ttOk Γ60ok mixed (fun c hc => LoopsOk.nil (by cases hc; kernel_rfl)) (ro := true) (oneOf_spec (e_spec_DrawHistDo l hl)).1
noncomputable def c_spec_DrawHistDo : Con := conT [TB] fun (l : List Int) => (none, .tup [ofD TH (F_spec_DrawHistDo l).1, ofD TE (F_spec_DrawHistDo l).2])
theorem k_spec_DrawHistDo : ConOk Tryd.prog 42 c_spec_DrawHistDo := conT_ok Tryd.call42 fun l hl _ => s_spec_DrawHistDo l hl
noncomputable def Γ61 : List (Nat × Con) := (42, c_spec_DrawHistDo) :: Γ60
theorem Γ61ok : EnvOk Tryd.prog (look Γ61) := .cons k_spec_DrawHistDo Γ60ok

def outSE (s : Str) (e : Edit) : Option Fin := some (.tup [ofD .str s, ofD TE e], [])
noncomputable def txtV (l : List Int) : Str × Rd := F_spec_l4Text (rdGo (openV l) 1) (numV (openV l) [3, 5, 0, 1, 8, 20])
theorem txt_ok {l : List Int} (hl : Fit TB l) : (rdAt (rdGo (openV l) 1) 999000 && decide (numV (openV l) [3, 5, 0, 1, 8, 20] ≤ 1000)) = true ∧ (txtV l).1.length ≤ 20 ∧ Adv (openV l) (txtV l).2 21 := by
  have k1 : rdAt (rdGo (openV l) 1) 999000 = true := at1 (openV_at l) (by omega)
  have hm := numV_mem (x := openV l) (l := [3, 5, 0, 1, 8, 20]) (by simp) (byB_iff.1 (openV_by hl)) (ok1 (openV_at l) (by omega))
  have hn : 0 ≤ numV (openV l) [3, 5, 0, 1, 8, 20] ∧ numV (openV l) [3, 5, 0, 1, 8, 20] ≤ 20 := by
    generalize numV (openV l) [3, 5, 0, 1, 8, 20] = n at hm
    simp only [List.mem_cons, List.mem_nil_iff, or_false] at hm
    omega
  have hp : (rdAt (rdGo (openV l) 1) 999000 && decide (numV (openV l) [3, 5, 0, 1, 8, 20] ≤ 1000)) = true := by rw [k1, decide_eq_true (by omega)]; rfl
  have p := p_spec_l4Text (rdGo (openV l) 1) (numV (openV l) [3, 5, 0, 1, 8, 20]) (openV_fit hl (.one _) (k := 1) (by omega) (by omega)).1 (wrap_small (by omega) (by omega)) hp
  exact ⟨hp, Nat.le_trans p.1 (by omega), ((Adv.one _).trans p.2).le (by omega)⟩
theorem e_spec_DrawEditDo (l : List Int) (hl : Fit TB l) : ∃ q : Str × Edit, evFn (cxOf Γ61 Tryd.f53.ntmps [] [] [] []) Tryd.f53 true [ofD TB l] [] = some (.tup [ofD .str q.1, ofD TE q.2], []) ∧ (q.1.length ≤ 30) := by
  obtain ⟨r, h1, h2⟩ : Ok (evFn (cxOf Γ61 Tryd.f53.ntmps [] [] [] []) Tryd.f53 true [ofD TB l] []) (fun r => ∃ (v : Str × Edit), r = (.tup [ofD .str v.1, ofD TE v.2], []) ∧ (v.1.length ≤ 30)) := by
    have y : evFn (cxOf Γ61 Tryd.f53.ntmps [] [] [] []) Tryd.f53 true [ofD TB l] [] = need (rdOk (openV l) && Nat.blt 0 6) (need (rdAt (rdGo (openV l) 1) 999000 && decide (numV (openV l) [3, 5, 0, 1, 8, 20] ≤ 1000)) (need (rdOk (txtV l).2) (branch (decide (pickV (txtV l).2 20 = 0))
      (need (rdOk (rdGo (txtV l).2 1) && Nat.blt 0 3) (need (decide ((txtV l).1.length + (ofV (rdGo (txtV l).2 1) [[101], [65], [97]]).length ≤ 9223372036854775807)) (need (rdAt (go2 (txtV l).2) 999000) (outSE ((txtV l).1 ++ ofV (rdGo (txtV l).2 1) [[101], [65], [97]]) (F_spec_l8Any (go2 (txtV l).2) ((txtV l).1 ++ ofV (rdGo (txtV l).2 1) [[101], [65], [97]])).1))))
      (need (rdAt (rdGo (txtV l).2 1) 999000) (outSE (txtV l).1 (F_spec_l8Any (rdGo (txtV l).2 1) (txtV l).1).1))))) := by kernel_rfl
    obtain ⟨h1, h2, h3⟩ := txt_ok hl
    have ho : (ofV (rdGo (txtV l).2 1) [[101], [65], [97]]).length ≤ 1 := ofV_len (by decide)
    have k1 : rdAt (txtV l).2 21 = true := h3.at (openV_at l) (by omega)
    have k2 : rdAt (rdGo (txtV l).2 1) 999000 = true := at1 k1 (by omega)
    have k3 : rdAt (go2 (txtV l).2) 999000 = true := (Adv.two _).at k1 (by omega)
    rw [y, h1, ok1 k1 (by omega), ok1 k2 (by omega), k2, k3, decide_eq_true (by omega : (txtV l).1.length + (ofV (rdGo (txtV l).2 1) [[101], [65], [97]]).length ≤ 9223372036854775807)]
    refine Ok.need rfl (Ok.need rfl (Ok.need rfl (Ok.br (fun _ => Ok.need rfl (Ok.need rfl (Ok.need rfl (Ok.ret ⟨(_, _), rfl, ?_⟩)))) fun _ => Ok.need rfl (Ok.ret ⟨(_, _), rfl, ?_⟩))))
    · show ((txtV l).1 ++ _).length ≤ 30; rw [List.length_append]; omega
    · show (txtV l).1.length ≤ 30; omega
  obtain ⟨v, h2, h3⟩ := h2
  exact ⟨v, by rw [h1, h2], h3⟩
noncomputable def F_spec_DrawEditDo (l : List Int) : Str × Edit := oneOf (fun q : Str × Edit => evFn (cxOf Γ61 Tryd.f53.ntmps [] [] [] []) Tryd.f53 true [ofD TB l] [] = some (.tup [ofD .str q.1, ofD TE q.2], []) ∧ (q.1.length ≤ 30))
theorem p_spec_DrawEditDo (l : List Int) (hl : Fit TB l) : (F_spec_DrawEditDo l).1.length ≤ 30 := (oneOf_spec (e_spec_DrawEditDo l hl)).2
theorem s_spec_DrawEditDo (l : List Int) (hl : Fit TB l) : Sat Tryd.prog 53 [ofD TB l] [] (.tup [ofD .str (F_spec_DrawEditDo l).1, ofD TE (F_spec_DrawEditDo l).2]) [] :=
  fn_sound (cx := cxOf Γ61 Tryd.f53.ntmps [] [] [] []) Tryd.func53 rfl ttOk Γ61ok mixed (fun c hc => LoopsOk.nil (by cases hc; kernel_rfl)) (ro := true) (oneOf_spec (e_spec_DrawEditDo l hl)).1
noncomputable def c_spec_DrawEditDo : Con := conT [TB] fun (l : List Int) => (none, .tup [ofD .str (F_spec_DrawEditDo l).1, ofD TE (F_spec_DrawEditDo l).2])
theorem k_spec_DrawEditDo : ConOk Tryd.prog 53 c_spec_DrawEditDo := conT_ok Tryd.call53 fun l hl _ => s_spec_DrawEditDo l hl
noncomputable def Γ62 : List (Nat × Con) := (53, c_spec_DrawEditDo) :: Γ61
theorem Γ62ok : EnvOk Tryd.prog (look Γ62) := .cons k_spec_DrawEditDo Γ61ok

theorem e_spec_DrawHistNew (l : List Int) (hl : Fit TB l) : ∃ q : Str, evFn (cxOf Γ62 Tryd.f31.ntmps [] [] [] []) Tryd.f31 true [ofD TB l] [] = some (.d (ofD .str q), []) ∧ (List.length q ≤ 30) := by
  obtain ⟨r, h1, h2⟩ : Ok (evFn (cxOf Γ62 Tryd.f31.ntmps [] [] [] []) Tryd.f31 true [ofD TB l] []) (fun r => ∃ (v : Str), r = (.d (ofD .str v), []) ∧ (List.length v ≤ 30)) := by
    have y : evFn (cxOf Γ62 Tryd.f31.ntmps [] [] [] []) Tryd.f31 true [ofD TB l] [] = some (.d (ofD .str (F_spec_DrawEditDo l).1), []) := by kernel_rfl
    rw [y]
    exact Ok.ret ⟨_, rfl, p_spec_DrawEditDo l hl⟩
  obtain ⟨v, h2, h3⟩ := h2
  exact ⟨v, by rw [h1, h2], h3⟩
noncomputable def F_spec_DrawHistNew (l : List Int) : Str := oneOf (fun q : Str => evFn (cxOf Γ62 Tryd.f31.ntmps [] [] [] []) Tryd.f31 true [ofD TB l] [] = some (.d (ofD .str q), []) ∧ (List.length q ≤ 30))
theorem p_spec_DrawHistNew (l : List Int) (hl : Fit TB l) : List.length (F_spec_DrawHistNew l) ≤ 30 := (oneOf_spec (e_spec_DrawHistNew l hl)).2
theorem s_spec_DrawHistNew (l : List Int) (hl : Fit TB l) : Sat Tryd.prog 31 [ofD TB l] [] (.d (ofD .str (F_spec_DrawHistNew l))) [] :=
  fn_sound (cx := cxOf Γ62 Tryd.f31.ntmps [] [] [] []) Tryd.func31 rfl ttOk Γ62ok mixed (fun c hc => LoopsOk.nil (by cases hc; kernel_rfl)) (ro := true) (oneOf_spec (e_spec_DrawHistNew l hl)).1
noncomputable def c_spec_DrawHistNew : Con := conT [TB] fun (l : List Int) => (none, .d (ofD .str (F_spec_DrawHistNew l)))
theorem k_spec_DrawHistNew : ConOk Tryd.prog 31 c_spec_DrawHistNew := conT_ok Tryd.call31 fun l hl _ => s_spec_DrawHistNew l hl
noncomputable def Γ63 : List (Nat × Con) := (31, c_spec_DrawHistNew) :: Γ62
theorem Γ63ok : EnvOk Tryd.prog (look Γ63) := .cons k_spec_DrawHistNew Γ62ok

end Go.Proofs.YtnbkolhmacikaaaDoor.Ev
