/-
  Trees read from texts.
-/
import Derived.Test.YthbpnbbilaobbaaDoorGz
namespace Go.Proofs.YthbpnbbilaobbaaDoor.Ev
open Go
theorem y_impl_leaf (s : Str) : evFn (cxOf Γ79 Tryd.f169.ntmps [] [] [] []) Tryd.f169 true [ofD .str s] [] = (
some ((.d (.agg [(.r (.v (Value.string (mk s)))), (.r (.v (Value.int IntKind.i64 (Int.neg 1)))), (.r (.li (ty60) ([])))])), [])) := by kernel_rfl
theorem s_impl_leaf (s : Str) (_hs : Fit .str s) : Sat Tryd.prog 169 [ofD .str s] [] (.d (ofD .tree (.node s (-1) []))) [] :=
  fn_sound (cx := cxOf Γ79 Tryd.f169.ntmps [] [] [] []) Tryd.func169 rfl ttOk Γ79ok mixed (fun _ _ => LoopsOk.no fun _ => rfl) (ro := true) (by
    rw [y_impl_leaf]; rfl)
noncomputable def c_impl_leaf : Con := conT [.str] fun (s : Str) => (none, .d (ofD .tree (.node s (-1) [])))
theorem k_impl_leaf : ConOk Tryd.prog 169 c_impl_leaf := conT_ok Tryd.call169 fun s hs _ => s_impl_leaf s hs
noncomputable def Γ80 : List (Nat × Con) := (169, c_impl_leaf) :: Γ79
theorem Γ80ok : EnvOk Tryd.prog (look Γ80) := .cons k_impl_leaf Γ79ok

def hasP (s p : Str) : Bool := bif decide ((p.length : Int) ≤ (s.length : Int)) then decide (List.take p.length s = p) else false
theorem y_internal_stringslite_HasPrefix (s : Str) (p : Str) : evFn (cxOf Γ80 Tryd.f228.ntmps [] [] [] []) Tryd.f228 true [ofD .str s, ofD .str p] [] = (
need (bif decide (decide ((p.length : Int) ≤ (s.length : Int)) = true) then inr 0 ((p.length : Int)) s.length else true) <| some ((vB (bif decide ((p.length : Int) ≤ (s.length : Int)) then decide ((List.take (((p.length : Int)).toNat - (0 : Int).toNat) s) = p) else false)), [])) := by kernel_rfl
theorem s_internal_stringslite_HasPrefix (s : Str) (_hs : Fit .str s) (p : Str) (_hp : Fit .str p) : Sat Tryd.prog 228 [ofD .str s, ofD .str p] [] (.d (ofD .bool (hasP s p))) [] :=
  fn_sound (cx := cxOf Γ80 Tryd.f228.ntmps [] [] [] []) Tryd.func228 rfl ttOk Γ80ok mixed (fun _ _ => LoopsOk.no fun _ => rfl) (ro := true) (by
    rw [y_internal_stringslite_HasPrefix]
    have e : (bif decide (decide ((List.length p : Int) ≤ (List.length s : Int)) = true) then inr 0 (List.length p : Int) (List.length s) else true) = true := by
      by_cases h : (List.length p : Int) ≤ (List.length s : Int)
      · rw [decide_eq_true h]; exact inr_iff.2 (by omega)
      · rw [decide_eq_false h]; rfl
    rw [e]; rfl)
noncomputable def c_internal_stringslite_HasPrefix : Con := conT [.str, .str] fun (s : Str) (p : Str) => (none, .d (ofD .bool (hasP s p)))
theorem k_internal_stringslite_HasPrefix : ConOk Tryd.prog 228 c_internal_stringslite_HasPrefix := conT_ok Tryd.call228 fun s hs p hp _ => s_internal_stringslite_HasPrefix s hs p hp
noncomputable def Γ81 : List (Nat × Con) := (228, c_internal_stringslite_HasPrefix) :: Γ80
theorem Γ81ok : EnvOk Tryd.prog (look Γ81) := .cons k_internal_stringslite_HasPrefix Γ80ok

theorem y_internal_stringslite_CutPrefix (s : Str) (p : Str) : evFn (cxOf Γ81 Tryd.f207.ntmps [] [] [] []) Tryd.f207 true [ofD .str s, ofD .str p] [] = (
branch (!hasP s p) ( some ((.tup [(.one (.r (.v (Value.string (mk s))))), (.one (.r (.v (Value.bool false))))]), [])) (
 need (inr ((p.length : Int)) ((s.length : Int)) s.length) <| some ((.tup [(.one (.r (.v (Value.string (mk (List.take (((s.length : Int)).toNat - ((p.length : Int)).toNat) (List.drop ((p.length : Int)).toNat s))))))), (.one (.r (.v (Value.bool true))))]), []))) := by kernel_rfl
theorem s_internal_stringslite_CutPrefix (s : Str) (_hs : Fit .str s) (p : Str) (_hp : Fit .str p) : Sat Tryd.prog 207 [ofD .str s, ofD .str p] [] (.tup [ofD .str (bif hasP s p then List.drop (List.length p) s else s), ofD .bool (hasP s p)]) [] :=
  fn_sound (cx := cxOf Γ81 Tryd.f207.ntmps [] [] [] []) Tryd.func207 rfl ttOk Γ81ok mixed (fun _ _ => LoopsOk.no fun _ => rfl) (ro := true) (by
    rw [y_internal_stringslite_CutPrefix]
    cases h : hasP s p
    · rfl
    · have hl : (List.length p : Int) ≤ (List.length s : Int) := by
        unfold hasP at h
        rw [b2, andd] at h
        exact of_decide_eq_true h.1
      have e : List.take (((List.length s : Int)).toNat - ((List.length p : Int)).toNat) (List.drop ((List.length p : Int)).toNat s) = List.drop (List.length p) s := List.take_of_length_le (by rw [List.length_drop]; omega)
      rw [inr_iff.2 (show 0 ≤ (List.length p : Int) ∧ (List.length p : Int) ≤ (List.length s : Int) ∧ (List.length s : Int) ≤ (List.length s : Int) by omega), e]; rfl)
noncomputable def c_internal_stringslite_CutPrefix : Con := conT [.str, .str] fun (s : Str) (p : Str) => (none, .tup [ofD .str (bif hasP s p then List.drop (List.length p) s else s), ofD .bool (hasP s p)])
theorem k_internal_stringslite_CutPrefix : ConOk Tryd.prog 207 c_internal_stringslite_CutPrefix := conT_ok Tryd.call207 fun s hs p hp _ => s_internal_stringslite_CutPrefix s hs p hp
noncomputable def Γ82 : List (Nat × Con) := (207, c_internal_stringslite_CutPrefix) :: Γ81
theorem Γ82ok : EnvOk Tryd.prog (look Γ82) := .cons k_internal_stringslite_CutPrefix Γ81ok

theorem s_strings_CutPrefix (s : Str) (_hs : Fit .str s) (p : Str) (_hp : Fit .str p) : Sat Tryd.prog 170 [ofD .str s, ofD .str p] [] (.tup [ofD .str (bif hasP s p then List.drop (List.length p) s else s), ofD .bool (hasP s p)]) [] :=
  fn_sound (cx := cxOf Γ82 Tryd.f170.ntmps [] [] [] []) Tryd.func170 rfl ttOk Γ82ok mixed (fun _ _ => LoopsOk.no fun _ => rfl) (ro := true) (by
    have y : evFn (cxOf Γ82 Tryd.f170.ntmps [] [] [] []) Tryd.f170 true [ofD .str s, ofD .str p] [] = some (.tup [ofD .str (bif hasP s p then List.drop (List.length p) s else s), ofD .bool (hasP s p)], []) := by kernel_rfl
    exact y)
noncomputable def c_strings_CutPrefix : Con := conT [.str, .str] fun (s : Str) (p : Str) => (none, .tup [ofD .str (bif hasP s p then List.drop (List.length p) s else s), ofD .bool (hasP s p)])
theorem k_strings_CutPrefix : ConOk Tryd.prog 170 c_strings_CutPrefix := conT_ok Tryd.call170 fun s hs p hp _ => s_strings_CutPrefix s hs p hp
noncomputable def Γ83 : List (Nat × Con) := (170, c_strings_CutPrefix) :: Γ82
theorem Γ83ok : EnvOk Tryd.prog (look Γ83) := .cons k_strings_CutPrefix Γ82ok

/-- the head of a tree's text: '[' and the place of a rule -/
def ruleAt (g : Gram) (s : Str) : Option Int := match s with
  | c :: c2 :: _ => bif decide (c = 91) && inb ((c2.toNat : Int) - 48) (List.length g.2) then some ((c2.toNat : Int) - 48) else none
  | _ => none
/-- m trees, one behind the other -/
def rdK (f : Str → GTree × Str × Bool) : Nat → Str → List GTree → Option (List GTree × Str)
  | 0, s, acc => some (acc, s)
  | m + 1, s, acc => bif (f s).2.2 then rdK f m (f s).2.1 (acc ++ [(f s).1]) else none
def rdE (g : Gram) (k : Int) : Option (List GTree × Str) → GTree × Str × Bool
  | none => (tz, [], false)
  | some (ks, s) => (.node (List.getD g.2 k.toNat d0).1 k ks, bif hasP s [93] then List.drop 1 s else s, hasP s [93])
/-- a tree read from the front of a text -/
def rdT (g : Gram) : Nat → Str → GTree × Str × Bool
  | 0, _ => (tz, [], false)
  | n + 1, s => bif decide (s = []) then (tz, [], false) else bif smallS (List.take 1 s) then (.node (List.take 1 s) (-1) [], List.drop 1 s, true) else
    match ruleAt g s with
    | none => (tz, [], false)
    | some k => rdE g k (rdK (rdT g n) (rgt g k).length (List.drop 2 s) [])
noncomputable def conRd (n : Nat) : Con := conT [TG, .str, TI64] fun (g : Gram) (s : Str) (d : Int) => (some (decide (0 ≤ d) && (decide (d < (n : Int)) && (Nat.ble n 100 && szG 20 g))), .tup [ofD .tree (rdT g d.toNat s).1, ofD .str (rdT g d.toNat s).2.1, ofD .bool (rdT g d.toNat s).2.2])
structure LevR where
  n : Nat
  h : ConOk Tryd.prog 113 (conRd n)
noncomputable section
variable [Inhabited LevR]
abbrev lvR : Nat := (default : LevR).n
noncomputable def c_impl_readTreeR : Con := conRd lvR
theorem k_impl_readTreeR : ConOk Tryd.prog 113 c_impl_readTreeR := (default : LevR).h
noncomputable def Γ84 : List (Nat × Con) := (113, c_impl_readTreeR) :: Γ83
theorem Γ84ok : EnvOk Tryd.prog (look Γ84) := .cons k_impl_readTreeR Γ83ok

noncomputable def cb_rd : Cx := cxOf Γ84 Tryd.f113.ntmps [(13, [1, 2, 3, 6, 10, 76, 77])] [(0, [1, 6, 10]), (1, [1, 2, 3, 6, 10, 76, 77]), (1000000, [6, 7, 8])] [(13, [(300010, 60, .tree)])] []
theorem x_impl_readTree (g : Gram) (s z t : Str) (d q r m i : Int) (ks : List GTree) (R : St → Option Fin) (K : Cont) : evC (cb_rd.withLoops (look [])) (loopOf Tryd.f113 0) ⟨[(1, vS s), (2, vI d), (3, .d (.one (.ptr 500000 0))), (6, .d (.one (.ptr 500001 0))), (10, .d (.one (.ptr 500002 0))), (76, vI m), (77, vI i)], [(500000, some (boxD 25 TG g)), (500001, treeO z q), (500002, some (.box 60 [.r (.v (.string (mk t))), .r (.v (.int .i64 r)), .own 500003])), (500003, some (.lis 60 .tree ks))]⟩ (onward (headAt (cb_rd.withLoops (look [])) 13) R K) = (
branch (decide (i < m)) (
 need (decide (0 ≤ W64 (d - 1)) && (decide (W64 (d - 1) < (lvR : Int)) && (lvR.ble 100 && szG 20 g))) <|
 branch (!(rdT g (W64 (d - 1)).toNat s).snd.snd) ( K (.ret) (.mk [(6, (.d (.one (.ptr 500000 0)))), (7, (vS [])), (8, (vB false))] [(500000, (.some (.box 60 [(.r (.v (Value.string (mk [])))), (.r (.v (Value.int IntKind.i64 0))), (.r (.v (Value.slice none 0 0)))])))])) (
  need (fits (ks.length + [GTree.node (rdT g (W64 (d - 1)).toNat s).fst.sign (rdT g (W64 (d - 1)).toNat s).fst.rule (rdT g (W64 (d - 1)).toNat s).fst.kids].length) Tryd.t60.bytes) <| R (.mk [(1, (vS (rdT g (W64 (d - 1)).toNat s).snd.fst)), (2, (vI d)), (3, (.d (.one (.ptr 500000 0)))), (6, (.d (.one (.ptr 500001 0)))), (10, (.d (.one (.ptr 500002 0)))), (76, (vI m)), (77, (vI (W64 (i + 1))))] [(500000, (.some (.box 25 [(.r (.v (Value.string (mk g.fst)))), (.r (.li TRu (g.snd)))]))), (500001, (.some (.box 60 [(.r (.v (Value.string (mk z)))), (.r (.v (Value.int IntKind.i64 q))), (.r (.v (Value.slice none 0 0)))]))), (500002, (.some (.box 60 [(.r (.v (Value.string (mk t)))), (.r (.v (Value.int IntKind.i64 r))), (.own 500003)]))), (500003, (.some (.lis 60 (ty60) (ks.append [GTree.node (rdT g (W64 (d - 1)).toNat s).fst.sign (rdT g (W64 (d - 1)).toNat s).fst.rule (rdT g (W64 (d - 1)).toNat s).fst.kids]))))]))) ( K (.exit 0) (.mk [(1, (vS s)), (6, (.d (.one (.ptr 500000 0)))), (10, (.d (.one (.ptr 500001 0))))] [(500000, (.some (.box 60 [(.r (.v (Value.string (mk z)))), (.r (.v (Value.int IntKind.i64 q))), (.r (.v (Value.slice none 0 0)))]))), (500001, (.some (.box 60 [(.r (.v (Value.string (mk t)))), (.r (.v (Value.int IntKind.i64 r))), (.own 500002)]))), (500002, (.some (.lis 60 (Ty.tree) (ks))))]))) := by kernel_rfl
noncomputable def cx0_rd1 : Cx := (cb_rd).withLoops (look [])
def sh_rd1 : Sh := ([(1, .d .str), (2, .d TI64), (3, .ptr 500000 0), (6, .ptr 500001 0), (10, .ptr 500002 0), (76, .d TI64), (77, .d TI64)], [(500000, .box 25 TG), (500001, .mix 60 [.d .str, .d TI64, .nil]), (500002, .mix 60 [.d .str, .d TI64, .own 500003]), (500003, .lis 60 .tree)])
def pre_rd1 (_s : Str) (d : Int) (m : Int) (i : Int) (g : Gram) (_z : Str) (_q : Int) (_t : Str) (_r : Int) (ks : List (GTree)) : Bool := decide (0 ≤ i) && (decide (i ≤ m) && (decide (m ≤ 8) && (decide ((List.length ks : Int) ≤ i) && (decide (1 ≤ d) && (decide (d ≤ (lvR : Int)) && (Nat.ble lvR 100 && szG 20 g))))))
noncomputable def res_rd1 (s : Str) (d : Int) (m : Int) (i : Int) (g : Gram) (z : Str) (q : Int) (t : Str) (r : Int) (ks : List (GTree)) (K : Cont) : Option Fin := branch (rdK (rdT g (d.toNat - 1)) (m - i).toNat s ks).isSome (K (.exit 0) ⟨[(1, vS ((rdK (rdT g (d.toNat - 1)) (m - i).toNat s ks).getD ([], [])).2), (6, .d (.one (.ptr 500000 0))), (10, .d (.one (.ptr 500001 0)))], [(500000, treeO z q), (500001, some (.box 60 [.r (.v (.string (mk t))), .r (.v (.int .i64 r)), .own 500002])), (500002, some (.lis 60 .tree ((rdK (rdT g (d.toNat - 1)) (m - i).toNat s ks).getD ([], [])).1))]⟩) (K .ret ⟨[(6, .d (.one (.ptr 500000 0))), (7, vS []), (8, vB false)], [(500000, treeO [] 0)]⟩)
def mu_rd1 (_s : Str) (_d : Int) (m : Int) (i : Int) (_g : Gram) (_z : Str) (_q : Int) (_t : Str) (_r : Int) (_ks : List (GTree)) : Nat := (m - i).toNat
theorem r_rd1 (s : Str) (d : Int) (m : Int) (i : Int) (g : Gram) (z : Str) (q : Int) (t : Str) (r : Int) (ks : List (GTree)) (K : Cont) (hI : pre_rd1 s d m i g z q t r ks = true) : (∀ R : St → Option Fin, evC cx0_rd1 (loopOf Tryd.f113 0) ⟨[(1, .d (ofD .str s)), (2, .d (ofD TI64 d)), (3, .d (.one (.ptr 500000 0))), (6, .d (.one (.ptr 500001 0))), (10, .d (.one (.ptr 500002 0))), (76, .d (ofD TI64 m)), (77, .d (ofD TI64 i))], [(500000, some (boxD 25 TG g)), (500001, some (.box 60 ((cellsR .str z).map C.r ++ (cellsR TI64 q).map C.r ++ [.r (.v (.slice none 0 0))]))), (500002, some (.box 60 ((cellsR .str t).map C.r ++ (cellsR TI64 r).map C.r ++ [.own 500003]))), (500003, some (.lis 60 .tree ks))]⟩ (onward (headAt cx0_rd1 13) R K) = res_rd1 s d m i g z q t r ks K) ∨
    (∃ (s' : Str) (d' : Int) (m' : Int) (i' : Int) (g' : Gram) (z' : Str) (q' : Int) (t' : Str) (r' : Int) (ks' : List (GTree)), pre_rd1 s' d' m' i' g' z' q' t' r' ks' = true ∧ mu_rd1 s' d' m' i' g' z' q' t' r' ks' < mu_rd1 s d m i g z q t r ks ∧ res_rd1 s' d' m' i' g' z' q' t' r' ks' K = res_rd1 s d m i g z q t r ks K ∧ ∀ R : St → Option Fin, evC cx0_rd1 (loopOf Tryd.f113 0) ⟨[(1, .d (ofD .str s)), (2, .d (ofD TI64 d)), (3, .d (.one (.ptr 500000 0))), (6, .d (.one (.ptr 500001 0))), (10, .d (.one (.ptr 500002 0))), (76, .d (ofD TI64 m)), (77, .d (ofD TI64 i))], [(500000, some (boxD 25 TG g)), (500001, some (.box 60 ((cellsR .str z).map C.r ++ (cellsR TI64 q).map C.r ++ [.r (.v (.slice none 0 0))]))), (500002, some (.box 60 ((cellsR .str t).map C.r ++ (cellsR TI64 r).map C.r ++ [.own 500003]))), (500003, some (.lis 60 .tree ks))]⟩ (onward (headAt cx0_rd1 13) R K) = R ⟨[(1, .d (ofD .str s')), (2, .d (ofD TI64 d')), (3, .d (.one (.ptr 500000 0))), (6, .d (.one (.ptr 500001 0))), (10, .d (.one (.ptr 500002 0))), (76, .d (ofD TI64 m')), (77, .d (ofD TI64 i'))], [(500000, some (boxD 25 TG g')), (500001, some (.box 60 ((cellsR .str z').map C.r ++ (cellsR TI64 q').map C.r ++ [.r (.v (.slice none 0 0))]))), (500002, some (.box 60 ((cellsR .str t').map C.r ++ (cellsR TI64 r').map C.r ++ [.own 500003]))), (500003, some (.lis 60 .tree ks'))]⟩) := by
  have hx := fun R => x_impl_readTree g s z t d q r m i ks R K
  simp only [pre_rd1] at hI
  rw [andd, andd, andd, andd, andd, andd, andd, dec_iff, dec_iff, dec_iff, dec_iff, dec_iff, dec_iff, ble_iff] at hI
  obtain ⟨h0, h1, h2, h3, h4, h5, h6, h7⟩ := hI
  by_cases hi : i < m
  · have w1 : W64 (i + 1) = i + 1 := wrap_small (by omega) (by omega)
    have w2 : W64 (d - 1) = d - 1 := wrap_small (by omega) (by omega)
    have k2 : (decide (0 ≤ d - 1) && (decide (d - 1 < (lvR : Int)) && (lvR.ble 100 && szG 20 g))) = true := andd.2 ⟨dec_iff.2 (by omega), andd.2 ⟨dec_iff.2 (by omega), andd.2 ⟨ble_iff.2 h6, h7⟩⟩⟩
    obtain ⟨j, hj⟩ : ∃ j, (m - i).toNat = j + 1 := ⟨(m - i).toNat - 1, by omega⟩
    have hj2 : (m - (i + 1)).toNat = j := by omega
    rw [w1, w2, decide_eq_true hi, k2, show (d - 1).toNat = d.toNat - 1 by omega, tEta] at hx
    have k3 : fits (ks.length + [(rdT g (d.toNat - 1) s).1].length) Tryd.t60.bytes = true := by rw [treeBytes]; exact fits_ok (by simp; omega) (by omega)
    rw [k3] at hx
    have hg : rdK (rdT g (d.toNat - 1)) (j + 1) s ks = bif (rdT g (d.toNat - 1) s).2.2 then rdK (rdT g (d.toNat - 1)) j (rdT g (d.toNat - 1) s).2.1 (ks ++ [(rdT g (d.toNat - 1) s).1]) else none := rfl
    cases hc : (rdT g (d.toNat - 1) s).2.2
    · rw [hc] at hx hg
      left
      intro R
      refine (hx R).trans ?_
      simp only [res_rd1, hj, hg]; rfl
    · rw [hc] at hx hg
      right
      refine ⟨(rdT g (d.toNat - 1) s).2.1, d, m, i + 1, g, z, q, t, r, ks ++ [(rdT g (d.toNat - 1) s).1], ?_, ?_, ?_, fun R => hx R⟩
      · simp only [pre_rd1]
        rw [andd, andd, andd, andd, andd, andd, andd, dec_iff, dec_iff, dec_iff, dec_iff, dec_iff, dec_iff, ble_iff, List.length_append, List.length_singleton]
        exact ⟨by omega, by omega, h2, by omega, h4, h5, h6, h7⟩
      · simp only [mu_rd1]; omega
      · simp only [res_rd1, hj, hj2, hg, cond_true]
  · left
    intro R
    refine (hx R).trans ?_
    rw [decide_eq_false hi]
    have e : (m - i).toNat = 0 := by omega
    simp only [res_rd1, e]; rfl
noncomputable def g_rd1 : St → Cont → Option Fin := gP sh_rd1 (fun v => match v with | ((s, d, m, i, ()), (g, (z, q, ()), (t, r, ()), ks, ())) => pre_rd1 s d m i g z q t r ks) (fun v K => match v with | ((s, d, m, i, ()), (g, (z, q, ()), (t, r, ()), ks, ())) => res_rd1 s d m i g z q t r ks K)
noncomputable def L_rd1 : List (Nat × (St → Cont → Option Fin)) := (13, g_rd1) :: []
noncomputable def cx_rd1 : Cx := (cb_rd).withLoops (look L_rd1)
theorem l_rd1 {L : List (Nat × (St → Cont → Option Fin))} (n : Nat) (h1 : L.drop n = []) (h2 : idsFree (L.take n) (loopOf Tryd.f113 0) = true) : ∀ st K r, g_rd1 st K = some r → ∃ N, iter (evC ((cb_rd).withLoops (look L)) (loopOf Tryd.f113 0)) (headAt ((cb_rd).withLoops (look L)) 13) N st K = some r :=
  with_drop h1 h2 (gP_ok (fun v => match v with | ((s, d, m, i, ()), (g, (z, q, ()), (t, r, ()), ks, ())) => mu_rd1 s d m i g z q t r ks) fun v K hI => by
    obtain ⟨⟨(s : Str), (d : Int), (m : Int), (i : Int), ⟨⟩⟩, ⟨(g : Gram), ⟨(z : Str), (q : Int), ⟨⟩⟩, ⟨(t : Str), (r : Int), ⟨⟩⟩, (ks : List (GTree)), ⟨⟩⟩⟩ := v
    rcases r_rd1 s d m i g z q t r ks K hI with h1 | ⟨s', d', m', i', g', z', q', t', r', ks', h1, h2, h3, h4⟩
    · exact .inl h1
    · exact .inr ⟨((s', d', m', i', ()), (g', (z', q', ()), (t', r', ()), ks', ())), h1, h2, h3, h4⟩)
theorem y_impl_readTree (g : Gram) (s : Str) (d : Int) : evFn cx_rd1 Tryd.f113 true [ofD TG g, ofD .str s, ofD TI64 d] [] = (
branch (bif decide (d < 1) then true else decide (s = [])) ( some ((.tup [(.agg [(.r (.v (Value.string (mk [])))), (.r (.v (Value.int IntKind.i64 0))), (.r (.li (ty60) ([])))]), (.one (.r (.v (Value.string (mk []))))), (.one (.r (.v (Value.bool false))))]), [])) (
 need (inr 0 1 s.length) <|
 branch (smallS (List.take (Int.toNat 1 - (0 : Int).toNat) s)) (
  need (inr 1 ((s.length : Int)) s.length) <| some ((.tup [(.agg [(.r (.v (Value.string (mk (GTree.node (List.take (Int.toNat 1 - (0 : Int).toNat) s) (Int.neg 1) []).sign)))), (.r (.v (Value.int IntKind.i64 (GTree.node (List.take (Int.toNat 1 - (0 : Int).toNat) s) (Int.neg 1) []).rule))), (.r (.li (Ty.tree) ((GTree.node (List.take (Int.toNat 1 - (0 : Int).toNat) s) (Int.neg 1) []).kids)))]), (.one (.r (.v (Value.string (mk (List.take (((s.length : Int)).toNat - Int.toNat 1) (List.drop (Int.toNat 1) s))))))), (.one (.r (.v (Value.bool true))))]), [])) (
  need (bif decide (decide ((s.length : Int) < 2) = false) then inb 0 s.length else true) <|
  need (bif decide ((bif decide ((s.length : Int) < 2) then true else !decide (byteAt s 0 = 91)) = false) then inb 1 s.length else true) <|
  need (bif decide ((bif bif decide ((s.length : Int) < 2) then true else !decide (byteAt s 0 = 91) then true else decide (W64 (W64 (byteAt s 1) - 48) < 0)) = false) then inb 1 s.length else true) <|
  branch (bif bif bif decide ((s.length : Int) < 2) then true else !decide (byteAt s 0 = 91) then true else decide (W64 (W64 (byteAt s 1) - 48) < 0) then true else decide ((List.length g.snd : Int) ≤ W64 (W64 (byteAt s 1) - 48))) ( some ((.tup [(.agg [(.r (.v (Value.string (mk [])))), (.r (.v (Value.int IntKind.i64 0))), (.r (.li (ty60) ([])))]), (.one (.r (.v (Value.string (mk []))))), (.one (.r (.v (Value.bool false))))]), [])) (
   need (inb 1 s.length) <|
   need (inb (W64 (W64 (byteAt s 1) - 48)) (List.length g.snd)) <|
   need (inr 2 ((s.length : Int)) s.length) <|
   need (pre_rd1 (List.take (((s.length : Int)).toNat - Int.toNat 2) (List.drop (Int.toNat 2) s)) d ((List.length (List.getD g.snd (W64 (W64 (byteAt s 1) - 48)).toNat d0).snd : Int)) 0 g ([] : Str) 0 (List.getD g.snd (W64 (W64 (byteAt s 1) - 48)).toNat d0).fst (W64 (W64 (byteAt s 1) - 48)) []) <|
   branch ((rdK (rdT g (d.toNat - 1)) ((List.length (List.getD g.snd (W64 (W64 (byteAt s 1) - 48)).toNat d0).snd : Int) - 0).toNat (List.take (((s.length : Int)).toNat - Int.toNat 2) (List.drop (Int.toNat 2) s)) []).isSome) ( some ((.tup [(.agg [(.r (.v (Value.string (mk (List.getD g.snd (W64 (W64 (byteAt s 1) - 48)).toNat d0).fst)))), (.r (.v (Value.int IntKind.i64 (W64 (W64 (byteAt s 1) - 48))))), (.r (.li (Ty.tree) (((rdK (rdT g (d.toNat - 1)) ((List.length (List.getD g.snd (W64 (W64 (byteAt s 1) - 48)).toNat d0).snd : Int) - 0).toNat (List.take (((s.length : Int)).toNat - Int.toNat 2) (List.drop (Int.toNat 2) s)) []).getD ([], [])).fst)))]), (.one (.r (.v (Value.string (mk (bif hasP ((rdK (rdT g (d.toNat - 1)) ((List.length (List.getD g.snd (W64 (W64 (byteAt s 1) - 48)).toNat d0).snd : Int) - 0).toNat (List.take (((s.length : Int)).toNat - Int.toNat 2) (List.drop (Int.toNat 2) s)) []).getD ([], [])).snd ([93] : Str) then List.drop ([93] : Str).length ((rdK (rdT g (d.toNat - 1)) ((List.length (List.getD g.snd (W64 (W64 (byteAt s 1) - 48)).toNat d0).snd : Int) - 0).toNat (List.take (((s.length : Int)).toNat - Int.toNat 2) (List.drop (Int.toNat 2) s)) []).getD ([], [])).snd else ((rdK (rdT g (d.toNat - 1)) ((List.length (List.getD g.snd (W64 (W64 (byteAt s 1) - 48)).toNat d0).snd : Int) - 0).toNat (List.take (((s.length : Int)).toNat - Int.toNat 2) (List.drop (Int.toNat 2) s)) []).getD ([], [])).snd)))))), (.one (.r (.v (Value.bool (hasP ((rdK (rdT g (d.toNat - 1)) ((List.length (List.getD g.snd (W64 (W64 (byteAt s 1) - 48)).toNat d0).snd : Int) - 0).toNat (List.take (((s.length : Int)).toNat - Int.toNat 2) (List.drop (Int.toNat 2) s)) []).getD ([], [])).snd ([93] : Str))))))]), [])) ( some ((.tup [(.agg [(.r (.v (Value.string (mk [])))), (.r (.v (Value.int IntKind.i64 0))), (.r (.li (ty60) ([])))]), (.one (.r (.v (Value.string (mk []))))), (.one (.r (.v (Value.bool false))))]), [])))))) := by kernel_rfl
theorem rd_up : ConOk Tryd.prog 113 (conRd (lvR + 1)) := conT_ok Tryd.call113 fun (g : Gram) _ (s : Str) hs (d : Int) _ hqq => by
  have hpre := pre_of hqq
  rw [andd, andd, andd, dec_iff, dec_iff, ble_iff] at hpre
  obtain ⟨h1, h2, h3, h4⟩ := hpre
  refine fn_sound (cx := cx_rd1) Tryd.func113 rfl ttOk Γ84ok mixed (fun c hc => LoopsOk.all (l := [(13, loopOf Tryd.f113 0)]) (by cases hc; kernel_rfl) ⟨atLoop rfl (l_rd1 1 rfl (by kernel_rfl)), trivial⟩) (ro := true) ?_
  refine (y_impl_readTree g s d).trans ?_
  by_cases hd1 : d < 1
  · rw [decide_eq_true hd1, show d.toNat = 0 by omega]; rfl
  · rw [decide_eq_false hd1]
    obtain ⟨m, hm⟩ : ∃ m, d.toNat = m + 1 := ⟨d.toNat - 1, by omega⟩
    rw [hm, show m + 1 - 1 = m from rfl]
    rcases s with _ | ⟨c, _ | ⟨c2, r⟩⟩
    · rfl
    · have hr : rdT g (m + 1) [c] = bif smallS [c] then (.node [c] (-1) [], [], true) else (tz, [], false) := rfl
      rw [hr]
      refine Eq.trans (b := branch (smallS [c]) (some (.tup [ofD .tree (.node [c] (-1) []), ofD .str [], ofD .bool true], [])) (some (.tup [ofD .tree tz, ofD .str [], ofD .bool false], []))) (by kernel_rfl) ?_
      cases smallS [c] <;> rfl
    · have hr : rdT g (m + 1) (c :: c2 :: r) = bif smallS [c] then (.node [c] (-1) [], c2 :: r, true) else (match (bif decide (c = 91) && inb ((c2.toNat : Int) - 48) (List.length g.2) then some ((c2.toNat : Int) - 48) else none : Option Int) with
        | none => (tz, [], false)
        | some k => rdE g k (rdK (rdT g m) (rgt g k).length r [])) := rfl
      rw [hr]
      have hlen : ((List.length (c :: c2 :: r) : Nat) : Int) = (r.length : Int) + 2 := by simp only [List.length_cons]; omega
      have hb2 := c2.toNat_lt
      have w : W64 (W64 (byteAt (c :: c2 :: r) 1) - 48) = (c2.toNat : Int) - 48 := by
        show W64 (W64 (c2.toNat : Int) - 48) = _
        simp only [W64]
        rw [wrap_small (n := (c2.toNat : Int)) (by omega) (by omega), wrap_small (by omega) (by omega)]
      have hc91 : decide (byteAt (c :: c2 :: r) 0 = 91) = decide (c = 91) := by
        rw [decide_eq_decide]
        show ((c.toNat : Nat) : Int) = 91 ↔ c = 91
        constructor
        · intro e; exact UInt8.toNat_inj.1 (by show c.toNat = 91; omega)
        · intro e; subst e; rfl
      have l0 : decide ((List.length (c :: c2 :: r) : Int) < 2) = false := decide_eq_false (by omega)
      have l1 : inr 0 1 (List.length (c :: c2 :: r)) = true := inr_iff.2 (by omega)
      have l2 : inr 1 (List.length (c :: c2 :: r) : Int) (List.length (c :: c2 :: r)) = true := inr_iff.2 (by omega)
      have l3 : inr 2 (List.length (c :: c2 :: r) : Int) (List.length (c :: c2 :: r)) = true := inr_iff.2 (by omega)
      have l4 : inb 0 (List.length (c :: c2 :: r)) = true := inb_ok (by omega) (by omega)
      have l5 : inb 1 (List.length (c :: c2 :: r)) = true := inb_ok (by omega) (by omega)
      have t1 : List.take (((List.length (c :: c2 :: r) : Int)).toNat - Int.toNat 1) (List.drop (Int.toNat 1) (c :: c2 :: r)) = c2 :: r := List.take_of_length_le (by show (c2 :: r).length ≤ _ - 1; rw [hlen]; simp only [List.length_cons]; omega)
      have t2 : List.take (((List.length (c :: c2 :: r) : Int)).toNat - Int.toNat 2) (List.drop (Int.toNat 2) (c :: c2 :: r)) = r := List.take_of_length_le (by show r.length ≤ _ - 2; rw [hlen]; omega)
      rw [w, hc91, l0, l1, l2, l3, l4, l5, t1, t2]
      have hne : decide ((c :: c2 :: r : Str) = []) = false := rfl
      rw [hne]
      show branch false _ (need true (branch (smallS [c]) _ _)) = _
      cases hsm : smallS [c]
      · simp only [branch_false, cond_false, need_t, Bool.cond_self]
        cases e1 : decide (c = 91)
        · rfl
        · have e2 := out_eq ((c2.toNat : Int) - 48) (List.length g.2)
          cases e3 : inb ((c2.toNat : Int) - 48) (List.length g.2)
          · rw [e3] at e2
            simp only [Bool.not_true, cond_false, Bool.true_and, Bool.not_false] at e2 ⊢
            rw [e2]; rfl
          · rw [e3] at e2
            obtain ⟨i0, i1⟩ := inb_iff.1 e3
            have hrl := rgt_len (k := (c2.toNat : Int) - 48) h4
            have hp : pre_rd1 r d ((List.length (List.getD g.2 ((c2.toNat : Int) - 48).toNat d0).2 : Int)) 0 g ([] : Str) 0 (List.getD g.2 ((c2.toNat : Int) - 48).toNat d0).1 ((c2.toNat : Int) - 48) [] = true := by
              simp only [pre_rd1]
              rw [andd, andd, andd, andd, andd, andd, andd, dec_iff, dec_iff, dec_iff, dec_iff, dec_iff, dec_iff, ble_iff]
              exact ⟨by omega, by omega, show ((rgt g ((c2.toNat : Int) - 48)).length : Int) ≤ 8 by omega, by simp, by omega, by omega, by omega, h4⟩
            simp only [Bool.not_true, cond_false, Bool.true_and] at e2 ⊢
            rw [e2, hp]
            have e4 : ((List.length (List.getD g.2 ((c2.toNat : Int) - 48).toNat d0).2 : Int) - 0).toNat = (rgt g ((c2.toNat : Int) - 48)).length := by
              show (((rgt g ((c2.toNat : Int) - 48)).length : Int) - 0).toNat = _
              omega
            rw [e4]
            change _ = some (T.tup [ofD .tree (rdE g ((c2.toNat : Int) - 48) (rdK (rdT g m) (rgt g ((c2.toNat : Int) - 48)).length r [])).1, ofD .str (rdE g ((c2.toNat : Int) - 48) (rdK (rdT g m) (rgt g ((c2.toNat : Int) - 48)).length r [])).2.1, ofD .bool (rdE g ((c2.toNat : Int) - 48) (rdK (rdT g m) (rgt g ((c2.toNat : Int) - 48)).length r [])).2.2], [])
            cases rdK (rdT g m) (rgt g ((c2.toNat : Int) - 48)).length r [] with
            | none => rfl
            | some p => rfl
      · rfl
end
theorem rd_all : ∀ n, ConOk Tryd.prog 113 (conRd n)
  | 0 => conT_ok Tryd.call113 fun g _ s _ (d : Int) _ hqq => by
    have hpre := pre_of hqq
    rw [andd, andd, dec_iff, dec_iff] at hpre
    omega
  | n + 1 => @rd_up ⟨⟨n, rd_all n⟩⟩
noncomputable def c_impl_readTree : Con := conRd 50
theorem k_impl_readTree : ConOk Tryd.prog 113 c_impl_readTree := rd_all 50
noncomputable def Γ85 : List (Nat × Con) := (113, c_impl_readTree) :: Γ83
theorem Γ85ok : EnvOk Tryd.prog (look Γ85) := .cons k_impl_readTree Γ83ok

end Go.Proofs.YthbpnbbilaobbaaDoor.Ev

-- G=85