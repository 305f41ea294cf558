/-
  TreeRead, the program's; the reference's scan.
-/
import Derived.Test.YthbpnbbilaobbaaDoorGza
namespace Go.Proofs.YthbpnbbilaobbaaDoor.Ev
open Go
theorem ok_sz {g : Gram} (h : okG g = true) : szG 20 g = true := by
  obtain ⟨h1, h2, h3⟩ := okG_iff h
  unfold szG
  rw [andd, andd, ble_iff, ble_iff]
  refine ⟨?_, by omega, List.all_eq_true.2 fun r hr => ?_⟩
  · obtain ⟨c, e, _⟩ := bigS_one h1
    rw [e]; simp
  · obtain ⟨h4, h5⟩ := h3 r hr
    obtain ⟨c, e, _⟩ := bigS_one h4
    unfold szR
    rw [andd, ble_iff, ble_iff, e]
    exact ⟨by simp, by have := (areS_iff h5).2; omega⟩
def readG (g : Gram) (s : Str) : GTree × Bool := bif okG g then (bif (rdT g 20 s).2.2 && decide ((rdT g 20 s).2.1 = []) && okT g (rdT g 20 s).1 then ((rdT g 20 s).1, true) else (tz, false)) else (tz, false)
theorem y_impl_TreeRead (g : Gram) (s : Str) : evFn ((cxOf Γ85 Tryd.f44.ntmps [] [] [] []).parted [3, 4]) Tryd.f44 true [ofD TG g, ofD .str s] [] = (
branch (!okG g) ( some ((.tup [(.agg [(.r (.v (Value.string (mk [])))), (.r (.v (Value.int IntKind.i64 0))), (.r (.li (ty60) ([])))]), (.one (.r (.v (Value.bool false))))]), [])) (
 need (decide (0 ≤ 20) && (decide (20 < (50 : Int)) && (Nat.ble 50 100 && szG 20 g))) <|
 branch (decide ((!(rdT g (Int.toNat 20) s).snd.snd) = false)) (
  branch (decide ((bif false then true else !decide ((rdT g (Int.toNat 20) s).snd.fst = [])) = false)) (
   branch (bif false then true else !okT g (GTree.node (rdT g (Int.toNat 20) s).fst.sign (rdT g (Int.toNat 20) s).fst.rule (rdT g (Int.toNat 20) s).fst.kids)) ( some ((.tup [(.agg [(.r (.v (Value.string (mk [])))), (.r (.v (Value.int IntKind.i64 0))), (.r (.li (ty60) ([])))]), (.one (.r (.v (Value.bool false))))]), [])) ( some ((.tup [(.agg [(.r (.v (Value.string (mk (rdT g (Int.toNat 20) s).fst.sign)))), (.r (.v (Value.int IntKind.i64 (rdT g (Int.toNat 20) s).fst.rule))), (.r (.li (Ty.tree) ((rdT g (Int.toNat 20) s).fst.kids)))]), (.one (.r (.v (Value.bool true))))]), []))) ( some ((.tup [(.agg [(.r (.v (Value.string (mk [])))), (.r (.v (Value.int IntKind.i64 0))), (.r (.li (ty60) ([])))]), (.one (.r (.v (Value.bool false))))]), []))) ( some ((.tup [(.agg [(.r (.v (Value.string (mk [])))), (.r (.v (Value.int IntKind.i64 0))), (.r (.li (ty60) ([])))]), (.one (.r (.v (Value.bool false))))]), [])))) := by kernel_rfl
theorem s_impl_TreeRead (g : Gram) (_hg : Fit TG g) (s : Str) (_hs : Fit .str s) : Sat Tryd.prog 44 [ofD TG g, ofD .str s] [] (.tup [ofD .tree (readG g s).1, ofD .bool (readG g s).2]) [] :=
  fn_sound (cx := ((cxOf Γ85 Tryd.f44.ntmps [] [] [] []).parted [3, 4])) Tryd.func44 rfl ttOk Γ85ok mixed (fun _ _ => LoopsOk.no fun _ => rfl) (ro := true) (by
    refine (y_impl_TreeRead g s).trans ?_
    rw [tEta]
    unfold readG
    cases hG : okG g
    · rfl
    · rw [ok_sz hG]
      simp only [Bool.not_true, branch_false, cond_true]
      change branch (decide ((!(rdT g 20 s).2.2) = false)) (branch (decide ((bif false then true else !decide ((rdT g 20 s).2.1 = [])) = false)) (branch (bif false then true else !okT g (rdT g 20 s).1) _ (some (T.tup [ofD .tree (rdT g 20 s).1, ofD .bool true], []))) _) _ = _
      cases h1 : (rdT g 20 s).2.2
      · rfl
      · cases h2 : decide ((rdT g 20 s).2.1 = [])
        · rfl
        · cases h3 : okT g (rdT g 20 s).1
          · rfl
          · rfl)
noncomputable def c_impl_TreeRead : Con := conT [TG, .str] fun (g : Gram) (s : Str) => (none, .tup [ofD .tree (readG g s).1, ofD .bool (readG g s).2])
theorem k_impl_TreeRead : ConOk Tryd.prog 44 c_impl_TreeRead := conT_ok Tryd.call44 fun g hg s hs _ => s_impl_TreeRead g hg s hs
noncomputable def Γ86 : List (Nat × Con) := (44, c_impl_TreeRead) :: Γ85
theorem Γ86ok : EnvOk Tryd.prog (look Γ86) := .cons k_impl_TreeRead Γ85ok

def scK (f : Int → GTree × Int) : Nat → Int → List GTree → List GTree × Int × Bool
  | 0, a, acc => (acc, a, true)
  | m + 1, a, acc => bif decide ((f a).2 < 0) then (acc, a, false) else scK f m (f a).2 (acc ++ [(f a).1])
def scE (g : Gram) (s : Str) (k : Int) (p : List GTree × Int × Bool) : GTree × Int :=
  (.node (List.getD g.2 k.toNat d0).1 k p.1, bif p.2.2 && (inb p.2.1 s.length && decide (List.getD s p.2.1.toNat 0 = 93)) then p.2.1 + 1 else -1)
/-- a tree read at a place of a text, and the place behind it -/
def scT (g : Gram) (s : Str) : Nat → Int → GTree × Int
  | 0, _ => (tz, -1)
  | n + 1, a => bif decide ((s.length : Int) ≤ a) then (tz, -1) else bif small (List.getD s a.toNat 0) then (.node [List.getD s a.toNat 0] (-1) [], a + 1) else
    match ruleAt g (List.drop a.toNat s) with
    | none => (tz, -1)
    | some k => scE g s k (scK (scT g s n) (rgt g k).length (a + 2) [])
theorem ruleAt_at {g : Gram} {s : Str} {a : Int} (h0 : 0 ≤ a) (h1 : a < (s.length : Int)) : ruleAt g (List.drop a.toNat s) = bif decide (List.getD s a.toNat 0 = 91) && (decide (a + 1 < (s.length : Int)) && inb (((List.getD s (a + 1).toNat 0).toNat : Int) - 48) (List.length g.2)) then some (((List.getD s (a + 1).toNat 0).toNat : Int) - 48) else none := by
  have hn : a.toNat < s.length := by omega
  have e1 : List.getD s a.toNat 0 = s[a.toNat] := by rw [List.getD_eq_getElem?_getD, List.getElem?_eq_getElem hn]; rfl
  rw [List.drop_eq_getElem_cons hn, e1]
  by_cases h2 : a + 1 < (s.length : Int)
  · have hn2 : a.toNat + 1 < s.length := by omega
    have e2 : List.getD s (a + 1).toNat 0 = s[a.toNat + 1] := by rw [show (a + 1).toNat = a.toNat + 1 by omega, List.getD_eq_getElem?_getD, List.getElem?_eq_getElem hn2]; rfl
    rw [List.drop_eq_getElem_cons hn2, e2, decide_eq_true h2]; rfl
  · rw [List.drop_eq_nil_of_le (by omega), decide_eq_false h2]
    cases decide (s[a.toNat] = 91) <;> rfl
theorem scK_pos {f : Int → GTree × Int} : ∀ {m : Nat} {a : Int} {acc : List GTree}, 0 ≤ a → 0 ≤ (scK f m a acc).2.1
  | 0, _, _, h => h
  | m + 1, a, acc, h => by
    unfold scK
    by_cases hc : (f a).2 < 0
    · rw [decide_eq_true hc]; exact h
    · rw [decide_eq_false hc]; exact scK_pos (by omega)
noncomputable def conSc (n : Nat) : Con := conT [TG, .str, TI64, TI64] fun (g : Gram) (s : Str) (a : Int) (d : Int) => (some (decide (0 ≤ a) && (decide (0 ≤ d) && (decide (d < (n : Int)) && (Nat.ble n 100 && szG 20 g)))), .tup [ofD .tree (scT g s d.toNat a).1, ofD TI64 (scT g s d.toNat a).2])
structure LevC where
  n : Nat
  h : ConOk Tryd.prog 122 (conSc n)
noncomputable section
variable [Inhabited LevC]
abbrev lvC : Nat := (default : LevC).n
noncomputable def c_spec_l3ScanR : Con := conSc lvC
theorem k_spec_l3ScanR : ConOk Tryd.prog 122 c_spec_l3ScanR := (default : LevC).h
noncomputable def Γ87 : List (Nat × Con) := (122, c_spec_l3ScanR) :: Γ86
theorem Γ87ok : EnvOk Tryd.prog (look Γ87) := .cons k_spec_l3ScanR Γ86ok

noncomputable def cb_sc : Cx := cxOf Γ87 Tryd.f122.ntmps [(13, [1, 2, 3, 4, 8, 10, 11, 12])] [(0, [1, 2, 8, 11]), (1, [1, 2, 3, 4, 8, 10, 11, 12]), (1000000, [8, 9])] [(13, [(300011, 60, .tree)])] []
theorem x_spec_l3Scan (g : Gram) (s z t : Str) (d q r k i a : Int) (ks : List GTree) (R : St → Option Fin) (K : Cont) : evC (cb_sc.withLoops (look [])) (loopOf Tryd.f122 0) ⟨[(1, vS s), (2, vI a), (3, vI d), (4, .d (.one (.ptr 500000 0))), (8, .d (.one (.ptr 500001 0))), (10, vI k), (11, .d (.one (.ptr 500002 0))), (12, vI i)], [(500000, some (boxD 25 TG g)), (500001, treeO z q), (500002, some (.box 60 [.r (.v (.string (mk t))), .r (.v (.int .i64 r)), .own 500003])), (500003, some (.lis 60 .tree ks))]⟩ (onward (headAt (cb_sc.withLoops (look [])) 13) R K) = (
need (inb k (List.length g.snd)) <|
branch (decide (i < (List.length (List.getD g.snd k.toNat d0).snd : Int))) (
 need (decide (0 ≤ a) && (decide (0 ≤ W64 (d - 1)) && (decide (W64 (d - 1) < (lvC : Int)) && (lvC.ble 100 && szG 20 g)))) <|
 branch (decide ((scT g s (W64 (d - 1)).toNat a).snd < 0)) ( K (.ret) (.mk [(8, (.d (.one (.ptr 500000 0)))), (9, (vI (Int.neg 1)))] [(500000, (.some (.box 60 [(.r (.v (Value.string (mk t)))), (.r (.v (Value.int IntKind.i64 r))), (.own 500001)]))), (500001, (.some (.lis 60 (Ty.tree) (ks))))])) (
  need (fits (ks.length + [GTree.node (scT g s (W64 (d - 1)).toNat a).fst.sign (scT g s (W64 (d - 1)).toNat a).fst.rule (scT g s (W64 (d - 1)).toNat a).fst.kids].length) Tryd.t60.bytes) <| R (.mk [(1, (vS s)), (2, (vI (scT g s (W64 (d - 1)).toNat a).snd)), (3, (vI d)), (4, (.d (.one (.ptr 500000 0)))), (8, (.d (.one (.ptr 500001 0)))), (10, (vI k)), (11, (.d (.one (.ptr 500002 0)))), (12, (vI (W64 (i + 1))))] [(500000, (.some (.box 25 [(.r (.v (Value.string (mk g.fst)))), (.r (.li TRu (g.snd)))]))), (500001, (.some (.box 60 [(.r (.v (Value.string (mk z)))), (.r (.v (Value.int IntKind.i64 q))), (.r (.v (Value.slice none 0 0)))]))), (500002, (.some (.box 60 [(.r (.v (Value.string (mk t)))), (.r (.v (Value.int IntKind.i64 r))), (.own 500003)]))), (500003, (.some (.lis 60 (ty60) (ks.append [GTree.node (scT g s (W64 (d - 1)).toNat a).fst.sign (scT g s (W64 (d - 1)).toNat a).fst.rule (scT g s (W64 (d - 1)).toNat a).fst.kids]))))]))) ( K (.exit 0) (.mk [(1, (vS s)), (2, (vI a)), (8, (.d (.one (.ptr 500000 0)))), (11, (.d (.one (.ptr 500001 0))))] [(500000, (.some (.box 60 [(.r (.v (Value.string (mk z)))), (.r (.v (Value.int IntKind.i64 q))), (.r (.v (Value.slice none 0 0)))]))), (500001, (.some (.box 60 [(.r (.v (Value.string (mk t)))), (.r (.v (Value.int IntKind.i64 r))), (.own 500002)]))), (500002, (.some (.lis 60 (Ty.tree) (ks))))]))) := by kernel_rfl
noncomputable def cx0_sc1 : Cx := (cb_sc).withLoops (look [])
def sh_sc1 : Sh := ([(1, .d .str), (2, .d TI64), (3, .d TI64), (4, .ptr 500000 0), (8, .ptr 500001 0), (10, .d TI64), (11, .ptr 500002 0), (12, .d TI64)], [(500000, .box 25 TG), (500001, .mix 60 [.d .str, .d TI64, .nil]), (500002, .mix 60 [.d .str, .d TI64, .own 500003]), (500003, .lis 60 .tree)])
def pre_sc1 (_s : Str) (a : Int) (d : Int) (k : Int) (i : Int) (g : Gram) (_z : Str) (_q : Int) (_t : Str) (_r : Int) (ks : List (GTree)) : Bool := decide (0 ≤ i) && (decide (0 ≤ a) && (inb k (List.length g.2) && (decide ((List.length ks : Int) ≤ i) && (decide (1 ≤ d) && (decide (d ≤ (lvC : Int)) && (Nat.ble lvC 100 && szG 20 g))))))
noncomputable def res_sc1 (s : Str) (a : Int) (d : Int) (k : Int) (i : Int) (g : Gram) (z : Str) (q : Int) (t : Str) (r : Int) (ks : List (GTree)) (K : Cont) : Option Fin := branch (scK (scT g s (d.toNat - 1)) ((rgt g k).length - i.toNat) a ks).2.2 (K (.exit 0) ⟨[(1, vS s), (2, vI (scK (scT g s (d.toNat - 1)) ((rgt g k).length - i.toNat) a ks).2.1), (8, .d (.one (.ptr 500000 0))), (11, .d (.one (.ptr 500001 0)))], [(500000, treeO z q), (500001, some (.box 60 [.r (.v (.string (mk t))), .r (.v (.int .i64 r)), .own 500002])), (500002, some (.lis 60 .tree (scK (scT g s (d.toNat - 1)) ((rgt g k).length - i.toNat) a ks).1))]⟩) (K .ret ⟨[(8, .d (.one (.ptr 500000 0))), (9, vI (-1))], [(500000, some (.box 60 [.r (.v (.string (mk t))), .r (.v (.int .i64 r)), .own 500001])), (500001, some (.lis 60 .tree (scK (scT g s (d.toNat - 1)) ((rgt g k).length - i.toNat) a ks).1))]⟩)
def mu_sc1 (_s : Str) (_a : Int) (_d : Int) (k : Int) (i : Int) (g : Gram) (_z : Str) (_q : Int) (_t : Str) (_r : Int) (_ks : List (GTree)) : Nat := (rgt g k).length - i.toNat
theorem r_sc1 (s : Str) (a : Int) (d : Int) (k : Int) (i : Int) (g : Gram) (z : Str) (q : Int) (t : Str) (r : Int) (ks : List (GTree)) (K : Cont) (hI : pre_sc1 s a d k i g z q t r ks = true) : (∀ R : St → Option Fin, evC cx0_sc1 (loopOf Tryd.f122 0) ⟨[(1, .d (ofD .str s)), (2, .d (ofD TI64 a)), (3, .d (ofD TI64 d)), (4, .d (.one (.ptr 500000 0))), (8, .d (.one (.ptr 500001 0))), (10, .d (ofD TI64 k)), (11, .d (.one (.ptr 500002 0))), (12, .d (ofD TI64 i))], [(500000, some (boxD 25 TG g)), (500001, some (.box 60 ((cellsR .str z).map C.r ++ (cellsR TI64 q).map C.r ++ [.r (.v (.slice none 0 0))]))), (500002, some (.box 60 ((cellsR .str t).map C.r ++ (cellsR TI64 r).map C.r ++ [.own 500003]))), (500003, some (.lis 60 .tree ks))]⟩ (onward (headAt cx0_sc1 13) R K) = res_sc1 s a d k i g z q t r ks K) ∨
    (∃ (s' : Str) (a' : Int) (d' : Int) (k' : Int) (i' : Int) (g' : Gram) (z' : Str) (q' : Int) (t' : Str) (r' : Int) (ks' : List (GTree)), pre_sc1 s' a' d' k' i' g' z' q' t' r' ks' = true ∧ mu_sc1 s' a' d' k' i' g' z' q' t' r' ks' < mu_sc1 s a d k i g z q t r ks ∧ res_sc1 s' a' d' k' i' g' z' q' t' r' ks' K = res_sc1 s a d k i g z q t r ks K ∧ ∀ R : St → Option Fin, evC cx0_sc1 (loopOf Tryd.f122 0) ⟨[(1, .d (ofD .str s)), (2, .d (ofD TI64 a)), (3, .d (ofD TI64 d)), (4, .d (.one (.ptr 500000 0))), (8, .d (.one (.ptr 500001 0))), (10, .d (ofD TI64 k)), (11, .d (.one (.ptr 500002 0))), (12, .d (ofD TI64 i))], [(500000, some (boxD 25 TG g)), (500001, some (.box 60 ((cellsR .str z).map C.r ++ (cellsR TI64 q).map C.r ++ [.r (.v (.slice none 0 0))]))), (500002, some (.box 60 ((cellsR .str t).map C.r ++ (cellsR TI64 r).map C.r ++ [.own 500003]))), (500003, some (.lis 60 .tree ks))]⟩ (onward (headAt cx0_sc1 13) R K) = R ⟨[(1, .d (ofD .str s')), (2, .d (ofD TI64 a')), (3, .d (ofD TI64 d')), (4, .d (.one (.ptr 500000 0))), (8, .d (.one (.ptr 500001 0))), (10, .d (ofD TI64 k')), (11, .d (.one (.ptr 500002 0))), (12, .d (ofD TI64 i'))], [(500000, some (boxD 25 TG g')), (500001, some (.box 60 ((cellsR .str z').map C.r ++ (cellsR TI64 q').map C.r ++ [.r (.v (.slice none 0 0))]))), (500002, some (.box 60 ((cellsR .str t').map C.r ++ (cellsR TI64 r').map C.r ++ [.own 500003]))), (500003, some (.lis 60 .tree ks'))]⟩) := by
  have hx := fun R => x_spec_l3Scan g s z t d q r k i a ks R K
  simp only [pre_sc1] at hI
  rw [andd, andd, andd, andd, andd, andd, andd, dec_iff, dec_iff, dec_iff, dec_iff, dec_iff, ble_iff] at hI
  obtain ⟨h0, h1, h2, h3, h4, h5, h6, h7⟩ := hI
  have hrl := rgt_len (k := k) h7
  rw [h2] at hx
  by_cases hi : i < ((rgt g k).length : Int)
  · have w1 : W64 (i + 1) = i + 1 := wrap_small (by omega) (by omega)
    have w2 : W64 (d - 1) = d - 1 := wrap_small (by omega) (by omega)
    have k2 : (decide (0 ≤ a) && (decide (0 ≤ d - 1) && (decide (d - 1 < (lvC : Int)) && (lvC.ble 100 && szG 20 g)))) = true := andd.2 ⟨dec_iff.2 h1, andd.2 ⟨dec_iff.2 (by omega), andd.2 ⟨dec_iff.2 (by omega), andd.2 ⟨ble_iff.2 h6, h7⟩⟩⟩⟩
    obtain ⟨j, hj⟩ : ∃ j, (rgt g k).length - i.toNat = j + 1 := ⟨(rgt g k).length - i.toNat - 1, by omega⟩
    have hj2 : (rgt g k).length - (i + 1).toNat = j := by omega
    have hi' : i < ((List.length (List.getD g.2 k.toNat d0).2 : Nat) : Int) := hi
    rw [w1, w2, decide_eq_true hi', k2, show (d - 1).toNat = d.toNat - 1 by omega, tEta] at hx
    have k3 : fits (ks.length + [(scT g s (d.toNat - 1) a).1].length) Tryd.t60.bytes = true := by rw [treeBytes]; exact fits_ok (by simp; omega) (by omega)
    rw [k3] at hx
    have hg : scK (scT g s (d.toNat - 1)) (j + 1) a ks = bif decide ((scT g s (d.toNat - 1) a).2 < 0) then (ks, a, false) else scK (scT g s (d.toNat - 1)) j (scT g s (d.toNat - 1) a).2 (ks ++ [(scT g s (d.toNat - 1) a).1]) := rfl
    by_cases hc : (scT g s (d.toNat - 1) a).2 < 0
    · rw [decide_eq_true hc] at hx hg
      left
      intro R
      refine (hx R).trans ?_
      simp only [res_sc1, hj, hg]; rfl
    · rw [decide_eq_false hc] at hx hg
      right
      refine ⟨s, (scT g s (d.toNat - 1) a).2, d, k, i + 1, g, z, q, t, r, ks ++ [(scT g s (d.toNat - 1) a).1], ?_, ?_, ?_, fun R => hx R⟩
      · simp only [pre_sc1]
        rw [andd, andd, andd, andd, andd, andd, andd, dec_iff, dec_iff, dec_iff, dec_iff, dec_iff, ble_iff, List.length_append, List.length_singleton]
        exact ⟨by omega, by omega, h2, by omega, h4, h5, h6, h7⟩
      · simp only [mu_sc1]; omega
      · simp only [res_sc1, hj, hj2, hg, cond_false]
  · left
    intro R
    refine (hx R).trans ?_
    have hi' : ¬ i < ((List.length (List.getD g.2 k.toNat d0).2 : Nat) : Int) := hi
    rw [decide_eq_false hi']
    have e : (rgt g k).length - i.toNat = 0 := by omega
    simp only [res_sc1, e]; rfl
noncomputable def g_sc1 : St → Cont → Option Fin := gP sh_sc1 (fun v => match v with | ((s, a, d, k, i, ()), (g, (z, q, ()), (t, r, ()), ks, ())) => pre_sc1 s a d k i g z q t r ks) (fun v K => match v with | ((s, a, d, k, i, ()), (g, (z, q, ()), (t, r, ()), ks, ())) => res_sc1 s a d k i g z q t r ks K)
noncomputable def L_sc1 : List (Nat × (St → Cont → Option Fin)) := (13, g_sc1) :: []
noncomputable def cx_sc1 : Cx := (cb_sc).withLoops (look L_sc1)
theorem l_sc1 {L : List (Nat × (St → Cont → Option Fin))} (n : Nat) (h1 : L.drop n = []) (h2 : idsFree (L.take n) (loopOf Tryd.f122 0) = true) : ∀ st K r, g_sc1 st K = some r → ∃ N, iter (evC ((cb_sc).withLoops (look L)) (loopOf Tryd.f122 0)) (headAt ((cb_sc).withLoops (look L)) 13) N st K = some r :=
  with_drop h1 h2 (gP_ok (fun v => match v with | ((s, a, d, k, i, ()), (g, (z, q, ()), (t, r, ()), ks, ())) => mu_sc1 s a d k i g z q t r ks) fun v K hI => by
    obtain ⟨⟨(s : Str), (a : Int), (d : Int), (k : Int), (i : Int), ⟨⟩⟩, ⟨(g : Gram), ⟨(z : Str), (q : Int), ⟨⟩⟩, ⟨(t : Str), (r : Int), ⟨⟩⟩, (ks : List (GTree)), ⟨⟩⟩⟩ := v
    rcases r_sc1 s a d k i g z q t r ks K hI with h1 | ⟨s', a', d', k', i', g', z', q', t', r', ks', h1, h2, h3, h4⟩
    · exact .inl h1
    · exact .inr ⟨((s', a', d', k', i', ()), (g', (z', q', ()), (t', r', ()), ks', ())), h1, h2, h3, h4⟩)
theorem y_spec_l3Scan (g : Gram) (s : Str) (a : Int) (d : Int) : evFn cx_sc1 Tryd.f122 true [ofD TG g, ofD .str s, ofD TI64 a, ofD TI64 d] [] = (
branch (bif decide (d < 1) then true else decide ((s.length : Int) ≤ a)) ( some ((.tup [(.agg [(.r (.v (Value.string (mk [])))), (.r (.v (Value.int IntKind.i64 0))), (.r (.li (ty60) ([])))]), (.one (.r (.v (Value.int IntKind.i64 (Int.neg 1)))))]), [])) (
 need (inb a s.length) <|
 branch (smallI (byteAt s a)) (
  need (inr a (W64 (a + 1)) s.length) <| some ((.tup [(.agg [(.r (.v (Value.string (mk (List.take ((W64 (a + 1)).toNat - a.toNat) (List.drop a.toNat s)))))), (.r (.v (Value.int IntKind.i64 (Int.neg 1)))), (.r (.li (ty60) ([])))]), (.one (.r (.v (Value.int IntKind.i64 (W64 (a + 1))))))]), [])) (
  need (inb a s.length) <|
  branch (bif !decide (byteAt s a = 91) then true else decide ((s.length : Int) ≤ W64 (a + 1))) ( some ((.tup [(.agg [(.r (.v (Value.string (mk [])))), (.r (.v (Value.int IntKind.i64 0))), (.r (.li (ty60) ([])))]), (.one (.r (.v (Value.int IntKind.i64 (Int.neg 1)))))]), [])) (
   need (inb (W64 (a + 1)) s.length) <|
   branch (bif decide (W64 (W64 (byteAt s (W64 (a + 1))) - 48) < 0) then true else decide ((List.length g.snd : Int) ≤ W64 (W64 (byteAt s (W64 (a + 1))) - 48))) ( some ((.tup [(.agg [(.r (.v (Value.string (mk [])))), (.r (.v (Value.int IntKind.i64 0))), (.r (.li (ty60) ([])))]), (.one (.r (.v (Value.int IntKind.i64 (Int.neg 1)))))]), [])) (
    need (inb (W64 (W64 (byteAt s (W64 (a + 1))) - 48)) (List.length g.snd)) <|
    need (pre_sc1 s (W64 (a + 2)) d (W64 (W64 (byteAt s (W64 (a + 1))) - 48)) 0 g ([] : Str) 0 (List.getD g.snd (W64 (W64 (byteAt s (W64 (a + 1))) - 48)).toNat d0).fst (W64 (W64 (byteAt s (W64 (a + 1))) - 48)) []) <|
    branch ((scK (scT g s (d.toNat - 1)) (List.length (rgt g (W64 (W64 (byteAt s (W64 (a + 1))) - 48))) - (0 : Int).toNat) (W64 (a + 2)) []).snd.snd) (
     need (bif decide (decide ((s.length : Int) ≤ (scK (scT g s (d.toNat - 1)) (List.length (rgt g (W64 (W64 (byteAt s (W64 (a + 1))) - 48))) - (0 : Int).toNat) (W64 (a + 2)) []).snd.fst) = false) then inb (scK (scT g s (d.toNat - 1)) (List.length (rgt g (W64 (W64 (byteAt s (W64 (a + 1))) - 48))) - (0 : Int).toNat) (W64 (a + 2)) []).snd.fst s.length else true) <|
     branch (bif decide ((s.length : Int) ≤ (scK (scT g s (d.toNat - 1)) (List.length (rgt g (W64 (W64 (byteAt s (W64 (a + 1))) - 48))) - (0 : Int).toNat) (W64 (a + 2)) []).snd.fst) then true else !decide (byteAt s (scK (scT g s (d.toNat - 1)) (List.length (rgt g (W64 (W64 (byteAt s (W64 (a + 1))) - 48))) - (0 : Int).toNat) (W64 (a + 2)) []).snd.fst = 93)) ( some ((.tup [(.agg [(.r (.v (Value.string (mk (List.getD g.snd (W64 (W64 (byteAt s (W64 (a + 1))) - 48)).toNat d0).fst)))), (.r (.v (Value.int IntKind.i64 (W64 (W64 (byteAt s (W64 (a + 1))) - 48))))), (.r (.li (Ty.tree) ((scK (scT g s (d.toNat - 1)) (List.length (rgt g (W64 (W64 (byteAt s (W64 (a + 1))) - 48))) - (0 : Int).toNat) (W64 (a + 2)) []).fst)))]), (.one (.r (.v (Value.int IntKind.i64 (Int.neg 1)))))]), [])) ( some ((.tup [(.agg [(.r (.v (Value.string (mk (List.getD g.snd (W64 (W64 (byteAt s (W64 (a + 1))) - 48)).toNat d0).fst)))), (.r (.v (Value.int IntKind.i64 (W64 (W64 (byteAt s (W64 (a + 1))) - 48))))), (.r (.li (Ty.tree) ((scK (scT g s (d.toNat - 1)) (List.length (rgt g (W64 (W64 (byteAt s (W64 (a + 1))) - 48))) - (0 : Int).toNat) (W64 (a + 2)) []).fst)))]), (.one (.r (.v (Value.int IntKind.i64 (W64 ((scK (scT g s (d.toNat - 1)) (List.length (rgt g (W64 (W64 (byteAt s (W64 (a + 1))) - 48))) - (0 : Int).toNat) (W64 (a + 2)) []).snd.fst + 1))))))]), []))) ( some ((.tup [(.agg [(.r (.v (Value.string (mk (List.getD g.snd (W64 (W64 (byteAt s (W64 (a + 1))) - 48)).toNat d0).fst)))), (.r (.v (Value.int IntKind.i64 (W64 (W64 (byteAt s (W64 (a + 1))) - 48))))), (.r (.li (Ty.tree) ((scK (scT g s (d.toNat - 1)) (List.length (rgt g (W64 (W64 (byteAt s (W64 (a + 1))) - 48))) - (0 : Int).toNat) (W64 (a + 2)) []).fst)))]), (.one (.r (.v (Value.int IntKind.i64 (Int.neg 1)))))]), []))))))) := by kernel_rfl
theorem sc_up : ConOk Tryd.prog 122 (conSc (lvC + 1)) := conT_ok Tryd.call122 fun (g : Gram) _ (s : Str) hs (a : Int) _ (d : Int) _ hqq => by
  have hpre := pre_of hqq
  rw [andd, andd, andd, andd, dec_iff, dec_iff, dec_iff, ble_iff] at hpre
  obtain ⟨h0, h1, h2, h3, h4⟩ := hpre
  have hs : s.length ≤ 9223372036854775807 := hs
  refine fn_sound (cx := cx_sc1) Tryd.func122 rfl ttOk Γ87ok mixed (fun c hc => LoopsOk.all (l := [(13, loopOf Tryd.f122 0)]) (by cases hc; kernel_rfl) ⟨atLoop rfl (l_sc1 1 rfl (by kernel_rfl)), trivial⟩) (ro := true) ?_
  refine (y_spec_l3Scan g s a d).trans ?_
  by_cases hd1 : d < 1
  · rw [decide_eq_true hd1, show d.toNat = 0 by omega]; rfl
  · rw [decide_eq_false hd1]
    obtain ⟨m, hm⟩ : ∃ m, d.toNat = m + 1 := ⟨d.toNat - 1, by omega⟩
    rw [hm, show m + 1 - 1 = m from rfl]
    have hr : scT g s (m + 1) a = bif decide ((s.length : Int) ≤ a) then (tz, -1) else bif small (List.getD s a.toNat 0) then (.node [List.getD s a.toNat 0] (-1) [], a + 1) else
      match ruleAt g (List.drop a.toNat s) with
      | none => (tz, -1)
      | some k => scE g s k (scK (scT g s m) (rgt g k).length (a + 2) []) := rfl
    rw [hr]
    by_cases ha : (s.length : Int) ≤ a
    · rw [decide_eq_true ha]; rfl
    · have ha' : a < (s.length : Int) := by omega
      have w1 : W64 (a + 1) = a + 1 := wrap_small (by omega) (by omega)
      rw [decide_eq_false ha, ruleAt_at h0 ha', w1, inb_ok h0 ha']
      have e1 : smallI (byteAt s a) = small (List.getD s a.toNat 0) := smallI_nat _
      rw [e1]
      cases hsm : small (List.getD s a.toNat 0)
      · have e2 : decide (byteAt s a = 91) = decide (List.getD s a.toNat 0 = 91) := by
          rw [decide_eq_decide]
          show (((List.getD s a.toNat 0).toNat : Nat) : Int) = 91 ↔ _
          constructor
          · intro e; exact UInt8.toNat_inj.1 (by show (List.getD s a.toNat 0).toNat = 91; omega)
          · intro e; rw [e]; rfl
        rw [e2]
        cases e3 : decide (List.getD s a.toNat 0 = 91)
        · rfl
        · by_cases ha2 : a + 1 < (s.length : Int)
          · have hb2 := (List.getD s (a + 1).toNat 0).toNat_lt
            have w : W64 (W64 (byteAt s (a + 1)) - 48) = (((List.getD s (a + 1).toNat 0).toNat : Nat) : Int) - 48 := by
              show W64 (W64 (((List.getD s (a + 1).toNat 0).toNat : Nat) : Int) - 48) = _
              simp only [W64]
              rw [wrap_small (n := (((List.getD s (a + 1).toNat 0).toNat : Nat) : Int)) (by omega) (by omega), wrap_small (by omega) (by omega)]
            have w2 : W64 (a + 2) = a + 2 := wrap_small (by omega) (by omega)
            rw [w, w2, decide_eq_true ha2, decide_eq_false (by omega : ¬ (s.length : Int) ≤ a + 1), inb_ok (by omega : 0 ≤ a + 1) ha2, out_eq]
            generalize (((List.getD s (a + 1).toNat 0).toNat : Nat) : Int) - 48 = k
            cases e4 : inb k (List.length g.2)
            · rfl
            · have hrl := rgt_len (k := k) h4
              have hp : pre_sc1 s (a + 2) d k 0 g ([] : Str) 0 (List.getD g.2 k.toNat d0).1 k [] = true := by
                simp only [pre_sc1]
                rw [andd, andd, andd, andd, andd, andd, andd, dec_iff, dec_iff, dec_iff, dec_iff, dec_iff, ble_iff]
                exact ⟨by omega, by omega, e4, by simp, by omega, by omega, by omega, h4⟩
              rw [hp, show (rgt g k).length - (0 : Int).toNat = (rgt g k).length from rfl]
              simp only [Bool.not_true, cond_false, need_t, branch_false, Bool.true_and, cond_true]
              have hpos := scK_pos (f := scT g s m) (m := (rgt g k).length) (a := a + 2) (acc := []) (by omega)
              generalize scK (scT g s m) (rgt g k).length (a + 2) [] = P at hpos
              obtain ⟨ks, b, ok⟩ := P
              change 0 ≤ b at hpos
              change branch ok _ _ = some (T.tup [ofD .tree (scE g s k (ks, b, ok)).1, ofD TI64 (scE g s k (ks, b, ok)).2], [])
              cases ok
              · rfl
              · by_cases hb : (s.length : Int) ≤ b
                · have : inb b s.length = false := by
                    cases h : inb b s.length
                    · rfl
                    · have := inb_iff.1 h; omega
                  unfold scE
                  simp only [this, Bool.true_and, Bool.false_and, cond_false]
                  rw [decide_eq_true hb]; rfl
                · have hb' : b < (s.length : Int) := by omega
                  have w3 : W64 (b + 1) = b + 1 := wrap_small (by omega) (by omega)
                  have e5 : decide (byteAt s b = 93) = decide (List.getD s b.toNat 0 = 93) := by
                    rw [decide_eq_decide]
                    show (((List.getD s b.toNat 0).toNat : Nat) : Int) = 93 ↔ _
                    constructor
                    · intro e; exact UInt8.toNat_inj.1 (by show (List.getD s b.toNat 0).toNat = 93; omega)
                    · intro e; rw [e]; rfl
                  unfold scE
                  simp only [inb_ok hpos hb', Bool.true_and]
                  rw [decide_eq_false hb, e5, w3]
                  cases decide (List.getD s b.toNat 0 = 93) <;> rfl
          · rw [decide_eq_false ha2, decide_eq_true (by omega : (s.length : Int) ≤ a + 1)]; rfl
      · rw [slice_one h0 ha', inr_iff.2 (by omega : 0 ≤ a ∧ a ≤ a + 1 ∧ a + 1 ≤ (s.length : Int))]; rfl
end
theorem sc_all : ∀ n, ConOk Tryd.prog 122 (conSc n)
  | 0 => conT_ok Tryd.call122 fun g _ s _ (a : Int) _ (d : Int) _ hqq => by
    have hpre := pre_of hqq
    rw [andd, andd, andd, dec_iff, dec_iff, dec_iff] at hpre
    omega
  | n + 1 => @sc_up ⟨⟨n, sc_all n⟩⟩
noncomputable def c_spec_l3Scan : Con := conSc 50
theorem k_spec_l3Scan : ConOk Tryd.prog 122 c_spec_l3Scan := sc_all 50
noncomputable def Γ88 : List (Nat × Con) := (122, c_spec_l3Scan) :: Γ86
theorem Γ88ok : EnvOk Tryd.prog (look Γ88) := .cons k_spec_l3Scan Γ86ok

theorem hasP_one {s : Str} : hasP s [93] = decide (List.take 1 s = [93]) := by
  unfold hasP
  cases s with
  | nil => rfl
  | cons c r =>
    rw [decide_eq_true (by simp only [List.length_cons, List.length_nil]; omega)]; rfl
theorem take_one {s : Str} {a : Int} (h0 : 0 ≤ a) (h1 : a < (s.length : Int)) : List.take 1 (List.drop a.toNat s) = [List.getD s a.toNat 0] := by
  have hn : a.toNat < s.length := by omega
  rw [List.drop_eq_getElem_cons hn, List.getD_eq_getElem?_getD, List.getElem?_eq_getElem hn]; rfl
/-- the two readers go together: at a place -/
def gets (s : Str) (a : Int) (p : GTree × Str × Bool) (q : GTree × Int) : Prop :=
  (p.2.2 = true → q.1 = p.1 ∧ a < q.2 ∧ q.2 ≤ (s.length : Int) ∧ p.2.1 = List.drop q.2.toNat s) ∧ (p.2.2 = false → q.2 < 0)
theorem gets_kids {s : Str} {f : Str → GTree × Str × Bool} {f' : Int → GTree × Int} (hf : ∀ a, 0 ≤ a → a ≤ (s.length : Int) → gets s a (f (List.drop a.toNat s)) (f' a)) :
    ∀ {m : Nat} {a : Int} {acc : List GTree}, 0 ≤ a → a ≤ (s.length : Int) →
      (∀ p, rdK f m (List.drop a.toNat s) acc = some p → ∃ b, scK f' m a acc = (p.1, b, true) ∧ a ≤ b ∧ b ≤ (s.length : Int) ∧ p.2 = List.drop b.toNat s) ∧ (rdK f m (List.drop a.toNat s) acc = none → (scK f' m a acc).2.2 = false)
  | 0, a, acc, h0, h1 => by
    unfold rdK scK
    exact ⟨fun p e => ⟨a, by cases e; rfl, by omega, h1, by cases e; rfl⟩, fun e => by cases e⟩
  | m + 1, a, acc, h0, h1 => by
    obtain ⟨g1, g2⟩ := hf a h0 h1
    unfold rdK scK
    cases hc : (f (List.drop a.toNat s)).2.2
    · have := g2 hc
      rw [decide_eq_true this]
      exact ⟨fun p e => by (cases e), fun _ => rfl⟩
    · obtain ⟨e1, e2, e3, e4⟩ := g1 hc
      rw [decide_eq_false (by omega : ¬ (f' a).2 < 0), e4, e1]
      obtain ⟨k1, k2⟩ := gets_kids hf (m := m) (a := (f' a).2) (acc := acc ++ [(f (List.drop a.toNat s)).1]) (by omega) e3
      refine ⟨fun p e => ?_, k2⟩
      obtain ⟨b, b1, b2, b3, b4⟩ := k1 p e
      exact ⟨b, b1, by omega, b3, b4⟩
theorem gets_all {g : Gram} {s : Str} : ∀ {n : Nat} {a : Int}, 0 ≤ a → a ≤ (s.length : Int) → gets s a (rdT g n (List.drop a.toNat s)) (scT g s n a)
  | 0, _, _, _ => ⟨fun e => by (cases e), fun _ => by show (-1 : Int) < 0; omega⟩
  | n + 1, a, h0, h1 => by
    unfold rdT scT
    by_cases ha : (s.length : Int) ≤ a
    · rw [decide_eq_true ha, decide_eq_true (List.drop_eq_nil_of_le (by omega))]
      exact ⟨fun e => by (cases e), fun _ => by show (-1 : Int) < 0; omega⟩
    · have ha' : a < (s.length : Int) := by omega
      have hne : ¬ List.drop a.toNat s = [] := fun e => by
        have := congrArg List.length e
        rw [List.length_drop] at this
        simp only [List.length_nil] at this
        omega
      rw [decide_eq_false ha, decide_eq_false hne, take_one h0 ha']
      rw [show smallS [List.getD s a.toNat 0] = small (List.getD s a.toNat 0) by simp [smallS]]
      cases small (List.getD s a.toNat 0)
      · simp only [cond_false]
        cases e : ruleAt g (List.drop a.toNat s) with
        | none => exact ⟨fun e => by (cases e), fun _ => by show (-1 : Int) < 0; omega⟩
        | some k =>
          have ha2 : a + 1 < (s.length : Int) := by
            rw [ruleAt_at h0 ha'] at e
            by_cases h : a + 1 < (s.length : Int)
            · exact h
            · rw [decide_eq_false h] at e
              cases h2 : decide (List.getD s a.toNat 0 = 91) <;> (rw [h2] at e; cases e)
          obtain ⟨k1, k2⟩ := gets_kids (s := s) (f := rdT g n) (f' := scT g s n) (fun a h0 h1 => gets_all h0 h1) (m := (rgt g k).length) (a := a + 2) (acc := []) (by omega) (by omega)
          rw [show (a + 2).toNat = a.toNat + 2 by omega, ← List.drop_drop] at k1 k2
          simp only []
          cases hr : rdK (rdT g n) (rgt g k).length (List.drop 2 (List.drop a.toNat s)) [] with
          | none =>
            refine ⟨fun e => by (cases e), fun _ => ?_⟩
            unfold scE
            rw [k2 hr]; show (-1 : Int) < 0; omega
          | some p =>
            obtain ⟨b, b1, b2, b3, b4⟩ := k1 p hr
            obtain ⟨ks, rest⟩ := p
            change rest = _ at b4
            subst b4
            rw [b1]
            unfold rdE scE
            simp only [hasP_one]
            by_cases hb : b < (s.length : Int)
            · rw [take_one (by omega) hb, inb_ok (by omega) hb]
              have e93 : decide (([List.getD s b.toNat 0] : Str) = [93]) = decide (List.getD s b.toNat 0 = 93) := by
                rw [decide_eq_decide]
                exact ⟨fun h => (List.cons.inj h).1, fun h => by rw [h]⟩
              rw [e93]
              cases decide (List.getD s b.toNat 0 = 93)
              · exact ⟨fun e => by (cases e), fun _ => by show (-1 : Int) < 0; omega⟩
              · refine ⟨fun _ => ⟨rfl, by show a < b + 1; omega, by show b + 1 ≤ _; omega, ?_⟩, fun e => by (cases e)⟩
                show List.drop 1 (List.drop b.toNat s) = List.drop (b + 1).toNat s
                rw [List.drop_drop, show (b + 1).toNat = b.toNat + 1 by omega]
            · have hnb : inb b s.length = false := by
                cases h : inb b s.length
                · rfl
                · have := inb_iff.1 h; omega
              rw [hnb, List.drop_eq_nil_of_le (by omega : s.length ≤ b.toNat)]
              exact ⟨fun e => by (cases e), fun _ => by show (-1 : Int) < 0; omega⟩
      · refine ⟨fun _ => ⟨rfl, by show a < a + 1; omega, by show a + 1 ≤ _; omega, ?_⟩, fun e => by (cases e)⟩
        show List.drop 1 (List.drop a.toNat s) = List.drop (a + 1).toNat s
        rw [List.drop_drop, show (a + 1).toNat = a.toNat + 1 by omega]
theorem dig_at {r : Int} (h : dig r = true) : ((UInt8.ofNat (48 + r.toNat)).toNat : Int) - 48 = r := by
  rcases dig_cases h with rfl | rfl | rfl | rfl | rfl | rfl | rfl | rfl | rfl | rfl <;> decide
theorem rd_kids {f : Str → GTree × Str × Bool} {x : GTree → Str} {ok : GTree → Bool} (hf : ∀ t rest, ok t = true → f (x t ++ rest) = (t, rest, true)) : ∀ {ks : List GTree} {s : Str} {acc : List GTree} {rest : Str}, kidsL ok ks s = true → rdK f ks.length (ks.flatMap x ++ rest) acc = some (acc ++ ks, rest)
  | [], _, acc, rest, _ => by
    show some (acc, rest) = _
    rw [List.append_nil]
  | k :: ks, [], _, _, h => by cases h
  | k :: ks, c :: s, acc, rest, h => by
    unfold kidsL at h
    rw [andd, andd] at h
    have e := hf k (ks.flatMap x ++ rest) h.2.1
    rw [List.flatMap_cons, List.append_assoc]
    show (bif (f (x k ++ (ks.flatMap x ++ rest))).2.2 then rdK f ks.length (f (x k ++ (ks.flatMap x ++ rest))).2.1 (acc ++ [(f (x k ++ (ks.flatMap x ++ rest))).1]) else none) = _
    rw [e]
    show rdK f ks.length (ks.flatMap x ++ rest) (acc ++ [k]) = _
    rw [rd_kids hf h.2.2, List.append_assoc]; rfl
/-- what is written is read -/
theorem rd_txt {g : Gram} (hg : okG g = true) : ∀ {n : Nat} {t : GTree} {rest : Str}, shapeT g n t = true → rdT g n (txtP n t ++ rest) = (t, rest, true)
  | 0, _, _, h => by cases h
  | n + 1, t, rest, h => by
    unfold shapeT at h
    unfold txtP rdT
    cases hs : smallS t.sign <;> rw [hs] at h
    · cases h2 : nodeOk g t <;> rw [h2] at h
      · cases h
      · obtain ⟨n1, n2, n3⟩ := node_iff h2
        obtain ⟨i0, i1⟩ := inb_iff.1 n1
        have hl : List.length g.2 ≤ 8 := (okG_iff hg).2.1
        have hd : dig t.rule = true := andd.2 ⟨dec_iff.2 i0, dec_iff.2 (by omega)⟩
        have hk := rd_kids (f := rdT g n) (x := txtP n) (ok := shapeT g n) (fun k r hk => rd_txt hg hk) (acc := []) (rest := 93 :: rest) h
        have e : ((91 : UInt8) :: (digS t.rule ++ (t.kids.flatMap (txtP n) ++ [93]))) ++ rest = (91 : UInt8) :: UInt8.ofNat (48 + t.rule.toNat) :: (t.kids.flatMap (txtP n) ++ 93 :: rest) := by
          simp only [digS, List.cons_append, List.nil_append, List.append_assoc]
        rw [cond_false, e]
        have hr : ruleAt g ((91 : UInt8) :: UInt8.ofNat (48 + t.rule.toNat) :: (t.kids.flatMap (txtP n) ++ 93 :: rest)) = some t.rule := by
          unfold ruleAt
          simp only [dig_at hd, n1]; rfl
        show (match ruleAt g ((91 : UInt8) :: UInt8.ofNat (48 + t.rule.toNat) :: (t.kids.flatMap (txtP n) ++ 93 :: rest)) with
          | none => (tz, [], false)
          | some k => rdE g k (rdK (rdT g n) (rgt g k).length (t.kids.flatMap (txtP n) ++ 93 :: rest) [])) = _
        rw [hr]
        simp only []
        rw [← n3, hk]
        refine Eq.trans (b := (GTree.node (List.getD g.2 t.rule.toNat d0).1 t.rule t.kids, rest, true)) ?_ ?_
        · unfold rdE
          rw [List.nil_append]
          have : hasP (93 :: rest) [93] = true := by rw [hasP_one]; rfl
          simp only [this]; rfl
        rw [n2, tEta]
    · obtain ⟨c, e, hc⟩ := smallS_one hs
      obtain ⟨l1, l2⟩ := andd.1 h
      have l1 := of_decide_eq_true l1
      have l2 : t.kids = [] := List.length_eq_zero_iff.1 (Nat.eq_of_beq_eq_true l2)
      rw [cond_true, e]
      show (bif smallS [c] then (GTree.node [c] (-1) [], rest, true) else _) = _
      rw [← e, hs, cond_true, ← l1, ← l2, tEta]
theorem kids_txt {f : Str → GTree × Str × Bool} {x : GTree → Str} (hf : ∀ s, (f s).2.2 = true → s = x (f s).1 ++ (f s).2.1) : ∀ {m : Nat} {s : Str} {acc : List GTree} {p : List GTree × Str}, rdK f m s acc = some p → ∃ ks, p.1 = acc ++ ks ∧ s = ks.flatMap x ++ p.2
  | 0, s, acc, p, h => by
    cases h
    exact ⟨[], (List.append_nil _).symm, rfl⟩
  | m + 1, s, acc, p, h => by
    unfold rdK at h
    cases hc : (f s).2.2 <;> rw [hc] at h
    · cases h
    · obtain ⟨ks, e1, e2⟩ := kids_txt hf h
      refine ⟨(f s).1 :: ks, by rw [e1, List.append_assoc]; rfl, ?_⟩
      rw [List.flatMap_cons, List.append_assoc, ← e2]
      exact hf s hc
/-- what is read is what is written -/
theorem txt_rd {g : Gram} (hg : okG g = true) : ∀ {n : Nat} {s : Str}, (rdT g n s).2.2 = true → s = txtP n (rdT g n s).1 ++ (rdT g n s).2.1
  | 0, _, h => by cases h
  | n + 1, s, h => by
    unfold rdT at h ⊢
    cases s with
    | nil => cases h
    | cons c r =>
      change (bif smallS [c] then (GTree.node [c] (-1) [], r, true) else match ruleAt g (c :: r) with
        | none => (tz, [], false)
        | some k => rdE g k (rdK (rdT g n) (rgt g k).length (List.drop 1 r) [])).2.2 = true at h
      show c :: r = txtP (n + 1) (bif smallS [c] then (GTree.node [c] (-1) [], r, true) else match ruleAt g (c :: r) with
        | none => (tz, [], false)
        | some k => rdE g k (rdK (rdT g n) (rgt g k).length (List.drop 1 r) [])).1 ++ (bif smallS [c] then (GTree.node [c] (-1) [], r, true) else match ruleAt g (c :: r) with
        | none => (tz, [], false)
        | some k => rdE g k (rdK (rdT g n) (rgt g k).length (List.drop 1 r) [])).2.1
      cases hc : smallS [c]
      · rw [hc] at h
        simp only [cond_false] at h ⊢
        cases r with
        | nil => cases h
        | cons c2 r =>
          unfold ruleAt at h ⊢
          simp only [] at h ⊢
          cases e1 : decide (c = 91) && inb ((c2.toNat : Int) - 48) (List.length g.2)
          · rw [e1] at h; cases h
          · rw [e1] at h
            simp only [cond_true] at h ⊢
            obtain ⟨e2, e3⟩ := andd.1 e1
            have e2 := of_decide_eq_true e2
            subst e2
            obtain ⟨i0, i1⟩ := inb_iff.1 e3
            obtain ⟨_, hl, hrs⟩ := okG_iff hg
            have hb := c2.toNat_lt
            have hc2 : digS ((c2.toNat : Int) - 48) = [c2] := by
              unfold digS
              rw [show 48 + ((c2.toNat : Int) - 48).toNat = c2.toNat by omega]
              exact congrArg (fun x => [x]) UInt8.ofNat_toNat
            have hleft : smallS (List.getD g.2 ((c2.toNat : Int) - 48).toNat d0).1 = false := by
              have hn : ((c2.toNat : Int) - 48).toNat < List.length g.2 := by omega
              have := (hrs (List.getD g.2 ((c2.toNat : Int) - 48).toNat d0) (by rw [getD_at hn]; exact List.getElem_mem hn)).1
              obtain ⟨c, e, hc⟩ := bigS_one this
              rw [e]
              cases hs : smallS [c]
              · rfl
              · obtain ⟨c', e', hc'⟩ := smallS_one hs
                cases (List.cons.inj e').1
                exact absurd ⟨hc, hc'⟩ (big_small c)
            cases hr : rdK (rdT g n) (rgt g ((c2.toNat : Int) - 48)).length (List.drop 1 (c2 :: r)) [] with
            | none => rw [hr] at h; cases h
            | some p =>
              rw [hr] at h
              obtain ⟨ks, k1, k2⟩ := kids_txt (x := txtP n) (fun s hs => txt_rd hg hs) hr
              obtain ⟨qs, rest⟩ := p
              change qs = ks at k1
              subst k1
              change r = _ ++ rest at k2
              change hasP rest [93] = true at h
              show 91 :: c2 :: r = txtP (n + 1) (.node (List.getD g.2 ((c2.toNat : Int) - 48).toNat d0).1 ((c2.toNat : Int) - 48) qs) ++ (bif hasP rest [93] then List.drop 1 rest else rest)
              unfold txtP
              have h' := h
              rw [hasP_one, dec_iff] at h'
              rw [h, cond_true]
              have hsg : smallS (GTree.node (List.getD g.2 ((c2.toNat : Int) - 48).toNat d0).1 ((c2.toNat : Int) - 48) qs).sign = false := hleft
              rw [hsg, cond_false]
              have hrest : rest = 93 :: List.drop 1 rest := by
                cases rest with
                | nil => cases h'
                | cons x y =>
                  cases (List.cons.inj h').1; rfl
              show 91 :: c2 :: r = (91 :: (digS ((c2.toNat : Int) - 48) ++ (qs.flatMap (txtP n) ++ [93]))) ++ List.drop 1 rest
              rw [hc2, k2]
              simp only [List.cons_append, List.nil_append, List.append_assoc]
              rw [← hrest]
      · rw [cond_true]
        show c :: r = txtP (n + 1) (.node [c] (-1) []) ++ r
        unfold txtP
        have : smallS (GTree.node [c] (-1) []).sign = true := hc
        rw [this]; rfl
theorem text_txt {g : Gram} {t : GTree} (h : okT g t = true) : textG g t = txtP 20 t := by
  unfold textG
  rw [h]; rfl
theorem text_nil {g : Gram} {t : GTree} (h : okT g t = false) : textG g t = [] := by
  unfold textG
  rw [h]; rfl
/-- the reference's way -/
theorem read_ref {g : Gram} (hg : okG g = true) (s : Str) : ((rdT g 20 s).2.2 && decide ((rdT g 20 s).2.1 = []) && okT g (rdT g 20 s).1) = (decide ((scT g s 20 0).2 = (s.length : Int)) && !decide (s = []) && decide (textG g (scT g s 20 0).1 = s)) ∧ ((scT g s 20 0).2 = (s.length : Int) → (scT g s 20 0).1 = (rdT g 20 s).1) := by
  obtain ⟨g1, g2⟩ := gets_all (g := g) (s := s) (n := 20) (a := 0) (by omega) (by omega)
  change (rdT g 20 s).2.2 = true → _ ∧ _ ∧ _ ∧ (rdT g 20 s).2.1 = _ at g1
  change (rdT g 20 s).2.2 = false → _ at g2
  cases hc : (rdT g 20 s).2.2
  · have := g2 hc
    rw [decide_eq_false (by omega : ¬ (scT g s 20 0).2 = (s.length : Int))]
    exact ⟨rfl, fun e => by omega⟩
  · obtain ⟨e1, e2, e3, e4⟩ := g1 hc
    change (scT g s 20 0).1 = (rdT g 20 s).1 at e1
    have hw := txt_rd hg hc
    refine ⟨?_, fun _ => e1⟩
    rw [e1]
    have hne : ¬ s = [] := fun e => by
      subst e; cases hc
    rw [decide_eq_false hne]
    by_cases hl : (scT g s 20 0).2 = (s.length : Int)
    · have hz : (rdT g 20 s).2.1 = [] := by rw [e4]; exact List.drop_eq_nil_of_le (by omega)
      rw [hz, List.append_nil] at hw
      rw [decide_eq_true hl, decide_eq_true hz]
      cases hO : okT g (rdT g 20 s).1
      · rw [text_nil hO, decide_eq_false (fun e => hne e.symm)]; rfl
      · rw [text_txt hO, decide_eq_true hw.symm]; rfl
    · have hz : ¬ (rdT g 20 s).2.1 = [] := fun e => by
        rw [e4] at e
        have := congrArg List.length e
        rw [List.length_drop] at this
        simp only [List.length_nil] at this
        omega
      rw [decide_eq_false hl, decide_eq_false hz]; rfl
theorem y_spec_TreeRead (g : Gram) (s : Str) : evFn ((cxOf Γ88 Tryd.f50.ntmps [] [] [] []).parted [3, 4]) Tryd.f50 true [ofD TG g, ofD .str s] [] = (
branch (!okG g) ( some ((.tup [(.agg [(.r (.v (Value.string (mk [])))), (.r (.v (Value.int IntKind.i64 0))), (.r (.li (ty60) ([])))]), (.one (.r (.v (Value.bool false))))]), [])) (
 need (decide (0 ≤ 0) && (decide (0 ≤ 20) && (decide (20 < (50 : Int)) && (Nat.ble 50 100 && szG 20 g)))) <|
 branch (decide ((!decide ((scT g s (Int.toNat 20) 0).snd = (s.length : Int))) = false)) (
  branch (decide ((bif false then true else decide (s = [])) = false)) (
   branch (bif false then true else !decide ((textG g (GTree.node (scT g s (Int.toNat 20) 0).fst.sign (scT g s (Int.toNat 20) 0).fst.rule (scT g s (Int.toNat 20) 0).fst.kids)) = s)) ( some ((.tup [(.agg [(.r (.v (Value.string (mk [])))), (.r (.v (Value.int IntKind.i64 0))), (.r (.li (ty60) ([])))]), (.one (.r (.v (Value.bool false))))]), [])) ( some ((.tup [(.agg [(.r (.v (Value.string (mk (scT g s (Int.toNat 20) 0).fst.sign)))), (.r (.v (Value.int IntKind.i64 (scT g s (Int.toNat 20) 0).fst.rule))), (.r (.li (Ty.tree) ((scT g s (Int.toNat 20) 0).fst.kids)))]), (.one (.r (.v (Value.bool true))))]), []))) ( some ((.tup [(.agg [(.r (.v (Value.string (mk [])))), (.r (.v (Value.int IntKind.i64 0))), (.r (.li (ty60) ([])))]), (.one (.r (.v (Value.bool false))))]), []))) ( some ((.tup [(.agg [(.r (.v (Value.string (mk [])))), (.r (.v (Value.int IntKind.i64 0))), (.r (.li (ty60) ([])))]), (.one (.r (.v (Value.bool false))))]), [])))) := by kernel_rfl
theorem s_spec_TreeRead (g : Gram) (_hg : Fit TG g) (s : Str) (_hs : Fit .str s) : Sat Tryd.prog 50 [ofD TG g, ofD .str s] [] (.tup [ofD .tree (readG g s).1, ofD .bool (readG g s).2]) [] :=
  fn_sound (cx := ((cxOf Γ88 Tryd.f50.ntmps [] [] [] []).parted [3, 4])) Tryd.func50 rfl ttOk Γ88ok mixed (fun _ _ => LoopsOk.no fun _ => rfl) (ro := true) (by
    refine (y_spec_TreeRead g s).trans ?_
    rw [tEta]
    unfold readG
    cases hG : okG g
    · rfl
    · obtain ⟨h1, h2⟩ := read_ref hG s
      rw [ok_sz hG, h1]
      simp only [Bool.not_true, branch_false, cond_true]
      change branch (decide ((!decide ((scT g s 20 0).2 = (s.length : Int))) = false)) (branch (decide ((bif false then true else decide (s = [])) = false)) (branch (bif false then true else !decide (textG g (scT g s 20 0).1 = s)) _ (some (T.tup [ofD .tree (scT g s 20 0).1, ofD .bool true], []))) _) _ = _
      by_cases a1 : (scT g s 20 0).2 = (s.length : Int)
      · rw [decide_eq_true a1, h2 a1]
        cases decide (s = [])
        · cases decide (textG g (rdT g 20 s).1 = s) <;> rfl
        · rfl
      · rw [decide_eq_false a1]; rfl)
noncomputable def c_spec_TreeRead : Con := conT [TG, .str] fun (g : Gram) (s : Str) => (none, .tup [ofD .tree (readG g s).1, ofD .bool (readG g s).2])
theorem k_spec_TreeRead : ConOk Tryd.prog 50 c_spec_TreeRead := conT_ok Tryd.call50 fun g hg s hs _ => s_spec_TreeRead g hg s hs
noncomputable def Γ89 : List (Nat × Con) := (50, c_spec_TreeRead) :: Γ88
theorem Γ89ok : EnvOk Tryd.prog (look Γ89) := .cons k_spec_TreeRead Γ88ok

end Go.Proofs.YthbpnbbilaobbaaDoor.Ev

-- G=89