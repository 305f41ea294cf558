/-
  FnGramBent: guards, sameness of grammars.
-/
import Derived.Test.YthbpnbbilaobbaaDoorGf
namespace Go.Proofs.YthbpnbbilaobbaaDoor.Ev
open Go
noncomputable def c_impl_GramOkB : Con := conT [TG] fun g => (some (!okG g), .d (ofD .bool false))
theorem k_impl_GramOkB : ConOk Tryd.prog 31 c_impl_GramOkB := conT_ok Tryd.call31 fun g hg hqq => by
  have h := pre_of hqq
  have := s_impl_GramOk g hg
  rw [Bool.not_eq_true'] at h
  rw [h] at this
  exact this
noncomputable def Γ35 : List (Nat × Con) := (31, c_impl_GramOkB) :: Γ34
theorem Γ35ok : EnvOk Tryd.prog (look Γ35) := .cons k_impl_GramOkB Γ34ok

theorem s_impl_GramTextB (g : Gram) (_hg : Fit TG g) (hpre : (!okG g) = true) : Sat Tryd.prog 52 [ofD TG g] [] (.d (ofD .str [])) [] :=
  fn_sound (cx := cxOf Γ35 Tryd.f52.ntmps [] [] [] []) Tryd.func52 rfl ttOk Γ35ok mixed (fun _ _ => LoopsOk.no fun _ => rfl) (ro := true) (by
    have y : evFn (cxOf Γ35 Tryd.f52.ntmps [] [] [] []) Tryd.f52 true [ofD TG g] [] = need (!okG g) (some (.d (ofD .str []), [])) := by kernel_rfl
    rw [y, hpre]; rfl)
noncomputable def c_impl_GramTextB : Con := conT [TG] fun (g : Gram) => (some (!okG g), .d (ofD .str []))
theorem k_impl_GramTextB : ConOk Tryd.prog 52 c_impl_GramTextB := conT_ok Tryd.call52 fun g hg hqq => s_impl_GramTextB g hg (pre_of hqq)
noncomputable def Γ36 : List (Nat × Con) := (52, c_impl_GramTextB) :: Γ35
theorem Γ36ok : EnvOk Tryd.prog (look Γ36) := .cons k_impl_GramTextB Γ35ok

theorem s_impl_GramForB (g : Gram) (_hg : Fit TG g) (s : Str) (_hs : Fit .str s) (hpre : (!okG g) = true) : Sat Tryd.prog 53 [ofD TG g, ofD .str s] [] (.d (ofD TIS [])) [] :=
  fn_sound (cx := cxOf Γ36 Tryd.f53.ntmps [] [] [] []) Tryd.func53 rfl ttOk Γ36ok mixed (fun _ _ => LoopsOk.no fun _ => rfl) (ro := true) (by
    have y : evFn (cxOf Γ36 Tryd.f53.ntmps [] [] [] []) Tryd.f53 true [ofD TG g, ofD .str s] [] = need (!okG g) (some (.d (ofD TIS []), [])) := by kernel_rfl
    rw [y, hpre]; rfl)
noncomputable def c_impl_GramForB : Con := conT [TG, .str] fun (g : Gram) (_s : Str) => (some (!okG g), .d (ofD TIS []))
theorem k_impl_GramForB : ConOk Tryd.prog 53 c_impl_GramForB := conT_ok Tryd.call53 fun g hg s hs hqq => s_impl_GramForB g hg s hs (pre_of hqq)
noncomputable def Γ37 : List (Nat × Con) := (53, c_impl_GramForB) :: Γ36
theorem Γ37ok : EnvOk Tryd.prog (look Γ37) := .cons k_impl_GramForB Γ36ok

theorem s_impl_GramBigsB (g : Gram) (_hg : Fit TG g) (hpre : (!okG g) = true) : Sat Tryd.prog 35 [ofD TG g] [] (.d (ofD .str [])) [] :=
  fn_sound (cx := cxOf Γ37 Tryd.f35.ntmps [] [] [] []) Tryd.func35 rfl ttOk Γ37ok mixed (fun _ _ => LoopsOk.no fun _ => rfl) (ro := true) (by
    have y : evFn (cxOf Γ37 Tryd.f35.ntmps [] [] [] []) Tryd.f35 true [ofD TG g] [] = need (!okG g) (some (.d (ofD .str []), [])) := by kernel_rfl
    rw [y, hpre]; rfl)
noncomputable def c_impl_GramBigsB : Con := conT [TG] fun (g : Gram) => (some (!okG g), .d (ofD .str []))
theorem k_impl_GramBigsB : ConOk Tryd.prog 35 c_impl_GramBigsB := conT_ok Tryd.call35 fun g hg hqq => s_impl_GramBigsB g hg (pre_of hqq)
noncomputable def Γ38 : List (Nat × Con) := (35, c_impl_GramBigsB) :: Γ37
theorem Γ38ok : EnvOk Tryd.prog (look Γ38) := .cons k_impl_GramBigsB Γ37ok

theorem s_impl_GramSmallsB (g : Gram) (_hg : Fit TG g) (hpre : (!okG g) = true) : Sat Tryd.prog 33 [ofD TG g] [] (.d (ofD .str [])) [] :=
  fn_sound (cx := cxOf Γ38 Tryd.f33.ntmps [] [] [] []) Tryd.func33 rfl ttOk Γ38ok mixed (fun _ _ => LoopsOk.no fun _ => rfl) (ro := true) (by
    have y : evFn (cxOf Γ38 Tryd.f33.ntmps [] [] [] []) Tryd.f33 true [ofD TG g] [] = need (!okG g) (some (.d (ofD .str []), [])) := by kernel_rfl
    rw [y, hpre]; rfl)
noncomputable def c_impl_GramSmallsB : Con := conT [TG] fun (g : Gram) => (some (!okG g), .d (ofD .str []))
theorem k_impl_GramSmallsB : ConOk Tryd.prog 33 c_impl_GramSmallsB := conT_ok Tryd.call33 fun g hg hqq => s_impl_GramSmallsB g hg (pre_of hqq)
noncomputable def Γ39 : List (Nat × Con) := (33, c_impl_GramSmallsB) :: Γ38
theorem Γ39ok : EnvOk Tryd.prog (look Γ39) := .cons k_impl_GramSmallsB Γ38ok

theorem s_impl_GramOnlyB (g : Gram) (_hg : Fit TG g) (l : List Int) (_hl : Fit TIS l) (hpre : (!okG g) = true) : Sat Tryd.prog 54 [ofD TG g, ofD TIS l] [] (.d (ofD TG ([], []))) [] :=
  fn_sound (cx := cxOf Γ39 Tryd.f54.ntmps [] [] [] []) Tryd.func54 rfl ttOk Γ39ok mixed (fun _ _ => LoopsOk.no fun _ => rfl) (ro := true) (by
    have y : evFn (cxOf Γ39 Tryd.f54.ntmps [] [] [] []) Tryd.f54 true [ofD TG g, ofD TIS l] [] = need (!okG g) (some (.d (ofD TG ([], [])), [])) := by kernel_rfl
    rw [y, hpre]; rfl)
noncomputable def c_impl_GramOnlyB : Con := conT [TG, TIS] fun (g : Gram) (_l : List Int) => (some (!okG g), .d (ofD TG ([], [])))
theorem k_impl_GramOnlyB : ConOk Tryd.prog 54 c_impl_GramOnlyB := conT_ok Tryd.call54 fun g hg l hl hqq => s_impl_GramOnlyB g hg l hl (pre_of hqq)
noncomputable def Γ40 : List (Nat × Con) := (54, c_impl_GramOnlyB) :: Γ39
theorem Γ40ok : EnvOk Tryd.prog (look Γ40) := .cons k_impl_GramOnlyB Γ39ok

noncomputable def c_impl_GramOkZ : Con := c_impl_GramOk
theorem k_impl_GramOkZ : ConOk Tryd.prog 31 c_impl_GramOkZ := k_impl_GramOk
noncomputable def Γ41 : List (Nat × Con) := (31, c_impl_GramOkZ) :: Γ40
theorem Γ41ok : EnvOk Tryd.prog (look Γ41) := .cons k_impl_GramOkZ Γ40ok

def eqRs : List Rule → List Rule → Bool
  | [], [] => true
  | a :: l, b :: m => eqRu a b && eqRs l m
  | _, _ => false
theorem eqRs_iff : ∀ {l m : List Rule}, eqRs l m = true ↔ l = m
  | [], [] => ⟨fun _ => rfl, fun _ => rfl⟩
  | a :: l, b :: m => by simp only [eqRs, andd, eqRu_iff, eqRs_iff, List.cons.injEq]
  | [], b :: m => ⟨fun h => (nomatch h), fun h => (nomatch h)⟩
  | a :: l, [] => ⟨fun h => (nomatch h), fun h => (nomatch h)⟩
noncomputable def cb_eqRules : Cx := cxOf Γ41 Tryd.f108.ntmps [(4, [0, 1, 12, 13])] [(0, []), (1, [0, 1, 12, 13]), (1000000, [4])] [] []
theorem x_slices_Equal_impl_Rule_impl_Rule (l m : List Rule) (n i : Int) (R : St → Option Fin) (K : Cont) : evC (cb_eqRules.withLoops (look [])) (loopOf Tryd.f108 0) ⟨[(0, .d (ofD TRL l)), (1, .d (ofD TRL m)), (12, vI n), (13, vI i)], []⟩ (onward (headAt (cb_eqRules.withLoops (look [])) 4) R K) = (
branch (decide (i < n)) (
 need (inb i l.length) <|
 need (inb i m.length) <|
 branch (!(decide ((l.getD i.toNat d0).fst = (m.getD i.toNat d0).fst) && (decide ((l.getD i.toNat d0).snd = (m.getD i.toNat d0).snd) && true))) ( K (.ret) (.mk [(4, (vB false))] [])) ( R (.mk [(0, (.d (.one (.r (.li TRu (l)))))), (1, (.d (.one (.r (.li TRu (m)))))), (12, (vI n)), (13, (vI (W64 (i + 1))))] []))) ( K (.exit 0) (.mk [] []))) := by kernel_rfl
noncomputable def cx0_eqRules : Cx := (cb_eqRules).withLoops (look [])
def sh_eqRules : Sh := ([(0, .d TRL), (1, .d TRL), (12, .d TI64), (13, .d TI64)], [])
def pre_eqRules (l : List Rule) (m : List Rule) (n : Int) (i : Int) : Bool := decide (0 ≤ i) && (Nat.ble (List.length l) big && (decide (n = (List.length l : Int)) && decide (List.length l = List.length m)))
noncomputable def res_eqRules (l : List Rule) (m : List Rule) (_n : Int) (i : Int) (K : Cont) : Option Fin := branch (eqRs (l.drop i.toNat) (m.drop i.toNat)) (K (.exit 0) ⟨[], []⟩) (K .ret ⟨[(4, vB false)], []⟩)
def mu_eqRules (l : List Rule) (_m : List Rule) (_n : Int) (i : Int) : Nat := List.length l - i.toNat
theorem r_eqRules (l : List Rule) (m : List Rule) (n : Int) (i : Int) (K : Cont) (hI : pre_eqRules l m n i = true) : (∀ R : St → Option Fin, evC cx0_eqRules (loopOf Tryd.f108 0) ⟨[(0, .d (ofD TRL l)), (1, .d (ofD TRL m)), (12, .d (ofD TI64 n)), (13, .d (ofD TI64 i))], []⟩ (onward (headAt cx0_eqRules 4) R K) = res_eqRules l m n i K) ∨
    (∃ (l' : List Rule) (m' : List Rule) (n' : Int) (i' : Int), pre_eqRules l' m' n' i' = true ∧ mu_eqRules l' m' n' i' < mu_eqRules l m n i ∧ res_eqRules l' m' n' i' K = res_eqRules l m n i K ∧ ∀ R : St → Option Fin, evC cx0_eqRules (loopOf Tryd.f108 0) ⟨[(0, .d (ofD TRL l)), (1, .d (ofD TRL m)), (12, .d (ofD TI64 n)), (13, .d (ofD TI64 i))], []⟩ (onward (headAt cx0_eqRules 4) R K) = R ⟨[(0, .d (ofD TRL l')), (1, .d (ofD TRL m')), (12, .d (ofD TI64 n')), (13, .d (ofD TI64 i'))], []⟩) := by
  have hx := fun R => x_slices_Equal_impl_Rule_impl_Rule l m n i R K
  simp only [pre_eqRules, andd, dec_iff, ble_iff] at hI
  obtain ⟨h0, h1, rfl, h3⟩ := hI
  by_cases hi : i < (l.length : Int)
  · simp only [hi, decide_true, inb_ok h0 hi, inb_ok h0 (show i < (m.length : Int) by omega), branch_true, W1 h0 hi h1] at hx
    have hn : i.toNat < l.length := by omega
    have hn' : i.toNat < m.length := by omega
    have hg : eqRs (l.drop i.toNat) (m.drop i.toNat) = (eqRu (l.getD i.toNat d0) (m.getD i.toNat d0) && eqRs (l.drop (i + 1).toNat) (m.drop (i + 1).toNat)) := by
      rw [List.drop_eq_getElem_cons hn, List.drop_eq_getElem_cons hn', getD_at hn, getD_at hn', show (i + 1).toNat = i.toNat + 1 by omega]; rfl
    cases hc : eqRu (l.getD i.toNat d0) (m.getD i.toNat d0)
    · left
      intro R
      rw [hc] at hg
      refine (hx R).trans ?_
      have hc' := hc
      unfold eqRu at hc'
      rw [hc']
      simp only [res_eqRules, hg]; rfl
    · right
      rw [hc] at hg
      refine ⟨l, m, (l.length : Int), i + 1, ?_, ?_, ?_, fun R => (hx R).trans ?_⟩
      · exact andd.2 ⟨dec_iff.2 (by omega), andd.2 ⟨ble_iff.2 h1, andd.2 ⟨decide_eq_true rfl, decide_eq_true h3⟩⟩⟩
      · simp only [mu_eqRules]; omega
      · simp only [res_eqRules, hg]; rfl
      · have hc' := hc
        unfold eqRu at hc'
        rw [hc']; rfl
  · left
    intro R
    refine (hx R).trans ?_
    simp only [hi, decide_false, branch_false, res_eqRules]
    rw [List.drop_eq_nil_of_le (by omega), List.drop_eq_nil_of_le (by omega)]; rfl
noncomputable def g_eqRules : St → Cont → Option Fin := gP sh_eqRules (fun v => match v with | ((l, m, n, i, ()), ()) => pre_eqRules l m n i) (fun v K => match v with | ((l, m, n, i, ()), ()) => res_eqRules l m n i K)
noncomputable def L_eqRules : List (Nat × (St → Cont → Option Fin)) := (4, g_eqRules) :: []
noncomputable def cx_eqRules : Cx := (cb_eqRules).withLoops (look L_eqRules)
theorem l_eqRules {L : List (Nat × (St → Cont → Option Fin))} (n : Nat) (h1 : L.drop n = []) (h2 : idsFree (L.take n) (loopOf Tryd.f108 0) = true) : ∀ st K r, g_eqRules st K = some r → ∃ N, iter (evC ((cb_eqRules).withLoops (look L)) (loopOf Tryd.f108 0)) (headAt ((cb_eqRules).withLoops (look L)) 4) N st K = some r :=
  with_drop h1 h2 (gP_ok (fun v => match v with | ((l, m, n, i, ()), ()) => mu_eqRules l m n i) fun v K hI => by
    obtain ⟨⟨(l : List Rule), (m : List Rule), (n : Int), (i : Int), ⟨⟩⟩, ⟨⟩⟩ := v
    rcases r_eqRules l m n i K hI with h1 | ⟨l', m', n', i', h1, h2, h3, h4⟩
    · exact .inl h1
    · exact .inr ⟨((l', m', n', i', ()), ()), h1, h2, h3, h4⟩)
theorem y_slices_Equal_impl_Rule_impl_Rule (l : List Rule) (m : List Rule) : evFn cx_eqRules Tryd.f108 true [ofD TRL l, ofD TRL m] [] = (
branch (!decide ((l.length : Int) = (m.length : Int))) ( some ((vB false), [])) (
 need (pre_eqRules l m ((l.length : Int)) 0) <|
 branch (eqRs l m) ( some ((vB true), [])) ( some ((vB false), [])))) := by kernel_rfl
theorem s_slices_Equal_impl_Rule_impl_Rule (l : List Rule) (hl : Fit TRL l) (m : List Rule) (_hm : Fit TRL m) : Sat Tryd.prog 108 [ofD TRL l, ofD TRL m] [] (.d (ofD .bool (eqRs l m))) [] :=
  fn_sound (cx := cx_eqRules) Tryd.func108 rfl ttOk Γ41ok mixed (fun c hc => LoopsOk.all (l := [(4, loopOf Tryd.f108 0)]) (by cases hc; kernel_rfl) ⟨atLoop rfl (l_eqRules 1 rfl (by kernel_rfl)), trivial⟩) (ro := true) (by
    rw [y_slices_Equal_impl_Rule_impl_Rule]
    by_cases h : (l.length : Int) = (m.length : Int)
    · have hp : pre_eqRules l m (l.length : Int) 0 = true := andd.2 ⟨rfl, andd.2 ⟨ble_iff.2 hl.1, andd.2 ⟨decide_eq_true rfl, decide_eq_true (by omega)⟩⟩⟩
      rw [decide_eq_true h, hp]
      show branch (eqRs l m) _ _ = _
      cases eqRs l m <;> rfl
    · rw [decide_eq_false h]
      cases e : eqRs l m
      · rfl
      · rw [eqRs_iff] at e; subst e; exact absurd rfl h)
noncomputable def c_slices_Equal_impl_Rule_impl_Rule : Con := conT [TRL, TRL] fun (l : List Rule) (m : List Rule) => (none, .d (ofD .bool (eqRs l m)))
theorem k_slices_Equal_impl_Rule_impl_Rule : ConOk Tryd.prog 108 c_slices_Equal_impl_Rule_impl_Rule := conT_ok Tryd.call108 fun l hl m hm _ => s_slices_Equal_impl_Rule_impl_Rule l hl m hm
noncomputable def Γ42 : List (Nat × Con) := (108, c_slices_Equal_impl_Rule_impl_Rule) :: Γ41
theorem Γ42ok : EnvOk Tryd.prog (look Γ42) := .cons k_slices_Equal_impl_Rule_impl_Rule Γ41ok

def sameG (a b : Gram) : Bool := bif decide (a.1 = b.1) then eqRs a.2 b.2 else false
theorem y_impl_GramSame (a : Gram) (b : Gram) : evFn (cxOf Γ42 Tryd.f36.ntmps [] [] [] []) Tryd.f36 true [ofD TG a, ofD TG b] [] = (
some ((vB (bif decide (a.fst = b.fst) then eqRs a.snd b.snd else false)), [])) := by kernel_rfl
theorem s_impl_GramSame (a : Gram) (_ha : Fit TG a) (b : Gram) (_hb : Fit TG b) : Sat Tryd.prog 36 [ofD TG a, ofD TG b] [] (.d (ofD .bool (sameG a b))) [] :=
  fn_sound (cx := cxOf Γ42 Tryd.f36.ntmps [] [] [] []) Tryd.func36 rfl ttOk Γ42ok mixed (fun _ _ => LoopsOk.no fun _ => rfl) (ro := true) (by
    rw [y_impl_GramSame]; rfl)
noncomputable def c_impl_GramSame : Con := conT [TG, TG] fun (a : Gram) (b : Gram) => (none, .d (ofD .bool (sameG a b)))
theorem k_impl_GramSame : ConOk Tryd.prog 36 c_impl_GramSame := conT_ok Tryd.call36 fun a ha b hb _ => s_impl_GramSame a ha b hb
noncomputable def Γ43 : List (Nat × Con) := (36, c_impl_GramSame) :: Γ42
theorem Γ43ok : EnvOk Tryd.prog (look Γ43) := .cons k_impl_GramSame Γ42ok

def tree_GramBent (c b : Bool) : Option Fin := branch c yes (branch (bif !decide (b = b) then true else b) (some (vB (decide (b = b)), [])) (need (!b) (need (!b) (need (!b) (need (!b) (need (!b) yes))))))
theorem s_laws_FnGramBent (l : List Int) (_hl : Fit TB l) : Sat Tryd.prog 8 [ofD TB l] [] (.d (ofD .bool true)) [] :=
  fn_sound (cx := ((cxOf Γ43 Tryd.f8.ntmps [] [] [] []).parted [7])) Tryd.func8 rfl ttOk Γ43ok mixed (fun _ _ => LoopsOk.no fun _ => rfl) (ro := true) (by
    have y : evFn ((cxOf Γ43 Tryd.f8.ntmps [] [] [] []).parted [7]) Tryd.f8 true [ofD TB l] [] = tree_GramBent (decide (1048576 < (l.length : Int))) (okG (F_spec_DrawGramFor l).1) := by kernel_rfl
    rw [y]
    cases decide (1048576 < (l.length : Int)) <;> cases okG (F_spec_DrawGramFor l).1 <;> rfl)
noncomputable def c_laws_FnGramBent : Con := conT [TB] fun (_l : List Int) => (none, .d (ofD .bool true))
theorem k_laws_FnGramBent : ConOk Tryd.prog 8 c_laws_FnGramBent := conT_ok Tryd.call8 fun l hl _ => s_laws_FnGramBent l hl
end Go.Proofs.YthbpnbbilaobbaaDoor.Ev

-- G=43