/-
  Trees compared.
-/
import Derived.Test.YthbpnbbilaobbaaDoorGzb
namespace Go.Proofs.YthbpnbbilaobbaaDoor.Ev
open Go
/-- not deeper than so -/
def depB : Nat → GTree → Bool
  | 0, _ => false
  | n + 1, t => List.all t.kids (depB n)
def eqL (f : GTree → GTree → Bool) : List GTree → List GTree → Bool
  | [], [] => true
  | a :: xs, b :: ys => f a b && eqL f xs ys
  | _, _ => false
def eqT : Nat → GTree → GTree → Bool
  | 0, _, _ => false
  | n + 1, a, b => decide (a.sign = b.sign) && (decide (a.rule = b.rule) && eqL (eqT n) a.kids b.kids)
theorem eqL_at {f : GTree → GTree → Bool} {xs ys : List GTree} {i : Int} (h0 : 0 ≤ i) (h1 : i < (xs.length : Int)) (h2 : xs.length = ys.length) : eqL f (xs.drop i.toNat) (ys.drop i.toNat) = (f (xs.getD i.toNat tz) (ys.getD i.toNat tz) && eqL f (xs.drop (i + 1).toNat) (ys.drop (i + 1).toNat)) := by
  have hn : i.toNat < xs.length := by omega
  have hs : i.toNat < ys.length := by omega
  have e1 : xs.getD i.toNat tz = xs[i.toNat] := by rw [List.getD_eq_getElem?_getD, List.getElem?_eq_getElem hn]; rfl
  have e2 : ys.getD i.toNat tz = ys[i.toNat] := by rw [List.getD_eq_getElem?_getD, List.getElem?_eq_getElem hs]; rfl
  rw [List.drop_eq_getElem_cons hn, List.drop_eq_getElem_cons hs, e1, e2, show (i + 1).toNat = i.toNat + 1 by omega]; rfl
theorem eqL_len {f : GTree → GTree → Bool} : ∀ {xs ys : List GTree}, xs.length ≠ ys.length → eqL f xs ys = false
  | [], [], h => absurd rfl h
  | [], _ :: _, _ => rfl
  | _ :: _, [], _ => rfl
  | a :: xs, b :: ys, h => by
    unfold eqL
    rw [eqL_len (xs := xs) (ys := ys) (fun e => h (by simp only [List.length_cons, e]))]
    exact Bool.and_false _
theorem eqL_self {f : GTree → GTree → Bool} : ∀ {xs : List GTree}, (∀ a ∈ xs, f a a = true) → eqL f xs xs = true
  | [], _ => rfl
  | a :: _, h => andd.2 ⟨h a List.mem_cons_self, eqL_self fun b hb => h b (List.mem_cons_of_mem _ hb)⟩
theorem eqT_self : ∀ {n : Nat} {t : GTree}, depB n t = true → eqT n t t = true
  | 0, _, h => by cases h
  | n + 1, t, h => by
    unfold eqT
    rw [decide_eq_true rfl, decide_eq_true rfl, eqL_self fun k hk => eqT_self (List.all_eq_true.1 h k hk)]; rfl
theorem eqL_eq {f : GTree → GTree → Bool} : ∀ {xs ys : List GTree}, (∀ a ∈ xs, ∀ b, f a b = true → a = b) → eqL f xs ys = true → xs = ys
  | [], [], _, _ => rfl
  | [], _ :: _, _, h => by cases h
  | _ :: _, [], _, h => by cases h
  | a :: xs, b :: ys, h, h2 => by
    obtain ⟨h3, h4⟩ := andd.1 h2
    rw [h a List.mem_cons_self b h3, eqL_eq (fun x hx => h x (List.mem_cons_of_mem _ hx)) h4]
theorem eqT_eq : ∀ {n : Nat} {a b : GTree}, eqT n a b = true → a = b
  | 0, _, _, h => by cases h
  | n + 1, a, b, h => by
    unfold eqT at h
    rw [andd, andd, dec_iff, dec_iff] at h
    have := eqL_eq (fun x _ y hxy => eqT_eq hxy) h.2.2
    rw [← tEta a, ← tEta b, h.1, h.2.1, this]
noncomputable def conSame (n : Nat) : Con := conT [.tree, .tree] fun (a b : GTree) => (some (depB n a), .d (ofD .bool (eqT n a b)))
structure LevE where
  n : Nat
  h : ConOk Tryd.prog 46 (conSame n)
noncomputable section
variable [Inhabited LevE]
abbrev lvE : Nat := (default : LevE).n
noncomputable def c_impl_TreeSameR : Con := conSame lvE
theorem k_impl_TreeSameR : ConOk Tryd.prog 46 c_impl_TreeSameR := (default : LevE).h
noncomputable def Γ90 : List (Nat × Con) := (46, c_impl_TreeSameR) :: Γ89
theorem Γ90ok : EnvOk Tryd.prog (look Γ90) := .cons k_impl_TreeSameR Γ89ok

noncomputable def cb_ef : Cx := cxOf Γ90 Tryd.f115.ntmps [(4, [1, 2, 15, 16, 17])] [(0, []), (1, [1, 2, 15, 16, 17]), (1000000, [6])] [] []
theorem x_slices_EqualFunc_impl_Tree_impl_Tree_impl_Tree_impl_Tree (xs ys : List GTree) (n i : Int) (R : St → Option Fin) (K : Cont) : evC (cb_ef.withLoops (look [])) (loopOf Tryd.f115 0) ⟨[(1, .d (ofD TTL ys)), (2, .d (.one (.fn 46 []))), (15, .d (ofD TTL xs)), (16, vI n), (17, vI i)], []⟩ (onward (headAt (cb_ef.withLoops (look [])) 4) R K) = (
branch (decide (i < n)) (
 need (inb i xs.length) <|
 need (inb i ys.length) <|
 need (depB lvE (GTree.node (GTree.sign (xs.getD i.toNat tz)) (GTree.rule (xs.getD i.toNat tz)) (GTree.kids (xs.getD i.toNat tz)))) <|
 branch (!eqT lvE (GTree.node (GTree.sign (xs.getD i.toNat tz)) (GTree.rule (xs.getD i.toNat tz)) (GTree.kids (xs.getD i.toNat tz))) (GTree.node (GTree.sign (ys.getD i.toNat tz)) (GTree.rule (ys.getD i.toNat tz)) (GTree.kids (ys.getD i.toNat tz)))) ( K (.ret) (.mk [(6, (vB false))] [])) ( R (.mk [(1, (.d (.one (.r (.li (Ty.tree) (ys)))))), (2, (.d (.one (.fn 46 [])))), (15, (.d (.one (.r (.li (Ty.tree) (xs)))))), (16, (vI n)), (17, (vI (W64 (i + 1))))] []))) ( K (.exit 0) (.mk [] []))) := by kernel_rfl
noncomputable def cx0_ef1 : Cx := (cb_ef).withLoops (look [])
def sh_ef1 : Sh := ([(1, .d TTL), (2, .fn 46 []), (15, .d TTL), (16, .d TI64), (17, .d TI64)], [])
def pre_ef1 (ys : List GTree) (xs : List GTree) (n : Int) (i : Int) : Bool := decide (0 ≤ i) && (decide (n = (List.length xs : Int)) && (decide (List.length xs = List.length ys) && (List.all xs (depB lvE) && decide ((List.length xs : Int) ≤ 9223372036854775807))))
noncomputable def res_ef1 (ys : List GTree) (xs : List GTree) (_n : Int) (i : Int) (K : Cont) : Option Fin := branch (eqL (eqT lvE) (List.drop i.toNat xs) (List.drop i.toNat ys)) (K (.exit 0) ⟨[], []⟩) (K .ret ⟨[(6, vB false)], []⟩)
def mu_ef1 (_ys : List GTree) (xs : List GTree) (_n : Int) (i : Int) : Nat := List.length xs - i.toNat
theorem r_ef1 (ys : List GTree) (xs : List GTree) (n : Int) (i : Int) (K : Cont) (hI : pre_ef1 ys xs n i = true) : (∀ R : St → Option Fin, evC cx0_ef1 (loopOf Tryd.f115 0) ⟨[(1, .d (ofD TTL ys)), (2, .d (.one (.fn 46 []))), (15, .d (ofD TTL xs)), (16, .d (ofD TI64 n)), (17, .d (ofD TI64 i))], []⟩ (onward (headAt cx0_ef1 4) R K) = res_ef1 ys xs n i K) ∨
    (∃ (ys' : List GTree) (xs' : List GTree) (n' : Int) (i' : Int), pre_ef1 ys' xs' n' i' = true ∧ mu_ef1 ys' xs' n' i' < mu_ef1 ys xs n i ∧ res_ef1 ys' xs' n' i' K = res_ef1 ys xs n i K ∧ ∀ R : St → Option Fin, evC cx0_ef1 (loopOf Tryd.f115 0) ⟨[(1, .d (ofD TTL ys)), (2, .d (.one (.fn 46 []))), (15, .d (ofD TTL xs)), (16, .d (ofD TI64 n)), (17, .d (ofD TI64 i))], []⟩ (onward (headAt cx0_ef1 4) R K) = R ⟨[(1, .d (ofD TTL ys')), (2, .d (.one (.fn 46 []))), (15, .d (ofD TTL xs')), (16, .d (ofD TI64 n')), (17, .d (ofD TI64 i'))], []⟩) := by
  have hx := fun R => x_slices_EqualFunc_impl_Tree_impl_Tree_impl_Tree_impl_Tree xs ys n i R K
  rw [tEta (xs.getD i.toNat tz), tEta (ys.getD i.toNat tz)] at hx
  simp only [pre_ef1] at hI
  rw [andd, andd, andd, andd, dec_iff, dec_iff, dec_iff, dec_iff] at hI
  obtain ⟨h0, rfl, h1, h2, h3⟩ := hI
  by_cases hi : i < (List.length xs : Int)
  · have hkid := List.all_eq_true.1 h2 _ (getT_in h0 hi)
    have hg := eqL_at (f := eqT lvE) h0 hi h1
    have w : W64 (i + 1) = i + 1 := wrap_small (by omega) (by omega)
    rw [decide_eq_true hi, inb_ok h0 hi, ← h1, inb_ok h0 hi, hkid, w] at hx
    cases hc : eqT lvE (List.getD xs i.toNat tz) (List.getD ys i.toNat tz)
    · rw [hc] at hx hg
      left
      intro R
      refine (hx R).trans ?_
      simp only [res_ef1, hg]; rfl
    · rw [hc] at hx hg
      right
      refine ⟨ys, xs, (List.length xs : Int), i + 1, ?_, ?_, ?_, fun R => hx R⟩
      · simp only [pre_ef1]
        rw [andd, andd, andd, andd, dec_iff, dec_iff, dec_iff, dec_iff]
        exact ⟨by omega, trivial, h1, h2, h3⟩
      · simp only [mu_ef1]; omega
      · simp only [res_ef1, hg, Bool.true_and]
  · left
    intro R
    refine (hx R).trans ?_
    rw [decide_eq_false hi]
    have e : List.drop i.toNat xs = [] := List.drop_eq_nil_of_le (by omega)
    have e2 : List.drop i.toNat ys = [] := List.drop_eq_nil_of_le (by omega)
    simp only [res_ef1, e, e2]; rfl
noncomputable def g_ef1 : St → Cont → Option Fin := gP sh_ef1 (fun v => match v with | ((ys, xs, n, i, ()), ()) => pre_ef1 ys xs n i) (fun v K => match v with | ((ys, xs, n, i, ()), ()) => res_ef1 ys xs n i K)
noncomputable def L_ef1 : List (Nat × (St → Cont → Option Fin)) := (4, g_ef1) :: []
noncomputable def cx_ef1 : Cx := (cb_ef).withLoops (look L_ef1)
theorem l_ef1 {L : List (Nat × (St → Cont → Option Fin))} (n : Nat) (h1 : L.drop n = []) (h2 : idsFree (L.take n) (loopOf Tryd.f115 0) = true) : ∀ st K r, g_ef1 st K = some r → ∃ N, iter (evC ((cb_ef).withLoops (look L)) (loopOf Tryd.f115 0)) (headAt ((cb_ef).withLoops (look L)) 4) N st K = some r :=
  with_drop h1 h2 (gP_ok (fun v => match v with | ((ys, xs, n, i, ()), ()) => mu_ef1 ys xs n i) fun v K hI => by
    obtain ⟨⟨(ys : List GTree), (xs : List GTree), (n : Int), (i : Int), ⟨⟩⟩, ⟨⟩⟩ := v
    rcases r_ef1 ys xs n i K hI with h1 | ⟨ys', xs', n', i', h1, h2, h3, h4⟩
    · exact .inl h1
    · exact .inr ⟨((ys', xs', n', i', ()), ()), h1, h2, h3, h4⟩)
theorem y_EqualFunc (xs ys : List GTree) : evFn cx_ef1 Tryd.f115 true [ofD TTL xs, ofD TTL ys, .one (.fn 46 [])] [] = (
branch (!decide ((List.length xs : Int) = (List.length ys : Int))) (some (vB false, [])) (need (pre_ef1 ys xs (List.length xs : Int) 0) <| branch (eqL (eqT lvE) (id xs) (id ys)) (some (vB true, [])) (some (vB false, [])))) := by kernel_rfl
theorem s_EqualFunc (xs ys : List GTree) (hx : xs.length ≤ 9223372036854775807) (h : List.all xs (depB lvE) = true) : Sat Tryd.prog 115 [ofD TTL xs, ofD TTL ys, .one (.fn 46 [])] [] (vB (eqL (eqT lvE) xs ys)) [] :=
  fn_sound (cx := cx_ef1) Tryd.func115 rfl ttOk Γ90ok mixed (fun c hc => LoopsOk.all (l := [(4, loopOf Tryd.f115 0)]) (by cases hc; kernel_rfl) ⟨atLoop rfl (l_ef1 1 rfl (by kernel_rfl)), trivial⟩) (ro := true) (by
    rw [y_EqualFunc]
    by_cases hl : xs.length = ys.length
    · have hp : pre_ef1 ys xs (List.length xs : Int) 0 = true := by
        simp only [pre_ef1]
        rw [andd, andd, andd, andd, dec_iff, dec_iff, dec_iff, dec_iff]
        exact ⟨by omega, trivial, hl, h, by omega⟩
      rw [hp, decide_eq_true (by omega : (xs.length : Int) = (ys.length : Int))]
      show branch (eqL (eqT lvE) xs ys) _ _ = some (vB (eqL (eqT lvE) xs ys), [])
      cases eqL (eqT lvE) xs ys <;> rfl
    · rw [decide_eq_false (by omega : ¬ (xs.length : Int) = (ys.length : Int)), eqL_len hl]; rfl)
noncomputable def c_slices_EqualFunc_impl_Tree_impl_Tree_impl_Tree_impl_TreeR : Con := ⟨false, fun ds os => match ds, os with
  | [d, e, .one (.fn f [])], [] => match asD TTL d, asD TTL e, Nat.beq f 46 with
    | some xs, some ys, true => some (some (Nat.ble (List.length xs) 9223372036854775807 && List.all xs (depB lvE)), .d (ofD .bool (eqL (eqT lvE) xs ys)), [])
    | _, _, _ => none
  | _, _ => none⟩
theorem k_slices_EqualFunc_impl_Tree_impl_Tree_impl_Tree_impl_TreeR : ConOk Tryd.prog 115 c_slices_EqualFunc_impl_Tree_impl_Tree_impl_Tree_impl_TreeR := by
  refine ⟨Tryd.call115, fun ds os c x objs hc hok => ?_⟩
  unfold c_slices_EqualFunc_impl_Tree_impl_Tree_impl_Tree_impl_TreeR at hc
  dsimp only at hc
  split at hc
  · rename_i d e f
    split at hc
    · rename_i xs ys e1 e2 e3
      cases hc
      have e3 := Nat.eq_of_beq_eq_true e3
      subst e3
      obtain ⟨h3, h4⟩ := andd.1 (pre_of hok)
      intro w F β args H hds
      cases hds with | cons h1 h2 =>
      cases h2 with | cons h5 h6 =>
      exact s_EqualFunc xs ys (ble_iff.1 h3) h4 w F β _ H (.cons (asD_sound e1 h1 _ β) (.cons (asD_sound e2 h5 _ β) h6))
    · cases hc
  · cases hc
noncomputable def Γ91 : List (Nat × Con) := (115, c_slices_EqualFunc_impl_Tree_impl_Tree_impl_Tree_impl_TreeR) :: Γ90
theorem Γ91ok : EnvOk Tryd.prog (look Γ91) := .cons k_slices_EqualFunc_impl_Tree_impl_Tree_impl_Tree_impl_TreeR Γ90ok

theorem y_impl_TreeSame (a : GTree) (b : GTree) : evFn (cxOf Γ91 Tryd.f46.ntmps [] [] [] []) Tryd.f46 true [ofD .tree a, ofD .tree b] [] = (
need (bif decide ((bif decide (a.sign = b.sign) then decide (a.rule = b.rule) else false) = true) then a.kids.length.ble 9223372036854775807 && a.kids.all (depB lvE) else true) <| some ((vB (bif bif decide (a.sign = b.sign) then decide (a.rule = b.rule) else false then eqL (eqT lvE) a.kids b.kids else false)), [])) := by kernel_rfl
theorem same_up : ConOk Tryd.prog 46 (conSame (lvE + 1)) := conT_ok Tryd.call46 fun (a : GTree) ha (b : GTree) _ hqq => by
  have hpre := pre_of hqq
  refine fn_sound (cx := cxOf Γ91 Tryd.f46.ntmps [] [] [] []) Tryd.func46 rfl ttOk Γ91ok mixed (fun _ _ => LoopsOk.no fun _ => rfl) (ro := true) ?_
  refine (y_impl_TreeSame a b).trans ?_
  have e : (a.kids.length.ble 9223372036854775807 && a.kids.all (depB lvE)) = true := andd.2 ⟨ble_iff.2 (kids_fit ha).1, hpre⟩
  rw [e]
  show _ = some (vB (decide (a.sign = b.sign) && (decide (a.rule = b.rule) && eqL (eqT lvE) a.kids b.kids)), [])
  cases decide (a.sign = b.sign) <;> cases decide (a.rule = b.rule) <;> rfl
end
theorem same_all : ∀ n, ConOk Tryd.prog 46 (conSame n)
  | 0 => conT_ok Tryd.call46 fun a _ b _ hqq => by
    cases pre_of hqq
  | n + 1 => @same_up ⟨⟨n, same_all n⟩⟩
noncomputable def c_impl_TreeSame : Con := conSame 40
theorem k_impl_TreeSame : ConOk Tryd.prog 46 c_impl_TreeSame := same_all 40
noncomputable def Γ92 : List (Nat × Con) := (46, c_impl_TreeSame) :: Γ89
theorem Γ92ok : EnvOk Tryd.prog (look Γ92) := .cons k_impl_TreeSame Γ89ok

end Go.Proofs.YthbpnbbilaobbaaDoor.Ev

-- G=92