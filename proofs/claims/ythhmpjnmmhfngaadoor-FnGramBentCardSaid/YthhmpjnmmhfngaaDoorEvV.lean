/-
  Contracts out of equations.
-/
import Derived.Test.YthhmpjnmmhfngaaDoorEvU
import Derived.KernelRfl
namespace Go.Proofs.YthhmpjnmmhfngaaDoor.Ev
open Go

@[reducible] def Fn : List Ty → Type → Type
  | [], α => α
  | a :: as, α => Den a → Fn as α

def applyD {α : Type} : (as : List Ty) → Fn as α → List D → Option α
  | [], f, [] => some f
  | a :: as, f, d :: ds => match asD a d with
    | some x => applyD as (f x) ds
    | none => none
  | _, _, _ => none

def Each {α : Type} : (as : List Ty) → Fn as α → (List D → α → Prop) → Prop
  | [], f, p => p [] f
  | a :: as, f, p => ∀ x : Den a, Each as (f x) fun ds r => p (ofD a x :: ds) r

/-- a contract over typed data: a condition, and the result -/
def conT (as : List Ty) (F : Fn as (Option Bool × T)) : Con := ⟨true, fun ds os => match os with
  | [] => match applyD as F ds with
    | some (c, r) => some (c, r, [])
    | none => none
  | _ => none⟩

section
variable {P : Program} {w : World} {F : Nat → Prop} {h : HF} {β : Nat → Value}

theorem rOfC_all : ∀ {cs : List C} {rs : List R}, allSome (cs.map rOfC) = some rs → cs = rs.map .r
  | [], rs, h => by cases h; rfl
  | c :: cs, rs, h => by
    simp only [List.map_cons] at h
    cases hc : rOfC c with
    | none => rw [hc] at h; simp [allSome] at h
    | some r =>
      rw [hc] at h
      simp only [allSome, Option.map_eq_some_iff] at h
      obtain ⟨rs', h1, rfl⟩ := h
      have : c = .r r := by
        unfold rOfC at hc
        split at hc
        · cases hc; rfl
        · cases hc
      rw [rOfC_all h1, this]; rfl

theorem asD_sound {t : Ty} {d : D} {x : Den t} (ha : asD t d = some x) {u : Value} (hd : RepD w F h β d u) (h' : HF) (β' : Nat → Value) : RepD w F h' β' (ofD t x) u := by
  unfold asD at ha
  split at ha
  · rename_i cs hs
    split at ha
    · rename_i rs hrs
      have e := rOfC_all hrs
      subst e
      obtain ⟨us, e1, e2⟩ := hd
      have h2 := asR_sound ha
      have h3 : All2 (Ro w F) (cellsR t x) us.toList := All2_le ((All2.map_l (f := C.r)).1 e2) h2
      cases t with
      | struct t => exact ⟨us, e1, (All2.map_l (f := C.r)).2 h3⟩
      | pair a b => exact ⟨us, e1, (All2.map_l (f := C.r)).2 h3⟩
      | unit => exact ⟨us, e1, by generalize us.toList = l at h3; cases h3; exact .nil⟩
      | tree => exact ⟨us, e1, (All2.map_l (f := C.r)).2 h3⟩
      | _ => cases hs
    · cases ha
  · rename_i r hs
    have h2 := asR_sound ha
    have h3 : All2 (Ro w F) (cellsR t x) [u] := All2_le (.cons hd .nil) h2
    cases t with
    | int k => cases h3 with | cons g1 g2 => exact g1
    | str => cases h3 with | cons g1 g2 => exact g1
    | bool => cases h3 with | cons g1 g2 => exact g1
    | list t => cases h3 with | cons g1 g2 => exact g1
    | struct t => cases hs
    | unit => cases hs
    | pair a b => cases hs
    | tree => cases hs
    | map k e => cases h3 with | cons g1 g2 => exact g1
    | ref t => cases h3 with | cons g1 g2 => exact g1
  · cases ha

/-- a contract is kept -/
def ConOk (P : Program) (f : FuncId) (con : Con) : Prop :=
  (∀ args w, (callFunc f args).run P w = .ok (.enter f args) w) ∧
  ∀ ds os c x objs, con.f ds os = some (c, x, objs) → (c = none ∨ c = some true) → Sat P f ds os x objs

theorem EnvOk.nil : EnvOk P (look []) := fun f con h => by simp [look] at h
theorem EnvOk.cons {f : FuncId} {con : Con} {l : List (Nat × Con)} (h1 : ConOk P f con) (h2 : EnvOk P (look l)) : EnvOk P (look ((f, con) :: l)) := fun g c hg => by
  simp only [look] at hg
  cases hb : Nat.beq f g
  · rw [hb] at hg; exact h2 g c hg
  · rw [hb] at hg
    have e := Nat.eq_of_beq_eq_true hb
    subst e
    simp only [cond_true, Option.some.injEq] at hg
    subst hg
    exact h1

theorem callFunc_enter {f : FuncId} {fn : Func} {c : Code} (hf : P.funcs[f]? = some fn) (hname : (fn.name == "runtime.NumGoroutine") = false) (hb : fn.body = some c) (args : Array Value) (w : World) :
    (callFunc f args).run P w = .ok (.enter f args) w := by
  have h1 : fn.name ≠ "runtime.NumGoroutine" := by simpa using hname
  simp [callFunc, hf, h1, hb]

theorem TTok.nil : TTok P (look []) := ⟨fun t ti h => by simp [look] at h, fun t ti h => by simp [look] at h, fun t ti fs h => by simp [look] at h⟩
theorem TTok.cons {t : TypeId} {ti : TI} {l : List (Nat × TI)} (h1 : P.info? t = some ti.info) (h2 : P.underlying t = some ti.desc) (h3 : ∀ fs, ti.desc = .struct fs → P.stoodInHeld t = false ∧ P.eqGuardType P.depth t = false) (h : TTok P (look l)) :
    TTok P (look ((t, ti) :: l)) := by
  have key : ∀ t' ti', look ((t, ti) :: l) t' = some ti' → (t' = t ∧ ti' = ti) ∨ look l t' = some ti' := fun t' ti' hl => by
    simp only [look] at hl
    cases hb : Nat.beq t t'
    · rw [hb] at hl; exact .inr hl
    · rw [hb] at hl
      simp only [cond_true, Option.some.injEq] at hl
      exact .inl ⟨(Nat.eq_of_beq_eq_true hb).symm, hl.symm⟩
  refine ⟨fun t' ti' hl => ?_, fun t' ti' hl => ?_, fun t' ti' fs hl => ?_⟩
  · rcases key t' ti' hl with ⟨rfl, rfl⟩ | hl
    · exact h1
    · exact h.info t' ti' hl
  · rcases key t' ti' hl with ⟨rfl, rfl⟩ | hl
    · exact h2
    · exact h.under t' ti' hl
  · rcases key t' ti' hl with ⟨rfl, rfl⟩ | hl
    · exact h3 fs
    · exact h.held t' ti' fs hl

def TTokL (P : Program) : List (Nat × TI) → Prop
  | [] => True
  | (t, ti) :: l => (P.info? t = some ti.info ∧ P.underlying t = some ti.desc ∧ ∀ fs, ti.desc = .struct fs → P.stoodInHeld t = false ∧ P.eqGuardType P.depth t = false) ∧ TTokL P l

theorem TTok.of : ∀ {l : List (Nat × TI)}, TTokL P l → TTok P (look l)
  | [], _ => TTok.nil
  | (_, _) :: _, h => TTok.cons h.1.1 h.1.2.1 h.1.2.2 (TTok.of h.2)

inductive FitT : GTree → Prop
  | node {s : List UInt8} {r : Int} {ks : List GTree} (h1 : List.length s ≤ 9223372036854775807) (h2 : IntKind.i64.wrap r = r) (h3 : List.length ks ≤ 9223372036854775807) (h4 : ∀ k, k ∈ ks → FitT k) : FitT (.node s r ks)

/-- bounds of strings and lists -/
def Fit : (t : Ty) → Den t → Prop
  | .int k, n => k.wrap n = n
  | .str, s => List.length s ≤ 9223372036854775807
  | .list t, l => List.length l ≤ 9223372036854775807 ∧ ∀ x : Den t, List.Mem x l → Fit t x
  | .pair a b, x => Fit a x.1 ∧ Fit b x.2
  | .struct t, x => Fit t x
  | .tree, x => FitT x
  | .map k e, m => ∀ p : Den k × Den e, List.Mem p m → Fit k p.1 ∧ Fit e p.2
  | .ref t, x => Fit t x
  | _, _ => True

theorem fit_list {t : Ty} {l : List (Den t)} (h1 : l.length ≤ 9223372036854775807) (h2 : ∀ i, i < l.length → Fit t (l.getD i (dflt t))) : Fit (.list t) l := by
  refine ⟨h1, fun x hx => ?_⟩
  obtain ⟨i, hi, e⟩ := List.getElem_of_mem (show x ∈ l from hx)
  have := h2 i hi
  rw [List.getD_eq_getElem?_getD, List.getElem?_eq_getElem hi] at this
  rw [← e]; exact this

theorem RoT_fit {w : World} {F : Nat → Prop} {x : GTree} {us : List Value} (h : RoT w F x us) : FitT x := by
  induction h with
  | node ys h1 h2 h3 h4 h5 _ ih =>
    refine .node (by simpa [plain] using h1) (by simpa [plain] using h2) (by simp only [maxLen] at h4; omega) fun k hk => ?_
    obtain ⟨i, hi, rfl⟩ := List.getElem_of_mem hk
    have := ih i hi
    rw [List.getD_eq_getElem?_getD, List.getElem?_eq_getElem hi] at this
    exact this

theorem RoL_fit {w : World} {F : Nat → Prop} : ∀ {t : Ty} {x : Den t} {us : List Value}, RoL w F t x us → Fit t x
  | .int k, n, us, h => by have h2 := h.2; simp only [plain, decide_eq_true_eq] at h2; exact h2
  | .bool, _, _, _ => trivial
  | .unit, _, _, _ => trivial
  | .tree, x, us, h => by
    have h : RoT w F x us := h
    show FitT x
    exact RoT_fit h
  | .map k e, m, us, h => by
    obtain ⟨b, es, clock, _, _, _, h4⟩ := h
    intro p hp
    obtain ⟨i, hi⟩ := List.getElem?_of_mem (show p ∈ (show List (Den k × Den e) from m) from hp)
    obtain ⟨en, _, h5⟩ := h4.get hi
    exact ⟨RoL_fit h5.1.1, RoL_fit h5.2.1⟩
  | .ref t, x, us, h => by
    obtain ⟨_, _, _, _, ys, h1, _⟩ := h
    exact RoL_fit (t := t) h1
  | .str, s, us, h => by have h2 := h.2; simp only [plain, Nat.ble_eq] at h2; exact h2
  | .struct t, x, us, h => RoL_fit (t := t) h
  | .pair a b, x, us, h => by obtain ⟨_, _, _, h1, h2⟩ := h; exact ⟨RoL_fit h1, RoL_fit h2⟩
  | .list t, l, us, h => by
    obtain ⟨a, cap, _, h1, h2, h3⟩ := h
    refine fit_list (l := l) (by simp only [maxLen] at h2; omega) fun i hi => ?_
    rcases h3 with h3 | ⟨b, o, _, _, h3⟩
    · have : i < List.length l := hi
      omega
    · obtain ⟨ys, h4, _⟩ := h3 i hi
      exact RoL_fit h4

theorem RepD_fit {t : Ty} {x : Den t} {u : Value} (hd : RepD w F h β (ofD t x) u) : Fit t x := by
  have one : ∀ {us : List Value}, All2 (Ro w F) (cellsR t x) us → Fit t x := fun h => RoL_fit (RoL_cells.2 h)
  cases t with
  | int k => exact one (us := [u]) (.cons hd .nil)
  | bool => trivial
  | unit => trivial
  | str => exact one (us := [u]) (.cons hd .nil)
  | list t => exact one (us := [u]) (.cons hd .nil)
  | struct t => obtain ⟨us, _, h2⟩ := hd; exact one ((All2.map_l (f := C.r)).1 h2)
  | pair a b => obtain ⟨us, _, h2⟩ := hd; exact one ((All2.map_l (f := C.r)).1 h2)
  | tree => obtain ⟨us, _, h2⟩ := hd; exact one ((All2.map_l (f := C.r)).1 h2)
  | map k e => exact one (us := [u]) (.cons hd .nil)
  | ref t => exact one (us := [u]) (.cons hd .nil)

def EachF {α : Type} : (as : List Ty) → Fn as α → (List D → α → Prop) → Prop
  | [], f, p => p [] f
  | a :: as, f, p => ∀ x : Den a, Fit a x → EachF as (f x) fun ds r => p (ofD a x :: ds) r

theorem each_of {α : Type} : ∀ {as : List Ty} {G : Fn as α} {p : List D → α → Prop} {ds : List D} {r : α} {us : List Value}, EachF as G p → applyD as G ds = some r → All2 (RepD w F h β) ds us →
    ∃ ds', p ds' r ∧ All2 (RepD w F h β) ds' us
  | [], G, p, ds, r, us, he, ha, hd => by
    cases ds with
    | nil => cases ha; exact ⟨[], he, hd⟩
    | cons d ds => cases ha
  | a :: as, G, p, ds, r, us, he, ha, hd => by
    cases ds with
    | nil => cases ha
    | cons d ds =>
      simp only [applyD] at ha
      split at ha
      · rename_i x hx
        cases hd with
        | cons g1 g2 =>
          have g1' := asD_sound hx g1 h β
          obtain ⟨ds', h1, h2⟩ := each_of (he x (RepD_fit g1')) ha g2
          exact ⟨ofD a x :: ds', h1, .cons g1' h2⟩
      · cases ha

theorem conT_ok {f : FuncId} {as : List Ty} {G : Fn as (Option Bool × T)} (hin : ∀ args w, (callFunc f args).run P w = .ok (.enter f args) w)
    (he : EachF as G fun ds r => (r.1 = none ∨ r.1 = some true) → Sat P f ds [] r.2 []) : ConOk P f (conT as G) := by
  refine ⟨hin, fun ds os c x objs hc hok => ?_⟩
  simp only [conT] at hc
  split at hc
  · split at hc
    · rename_i c' r hap
      cases hc
      intro w F β args H hds
      obtain ⟨ds', h1, h2⟩ := each_of he hap hds
      exact h1 hok w F β args H h2
    · cases hc
  · cases hc

/-! ### loops -/
theorem wrap_small {n : Int} (h1 : -9223372036854775808 ≤ n) (h2 : n ≤ 9223372036854775807) : IntKind.i64.wrap n = n := by rw [IntKind.wrap_i64]; omega

theorem branch_some {α : Type} {b : Bool} {x y : Option α} {r : α} : branch b x y = some r ↔ (b = true ∧ x = some r) ∨ (b = false ∧ y = some r) := by
  cases b <;> simp [branch]

theorem branch_true {α : Type} {x y : Option α} : branch true x y = x := rfl
theorem branch_false {α : Type} {x y : Option α} : branch false x y = y := rfl

/-- what comes after a round -/
def onward (head : St → St) (R : St → Option Fin) (K : Cont) : Cont := fun e st => match e with
  | .normal => R (head st)
  | e => K e st

theorem iter_succ (f : St → Cont → Option Fin) (head : St → St) (n : Nat) (st : St) (K : Cont) : iter f head (n + 1) st K = f st (onward head (fun st' => iter f head n st' K) K) := rfl

theorem LoopsOk.nil {cx : Cx} {c : Code} (h : loopsOf c = []) : LoopsOk cx c := fun id b g hm => by rw [h] at hm; cases hm

theorem LoopsOk.of {cx : Cx} {c : Code} {l : List (Nat × Code)} (hl : loopsOf c = l) (h : ∀ id b, (id, b) ∈ l → ∀ g, cx.loops id = some g → ∀ st K r, g st K = some r → ∃ N, iter (evC cx b) (headAt cx id) N st K = some r) : LoopsOk cx c :=
  fun id b g hm hg => h id b (hl ▸ hm) g hg

theorem LoopsOk.one {cx : Cx} {c b : Code} {id : Nat} {g : St → Cont → Option Fin} (hl : loopsOf c = [(id, b)]) (hg : cx.loops id = some g) (h : ∀ st K r, g st K = some r → ∃ N, iter (evC cx b) (headAt cx id) N st K = some r) : LoopsOk cx c :=
  LoopsOk.of hl fun id' b' hm g' hg' => by
    simp only [List.mem_singleton, Prod.mk.injEq] at hm
    obtain ⟨rfl, rfl⟩ := hm
    rw [hg] at hg'
    cases hg'
    exact h
end
end Go.Proofs.YthhmpjnmmhfngaaDoor.Ev
