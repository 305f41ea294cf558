/-
  Contracts of functions that are handed a pointer to a struct of plain data, and turn it.
-/
import Derived.Test.YthhmpjnmmhfngaaDoorEvW
namespace Go.Proofs.YthhmpjnmmhfngaaDoor.Ev
open Go

/-- a variable of plain data -/
abbrev boxD (t : TypeId) (s : Ty) (x : Den s) : Obj := .box t ((cellsR s x).map .r)

/-- the object 0 is a variable of type t; behind the call it holds what is told -/
def conB (t : TypeId) (s : Ty) (as : List Ty) (G : Den s → Fn as (Option Bool × T × Den s)) : Con := ⟨false, fun ds os => match ds, os with
  | .one (.ptr 0 0) :: ds, [.box t' cs] => match Nat.beq t t', allSome (cs.map rOfC) with
    | true, some rs => match asR s rs with
      | some x => match applyD as (G x) ds with
        | some (c, r, y) => some (c, r, [(0, some (boxD t s y))])
        | none => none
      | none => none
    | _, _ => none
  | _, _ => none⟩

section
variable {P : Program} {w : World} {F : Nat → Prop} {h : HF} {β : Nat → Value}

theorem cells_fit {t : TypeId} {s : Ty} {x : Den s} {i : Nat} (ho : RepO w F h β i (boxD t s x)) : Fit s x := by
  obtain ⟨b, us, _, _, h3⟩ := ho
  exact RoL_fit (RoL_cells.2 ((All2.map_l (f := C.r)).1 h3))

theorem conB_ok {f : FuncId} {t : TypeId} {s : Ty} {as : List Ty} {G : Den s → Fn as (Option Bool × T × Den s)} (hin : ∀ args w, (callFunc f args).run P w = .ok (.enter f args) w)
    (he : ∀ x, Fit s x → EachF as (G x) fun ds r => (r.1 = none ∨ r.1 = some true) → Sat P f (.one (.ptr 0 0) :: ds) [boxD t s x] r.2.1 [(0, some (boxD t s r.2.2))]) : ConOk P f (conB t s as G) := by
  refine ⟨hin, fun ds os c x objs hc hok => ?_⟩
  simp only [conB] at hc
  split at hc
  · rename_i ds t' cs
    split at hc
    · rename_i rs htt hrs
      split at hc
      · rename_i x0 hx0
        split at hc
        · rename_i c' r y hap
          cases hc
          have := Nat.eq_of_beq_eq_true htt
          subst this
          have e := rOfC_all hrs
          subst e
          intro w F β args H hds
          -- the variable, told by its typed data
          have h0 : hOf [.box t (rs.map .r)] 0 = some (some (.box t (rs.map .r))) := by rw [hOf_eq]; rfl
          have hs : ∀ i o o', hOf [.box t (rs.map .r)] i = some (some o) → hOf [boxD t s x0] i = some (some o') → o = .box t (rs.map .r) ∧ o' = boxD t s x0 := fun i o o' h1 h2 => by
            rw [hOf_eq] at h1 h2
            cases i with
            | zero => simp at h1 h2; exact ⟨h1.symm, h2.symm⟩
            | succ i => simp at h1
          have S : Shp (hOf [.box t (rs.map .r)]) (hOf [boxD t s x0]) := fun i => by
            rw [hOf_eq, hOf_eq]
            cases i with
            | zero => simp
            | succ i => simp
          have hle := asR_sound hx0
          have key : ∀ {g : HF} {w' : World} {F' : Nat → Prop} {β' : Nat → Value} {i : Nat}, RepO w' F' g β' i (.box t (rs.map .r)) → RepO w' F' g β' i (boxD t s x0) := by
            intro g w' F' β' i ho
            obtain ⟨b, us, g1, g2, g3⟩ := ho
            exact ⟨b, us, g1, g2, (All2.map_l (f := C.r)).2 (All2_le ((All2.map_l (f := C.r)).1 g3) hle)⟩
          have H1 : Inv w (Own (hOf [.box t (rs.map .r)]) β) F w F (hOf [boxD t s x0]) β := H.told S fun i o o' h1 h2 hr => by
            obtain ⟨rfl, rfl⟩ := hs i o o' h1 h2
            exact key hr
          have hOwn : Own (hOf [.box t (rs.map .r)]) β = Own (hOf [boxD t s x0]) β := by
            funext b
            apply propext
            constructor
            · rintro ⟨i, o, h1, h2⟩
              obtain ⟨o', ho'⟩ := (S i).2.1 ⟨o, h1⟩
              exact ⟨i, o', ho', h2⟩
            · rintro ⟨i, o, h1, h2⟩
              obtain ⟨o', ho'⟩ := (S i).2.2 ⟨o, h1⟩
              exact ⟨i, o', ho', h2⟩
          rw [hOwn] at H1
          have hfit : Fit s x0 := cells_fit (key (H.obj 0 _ h0))
          cases hds with
          | cons g1 g2 =>
            have g2' := g2.mono fun _ _ => S.repD
            obtain ⟨ds', q1, q2⟩ := each_of (he x0 hfit) hap g2'
            refine (q1 hok w F β _ H1 (.cons (S.repD g1) q2)).mono ?_
            rintro e w' ⟨v, F', β', r1, r2, r3, r4, r5, r6⟩
            rw [← hOwn] at r2
            exact ⟨v, F', β', r1, r2, r3, r4, r5, r6⟩
        · cases hc
      · cases hc
    · cases hc
  · cases hc
end
end Go.Proofs.YthhmpjnmmhfngaaDoor.Ev
