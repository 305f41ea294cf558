/-
  Words for loops, and for laws.
-/
import Derived.Test.YthhmpjnmmhfngaaDoorEvY
namespace Go.Proofs.YthhmpjnmmhfngaaDoor.Ev
open Go

def exI (k : IntKind) : T → Option Int
  | .d (.one (.r r)) => intR k r
  | _ => none
def exS : T → Option (List UInt8)
  | .d (.one (.r r)) => strR r
  | _ => none
def exB : T → Option Bool
  | .d (.one (.r r)) => boolR r
  | _ => none
def exL (t : Ty) : T → Option (List (Den t))
  | .d (.one (.r (.li e l))) => castL e t l
  | _ => none

abbrev vI (n : Int) : T := .d (.one (.r (.v (.int .i64 n))))
abbrev vS (s : List UInt8) : T := .d (.one (.r (.v (.string (mk s)))))
abbrev vB (b : Bool) : T := .d (.one (.r (.v (.bool b))))
abbrev vL (t : Ty) (l : List (Den t)) : T := .d (.one (.r (.li t l)))

theorem exI_some {k : IntKind} {x : T} {n : Int} (h : exI k x = some n) : x = .d (.one (.r (.v (.int k n)))) := by
  unfold exI at h
  split at h
  · rw [intR_some h]
  · cases h
theorem exS_some {x : T} {n : List UInt8} (h : exS x = some n) : x = vS n := by
  unfold exS at h
  split at h
  · rw [strR_some h]
  · cases h
theorem exB_some {x : T} {n : Bool} (h : exB x = some n) : x = vB n := by
  unfold exB at h
  split at h
  · rw [boolR_some h]
  · cases h
theorem exL_some {t : Ty} {x : T} {l : List (Den t)} (h : exL t x = some l) : x = vL t l := by
  unfold exL at h
  split at h
  · obtain ⟨g, rfl⟩ := castL_some h
    subst g; rfl
  · cases h

/-- a list that the call owns -/
def exO (t : TypeId) (e : Ty) : Option Obj → Option (List (Den e))
  | some (.lis t' e' l) => match Nat.beq t t' with
    | true => castL e' e l
    | false => none
  | _ => none

theorem exO_some {t : TypeId} {e : Ty} {q : Option Obj} {l : List (Den e)} (h : exO t e q = some l) : q = some (.lis t e l) := by
  unfold exO at h
  split at h
  · split at h
    · rename_i hb
      have := Nat.eq_of_beq_eq_true hb
      subst this
      obtain ⟨g, rfl⟩ := castL_some h
      subst g; rfl
    · cases h
  · cases h

abbrev need {α : Type} (b : Bool) (x : Option α) : Option α := branch b x none

theorem need_some {α : Type} {b : Bool} {x : Option α} {r : α} : need b x = some r ↔ b = true ∧ x = some r := by
  cases b <;> simp [need, branch]

def big : Nat := 9223372036854775807

theorem inb_ok {i : Int} {n : Nat} (h0 : 0 ≤ i) (h1 : i < (n : Int)) : inb i n = true := decide_eq_true ⟨h0, h1⟩

theorem getD_at {α : Type} {l : List α} {i : Nat} (h : i < l.length) (d : α) : l.getD i d = l[i] := by simp [List.getD, h]

/-! ### laws -/
def ForAll : (as : List Ty) → (List D → Prop) → Prop
  | [], p => p []
  | a :: as, p => ∀ x : Den a, Fit a x → ForAll as fun ds => p (ofD a x :: ds)

section
variable {H : Type} {enc : TypeId × Value → H} {P : Program} {w : World} {base : Nat} {spare : Nat → Bool} {held : Bool}

/-- One argument, as typed data: all memory is read only. -/
theorem open_arg {n : Nat} {ty : Ty} {t : TypeId} {v : Value} {d : DataW H} {p : List MemPlace} {r : Reach} {b0 : Nat} (hl : labB P n ty t = true) (ht : DataW.Trod enc P w base spare held t v d p) (hv : Value.okWide P w r b0 t v) (h : HF) (β : Nat → Value) :
    ∃ x : Den ty, RepD w (fun b => b < w.heap.size) h β (ofD ty x) v := by
  obtain ⟨fuel, ht⟩ := ht
  obtain ⟨x, hx⟩ := (open_typed n).1 ty t fuel _ _ hl ht
  refine ⟨x, ?_⟩
  cases n with
  | zero => simp [labB] at hl
  | succ n =>
    simp only [labB] at hl
    have one : ∀ {ty : Ty} {x : Den ty}, (∀ cs, v ≠ .agg cs) → RoL w (fun b => b < w.heap.size) ty x v.cells.toList → ∀ {rr : R}, cellsR ty x = [rr] → Ro w (fun b => b < w.heap.size) rr v := by
      intro ty x hna hx rr hc
      have h1 : v.cells = #[v] := by cases v <;> first | rfl | exact absurd rfl (hna _)
      rw [h1] at hx
      have h2 := RoL_cells.1 hx
      rw [hc] at h2
      cases h2 with | cons g1 _ => exact g1
    split at hl
    · rename_i hu
      exact one (fun cs e => by subst e; simp [Value.okWide, hu, Cell.okWide, Cell.ok] at hv) hx rfl
    · rename_i hu
      exact one (fun cs e => by subst e; simp [Value.okWide, hu, Cell.okWide, Cell.ok] at hv) hx rfl
    · rename_i hu
      exact one (fun cs e => by subst e; simp [Value.okWide, hu, Cell.okWide, Cell.ok] at hv) hx rfl
    · rename_i hu
      exact one (fun cs e => by subst e; simp [Value.okWide, hu, Cell.okWide, Cell.ok] at hv) hx rfl
    · rename_i hu
      simp only [Value.okWide, hu] at hv
      obtain ⟨cs, rfl, _, _⟩ := hv
      exact ⟨cs, rfl, (All2.map_l (f := C.r)).2 (RoL_cells.1 hx)⟩
    · cases hl

/-- The law's call: from a contract to what the row asks. -/
theorem law_calls {f : FuncId} {args : List Value} {ds : List D} {ty : Ty} {x : Den ty} (hs : Sat P f ds [] (.d (ofD ty x)) []) (W : World) (hd : All2 (RepD W (fun b => b < W.heap.size) (hOf []) (fun _ => default)) ds args) :
    Calls P f args.toArray W fun e W' => ∃ v, e = .returned v ∧ RepD W' (fun _ => True) (fun _ => none) (fun _ => default) (ofD ty x) v ∧ RowKit.Below W.heap.size W W' := by
  have hI : Inv W (Own (hOf []) fun _ => default) (fun b => b < W.heap.size) W (fun b => b < W.heap.size) (hOf []) (fun _ => default) :=
    ⟨fun i o hi => by simp [hOf, startHeap, look] at hi, fun i j o o' b hi => by simp [hOf, startHeap, look] at hi, fun i o b hi => by simp [hOf, startHeap, look] at hi, fun _ h => h, rfl, rfl, rfl, Nat.le_refl _, fun _ _ _ => rfl,
      fun i o b hi => by simp [hOf, startHeap, look] at hi, fun b hb => .inl hb, fun _ h => h⟩
  refine (hs W _ _ args hI hd).mono ?_
  rintro e W' ⟨v, F', β', rfl, H', _, _, _, hr⟩
  refine ⟨v, rfl, ?_, ⟨H'.os, H'.tape, H'.output, H'.size, fun k hk => H'.kept k hk fun ⟨i, o, hi, _⟩ => by simp [hOf, startHeap, look] at hi⟩⟩
  have mono : ∀ {rs : List R} {us : List Value}, All2 (Ro W' F') rs us → All2 (Ro W' fun _ => True) rs us := fun h => h.mono fun _ _ hh => Ro.mono (fun _ _ => rfl) (fun _ _ => trivial) hh
  cases ty with
  | int k => exact hr
  | str => exact hr
  | bool => exact hr
  | list t => exact Ro.mono (w := W') (fun _ _ => rfl) (fun _ _ => trivial) hr
  | struct t => obtain ⟨us, e, h2⟩ := hr; exact ⟨us, e, (All2.map_l (f := C.r)).2 (mono ((All2.map_l (f := C.r)).1 h2))⟩
  | pair a b => obtain ⟨us, e, h2⟩ := hr; exact ⟨us, e, (All2.map_l (f := C.r)).2 (mono ((All2.map_l (f := C.r)).1 h2))⟩
  | unit => obtain ⟨us, e, h2⟩ := hr; exact ⟨us, e, (All2.map_l (l := []) (f := C.r)).2 (mono ((All2.map_l (l := []) (f := C.r)).1 h2))⟩
  | tree => obtain ⟨us, e, h2⟩ := hr; exact ⟨us, e, (All2.map_l (f := C.r)).2 (mono ((All2.map_l (f := C.r)).1 h2))⟩
  | map k e => exact Ro.mono (w := W') (fun _ _ => rfl) (fun _ _ => trivial) hr
  | ref t => exact Ro.mono (w := W') (fun _ _ => rfl) (fun _ _ => trivial) hr
end
end Go.Proofs.YthhmpjnmmhfngaaDoor.Ev
