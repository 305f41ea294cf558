/-
  Words for proofs over the evaluator: what an evaluation comes to, loops with typed heads, things that are chosen.
-/
import Derived.Test.YthhmpjnmmhfngaaDoorEvX
namespace Go.Proofs.YthhmpjnmmhfngaaDoor.Ev
open Go

/-- an evaluation comes to something of this kind -/
def Ok {α : Type} (t : Option α) (φ : α → Prop) : Prop := ∃ r, t = some r ∧ φ r

section
variable {α : Type} {φ : α → Prop} {b : Bool} {x y : Option α} {r : α}
theorem Ok_some : Ok (some r) φ ↔ φ r := ⟨fun ⟨_, h1, h2⟩ => by cases h1; exact h2, fun h => ⟨r, rfl, h⟩⟩
theorem Ok_none : Ok (none : Option α) φ ↔ False := ⟨fun ⟨_, h, _⟩ => (by cases h), False.elim⟩
theorem Ok_branch : Ok (branch b x y) φ ↔ (b = true → Ok x φ) ∧ (b = false → Ok y φ) := by
  cases b
  · exact ⟨fun h => ⟨fun e => (by cases e), fun _ => h⟩, fun h => h.2 rfl⟩
  · exact ⟨fun h => ⟨fun _ => h, fun e => (by cases e)⟩, fun h => h.1 rfl⟩
theorem Ok_need : Ok (need b x) φ ↔ b = true ∧ Ok x φ := by
  cases b
  · exact ⟨fun ⟨_, h, _⟩ => (by cases h), fun h => by cases h.1⟩
  · exact ⟨fun h => ⟨rfl, h⟩, fun h => h.2⟩
theorem Ok.need (h : b = true) (g : Ok x φ) : Ok (need b x) φ := Ok_need.2 ⟨h, g⟩
theorem Ok.br (h1 : b = true → Ok x φ) (h2 : b = false → Ok y φ) : Ok (branch b x y) φ := Ok_branch.2 ⟨h1, h2⟩
theorem Ok.yes (h : b = true) (g : Ok x φ) : Ok (branch b x y) φ := Ok_branch.2 ⟨fun _ => g, fun e => (by rw [h] at e; cases e)⟩
theorem Ok.no (h : b = false) (g : Ok y φ) : Ok (branch b x y) φ := Ok_branch.2 ⟨fun e => (by rw [h] at e; cases e), fun _ => g⟩
theorem Ok.ret (h : φ r) : Ok (some r) φ := Ok_some.2 h
theorem Ok.mono {ψ : α → Prop} (h : Ok x φ) (g : ∀ r, φ r → ψ r) : Ok x ψ := by obtain ⟨r, h1, h2⟩ := h; exact ⟨r, h1, g r h2⟩
theorem Ok_eq : Ok x (fun q => q = r) ↔ x = some r := ⟨fun ⟨q, h1, h2⟩ => by rw [h1, h2], fun h => ⟨r, h, rfl⟩⟩
end

theorem pre_of {b : Bool} (h : some b = none ∨ some b = some true) : b = true := by
  rcases h with h | h
  · cases h
  · exact Option.some.inj h

/-- a contract over typed data: a condition, the result, and new objects -/
def conN (as : List Ty) (F : Fn as (Option Bool × T × Heap)) : Con := ⟨true, fun ds os => match os with
  | [] => applyD as F ds
  | _ => none⟩

theorem conN_ok {P : Program} {f : FuncId} {as : List Ty} {G : Fn as (Option Bool × T × Heap)} (hin : ∀ args w, (callFunc f args).run P w = .ok (.enter f args) w)
    (he : EachF as G fun ds r => (r.1 = none ∨ r.1 = some true) → Sat P f ds [] r.2.1 r.2.2) : ConOk P f (conN as G) := by
  refine ⟨hin, fun ds os c x objs hc hok => ?_⟩
  simp only [conN] at hc
  split at hc
  · intro w F β args H hds
    obtain ⟨ds', h1, h2⟩ := each_of he hc hds
    exact h1 hok w F β args H h2
  · cases hc

/-! ### exact reading -/
def listX (t : Ty) : R → Option (List (Den t))
  | .li e l => castL e t l
  | _ => none

def refX (t : Ty) : R → Option (Den t)
  | .rf t' x => refC t' t x
  | _ => none
def treeX : List R → Option (GTree × List R)
  | a :: b :: c :: rs => match strR a, intR .i64 b, listX .tree c with
    | some s, some n, some l => some (.node s n l, rs)
    | _, _, _ => none
  | _ => none

def parseX : (t : Ty) → List R → Option (Den t × List R)
  | .int k, rs => headR (intR k) rs
  | .str, rs => headR strR rs
  | .bool, rs => headR boolR rs
  | .list t, rs => headR (listX t) rs
  | .pair a b, rs => match parseX a rs with
    | some (x, rs) => match parseX b rs with
      | some (y, rs) => some ((x, y), rs)
      | none => none
    | none => none
  | .struct t, rs => parseX t rs
  | .unit, rs => some ((), rs)
  | .tree, rs => treeX rs
  | .map k e, rs => headR (mapR k e) rs
  | .ref t, rs => headR (refX t) rs

theorem parseX_some : ∀ {t : Ty} {rs rest : List R} {x : Den t}, parseX t rs = some (x, rest) → rs = cellsR t x ++ rest
  | .int k, rs, rest, x, h => by obtain ⟨r, h1, h2⟩ := headR_some h; rw [h1, intR_some h2]; rfl
  | .str, rs, rest, x, h => by obtain ⟨r, h1, h2⟩ := headR_some h; rw [h1, strR_some h2]; rfl
  | .bool, rs, rest, x, h => by obtain ⟨r, h1, h2⟩ := headR_some h; rw [h1, boolR_some h2]; rfl
  | .list t, rs, rest, x, h => by
    obtain ⟨r, h1, h2⟩ := headR_some h
    rw [h1]
    unfold listX at h2
    split at h2
    · obtain ⟨g, e⟩ := castL_some h2
      subst g; rw [show x = _ from e]; rfl
    · cases h2
  | .pair a b, rs, rest, x, h => by
    simp only [parseX] at h
    split at h
    · rename_i y rs1 e1
      split at h
      · rename_i z rs2 e2
        cases h
        rw [parseX_some e1, parseX_some e2]
        exact (List.append_assoc _ _ _).symm
      · cases h
    · cases h
  | .struct t, rs, rest, x, h => parseX_some (t := t) h
  | .unit, rs, rest, x, h => by cases h; rfl
  | .tree, rs, rest, x, h => by
    have h : treeX rs = some (x, rest) := h
    unfold treeX at h
    split at h
    · split at h
      · rename_i s n l h1 h2 h3
        cases h
        unfold listX at h3
        split at h3
        · obtain ⟨g, e⟩ := castL_some h3
          subst g
          rw [strR_some h1, intR_some h2, show l = _ from e]; rfl
        · cases h3
      · cases h
    · cases h
  | .map k e, rs, rest, x, h => by obtain ⟨r, h1, h2⟩ := headR_some h; rw [h1, mapR_some h2]; rfl
  | .ref t, rs, rest, x, h => by
    obtain ⟨r, h1, h2⟩ := headR_some h
    unfold refX at h2
    split at h2
    · obtain ⟨g, e⟩ := refC_some h2
      subst g; rw [h1, show x = _ from e]; rfl
    · cases h2

def exCells (t : Ty) (cs : List C) : Option (Den t) := match allSome (cs.map rOfC) with
  | some rs => match parseX t rs with
    | some (x, []) => some x
    | _ => none
  | none => none

theorem exCells_some {t : Ty} {cs : List C} {x : Den t} (h : exCells t cs = some x) : cs = (cellsR t x).map .r := by
  unfold exCells at h
  split at h
  · rename_i rs hrs
    split at h
    · rename_i y hy
      cases h
      rw [rOfC_all hrs, parseX_some hy, List.append_nil]
    · cases h
  · cases h

def exT (t : Ty) : T → Option (Den t)
  | .d (.one c) => match isStruct t with
    | false => exCells t [c]
    | true => none
  | .d (.agg cs) => match isStruct t with
    | true => exCells t cs
    | false => none
  | _ => none

theorem exT_some {t : Ty} {x : T} {v : Den t} (h : exT t x = some v) : x = .d (ofD t v) := by
  unfold exT at h
  split at h
  · split at h
    · rename_i hs
      have e := exCells_some h
      cases t with
      | int k => cases e; rfl
      | str => cases e; rfl
      | bool => cases e; rfl
      | list t => cases e; rfl
      | struct t => cases hs
      | pair a b => cases hs
      | unit => cases hs
      | tree => cases hs
      | map k e => cases e; rfl
      | ref t => cases e; rfl
    · cases h
  · split at h
    · rename_i hs
      have e := exCells_some h
      cases t with
      | struct t => rw [e]; rfl
      | pair a b => rw [e]; rfl
      | unit => rw [e]; rfl
      | int k => cases hs
      | str => cases hs
      | bool => cases hs
      | list t => cases hs
      | tree => rw [e]; rfl
      | map k e => cases hs
      | ref t => cases hs
    · cases h
  · cases h

/-! ### heads of loops, typed -/
/-- what a slot holds: typed data, an object of the call's own, a pointer to a variable, a function -/
inductive HK where
  | d (t : Ty)
  | own (i : Nat)
  | ptr (i off : Nat)
  | fn (f : FuncId) (l : List Nat)
  | deep (i : Nat)

/-- what cells of a variable hold -/
inductive CK where
  | d (t : Ty)
  | own (i : Nat)
  | nil
  | deep (i : Nat)

/-- what an object is: a list, a variable of plain data, a variable of cells of several kinds -/
inductive HO where
  | lis (t : TypeId) (e : Ty)
  | box (t : TypeId) (s : Ty)
  | mix (t : TypeId) (l : List CK)
  | map (k e : Ty)
  | deep (ts : List TypeId) (e : Ty)

def CV : List CK → Type
  | [] => Unit
  | .d t :: l => Den t × CV l
  | _ :: l => CV l

def mkC : (l : List CK) → CV l → List C
  | [], _ => []
  | .d t :: l, v => (cellsR t v.1).map .r ++ mkC l v.2
  | .own i :: l, v => .own i :: mkC l v
  | .nil :: l, v => .r (.v (.slice none 0 0)) :: mkC l v
  | .deep i :: l, v => .dsl i [] :: mkC l v

def isOwnC (i : Nat) : C → Bool
  | .own j => Nat.beq i j
  | _ => false
def isDeepC (i : Nat) : C → Bool
  | .dsl j [] => Nat.beq i j
  | _ => false
def isNilC : C → Bool
  | .r (.v (.slice none 0 0)) => true
  | _ => false

def pC : (l : List CK) → List C → Option (CV l)
  | [], [] => some ()
  | .d t :: l, cs => match exCells t (cs.take (width t)), pC l (cs.drop (width t)) with
    | some x, some r => some (x, r)
    | _, _ => none
  | .own i :: l, c :: cs => match isOwnC i c with
    | true => pC l cs
    | false => none
  | .nil :: l, c :: cs => match isNilC c with
    | true => pC l cs
    | false => none
  | .deep i :: l, c :: cs => match isDeepC i c with
    | true => pC l cs
    | false => none
  | _, _ => none

theorem pC_some : ∀ {l : List CK} {cs : List C} {v : CV l}, pC l cs = some v → cs = mkC l v
  | [], [], _, _ => rfl
  | [], _ :: _, _, h => by simp [pC] at h
  | .d t :: l, cs, v, h => by
    simp only [pC] at h
    split at h
    · rename_i e1 e2
      cases h
      have h1 := exCells_some e1
      have h2 := pC_some e2
      show cs = _
      rw [← List.take_append_drop (width t) cs, h1, h2]
      rfl
    · cases h
  | .own i :: l, [], _, h => by simp [pC] at h
  | .own i :: l, c :: cs, v, h => by
    simp only [pC] at h
    split at h
    · rename_i hb
      unfold isOwnC at hb
      split at hb
      · have := Nat.eq_of_beq_eq_true hb
        subst this
        rw [pC_some h]; rfl
      · cases hb
    · cases h
  | .deep i :: l, [], _, h => by simp [pC] at h
  | .deep i :: l, c :: cs, v, h => by
    simp only [pC] at h
    split at h
    · rename_i hb
      unfold isDeepC at hb
      split at hb
      · have := Nat.eq_of_beq_eq_true hb
        subst this
        rw [pC_some h]; rfl
      · cases hb
    · cases h
  | .nil :: l, [], _, h => by simp [pC] at h
  | .nil :: l, c :: cs, v, h => by
    simp only [pC] at h
    split at h
    · rename_i hb
      unfold isNilC at hb
      split at hb
      · rw [pC_some h]; rfl
      · cases hb
    · cases h

def EnvV : List (Nat × HK) → Type
  | [] => Unit
  | (_, .d t) :: l => Den t × EnvV l
  | _ :: l => EnvV l

def mkEnv : (l : List (Nat × HK)) → EnvV l → List (Nat × T)
  | [], _ => []
  | (s, .d t) :: l, v => (s, .d (ofD t v.1)) :: mkEnv l v.2
  | (s, .own i) :: l, v => (s, .d (.one (.own i))) :: mkEnv l v
  | (s, .ptr i off) :: l, v => (s, .d (.one (.ptr i off))) :: mkEnv l v
  | (s, .fn f ids) :: l, v => (s, .d (.one (.fn f ids))) :: mkEnv l v
  | (s, .deep i) :: l, v => (s, .d (.one (.dsl i []))) :: mkEnv l v

def eqIds : List Nat → List Nat → Bool
  | [], [] => true
  | a :: l, b :: m => Nat.beq a b && eqIds l m
  | _, _ => false

theorem eqIds_iff : ∀ {l m : List Nat}, eqIds l m = true → l = m
  | [], [], _ => rfl
  | a :: l, b :: m, h => by simp only [eqIds, Bool.and_eq_true] at h; rw [Nat.eq_of_beq_eq_true h.1, eqIds_iff h.2]
  | [], _ :: _, h => by cases h
  | _ :: _, [], h => by cases h

def isOwn (i : Nat) : T → Bool
  | .d (.one (.own j)) => Nat.beq i j
  | _ => false
def isDsl (i : Nat) : T → Bool
  | .d (.one (.dsl j [])) => Nat.beq i j
  | _ => false
theorem isDsl_iff {i : Nat} {x : T} (h : isDsl i x = true) : x = .d (.one (.dsl i [])) := by
  unfold isDsl at h
  split at h
  · rw [Nat.eq_of_beq_eq_true h]
  · cases h
def isPtr (i o : Nat) : T → Bool
  | .d (.one (.ptr j q)) => Nat.beq i j && Nat.beq o q
  | _ => false
def isFn (f : FuncId) (l : List Nat) : T → Bool
  | .d (.one (.fn g m)) => Nat.beq f g && eqIds l m
  | _ => false
theorem isOwn_iff {i : Nat} {x : T} (h : isOwn i x = true) : x = .d (.one (.own i)) := by
  unfold isOwn at h
  split at h
  · rw [Nat.eq_of_beq_eq_true h]
  · cases h
theorem isPtr_iff {i o : Nat} {x : T} (h : isPtr i o x = true) : x = .d (.one (.ptr i o)) := by
  unfold isPtr at h
  split at h
  · simp only [Bool.and_eq_true] at h; rw [Nat.eq_of_beq_eq_true h.1, Nat.eq_of_beq_eq_true h.2]
  · cases h
theorem isFn_iff {f : FuncId} {l : List Nat} {x : T} (h : isFn f l x = true) : x = .d (.one (.fn f l)) := by
  unfold isFn at h
  split at h
  · simp only [Bool.and_eq_true] at h; rw [Nat.eq_of_beq_eq_true h.1, eqIds_iff h.2]
  · cases h

def pEnv : (l : List (Nat × HK)) → List (Nat × T) → Option (EnvV l)
  | [], [] => some ()
  | (s, .d t) :: l, (s', x) :: e => match Nat.beq s s', exT t x, pEnv l e with
    | true, some v, some r => some (v, r)
    | _, _, _ => none
  | (s, .own i) :: l, (s', x) :: e => match Nat.beq s s' && isOwn i x with
    | true => pEnv l e
    | false => none
  | (s, .ptr i o) :: l, (s', x) :: e => match Nat.beq s s' && isPtr i o x with
    | true => pEnv l e
    | false => none
  | (s, .fn f k) :: l, (s', x) :: e => match Nat.beq s s' && isFn f k x with
    | true => pEnv l e
    | false => none
  | (s, .deep i) :: l, (s', x) :: e => match Nat.beq s s' && isDsl i x with
    | true => pEnv l e
    | false => none
  | _, _ => none

theorem pEnv_some : ∀ {l : List (Nat × HK)} {e : List (Nat × T)} {v : EnvV l}, pEnv l e = some v → e = mkEnv l v
  | [], [], _, _ => rfl
  | [], _ :: _, _, h => by simp [pEnv] at h
  | (s, k) :: l, [], _, h => by cases k <;> simp [pEnv] at h
  | (s, .d t) :: l, (s', x) :: e, v, h => by
    simp only [pEnv] at h
    split at h
    · rename_i e1 e2 e3
      cases h
      have := Nat.eq_of_beq_eq_true e1
      subst this
      rw [exT_some e2, pEnv_some e3]; rfl
    · cases h
  | (s, .own i) :: l, (s', x) :: e, v, h => by
    simp only [pEnv] at h
    split at h
    · rename_i hb
      simp only [Bool.and_eq_true] at hb
      have e1 := Nat.eq_of_beq_eq_true hb.1
      subst e1
      rw [isOwn_iff hb.2, pEnv_some h]; rfl
    · cases h
  | (s, .ptr i o) :: l, (s', x) :: e, v, h => by
    simp only [pEnv] at h
    split at h
    · rename_i hb
      simp only [Bool.and_eq_true] at hb
      have e1 := Nat.eq_of_beq_eq_true hb.1
      subst e1
      rw [isPtr_iff hb.2, pEnv_some h]; rfl
    · cases h
  | (s, .deep i) :: l, (s', x) :: e, v, h => by
    simp only [pEnv] at h
    split at h
    · rename_i hb
      simp only [Bool.and_eq_true] at hb
      have e1 := Nat.eq_of_beq_eq_true hb.1
      subst e1
      rw [isDsl_iff hb.2, pEnv_some h]; rfl
    · cases h
  | (s, .fn f k) :: l, (s', x) :: e, v, h => by
    simp only [pEnv] at h
    split at h
    · rename_i hb
      simp only [Bool.and_eq_true] at hb
      have e1 := Nat.eq_of_beq_eq_true hb.1
      subst e1
      rw [isFn_iff hb.2, pEnv_some h]; rfl
    · cases h

def HeapV : List (Nat × HO) → Type
  | [] => Unit
  | (_, .lis _ e) :: l => List (Den e) × HeapV l
  | (_, .box _ s) :: l => Den s × HeapV l
  | (_, .mix _ k) :: l => CV k × HeapV l
  | (_, .map k e) :: l => List (Den k × Den e) × HeapV l
  | (_, .deep _ e) :: l => List (Den e) × HeapV l

def mkHeap : (l : List (Nat × HO)) → HeapV l → Heap
  | [], _ => []
  | (i, .lis t e) :: l, v => (i, some (.lis t e v.1)) :: mkHeap l v.2
  | (i, .box t s) :: l, v => (i, some (boxD t s v.1)) :: mkHeap l v.2
  | (i, .mix t k) :: l, v => (i, some (.box t (mkC k v.1))) :: mkHeap l v.2
  | (i, .map k e) :: l, v => (i, some (.map k e v.1)) :: mkHeap l v.2
  | (i, .deep ts e) :: l, v => (i, some (.deep ts e v.1)) :: mkHeap l v.2

def exLis (t : TypeId) (e : Ty) : Option Obj → Option (List (Den e))
  | some (.lis t' e' m) => match Nat.beq t t' with
    | true => castL e' e m
    | false => none
  | _ => none
def exBox (t : TypeId) (s : Ty) : Option Obj → Option (Den s)
  | some (.box t' cs) => match Nat.beq t t' with
    | true => exCells s cs
    | false => none
  | _ => none
theorem exLis_some {t : TypeId} {e : Ty} {q : Option Obj} {m : List (Den e)} (h : exLis t e q = some m) : q = some (.lis t e m) := by
  unfold exLis at h
  split at h
  · split at h
    · rename_i hb
      have := Nat.eq_of_beq_eq_true hb
      subst this
      obtain ⟨g, rfl⟩ := castL_some h
      subst g; rfl
    · cases h
  · cases h
theorem exBox_some {t : TypeId} {s : Ty} {q : Option Obj} {x : Den s} (h : exBox t s q = some x) : q = some (boxD t s x) := by
  unfold exBox at h
  split at h
  · split at h
    · rename_i hb
      have := Nat.eq_of_beq_eq_true hb
      subst this
      rw [exCells_some h]
    · cases h
  · cases h

def exMix (t : TypeId) (k : List CK) : Option Obj → Option (CV k)
  | some (.box t' cs) => match Nat.beq t t' with
    | true => pC k cs
    | false => none
  | _ => none
theorem exMix_some {t : TypeId} {k : List CK} {q : Option Obj} {x : CV k} (h : exMix t k q = some x) : q = some (.box t (mkC k x)) := by
  unfold exMix at h
  split at h
  · split at h
    · rename_i hb
      have := Nat.eq_of_beq_eq_true hb
      subst this
      rw [pC_some h]
    · cases h
  · cases h

def exMap (k e : Ty) : Option Obj → Option (List (Den k × Den e))
  | some (.map k' e' m) => castM k' e' k e m
  | _ => none
theorem exMap_some {k e : Ty} {q : Option Obj} {m : List (Den k × Den e)} (h : exMap k e q = some m) : q = some (.map k e m) := by
  unfold exMap at h
  split at h
  · obtain ⟨g, g', rfl⟩ := castM_some h
    subst g; subst g'; rfl
  · cases h
def exDeep (ts : List TypeId) (e : Ty) : Option Obj → Option (List (Den e))
  | some (.deep ts' e' m) => match eqNats ts ts' with
    | true => castL e' e m
    | false => none
  | _ => none
theorem exDeep_some {ts : List TypeId} {e : Ty} {q : Option Obj} {m : List (Den e)} (h : exDeep ts e q = some m) : q = some (.deep ts e m) := by
  unfold exDeep at h
  split at h
  · split at h
    · rename_i hb
      have := eqNats_iff hb
      subst this
      obtain ⟨g, rfl⟩ := castL_some h
      subst g; rfl
    · cases h
  · cases h

def pHeap : (l : List (Nat × HO)) → Heap → Option (HeapV l)
  | [], [] => some ()
  | (i, .lis t e) :: l, (i', q) :: h => match Nat.beq i i', exLis t e q, pHeap l h with
    | true, some m, some r => some (m, r)
    | _, _, _ => none
  | (i, .box t s) :: l, (i', q) :: h => match Nat.beq i i', exBox t s q, pHeap l h with
    | true, some x, some r => some (x, r)
    | _, _, _ => none
  | (i, .mix t k) :: l, (i', q) :: h => match Nat.beq i i', exMix t k q, pHeap l h with
    | true, some x, some r => some (x, r)
    | _, _, _ => none
  | (i, .map k e) :: l, (i', q) :: h => match Nat.beq i i', exMap k e q, pHeap l h with
    | true, some x, some r => some (x, r)
    | _, _, _ => none
  | (i, .deep ts e) :: l, (i', q) :: h => match Nat.beq i i', exDeep ts e q, pHeap l h with
    | true, some x, some r => some (x, r)
    | _, _, _ => none
  | _, _ => none

theorem pHeap_some : ∀ {l : List (Nat × HO)} {h : Heap} {v : HeapV l}, pHeap l h = some v → h = mkHeap l v
  | [], [], _, _ => rfl
  | [], _ :: _, _, h => by simp [pHeap] at h
  | (i, k) :: l, [], _, h => by cases k <;> simp [pHeap] at h
  | (i, .lis t e) :: l, (i', q) :: hp, v, h => by
    simp only [pHeap] at h
    split at h
    · rename_i e1 e2 e3
      cases h
      have g1 := Nat.eq_of_beq_eq_true e1
      subst g1
      rw [exLis_some e2, pHeap_some e3]; rfl
    · cases h
  | (i, .box t s) :: l, (i', q) :: hp, v, h => by
    simp only [pHeap] at h
    split at h
    · rename_i e1 e2 e3
      cases h
      have g1 := Nat.eq_of_beq_eq_true e1
      subst g1
      rw [exBox_some e2, pHeap_some e3]; rfl
    · cases h
  | (i, .map k e) :: l, (i', q) :: hp, v, h => by
    simp only [pHeap] at h
    split at h
    · rename_i e1 e2 e3
      cases h
      have g1 := Nat.eq_of_beq_eq_true e1
      subst g1
      rw [exMap_some e2, pHeap_some e3]; rfl
    · cases h
  | (i, .deep ts e) :: l, (i', q) :: hp, v, h => by
    simp only [pHeap] at h
    split at h
    · rename_i e1 e2 e3
      cases h
      have g1 := Nat.eq_of_beq_eq_true e1
      subst g1
      rw [exDeep_some e2, pHeap_some e3]; rfl
    · cases h
  | (i, .mix t k) :: l, (i', q) :: hp, v, h => by
    simp only [pHeap] at h
    split at h
    · rename_i e1 e2 e3
      cases h
      have g1 := Nat.eq_of_beq_eq_true e1
      subst g1
      rw [exMix_some e2, pHeap_some e3]; rfl
    · cases h

abbrev Sh := List (Nat × HK) × List (Nat × HO)
abbrev Sh.V (s : Sh) : Type := EnvV s.1 × HeapV s.2
def Sh.mk (s : Sh) (v : s.V) : St := ⟨mkEnv s.1 v.1, mkHeap s.2 v.2⟩
def Sh.p (s : Sh) (st : St) : Option s.V := match pEnv s.1 st.env, pHeap s.2 st.heap with
  | some a, some b => some (a, b)
  | _, _ => none
theorem Sh.p_some {s : Sh} {st : St} {v : s.V} (h : s.p st = some v) : st = s.mk v := by
  unfold Sh.p at h
  split at h
  · rename_i e1 e2
    cases h
    cases st
    simp only [Sh.mk, St.mk.injEq]
    exact ⟨pEnv_some e1, pHeap_some e2⟩
  · cases h

/-- what is told of a loop whose head is so -/
def orc (s : Sh) (g : s.V → Cont → Option Fin) : St → Cont → Option Fin := fun st K => match s.p st with
  | some v => g v K
  | none => none

theorem orc_ok {s : Sh} {g : s.V → Cont → Option Fin} {f : St → Cont → Option Fin} {head : St → St} (h : ∀ v K r, g v K = some r → ∃ N, iter f head N (s.mk v) K = some r) : ∀ st K r, orc s g st K = some r → ∃ N, iter f head N st K = some r := by
  intro st K r hr
  unfold orc at hr
  split at hr
  · rename_i v hv
    rw [Sh.p_some hv]
    exact h v K r hr
  · cases hr

/-- A loop, by a measure: each round comes to what is told, if what is told of lesser heads is so. -/
theorem loop_rule {V : Type} {mk : V → St} {g : V → Cont → Option Fin} {f : St → Cont → Option Fin} {head : St → St} (μ : V → Nat)
    (h : ∀ v K r, g v K = some r → ∀ R : St → Option Fin, (∀ v', μ v' < μ v → g v' K = some r → R (mk v') = some r) → f (mk v) (onward head R K) = some r) : ∀ v K r, g v K = some r → ∃ N, iter f head N (mk v) K = some r := by
  have key : ∀ (N : Nat) v K r, μ v < N → g v K = some r → iter f head N (mk v) K = some r := by
    intro N
    induction N with
    | zero => intro v K r hN; omega
    | succ N ih =>
      intro v K r hN hg
      rw [iter_succ]
      exact h v K r hg _ fun v' hv hg' => ih v' K r (by omega) hg'
  exact fun v K r hg => ⟨_, key _ v K r (Nat.lt_succ_self _) hg⟩

/-- A loop of which only so much is told: from each head that keeps 'I' a round ends the loop, or comes to a lesser head. -/
theorem loop_any {V O : Type} {mk : V → St} {out : O → St} {f : St → Cont → Option Fin} {head : St → St} (I : V → Prop) (φ : V → O → Prop) (ex : Ex) (μ : V → Nat)
    (h : ∀ v, I v → (∃ o, φ v o ∧ ∀ R K, f (mk v) (onward head R K) = K ex (out o)) ∨ ∃ v', I v' ∧ μ v' < μ v ∧ (∀ o, φ v' o → φ v o) ∧ ∀ R K, f (mk v) (onward head R K) = R (mk v')) :
    ∀ v, I v → ∃ o, φ v o ∧ ∀ K r, K ex (out o) = some r → ∃ N, iter f head N (mk v) K = some r := by
  have key : ∀ (N : Nat) v, μ v < N → I v → ∃ o, φ v o ∧ ∀ K, iter f head N (mk v) K = K ex (out o) := by
    intro N
    induction N with
    | zero => intro v hN; omega
    | succ N ih =>
      intro v hN hI
      rcases h v hI with ⟨o, h1, h2⟩ | ⟨v', h1, h2, h3, h4⟩
      · exact ⟨o, h1, fun K => by rw [iter_succ, h2]⟩
      · obtain ⟨o, g1, g2⟩ := ih v' (by omega) h1
        exact ⟨o, h3 o g1, fun K => by rw [iter_succ, h4]; exact g2 K⟩
  intro v hI
  obtain ⟨o, h1, h2⟩ := key _ v (Nat.lt_succ_self _) hI
  exact ⟨o, h1, fun K r hr => ⟨_, by rw [h2]; exact hr⟩⟩

/-! ### loops in place -/
def Cx.withLoops (cx : Cx) (l : Nat → Option (St → Cont → Option Fin)) : Cx := { cx with loops := l }

theorem steps_indep (cx : Cx) (l : Nat → Option (St → Cont → Option Fin)) (gd part : Bool) (ops : Array Oper) : ∀ (os : List Oper) (st : St) (K : St → List Marks → Option Fin), steps (cx.withLoops l) gd part ops os st K = steps cx gd part ops os st K
  | [], st, K => rfl
  | o :: os, st, K => by
    simp only [steps]
    have : (fun st m => steps (cx.withLoops l) gd part ops os st fun st ms => K st (m :: ms)) = fun st m => steps cx gd part ops os st fun st ms => K st (m :: ms) := by
      funext st m; exact steps_indep cx l gd part ops os st _
    rw [this]
    rfl

/-- code without loops does not look at what is told of loops -/
theorem evC_indep (cx : Cx) (l : Nat → Option (St → Cont → Option Fin)) : ∀ c, loopsOf c = [] → ∀ st K, evC (cx.withLoops l) c st K = evC cx c st K := by
  intro c
  induction c with
  | seq x y ihx ihy =>
    intro h st K
    simp only [loopsOf, List.append_eq_nil_iff] at h
    simp only [evC]
    rw [ihx h.1]
    congr 1
    funext e st'
    cases e <;> first | rfl | exact ihy h.2 _ _
  | cond o y z ihy ihz =>
    intro h st K
    simp only [loopsOf, List.append_eq_nil_iff] at h
    simp only [evC]
    cases (evOpd st.env o).bind nilD with
    | some n => dsimp only; rw [ihy h.1, ihz h.2]
    | none =>
      cases (evOpd st.env o).bind boolD with
      | none => rfl
      | some t => dsimp only; rw [ihy h.1, ihz h.2]
  | block id c ih =>
    intro h st K
    simp only [evC]
    rw [ih h]
  | loop c _ => intro h; simp [loopsOf] at h
  | region id ops draw =>
    intro _ st K
    simp only [evC, region]
    split <;> rw [steps_indep] <;> rfl
  | _ => intro _ st K; rfl

/-- rounds done in place: for loops whose heads are written out -/
noncomputable def unroll (cx : Cx) (b : Code) (id n : Nat) : St → Cont → Option Fin := iter (evC cx b) (headAt cx id) n

theorem unroll_ok {cx : Cx} {b : Code} {id n : Nat} {l : Nat → Option (St → Cont → Option Fin)} (h : loopsOf b = []) : ∀ st K r, unroll cx b id n st K = some r → ∃ N, iter (evC (cx.withLoops l) b) (headAt (cx.withLoops l) id) N st K = some r := by
  intro st K r hr
  have : evC (cx.withLoops l) b = evC cx b := by funext st K; exact evC_indep cx l b h st K
  exact ⟨n, by rw [this]; exact hr⟩

theorem with_ok {cx : Cx} {b : Code} {id : Nat} {g : St → Cont → Option Fin} {l : Nat → Option (St → Cont → Option Fin)} (h : loopsOf b = []) (hg : ∀ st K r, g st K = some r → ∃ N, iter (evC cx b) (headAt cx id) N st K = some r) :
    ∀ st K r, g st K = some r → ∃ N, iter (evC (cx.withLoops l) b) (headAt (cx.withLoops l) id) N st K = some r := by
  intro st K r hr
  have : evC (cx.withLoops l) b = evC cx b := by funext st K; exact evC_indep cx l b h st K
  rw [this]
  exact hg st K r hr

/-- one of those that are so -/
noncomputable def oneOf {α : Type} [Nonempty α] (p : α → Prop) : α := Classical.epsilon p
theorem oneOf_spec {α : Type} [Nonempty α] {p : α → Prop} (h : ∃ x, p x) : p (oneOf p) := Classical.epsilon_spec h

/-- the loop's end, chosen -/
noncomputable def endOf {V O : Type} [Nonempty O] (mk : V → St) (out : O → St) (f : St → Cont → Option Fin) (head : St → St) (φ : V → O → Prop) (ex : Ex) (v : V) : O := oneOf fun o => φ v o ∧ ∀ K r, K ex (out o) = some r → ∃ N, iter f head N (mk v) K = some r

theorem endOf_spec {V O : Type} [Nonempty O] {mk : V → St} {out : O → St} {f : St → Cont → Option Fin} {head : St → St} {φ : V → O → Prop} {ex : Ex} {v : V} (h : ∃ o, φ v o ∧ ∀ K r, K ex (out o) = some r → ∃ N, iter f head N (mk v) K = some r) :
    φ v (endOf mk out f head φ ex v) ∧ ∀ K r, K ex (out (endOf mk out f head φ ex v)) = some r → ∃ N, iter f head N (mk v) K = some r := oneOf_spec h

/-- a loop with a chosen end, where a test holds -/
noncomputable def gEnd {O : Type} [Nonempty O] (s : Sh) (pre : s.V → Bool) (out : O → St) (f : St → Cont → Option Fin) (head : St → St) (φ : s.V → O → Prop) (ex : Ex) : St → Cont → Option Fin := orc s fun v K => need (pre v) (K ex (out (endOf s.mk out f head φ ex v)))
theorem gEnd_ok {O : Type} [Nonempty O] {s : Sh} {pre : s.V → Bool} {out : O → St} {f : St → Cont → Option Fin} {head : St → St} {φ : s.V → O → Prop} {ex : Ex} (h : ∀ v, pre v = true → ∃ o, φ v o ∧ ∀ K r, K ex (out o) = some r → ∃ N, iter f head N (s.mk v) K = some r) :
    ∀ st K r, gEnd s pre out f head φ ex st K = some r → ∃ N, iter f head N st K = some r :=
  orc_ok fun v K r hg => by
    obtain ⟨hp, hg⟩ := need_some.1 hg
    exact (endOf_spec (h v hp)).2 K r hg

theorem LoopsOk.no {cx : Cx} {c : Code} (h : ∀ id, cx.loops id = none) : LoopsOk cx c := fun id _ g _ hg => by rw [h id] at hg; cases hg

end Go.Proofs.YthhmpjnmmhfngaaDoor.Ev
