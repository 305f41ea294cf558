/-
  How data stand for what lies in the model's memory, and what an operation may turn.
-/
import Derived.Test.YthhmpjnmmhfngaaDoorEvA
namespace Go.Proofs.YthhmpjnmmhfngaaDoor.Ev
open Go

inductive All2 {α β : Type} (p : α → β → Prop) : List α → List β → Prop
  | nil : All2 p [] []
  | cons {a b l m} : p a b → All2 p l m → All2 p (a :: l) (b :: m)

namespace All2
variable {α β : Type} {p q : α → β → Prop}

theorem len {l : List α} {m : List β} (h : All2 p l m) : l.length = m.length := by
  induction h with
  | nil => rfl
  | cons _ _ ih => simp [ih]

theorem get {l : List α} {m : List β} (h : All2 p l m) : ∀ {j : Nat} {x : α}, l[j]? = some x → ∃ y, m[j]? = some y ∧ p x y := by
  induction h with
  | nil => intro j x hx; simp at hx
  | cons hab _ ih =>
    intro j x hx
    cases j with
    | zero => simp at hx; subst hx; exact ⟨_, rfl, hab⟩
    | succ j => simp at hx ⊢; exact ih hx

theorem getR {l : List α} {m : List β} (h : All2 p l m) : ∀ {j : Nat} {y : β}, m[j]? = some y → ∃ x, l[j]? = some x ∧ p x y := by
  induction h with
  | nil => intro j x hx; simp at hx
  | cons hab _ ih =>
    intro j x hx
    cases j with
    | zero => simp at hx; subst hx; exact ⟨_, rfl, hab⟩
    | succ j => simp at hx ⊢; exact ih hx

theorem mono {l : List α} {m : List β} (hpq : ∀ a b, p a b → q a b) (h : All2 p l m) : All2 q l m := by
  induction h with
  | nil => exact .nil
  | cons hab _ ih => exact .cons (hpq _ _ hab) ih

theorem of_get {l : List α} {m : List β} (hl : l.length = m.length) (h : ∀ (j : Nat) (x : α), l[j]? = some x → ∃ y, m[j]? = some y ∧ p x y) : All2 p l m := by
  induction l generalizing m with
  | nil => cases m with
    | nil => exact .nil
    | cons _ _ => simp at hl
  | cons a l ih => cases m with
    | nil => simp at hl
    | cons b m =>
      refine .cons ?_ (ih (by simpa using hl) fun j x hx => ?_)
      · obtain ⟨y, hy, hp⟩ := h 0 a rfl; simp at hy; subst hy; exact hp
      · obtain ⟨y, hy, hp⟩ := h (j + 1) x (by simpa using hx); exact ⟨y, by simpa using hy, hp⟩

theorem append {l l' : List α} {m m' : List β} (h : All2 p l m) (h' : All2 p l' m') : All2 p (l ++ l') (m ++ m') := by
  induction h with
  | nil => exact h'
  | cons hab _ ih => exact .cons hab ih

theorem drop {l : List α} {m : List β} (h : All2 p l m) (k : Nat) : All2 p (l.drop k) (m.drop k) := by
  induction h generalizing k with
  | nil => simp; exact .nil
  | cons hab ht ih => cases k with
    | zero => exact .cons hab ht
    | succ k => simpa using ih k

theorem take {l : List α} {m : List β} (h : All2 p l m) (k : Nat) : All2 p (l.take k) (m.take k) := by
  induction h generalizing k with
  | nil => simp; exact .nil
  | cons hab _ ih => cases k with
    | zero => simp; exact .nil
    | succ k => simpa using .cons hab (ih k)

theorem set {l : List α} {m : List β} (h : All2 p l m) (k : Nat) {a : α} {b : β} (hab : p a b) : All2 p (l.set k a) (m.set k b) := by
  induction h generalizing k with
  | nil => simp; exact .nil
  | cons h0 ht ih => cases k with
    | zero => exact .cons hab ht
    | succ k => exact .cons h0 (ih k)

theorem map_l {γ : Type} {f : γ → α} {l : List γ} {m : List β} : All2 p (l.map f) m ↔ All2 (fun a b => p (f a) b) l m := by
  constructor
  · intro h
    induction l generalizing m with
    | nil => cases h; exact .nil
    | cons a l ih => cases h with | cons h0 ht => exact .cons h0 (ih ht)
  · intro h
    induction h with
    | nil => exact .nil
    | cons h0 _ ih => exact .cons h0 ih

theorem map_r {γ : Type} {f : γ → β} {l : List α} {m : List γ} : All2 p l (m.map f) ↔ All2 (fun a b => p a (f b)) l m := by
  constructor
  · intro h
    induction m generalizing l with
    | nil => cases h; exact .nil
    | cons a m ih => cases h with | cons h0 ht => exact .cons h0 (ih ht)
  · intro h
    induction h with
    | nil => exact .nil
    | cons h0 _ ih => exact .cons h0 ih

theorem flatMap {α' β' : Type} {p' : α' → β' → Prop} {f : α → List α'} {g : β → List β'} {l : List α} {m : List β} (h : All2 p l m) (hfg : ∀ a b, p a b → All2 p' (f a) (g b)) :
    All2 p' (l.flatMap f) (m.flatMap g) := by
  induction h with
  | nil => exact .nil
  | cons hab _ ih => simp only [List.flatMap_cons]; exact (hfg _ _ hab).append ih
end All2

abbrev HF := Nat → Option (Option Obj)

def blk : Value → Option Nat
  | .pointer (some a) => some a.block
  | .slice (some a) _ c => if c = 0 then none else some a.block
  | .map (some b) => some b
  | _ => none

/-- the head of a skeleton: a slice, ahead of the skeletons of its elements -/
def hd : Value → Value
  | .tuple us => us.getD 0 (.bool false)
  | v => v
def skAt : List Nat → Value → Option Value
  | [], v => some (hd v)
  | k :: p, .tuple us => match us[k + 1]? with
    | some s => skAt p s
    | none => none
  | _ :: _, _ => none
/-- the blocks of what an id stands for -/
def Blk (v : Value) (b : Nat) : Prop := ∃ p u, skAt p v = some u ∧ blk u = some b

def isTup : Value → Bool
  | .tuple _ => true
  | _ => false
theorem Blk_iff {v : Value} {b : Nat} (h : isTup v = false) : Blk v b ↔ blk v = some b := by
  constructor
  · rintro ⟨p, u, h1, h2⟩
    cases p with
    | nil =>
      have : hd v = v := by cases v <;> first | rfl | simp [isTup] at h
      simp only [skAt, this, Option.some.injEq] at h1
      rw [h1]; exact h2
    | cons k p => cases v <;> simp [skAt, isTup] at h1 h
  · intro hb
    refine ⟨[], v, ?_, hb⟩
    have : hd v = v := by cases v <;> first | rfl | simp [isTup] at h
    simp only [skAt, this]
@[simp] theorem Blk_pointer {a : Option Addr} {b : Nat} : Blk (.pointer a) b ↔ blk (.pointer a) = some b := Blk_iff rfl
@[simp] theorem Blk_slice {a : Option Addr} {n c : Nat} {b : Nat} : Blk (.slice a n c) b ↔ blk (.slice a n c) = some b := Blk_iff rfl
@[simp] theorem Blk_map {a : Option Nat} {b : Nat} : Blk (.map a) b ↔ blk (.map a) = some b := Blk_iff rfl

/-- a tree as it lies in cells -/
inductive RoT (w : World) (F : Nat → Prop) : GTree → List Value → Prop
  | node {s : List UInt8} {r : Int} {ks : List GTree} {a : Option Addr} {cap : Nat} (ys : Nat → List Value) (h1 : plain (.string (mk s)) = true) (h2 : plain (.int .i64 r) = true) (h3 : List.length ks ≤ cap) (h4 : cap ≤ maxLen)
      (h5 : List.length ks = 0 ∨ ∃ b o, a = some ⟨b, o, none⟩ ∧ F b ∧ ∀ i, i < List.length ks → ∀ j, j < 3 → ∃ y, (ys i)[j]? = some y ∧ w.cell? ⟨b, o + (i * 3 + j), none⟩ = some y)
      (h6 : ∀ i, i < List.length ks → RoT w F (List.getD ks i (.node [] 0 [])) (ys i)) : RoT w F (.node s r ks) [.string (mk s), .int .i64 r, .slice a (List.length ks) cap]

/-- a value of this type's outer form -/
abbrev formV (t : Ty) (v : Value) : Prop := (isStruct t = true → ∃ us, v = .agg us) ∧ (isStruct t = false → v.oneCell' = true)

/-- typed data as it lies in cells -/
def RoL (w : World) (F : Nat → Prop) : (t : Ty) → Den t → List Value → Prop
  | .int k, n, us => us = [.int k n] ∧ plain (.int k n) = true
  | .str, s, us => us = [.string (mk s)] ∧ plain (.string (mk s)) = true
  | .bool, b, us => us = [.bool b]
  | .list t, l, us => ∃ a cap, us = [.slice a (List.length l) cap] ∧ List.length l ≤ cap ∧ cap ≤ maxLen ∧
      (List.length l = 0 ∨ ∃ b o, a = some ⟨b, o, none⟩ ∧ F b ∧ ∀ i, i < List.length l → ∃ ys, RoL w F t (List.getD l i (dflt t)) ys ∧ ∀ j, j < width t → ∃ y, ys[j]? = some y ∧ w.cell? ⟨b, o + (i * width t + j), none⟩ = some y)
  | .pair a b, x, us => ∃ us1 us2, us = us1 ++ us2 ∧ RoL w F a x.1 us1 ∧ RoL w F b x.2 us2
  | .struct t, x, us => RoL w F t x us
  | .unit, _, us => us = []
  | .tree, x, us => RoT w F x us
  | .map k e, m, us => ∃ b es clock, us = [.map (some b)] ∧ F b ∧ w.heap[b]? = some (.map es clock) ∧
      All2 (fun (p : Den k × Den e) (en : MapEntry) => (RoL w F k p.1 en.key.cells.toList ∧ formV k en.key) ∧ RoL w F e p.2 en.val.cells.toList ∧ formV e en.val) m es.toList
  | .ref t, x, us => ∃ b o, us = [.pointer (some ⟨b, o, none⟩)] ∧ F b ∧ ∃ ys, RoL w F t x ys ∧ ∀ j, j < width t → ∃ y, ys[j]? = some y ∧ w.cell? ⟨b, o + j, none⟩ = some y

theorem RoT.mono {w w' : World} {F F' : Nat → Prop} (hb : ∀ b, F b → w'.heap[b]? = w.heap[b]?) (hF : ∀ b, F b → F' b) {x : GTree} {us : List Value} (h : RoT w F x us) : RoT w' F' x us := by
  induction h with
  | node ys h1 h2 h3 h4 h5 _ ih =>
    refine .node ys h1 h2 h3 h4 ?_ ih
    rcases h5 with h5 | ⟨b, o, e, hf, h5⟩
    · exact .inl h5
    · refine .inr ⟨b, o, e, hF b hf, fun i hi j hj => ?_⟩
      obtain ⟨y, g1, g2⟩ := h5 i hi j hj
      exact ⟨y, g1, by rw [World.cell?_of_block (w := w) (hb b hf)]; exact g2⟩

theorem RoT_iff {w : World} {F : Nat → Prop} {x : GTree} {us : List Value} : RoT w F x us ↔ ∃ u, us = [.string (mk (GTree.sign x)), .int .i64 (GTree.rule x), u] ∧ plain (.string (mk (GTree.sign x))) = true ∧ plain (.int .i64 (GTree.rule x)) = true ∧ RoL w F (.list .tree) (GTree.kids x) [u] := by
  constructor
  · intro h
    cases h with
    | node ys h1 h2 h3 h4 h5 h6 =>
      refine ⟨_, rfl, h1, h2, _, _, rfl, h3, h4, ?_⟩
      rcases h5 with h5 | ⟨b, o, e, hf, h5⟩
      · exact .inl h5
      · exact .inr ⟨b, o, e, hf, fun i hi => ⟨ys i, h6 i hi, h5 i hi⟩⟩
  · rintro ⟨u, rfl, h1, h2, a, cap, e, h3, h4, h5⟩
    obtain ⟨s, r, ks⟩ := x
    simp only [GTree.sign, GTree.rule, GTree.kids] at *
    simp only [List.cons.injEq, and_true] at e
    subst e
    rcases h5 with h5 | ⟨b, o, rfl, hf, h5⟩
    · exact .node (fun _ => []) h1 h2 h3 h4 (.inl h5) (fun i hi => absurd hi (by have h5 : List.length ks = 0 := h5; omega))
    · have hch : ∃ ys : Nat → List Value, ∀ i, i < List.length ks → RoT w F (List.getD ks i (.node [] 0 [])) (ys i) ∧ ∀ j, j < 3 → ∃ y, (ys i)[j]? = some y ∧ w.cell? ⟨b, o + (i * 3 + j), none⟩ = some y := by
        refine ⟨fun i => if h : i < List.length ks then (h5 i h).choose else [], fun i hi => ?_⟩
        simp only [hi, dif_pos]
        exact (h5 i hi).choose_spec
      obtain ⟨ys, hys⟩ := hch
      exact .node ys h1 h2 h3 h4 (.inr ⟨b, o, rfl, hf, fun i hi => (hys i hi).2⟩) fun i hi => (hys i hi).1

theorem RoL.mono {w w' : World} {F F' : Nat → Prop} (hb : ∀ b, F b → w'.heap[b]? = w.heap[b]?) (hF : ∀ b, F b → F' b) {t : Ty} : ∀ {x : Den t} {us : List Value}, RoL w F t x us → RoL w' F' t x us := by
  induction t with
  | int k => exact fun h => h
  | str => exact fun h => h
  | bool => exact fun h => h
  | unit => exact fun h => h
  | struct t ih => exact fun {x us} h => ih (x := x) h
  | tree =>
    exact fun h => RoT.mono hb hF h
  | map k e ihk ihe =>
    rintro m us ⟨b, es, clock, h1, h2, h3, h4⟩
    exact ⟨b, es, clock, h1, hF b h2, by rw [hb b h2]; exact h3, h4.mono fun p en h => ⟨⟨ihk h.1.1, h.1.2⟩, ihe h.2.1, h.2.2⟩⟩
  | ref t ih =>
    rintro x us ⟨b, o, h1, h2, ys, h3, h4⟩
    refine ⟨b, o, h1, hF b h2, ys, ih h3, fun j hj => ?_⟩
    obtain ⟨y, g1, g2⟩ := h4 j hj
    exact ⟨y, g1, by rw [World.cell?_of_block (w := w) (hb b h2)]; exact g2⟩
  | pair a b iha ihb =>
    rintro x us ⟨us1, us2, h1, h2, h3⟩
    exact ⟨us1, us2, h1, iha h2, ihb h3⟩
  | list t ih =>
    rintro l us ⟨a, cap, h0, h1, h2, h3⟩
    refine ⟨a, cap, h0, h1, h2, ?_⟩
    rcases h3 with h3 | ⟨b, o, rfl, hf, h3⟩
    · exact .inl h3
    · refine .inr ⟨b, o, rfl, hF b hf, fun i hi => ?_⟩
      obtain ⟨ys, hy, hr⟩ := h3 i hi
      refine ⟨ys, ih hy, fun j hj => ?_⟩
      obtain ⟨y, g1, g2⟩ := hr j hj
      exact ⟨y, g1, by rw [World.cell?_of_block (w := w) (hb b hf)]; exact g2⟩

def Ro (w : World) (F : Nat → Prop) : R → Value → Prop
  | .li t l, u => RoL w F (.list t) l [u]
  | .mp k e m, u => RoL w F (.map k e) m [u]
  | .rf t x, u => RoL w F (.ref t) x [u]
  | .v x, u => u = x ∧ plain x = true
  | .sl sz n get, u => ∃ a cap, u = .slice a n cap ∧ n ≤ cap ∧ cap ≤ maxLen ∧
      (n = 0 ∨ ∃ b o, a = some ⟨b, o, none⟩ ∧ F b ∧ ∀ i, i < n → ∀ j, j < sz → ∃ y, w.cell? ⟨b, o + (i * sz + j), none⟩ = some y ∧ Ro w F (get i j) y)
  | .rop m get, u => ∃ b o, u = .pointer (some ⟨b, o, none⟩) ∧ F b ∧ ∀ j, j < m → ∃ y, w.cell? ⟨b, o + j, none⟩ = some y ∧ Ro w F (get j) y

theorem Ro.one {w : World} {F : Nat → Prop} {x : R} {u : Value} (h : Ro w F x u) : u.oneCell' = true := by
  cases x with
  | v x => obtain ⟨rfl, h⟩ := h; cases u <;> simp_all [plain, Value.oneCell']
  | sl sz n get => obtain ⟨a, cap, rfl, _⟩ := h; rfl
  | rop m get => obtain ⟨b, o, rfl, _⟩ := h; rfl
  | li t l => obtain ⟨a, cap, e, _⟩ := h; simp only [List.cons.injEq, and_true] at e; subst e; rfl
  | mp k e m => obtain ⟨b, es, clock, e, _⟩ := h; simp only [List.cons.injEq, and_true] at e; subst e; rfl
  | rf t x => obtain ⟨b, o, e, _⟩ := h; simp only [List.cons.injEq, and_true] at e; subst e; rfl

theorem Ro.mono {w w' : World} {F F' : Nat → Prop} (hb : ∀ b, F b → w'.heap[b]? = w.heap[b]?) (hF : ∀ b, F b → F' b) {x : R} : ∀ {u : Value}, Ro w F x u → Ro w' F' x u := by
  induction x with
  | v x => exact fun h => h
  | sl sz n get ih =>
    rintro u ⟨a, cap, rfl, h1, h2, h3⟩
    refine ⟨a, cap, rfl, h1, h2, ?_⟩
    rcases h3 with h3 | ⟨b, o, rfl, hf, h3⟩
    · exact .inl h3
    · refine .inr ⟨b, o, rfl, hF b hf, fun i hi j hj => ?_⟩
      obtain ⟨y, hy, hr⟩ := h3 i hi j hj
      exact ⟨y, by rw [World.cell?_of_block (w := w) (hb b hf)]; exact hy, ih i j hr⟩
  | rop m get ih =>
    rintro u ⟨b, o, rfl, hf, h3⟩
    refine ⟨b, o, rfl, hF b hf, fun j hj => ?_⟩
    obtain ⟨y, hy, hr⟩ := h3 j hj
    exact ⟨y, by rw [World.cell?_of_block (w := w) (hb b hf)]; exact hy, ih j hr⟩
  | li t l => exact fun h => RoL.mono hb hF h
  | mp k e m => exact fun h => RoL.mono hb hF h
  | rf t x => exact fun h => RoL.mono hb hF h

def RepC (w : World) (F : Nat → Prop) (h : HF) (β : Nat → Value) : C → Value → Prop
  | .r x, u => Ro w F x u
  | .own i, u => u.oneCell' = true ∧ (∃ q, h i = some q) ∧ ∀ o, h i = some (some o) → u = β i
  | .ptr i off, u => u.oneCell' = true ∧ (∃ q, h i = some q) ∧ ∀ o, h i = some (some o) → ∃ b, β i = .pointer (some ⟨b, 0, none⟩) ∧ u = .pointer (some ⟨b, off, none⟩)
  | .eptr i sz k off, u => u.oneCell' = true ∧ (∃ q, h i = some q) ∧ ∀ o, h i = some (some o) → ∃ b n cap, β i = .slice (some ⟨b, 0, none⟩) n cap ∧ k < n ∧ u = .pointer (some ⟨b, k * sz + off, none⟩)
  | .fn f l, u => u.oneCell' = true ∧ (∀ i ∈ l, ∃ q, h i = some q) ∧ ((∀ i ∈ l, ∃ o, h i = some (some o)) → u = .func (.func f) #[] (l.map β).toArray)
  | .dsl i p, u => u.oneCell' = true ∧ (∃ q, h i = some q) ∧ ∀ o, h i = some (some o) → skAt p (β i) = some u
  | .dptr i p sz k off, u => u.oneCell' = true ∧ (∃ q, h i = some q) ∧ ∀ o, h i = some (some o) → ∃ b n cap, skAt p (β i) = some (.slice (some ⟨b, 0, none⟩) n cap) ∧ k < n ∧ u = .pointer (some ⟨b, k * sz + off, none⟩)
  | .junk, u => u.oneCell' = true

theorem RepC.one {w : World} {F : Nat → Prop} {h : HF} {β : Nat → Value} {c : C} {u : Value} (hc : RepC w F h β c u) : u.oneCell' = true := by
  cases c with
  | r x => exact Ro.one hc
  | junk => exact hc
  | _ => exact hc.1

def RepD (w : World) (F : Nat → Prop) (h : HF) (β : Nat → Value) : D → Value → Prop
  | .one c, u => RepC w F h β c u
  | .agg cs, u => ∃ us : Array Value, u = .agg us ∧ All2 (RepC w F h β) cs us.toList

theorem cells_one {u : Value} (h : u.oneCell' = true) : u.cells = #[u] := by
  cases u <;> simp_all [Value.cells, Value.oneCell']

theorem RepD.cells {w : World} {F : Nat → Prop} {h : HF} {β : Nat → Value} {d : D} {u : Value} (hd : RepD w F h β d u) : All2 (RepC w F h β) d.cells u.cells.toList := by
  cases d with
  | one c =>
    have h1 := RepC.one hd
    rw [cells_one h1]
    exact .cons hd .nil
  | agg cs => obtain ⟨us, rfl, h⟩ := hd; exact h

/-- a slice of plain data, of the call's own -/
def LeafAt (w : World) (F : Nat → Prop) (t : TypeId) (e : Ty) (l : List (Den e)) (v : Value) : Prop :=
  (∃ a, v = .slice a 0 0 ∧ List.length l = 0) ∨
      ∃ b cap cur, v = .slice (some ⟨b, 0, none⟩) (List.length l) cap ∧ 0 < cap ∧ w.heap[b]? = some (.cells cur t (0, 0)) ∧ List.length l ≤ cap ∧ cap ≤ maxLen ∧ cur.size = cap * width e ∧
        ∀ k, k < List.length l → ∀ j, j < width e → ∃ y, cur[k * width e + j]? = some y ∧ Ro w F (getL e l k j) y

/-- slices of slices, of the call's own, and their skeleton -/
def DeepAt (w : World) (F : Nat → Prop) : (e : Ty) → List TypeId → List (Den e) → Value → Prop
  | .list e, ts, l, sk => ∃ t ts' us ad cap, ts = t :: ts' ∧ sk = .tuple us ∧ us.size = List.length l + 1 ∧ us[0]? = some (.slice ad (List.length l) cap) ∧ List.length l ≤ cap ∧ cap ≤ maxLen ∧
      ((cap = 0) ∨ ∃ b cur, ad = some ⟨b, 0, none⟩ ∧ 0 < cap ∧ w.heap[b]? = some (.cells cur t (0, 0)) ∧ cur.size = cap ∧ ∀ k, k < List.length l → ∃ s, us[k + 1]? = some s ∧ cur[k]? = some (hd s)) ∧
      ∀ k, k < List.length l → ∃ s, us[k + 1]? = some s ∧ DeepAt w F e ts' (List.getD l k ([] : List (Den e))) s
  | .int k, ts, l, sk => ∃ t u, ts = [t] ∧ sk = .tuple #[u] ∧ LeafAt w F t (.int k) l u
  | .str, ts, l, sk => ∃ t u, ts = [t] ∧ sk = .tuple #[u] ∧ LeafAt w F t .str l u
  | .bool, ts, l, sk => ∃ t u, ts = [t] ∧ sk = .tuple #[u] ∧ LeafAt w F t .bool l u
  | .pair a b, ts, l, sk => ∃ t u, ts = [t] ∧ sk = .tuple #[u] ∧ LeafAt w F t (.pair a b) l u
  | .struct a, ts, l, sk => ∃ t u, ts = [t] ∧ sk = .tuple #[u] ∧ LeafAt w F t (.struct a) l u
  | _, _, _, _ => False

/-- no block lies at two paths of a skeleton -/
def Inj (sk : Value) : Prop := ∀ p q u u' b, skAt p sk = some u → skAt q sk = some u' → blk u = some b → blk u' = some b → p = q

def RepO (w : World) (F : Nat → Prop) (h : HF) (β : Nat → Value) (i : Nat) : Obj → Prop
  | .box t cs => ∃ b us, β i = .pointer (some ⟨b, 0, none⟩) ∧ w.heap[b]? = some (.cells us t (0, 0)) ∧ All2 (RepC w F h β) cs us.toList
  | .arr t sz n get => (∃ a, β i = .slice a 0 0 ∧ n = 0) ∨
      ∃ b cap cur, β i = .slice (some ⟨b, 0, none⟩) n cap ∧ 0 < cap ∧ w.heap[b]? = some (.cells cur t (0, 0)) ∧ n ≤ cap ∧ cap ≤ maxLen ∧ cur.size = cap * sz ∧
        ∀ k, k < n → ∀ j, j < sz → ∃ y, cur[k * sz + j]? = some y ∧ Ro w F (get k j) y
  | .lis t e l => (∃ a, β i = .slice a 0 0 ∧ l.length = 0) ∨
      ∃ b cap cur, β i = .slice (some ⟨b, 0, none⟩) l.length cap ∧ 0 < cap ∧ w.heap[b]? = some (.cells cur t (0, 0)) ∧ l.length ≤ cap ∧ cap ≤ maxLen ∧ cur.size = cap * width e ∧
        ∀ k, k < l.length → ∀ j, j < width e → ∃ y, cur[k * width e + j]? = some y ∧ Ro w F (getL e l k j) y
  | .map k e m => ∃ b es clock, β i = .map (some b) ∧ w.heap[b]? = some (.map es clock) ∧
      All2 (fun (p : Den k × Den e) (en : MapEntry) => (RoL w F k p.1 en.key.cells.toList ∧ formV k en.key) ∧ RoL w F e p.2 en.val.cells.toList ∧ formV e en.val) m es.toList
  | .deep ts e l => isListTy e = true ∧ DeepAt w F e ts l (β i) ∧ Inj (β i)

theorem RepO.leaf {w : World} {F : Nat → Prop} {h : HF} {β : Nat → Value} {i : Nat} {t : TypeId} {e : Ty} {l : List (Den e)} : RepO w F h β i (.lis t e l) ↔ LeafAt w F t e l (β i) := Iff.rfl

theorem LeafAt.mono {w w' : World} {F F' : Nat → Prop} (hb : ∀ b, F b → w'.heap[b]? = w.heap[b]?) (hF : ∀ b, F b → F' b) {t : TypeId} {e : Ty} {l : List (Den e)} {v : Value} (hv : ∀ b, blk v = some b → w'.heap[b]? = w.heap[b]?) (h : LeafAt w F t e l v) : LeafAt w' F' t e l v := by
  rcases h with ⟨x, h1, h2⟩ | ⟨b, cap, cur, h1, h2, h3, h4, h5, h6, h7⟩
  · exact .inl ⟨x, h1, h2⟩
  · refine .inr ⟨b, cap, cur, h1, h2, ?_, h4, h5, h6, fun k hk j hj => ?_⟩
    · rw [hv b (by rw [h1]; simp [blk]; omega)]; exact h3
    · obtain ⟨y, hy, hr⟩ := h7 k hk j hj
      exact ⟨y, hy, Ro.mono hb hF hr⟩

theorem skAt_hd {us : Array Value} {u : Value} (h : us[0]? = some u) : skAt [] (.tuple us) = some u := by
  have : hd (.tuple us) = u := by
    show us.getD 0 (.bool false) = u
    have h0 : 0 < us.size := (Array.getElem?_eq_some_iff.1 h).1
    simp only [Array.getD, h0, dif_pos]
    exact (Array.getElem?_eq_some_iff.1 h).2
  simp only [skAt, this]
theorem Blk_sub {us : Array Value} {k : Nat} {s : Value} (h : us[k + 1]? = some s) {b : Nat} (hb : Blk s b) : Blk (.tuple us) b := by
  obtain ⟨p, u, h1, h2⟩ := hb
  exact ⟨k :: p, u, by simp only [skAt, h]; exact h1, h2⟩

theorem DeepAt.mono {w w' : World} {F F' : Nat → Prop} (hb : ∀ b, F b → w'.heap[b]? = w.heap[b]?) (hF : ∀ b, F b → F' b) {e : Ty} : ∀ {ts : List TypeId} {l : List (Den e)} {sk : Value}, (∀ b, Blk sk b → w'.heap[b]? = w.heap[b]?) → DeepAt w F e ts l sk → DeepAt w' F' e ts l sk := by
  have leaf : ∀ {e : Ty} {t : TypeId} {l : List (Den e)} {u : Value}, (∀ b, Blk (.tuple #[u]) b → w'.heap[b]? = w.heap[b]?) → LeafAt w F t e l u → LeafAt w' F' t e l u := fun hv h =>
    h.mono hb hF fun b hbb => hv b ⟨[], _, skAt_hd rfl, hbb⟩
  induction e with
  | list e ih =>
    rintro ts l sk hv ⟨t, ts', us, ad, cap, rfl, rfl, h1, h2, h3, h4, h5, h6⟩
    refine ⟨t, ts', us, ad, cap, rfl, rfl, h1, h2, h3, h4, ?_, fun k hk => ?_⟩
    · rcases h5 with h5 | ⟨b, cur, rfl, g0, g1, g2, g3⟩
      · exact .inl h5
      · refine .inr ⟨b, cur, rfl, g0, ?_, g2, g3⟩
        rw [hv b ⟨[], _, skAt_hd h2, by simp [blk]; omega⟩]; exact g1
    · obtain ⟨s, g1, g2⟩ := h6 k hk
      exact ⟨s, g1, ih (fun b hbb => hv b (Blk_sub g1 hbb)) g2⟩
  | int k => rintro ts l sk hv ⟨t, u, rfl, rfl, h⟩; exact ⟨t, u, rfl, rfl, leaf hv h⟩
  | str => rintro ts l sk hv ⟨t, u, rfl, rfl, h⟩; exact ⟨t, u, rfl, rfl, leaf hv h⟩
  | bool => rintro ts l sk hv ⟨t, u, rfl, rfl, h⟩; exact ⟨t, u, rfl, rfl, leaf hv h⟩
  | pair a b _ _ => rintro ts l sk hv ⟨t, u, rfl, rfl, h⟩; exact ⟨t, u, rfl, rfl, leaf hv h⟩
  | struct a _ => rintro ts l sk hv ⟨t, u, rfl, rfl, h⟩; exact ⟨t, u, rfl, rfl, leaf hv h⟩
  | unit => rintro ts l sk hv h; exact h
  | tree => rintro ts l sk hv h; exact h
  | map k e _ _ => rintro ts l sk hv h; exact h
  | ref t _ => rintro ts l sk hv h; exact h

theorem LeafAt.lt {w : World} {F : Nat → Prop} {t : TypeId} {e : Ty} {l : List (Den e)} {v : Value} (h : LeafAt w F t e l v) {b : Nat} (hb : blk v = some b) : b < w.heap.size := by
  rcases h with ⟨x, h1, h2⟩ | ⟨g, cap, cur, h1, h2, h3, h4⟩
  · rw [h1] at hb; cases x <;> simp [blk] at hb
  · rw [h1] at hb
    simp [blk] at hb
    obtain ⟨_, rfl⟩ := hb
    exact (Array.getElem?_eq_some_iff.1 h3).1

theorem DeepAt.lt {w : World} {F : Nat → Prop} {e : Ty} : ∀ {ts : List TypeId} {l : List (Den e)} {sk : Value}, DeepAt w F e ts l sk → ∀ {b : Nat}, Blk sk b → b < w.heap.size := by
  have leaf : ∀ {e : Ty} {t : TypeId} {l : List (Den e)} {u : Value}, LeafAt w F t e l u → ∀ {b : Nat}, Blk (.tuple #[u]) b → b < w.heap.size := by
    rintro e t l u h b ⟨p, u', h1, h2⟩
    cases p with
    | nil => rw [skAt_hd rfl] at h1; cases h1; exact h.lt h2
    | cons k p =>
      simp only [skAt] at h1
      split at h1
      · rename_i s hs; simp at hs
      · cases h1
  induction e with
  | list e ih =>
    rintro ts l sk ⟨t, ts', us, ad, cap, rfl, rfl, h1, h2, h3, h4, h5, h6⟩ b ⟨p, u, g1, g2⟩
    cases p with
    | nil =>
      rw [skAt_hd h2] at g1
      cases g1
      rcases h5 with h5 | ⟨b', cur, rfl, q0, q1, _⟩
      · subst h5; cases ad <;> simp [blk] at g2
      · simp [blk] at g2
        obtain ⟨_, rfl⟩ := g2
        exact (Array.getElem?_eq_some_iff.1 q1).1
    | cons k p =>
      simp only [skAt] at g1
      split at g1
      · rename_i s hs
        have hk : k < List.length l := by have := (Array.getElem?_eq_some_iff.1 hs).1; omega
        obtain ⟨s', e1, e2⟩ := h6 k hk
        rw [hs] at e1
        cases e1
        exact ih e2 ⟨p, u, g1, g2⟩
      · cases g1
  | int k => rintro ts l sk ⟨t, u, rfl, rfl, h⟩ b hb; exact leaf h hb
  | str => rintro ts l sk ⟨t, u, rfl, rfl, h⟩ b hb; exact leaf h hb
  | bool => rintro ts l sk ⟨t, u, rfl, rfl, h⟩ b hb; exact leaf h hb
  | pair a b _ _ => rintro ts l sk ⟨t, u, rfl, rfl, h⟩ b hb; exact leaf h hb
  | struct a _ => rintro ts l sk ⟨t, u, rfl, rfl, h⟩ b hb; exact leaf h hb
  | unit => rintro ts l sk h; exact h.elim
  | tree => rintro ts l sk h; exact h.elim
  | map k e _ _ => rintro ts l sk h; exact h.elim
  | ref t _ => rintro ts l sk h; exact h.elim

theorem RepO.lis {w : World} {F : Nat → Prop} {h : HF} {β : Nat → Value} {i : Nat} {t : TypeId} {e : Ty} {l : List (Den e)} : RepO w F h β i (.lis t e l) ↔ RepO w F h β i (.arr t (width e) l.length (getL e l)) := Iff.rfl

/-- What goes on holding of data when memory turns. -/
structure Per (w : World) (F : Nat → Prop) (h : HF) (β : Nat → Value) (w' : World) (F' : Nat → Prop) (h' : HF) (β' : Nat → Value) : Prop where
  blocks : ∀ b, F b → w'.heap[b]? = w.heap[b]?
  sub : ∀ b, F b → F' b
  pres : ∀ i q, h i = some q → ∃ q', h' i = some q'
  back : ∀ i q o, h i = some q → h' i = some (some o) → (∃ o', q = some o') ∧ β' i = β i

section
variable {w w' w'' : World} {F F' F'' : Nat → Prop} {h h' h'' : HF} {β β' β'' : Nat → Value}

theorem Per.refl (w : World) (F : Nat → Prop) (h : HF) (β : Nat → Value) : Per w F h β w F h β :=
  ⟨fun _ _ => rfl, fun _ h => h, fun _ q h => ⟨q, h⟩, fun _ q o h h' => by rw [h] at h'; cases h'; exact ⟨⟨o, rfl⟩, rfl⟩⟩

theorem Per.trans (a : Per w F h β w' F' h' β') (b : Per w' F' h' β' w'' F'' h'' β'') : Per w F h β w'' F'' h'' β'' := by
  refine ⟨fun k hk => (b.blocks k (a.sub k hk)).trans (a.blocks k hk), fun k hk => b.sub k (a.sub k hk), fun i q hi => ?_, fun i q o hi ho => ?_⟩
  · obtain ⟨q', hq'⟩ := a.pres i q hi
    exact b.pres i q' hq'
  · obtain ⟨q', hq'⟩ := a.pres i q hi
    obtain ⟨⟨o', rfl⟩, e⟩ := b.back i q' o hq' ho
    obtain ⟨ho', e'⟩ := a.back i q o' hi hq'
    exact ⟨ho', e.trans e'⟩

theorem Per.repC (a : Per w F h β w' F' h' β') {c : C} {u : Value} (hc : RepC w F h β c u) : RepC w' F' h' β' c u := by
  cases c with
  | r x => exact Ro.mono a.blocks a.sub hc
  | own i =>
    obtain ⟨h1, ⟨q, hq⟩, h3⟩ := hc
    refine ⟨h1, a.pres i q hq, fun o ho => ?_⟩
    obtain ⟨⟨o', rfl⟩, e⟩ := a.back i q o hq ho
    rw [e]; exact h3 o' hq
  | ptr i off =>
    obtain ⟨h1, ⟨q, hq⟩, h3⟩ := hc
    refine ⟨h1, a.pres i q hq, fun o ho => ?_⟩
    obtain ⟨⟨o', rfl⟩, e⟩ := a.back i q o hq ho
    rw [e]; exact h3 o' hq
  | eptr i sz k off =>
    obtain ⟨h1, ⟨q, hq⟩, h3⟩ := hc
    refine ⟨h1, a.pres i q hq, fun o ho => ?_⟩
    obtain ⟨⟨o', rfl⟩, e⟩ := a.back i q o hq ho
    rw [e]; exact h3 o' hq
  | dsl i p =>
    obtain ⟨h1, ⟨q, hq⟩, h3⟩ := hc
    refine ⟨h1, a.pres i q hq, fun o ho => ?_⟩
    obtain ⟨⟨o', rfl⟩, e⟩ := a.back i q o hq ho
    rw [e]; exact h3 o' hq
  | dptr i p sz k off =>
    obtain ⟨h1, ⟨q, hq⟩, h3⟩ := hc
    refine ⟨h1, a.pres i q hq, fun o ho => ?_⟩
    obtain ⟨⟨o', rfl⟩, e⟩ := a.back i q o hq ho
    rw [e]; exact h3 o' hq
  | fn f l =>
    obtain ⟨h1, h2, h3⟩ := hc
    refine ⟨h1, fun i hi => ?_, fun hall => ?_⟩
    · obtain ⟨q, hq⟩ := h2 i hi
      exact a.pres i q hq
    · have hb : ∀ i ∈ l, (∃ o, h i = some (some o)) ∧ β' i = β i := fun i hi => by
        obtain ⟨q, hq⟩ := h2 i hi
        obtain ⟨o, ho⟩ := hall i hi
        obtain ⟨⟨o', rfl⟩, e⟩ := a.back i q o hq ho
        exact ⟨⟨o', hq⟩, e⟩
      rw [h3 fun i hi => (hb i hi).1]
      congr 2
      exact (List.map_congr_left fun i hi => (hb i hi).2).symm
  | junk => exact hc

theorem Per.repD (a : Per w F h β w' F' h' β') {d : D} {u : Value} (hd : RepD w F h β d u) : RepD w' F' h' β' d u := by
  cases d with
  | one c => exact a.repC hd
  | agg cs => obtain ⟨us, rfl, hh⟩ := hd; exact ⟨us, rfl, hh.mono fun _ _ => a.repC⟩

theorem Per.repO (a : Per w F h β w' F' h' β') {i : Nat} {o : Obj} (hb : ∀ b, Blk (β i) b → w'.heap[b]? = w.heap[b]?) (e : β' i = β i) (ho : RepO w F h β i o) :
    RepO w' F' h' β' i o := by
  have arr : ∀ {t sz n get}, RepO w F h β i (.arr t sz n get) → RepO w' F' h' β' i (.arr t sz n get) := by
    intro t sz n get ho
    rcases ho with ⟨x, h1, h2⟩ | ⟨b, cap, cur, h1, h2, h3, h4, h5, h6, h7⟩
    · exact .inl ⟨x, e.trans h1, h2⟩
    · refine .inr ⟨b, cap, cur, e.trans h1, h2, ?_, h4, h5, h6, fun k hk j hj => ?_⟩
      · rw [hb b (by rw [h1]; simp [blk]; omega)]; exact h3
      · obtain ⟨y, hy, hr⟩ := h7 k hk j hj
        exact ⟨y, hy, Ro.mono a.blocks a.sub hr⟩
  cases o with
  | box t cs =>
    obtain ⟨b, us, h1, h2, h3⟩ := ho
    exact ⟨b, us, e.trans h1, by rw [hb b (by rw [h1]; exact Blk_pointer.2 rfl)]; exact h2, h3.mono fun _ _ => a.repC⟩
  | arr t sz n get => exact arr ho
  | lis t e' l => exact RepO.lis.2 (arr (RepO.lis.1 ho))
  | map k e' m =>
    obtain ⟨b, es, clock, h1, h2, h3⟩ := ho
    exact ⟨b, es, clock, e.trans h1, by rw [hb b (by rw [h1]; exact Blk_map.2 rfl)]; exact h2, h3.mono fun p en h => ⟨⟨RoL.mono a.blocks a.sub h.1.1, h.1.2⟩, RoL.mono a.blocks a.sub h.2.1, h.2.2⟩⟩
  | deep ts e' l =>
    obtain ⟨h0, h1, h2⟩ := ho
    refine ⟨h0, ?_, by rw [e]; exact h2⟩
    rw [e]; exact h1.mono a.blocks a.sub hb
end

/-- What holds of memory all through a call that began in world w0, owning O0, with F0 read only. -/
structure Inv (w0 : World) (O0 F0 : Nat → Prop) (w : World) (F : Nat → Prop) (h : HF) (β : Nat → Value) : Prop where
  obj : ∀ i o, h i = some (some o) → RepO w F h β i o
  apart : ∀ i j o o' b, h i = some (some o) → h j = some (some o') → Blk (β i) b → Blk (β j) b → i = j
  notF : ∀ i o b, h i = some (some o) → Blk (β i) b → ¬ F b
  low : ∀ b, F b → b < w.heap.size
  os : w.os = w0.os
  tape : w.tape = w0.tape
  output : w.output = w0.output
  size : w0.heap.size ≤ w.heap.size
  kept : ∀ k, k < w0.heap.size → ¬ O0 k → w.heap[k]? = w0.heap[k]?
  fromO : ∀ i o b, h i = some (some o) → Blk (β i) b → O0 b ∨ w0.heap.size ≤ b
  fromF : ∀ b, F b → F0 b ∨ O0 b ∨ w0.heap.size ≤ b
  inF : ∀ b, F0 b → F b

def setH (h : HF) (i : Nat) (q : Option Obj) : HF := fun j => if j = i then some q else h j
def setB (β : Nat → Value) (i : Nat) (v : Value) : Nat → Value := fun j => if j = i then v else β j

theorem blk_lt {w : World} {F : Nat → Prop} {h : HF} {β : Nat → Value} {i : Nat} {o : Obj} (ho : RepO w F h β i o) {b : Nat} (hb : Blk (β i) b) : b < w.heap.size := by
  have arr : ∀ {t sz n get}, RepO w F h β i (.arr t sz n get) → b < w.heap.size := by
    intro t sz n get ho
    rcases ho with ⟨x, h1, h2⟩ | ⟨g, cap, cur, h1, h2, h3, h4⟩
    · rw [h1] at hb
      cases x <;> simp [blk] at hb
    · rw [h1] at hb
      simp [blk] at hb
      obtain ⟨_, rfl⟩ := hb
      exact (Array.getElem?_eq_some_iff.1 h3).1
  cases o with
  | box t cs =>
    obtain ⟨g, us, h1, h2, h3⟩ := ho
    rw [h1] at hb
    simp [blk] at hb
    subst hb
    exact (Array.getElem?_eq_some_iff.1 h2).1
  | arr t sz n get => exact arr ho
  | lis t e l => exact arr (RepO.lis.1 ho)
  | map k e m =>
    obtain ⟨g, es, clock, h1, h2, _⟩ := ho
    rw [h1] at hb
    simp [blk] at hb
    subst hb
    exact (Array.getElem?_eq_some_iff.1 h2).1
  | deep ts e l => exact ho.2.1.lt hb

section
variable {w0 w w' : World} {O0 F0 F F' : Nat → Prop} {h : HF} {β : Nat → Value}

/-- One object turns: comes, goes, or holds something else. -/
theorem Inv.turn (H : Inv w0 O0 F0 w F h β) (i : Nat) (q : Option Obj) (v : Value)
    (hos : w'.os = w.os) (htape : w'.tape = w.tape) (hout : w'.output = w.output) (hsz : w.heap.size ≤ w'.heap.size)
    (X : Nat → Prop) (hX : ∀ b, X b → ¬ F b ∧ (∀ j o, j ≠ i → h j = some (some o) → ¬ Blk (β j) b) ∧ (O0 b ∨ w0.heap.size ≤ b))
    (hblk : ∀ b, b < w.heap.size → ¬ X b → w'.heap[b]? = w.heap[b]?)
    (hF1 : ∀ b, F b → F' b) (hF2 : ∀ b, F' b → F b ∨ (X b ∧ q = none ∧ b < w'.heap.size))
    (hold : ∀ q0 o, h i = some q0 → q = some o → (∃ o', q0 = some o') ∧ v = β i)
    (hq : Per w F h β w' F' (setH h i q) (setB β i v) → ∀ o, q = some o → RepO w' F' (setH h i q) (setB β i v) i o ∧ ∀ b, Blk v b → X b ∨ w.heap.size ≤ b) :
    Inv w0 O0 F0 w' F' (setH h i q) (setB β i v) ∧ Per w F h β w' F' (setH h i q) (setB β i v) := by
  have hFb : ∀ b, F b → ¬ X b := fun b hb hx => (hX b hx).1 hb
  have P : Per w F h β w' F' (setH h i q) (setB β i v) := by
    refine ⟨fun b hb => hblk b (H.low b hb) (hFb b hb), hF1, fun j q0 hj => ?_, fun j q0 o hj ho => ?_⟩
    · by_cases e : j = i
      · exact ⟨q, by simp [setH, e]⟩
      · exact ⟨q0, by simp [setH, e, hj]⟩
    · by_cases e : j = i
      · subst e
        simp [setH] at ho
        have := hold q0 o hj ho
        exact ⟨this.1, by simp [setB, this.2]⟩
      · simp [setH, e] at ho
        rw [hj] at ho
        cases ho
        exact ⟨⟨o, rfl⟩, by simp [setB, e]⟩
  have hq := hq P
  refine ⟨⟨?_, ?_, ?_, ?_, hos.trans H.os, htape.trans H.tape, hout.trans H.output, Nat.le_trans H.size hsz, ?_, ?_, ?_, fun b hb => hF1 b (H.inF b hb)⟩, P⟩
  · intro j o hj
    by_cases e : j = i
    · subst e
      exact (hq o (by simpa [setH] using hj)).1
    · have hj' : h j = some (some o) := by simpa [setH, e] using hj
      refine P.repO (fun b hb => hblk b (blk_lt (H.obj j o hj') hb) fun hx => (hX b hx).2.1 j o e hj' hb) (by simp [setB, e]) (H.obj j o hj')
  · intro j k o o' b hj hk hbj hbk
    by_cases e : j = i
    · by_cases e' : k = i
      · exact e.trans e'.symm
      · have hk' : h k = some (some o') := by simpa [setH, e'] using hk
        have hqo : q = some o := by simpa [setH, e] using hj
        simp [setB, e] at hbj
        simp [setB, e'] at hbk
        rcases (hq o hqo).2 b hbj with hx | hx
        · exact absurd hbk ((hX b hx).2.1 k o' e' hk')
        · have := blk_lt (H.obj k o' hk') hbk; omega
    · have hj' : h j = some (some o) := by simpa [setH, e] using hj
      simp [setB, e] at hbj
      by_cases e' : k = i
      · have hqo : q = some o' := by simpa [setH, e'] using hk
        simp [setB, e'] at hbk
        rcases (hq o' hqo).2 b hbk with hx | hx
        · exact absurd hbj ((hX b hx).2.1 j o e hj')
        · have := blk_lt (H.obj j o hj') hbj; omega
      · have hk' : h k = some (some o') := by simpa [setH, e'] using hk
        simp [setB, e'] at hbk
        exact H.apart j k o o' b hj' hk' hbj hbk
  · intro j o b hj hb hf
    by_cases e : j = i
    · have hqo : q = some o := by simpa [setH, e] using hj
      simp [setB, e] at hb
      rcases hF2 b hf with hf | ⟨_, hqn, _⟩
      · rcases (hq o hqo).2 b hb with hx | hx
        · exact (hX b hx).1 hf
        · have := H.low b hf; omega
      · rw [hqo] at hqn; cases hqn
    · have hj' : h j = some (some o) := by simpa [setH, e] using hj
      simp [setB, e] at hb
      rcases hF2 b hf with hf | ⟨hx, _⟩
      · exact H.notF j o b hj' hb hf
      · exact (hX b hx).2.1 j o e hj' hb
  · intro b hf
    rcases hF2 b hf with hf | ⟨_, _, hx⟩
    · exact Nat.lt_of_lt_of_le (H.low b hf) hsz
    · exact hx
  · intro k hk ho
    have hkx : ¬ X k := fun hx => by rcases (hX k hx).2.2 with h1 | h1; exact ho h1; omega
    rw [hblk k (Nat.lt_of_lt_of_le hk H.size) hkx]
    exact H.kept k hk ho
  · intro j o b hj hb
    by_cases e : j = i
    · have hqo : q = some o := by simpa [setH, e] using hj
      simp [setB, e] at hb
      rcases (hq o hqo).2 b hb with hx | hx
      · exact (hX b hx).2.2
      · exact .inr (Nat.le_trans H.size hx)
    · have hj' : h j = some (some o) := by simpa [setH, e] using hj
      simp [setB, e] at hb
      exact H.fromO j o b hj' hb
  · intro b hf
    rcases hF2 b hf with hf | ⟨hx, _⟩
    · exact H.fromF b hf
    · rcases (hX b hx).2.2 with h1 | h1
      · exact .inr (.inl h1)
      · exact .inr (.inr h1)

/-- A draw turns nothing. -/
theorem Inv.same (H : Inv w0 O0 F0 w F h β) (hh : w'.heap = w.heap) (hos : w'.os = w.os) (htape : w'.tape = w.tape) (hout : w'.output = w.output) :
    Inv w0 O0 F0 w' F h β ∧ Per w F h β w' F h β := by
  have P : Per w F h β w' F h β := ⟨fun b _ => by rw [hh], fun _ h => h, fun _ q h => ⟨q, h⟩, fun _ q o h h' => by rw [h] at h'; cases h'; exact ⟨⟨o, rfl⟩, rfl⟩⟩
  exact ⟨⟨fun i o hi => P.repO (fun b _ => by rw [hh]) rfl (H.obj i o hi), H.apart, H.notF, fun b hb => by rw [hh]; exact H.low b hb, hos.trans H.os, htape.trans H.tape, hout.trans H.output, by rw [hh]; exact H.size,
    fun k hk ho => by rw [hh]; exact H.kept k hk ho, H.fromO, H.fromF, H.inF⟩, P⟩

/-- A new block of the call's own. -/
theorem Inv.new (H : Inv w0 O0 F0 w F h β) {i : Nat} (hi : h i = none) (x : Go.Obj) (o : Obj) (v : Value) (hv : ∀ b, Blk v b → b = w.heap.size)
    (hq : Per w F h β (w.alloc x) F (setH h i (some o)) (setB β i v) → RepO (w.alloc x) F (setH h i (some o)) (setB β i v) i o) :
    Inv w0 O0 F0 (w.alloc x) F (setH h i (some o)) (setB β i v) ∧ Per w F h β (w.alloc x) F (setH h i (some o)) (setB β i v) :=
  H.turn i (some o) v rfl rfl rfl (by simp) (fun _ => False) (fun _ h => h.elim) (fun b hb _ => heap_alloc_old w x b hb) (fun _ h => h) (fun _ h => .inl h)
    (fun q0 o h0 => by rw [hi] at h0; cases h0) fun P o' ho => by
      cases ho
      exact ⟨hq P, fun b hb => .inr (by rw [hv b hb]; exact Nat.le_refl _)⟩

/-- An object is forgotten. -/
theorem Inv.kill (H : Inv w0 O0 F0 w F h β) (i : Nat) : Inv w0 O0 F0 w F (setH h i none) (setB β i (β i)) ∧ Per w F h β w F (setH h i none) (setB β i (β i)) :=
  H.turn i none (β i) rfl rfl rfl (Nat.le_refl _) (fun _ => False) (fun _ h => h.elim) (fun _ _ _ => rfl) (fun _ h => h) (fun _ h => .inl h) (fun _ _ _ h => by cases h) fun _ _ h => by cases h

/-- An object is read only from now on. -/
theorem Inv.freeze (H : Inv w0 O0 F0 w F h β) (i : Nat) (o : Obj) (ho : h i = some (some o)) :
    Inv w0 O0 F0 w (fun b => F b ∨ Blk (β i) b) (setH h i none) (setB β i (β i)) ∧ Per w F h β w (fun b => F b ∨ Blk (β i) b) (setH h i none) (setB β i (β i)) :=
  H.turn i none (β i) rfl rfl rfl (Nat.le_refl _) (fun b => Blk (β i) b)
    (fun b hb => ⟨H.notF i o b ho hb, fun j o' hj h' hb' => hj (H.apart j i o' o b h' ho hb' hb), H.fromO i o b ho hb⟩)
    (fun _ _ _ => rfl) (fun _ h => .inl h)
    (fun b hb => hb.elim .inl fun hb => .inr ⟨hb, rfl, blk_lt (H.obj i o ho) hb⟩) (fun _ _ _ h => by cases h) fun _ _ h => by cases h

theorem setB_self (β : Nat → Value) (i : Nat) : setB β i (β i) = β := by
  funext j; simp only [setB]; split <;> simp_all
end

end Go.Proofs.YthhmpjnmmhfngaaDoor.Ev
