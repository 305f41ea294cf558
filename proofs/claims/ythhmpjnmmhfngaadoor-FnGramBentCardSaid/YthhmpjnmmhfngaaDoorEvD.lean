/-
  More words on objects that turn, and on what is read.
-/
import Derived.Test.YthhmpjnmmhfngaaDoorEvC
namespace Go.Proofs.YthhmpjnmmhfngaaDoor.Ev
open Go

def upd (ups : Ups) (h : HF) : HF := fun i => match look ups i with | some q => some q | none => h i

theorem upd_nil (h : HF) : upd [] h = h := rfl
theorem upd_cons (i : Nat) (q : Option Obj) (l : Ups) (h : HF) : upd ((i, q) :: l) h = setH (upd l h) i q := by
  funext j
  simp only [upd, setH, look]
  by_cases e : j = i
  · subst e; simp
  · rw [if_neg e]
    have : Nat.beq i j = false := by
      cases hb : Nat.beq i j
      · rfl
      · exact absurd (Nat.eq_of_beq_eq_true hb).symm e
    rw [this]; rfl
theorem upd_append (a b : Ups) (h : HF) : upd (a ++ b) h = upd a (upd b h) := by
  induction a with
  | nil => rfl
  | cons p l ih => obtain ⟨i, q⟩ := p; rw [List.cons_append, upd_cons, upd_cons, ih]
theorem look_upd (ups : Ups) (H : Heap) : look (ups ++ H) = upd ups (look H) := by
  funext i; rw [look_append]; unfold upd; cases look ups i <;> rfl
theorem setH_comm (h : HF) {i j : Nat} (hij : i ≠ j) (p q : Option Obj) : setH (setH h i p) j q = setH (setH h j q) i p := by
  funext k
  simp only [setH]
  split <;> split <;> simp_all

theorem sid_new (t k : Nat) (hk : k < 64) : isNew t (sid t k) = true := by
  simp only [isNew, sid, Bool.and_eq_true, Nat.ble_eq, Nat.blt_eq]; omega

theorem elemNat_iff {i : Nat} {l : List Nat} : elemNat i l = true ↔ i ∈ l := by
  induction l with
  | nil => simp [elemNat]
  | cons a l ih =>
    simp only [elemNat, List.mem_cons]
    cases hb : Nat.beq a i
    · have : i ≠ a := fun e => by subst e; simp at hb
      simp [this, ih]
    · have := Nat.eq_of_beq_eq_true hb
      simp [this]

theorem mem_addNew {l : List Nat} : ∀ {acc : List Nat} {i : Nat}, i ∈ addNew acc l ↔ i ∈ acc ∨ i ∈ l := by
  induction l with
  | nil => intro acc i; simp [addNew]
  | cons a l ih =>
    intro acc i
    simp only [addNew]
    cases hb : elemNat a acc
    · simp only [cond_false, ih, List.mem_append, List.mem_cons, List.not_mem_nil, or_false]
      constructor
      · rintro ((h | h) | h) <;> simp [h]
      · rintro (h | h | h) <;> simp [h]
    · have := elemNat_iff.1 hb
      simp only [cond_true, ih, List.mem_cons]
      constructor
      · rintro (h | h) <;> simp [h]
      · rintro (h | h | h)
        · exact .inl h
        · exact .inl (h ▸ this)
        · exact .inr h

theorem closure_self (h : Nat → Option Obj) : ∀ (k : Nat) (l : List Nat) (i : Nat), i ∈ l → i ∈ closure h k l
  | 0, _, _, hi => hi
  | k + 1, _, i, hi => closure_self h k _ i (mem_addNew.2 (.inl hi))

theorem closure_step (h : Nat → Option Obj) : ∀ (k : Nat) (l : List Nat) (i j : Nat), i ∈ l → j ∈ hget h i → j ∈ closure h (k + 1) l :=
  fun k _ i j hi hj => closure_self h k _ j (mem_addNew.2 (.inr (List.mem_flatMap.2 ⟨i, hi, hj⟩)))

theorem look_dropIds (l : List Nat) (i : Nat) : look (dropIds l) i = if i ∈ l then some none else none := by
  induction l with
  | nil => rfl
  | cons a l ih =>
    simp only [dropIds, List.map_cons, look, List.mem_cons]
    cases hb : Nat.beq a i
    · have : i ≠ a := fun e => by subst e; simp at hb
      simp only [cond_false, this, false_or]
      exact ih
    · have := Nat.eq_of_beq_eq_true hb
      simp [this]

section
variable {w0 w w' : World} {O0 F0 F F' : Nat → Prop} {h : HF} {β : Nat → Value}

/-- Objects are read only from now on. -/
theorem Inv.freezes (H : Inv w0 O0 F0 w F h β) : ∀ (l : List Nat), (∀ i ∈ l, ∃ q, h i = some q) →
    ∃ F', Inv w0 O0 F0 w F' (upd (dropIds l) h) β ∧ Per w F h β w F' (upd (dropIds l) h) β ∧ ∀ i ∈ l, ∀ o b, h i = some (some o) → Blk (β i) b → F' b
  | [], _ => ⟨F, H, Per.refl w F h β, fun _ hi => by simp at hi⟩
  | i :: l, hall => by
    obtain ⟨F1, H1, P1, hb1⟩ := H.freezes l fun j hj => hall j (List.mem_cons_of_mem _ hj)
    rw [show dropIds (i :: l) = (i, none) :: dropIds l from rfl, upd_cons]
    cases hq : upd (dropIds l) h i with
    | none =>
      exfalso
      obtain ⟨q, hiq⟩ := hall i (List.mem_cons_self ..)
      simp only [upd] at hq
      split at hq
      · cases hq
      · rw [hiq] at hq; cases hq
    | some q =>
      cases q with
      | none =>
        have e : setH (upd (dropIds l) h) i none = upd (dropIds l) h := by
          funext k; simp only [setH]; split
          · rename_i e; rw [e, hq]
          · rfl
        rw [e]
        refine ⟨F1, H1, P1, fun j hj o b ho hb => ?_⟩
        rcases List.mem_cons.1 hj with rfl | hj
        · simp only [upd, look_dropIds] at hq
          by_cases hm : j ∈ l
          · exact hb1 j hm o b ho hb
          · simp [hm, ho] at hq
        · exact hb1 j hj o b ho hb
      | some o =>
        obtain ⟨H2, P2⟩ := H1.freeze i o hq
        rw [setB_self] at H2 P2
        refine ⟨_, H2, P1.trans P2, fun j hj o' b ho hb => ?_⟩
        rcases List.mem_cons.1 hj with rfl | hj
        · exact .inr hb
        · exact .inl (hb1 j hj o' b ho hb)

/-- a list of values out of a statement on each -/
theorem list_of {n : Nat} {p : Nat → Value → Prop} (hp : ∀ j, j < n → ∃ y, p j y) : ∃ us : List Value, us.length = n ∧ ∀ j y, us[j]? = some y → p j y := by
  induction n with
  | zero => exact ⟨[], rfl, fun j y hy => by simp at hy⟩
  | succ n ih =>
    obtain ⟨us, hl, hu⟩ := ih fun j hj => hp j (by omega)
    obtain ⟨y, hy⟩ := hp n (by omega)
    refine ⟨us ++ [y], by simp [hl], fun j z hz => ?_⟩
    rw [List.getElem?_append] at hz
    split at hz
    · exact hu j z hz
    · have : j - us.length = 0 := by
        rcases Nat.eq_zero_or_pos (j - us.length) with e | e
        · exact e
        · rw [List.getElem?_eq_none (by simp; omega)] at hz; cases hz
      rw [this] at hz
      simp at hz
      subst hz
      have : j = n := by omega
      rw [this]; exact hy

theorem RoL_cells {w : World} {F : Nat → Prop} {t : Ty} : ∀ {x : Den t} {us : List Value}, RoL w F t x us ↔ All2 (Ro w F) (cellsR t x) us := by
  have one : ∀ {r : R} {us : List Value} {p : Value → Prop}, (∀ u, Ro w F r u ↔ p u) → (All2 (Ro w F) [r] us ↔ ∃ u, us = [u] ∧ p u) := fun {r us p} hp => by
    constructor
    · intro h
      cases h with
      | cons h1 h2 => cases h2; exact ⟨_, rfl, (hp _).1 h1⟩
    · rintro ⟨u, rfl, h1⟩
      exact .cons ((hp _).2 h1) .nil
  induction t with
  | int k =>
    intro x us
    refine Iff.trans ?_ (one fun u => Iff.rfl).symm
    constructor
    · intro h; exact ⟨_, h.1, rfl, h.2⟩
    · rintro ⟨u, rfl, rfl, h⟩; exact ⟨rfl, h⟩
  | str =>
    intro x us
    refine Iff.trans ?_ (one fun u => Iff.rfl).symm
    constructor
    · intro h; exact ⟨_, h.1, rfl, h.2⟩
    · rintro ⟨u, rfl, rfl, h⟩; exact ⟨rfl, h⟩
  | bool =>
    intro x us
    refine Iff.trans ?_ (one fun u => Iff.rfl).symm
    constructor
    · intro h; exact ⟨_, h, rfl, rfl⟩
    · rintro ⟨u, rfl, rfl, _⟩; rfl
  | list t ih =>
    intro x us
    refine Iff.trans ?_ (one fun u => Iff.rfl).symm
    constructor
    · intro h
      obtain ⟨a, cap, e, h1⟩ := h
      exact ⟨_, e, a, cap, rfl, h1⟩
    · rintro ⟨u, rfl, h⟩; exact h
  | struct t ih => intro x us; exact ih (x := x)
  | unit =>
    intro x us
    constructor
    · intro h; have : us = [] := h; subst this; exact .nil
    · intro h; cases h; rfl
  | tree =>
    intro x us
    refine RoT_iff.trans ?_
    constructor
    · rintro ⟨u, rfl, h1, h2, h3⟩
      exact .cons ⟨rfl, h1⟩ (.cons ⟨rfl, h2⟩ (.cons h3 .nil))
    · intro h
      cases h with
      | cons h1 h =>
        cases h with
        | cons h2 h =>
          cases h with
          | cons h3 h =>
            cases h
            obtain ⟨rfl, h1⟩ := h1
            obtain ⟨rfl, h2⟩ := h2
            exact ⟨_, rfl, h1, h2, h3⟩
  | map k e _ _ =>
    intro x us
    refine Iff.trans ?_ (one fun u => Iff.rfl).symm
    constructor
    · intro h
      obtain ⟨b, es, clock, e, h1⟩ := h
      exact ⟨_, e, b, es, clock, rfl, h1⟩
    · rintro ⟨u, rfl, h⟩; exact h
  | ref t _ =>
    intro x us
    refine Iff.trans ?_ (one fun u => Iff.rfl).symm
    constructor
    · intro h
      obtain ⟨b, o, e, h1⟩ := h
      exact ⟨_, e, b, o, rfl, h1⟩
    · rintro ⟨u, rfl, h⟩; exact h
  | pair a b iha ihb =>
    intro x us
    constructor
    · rintro ⟨us1, us2, rfl, h1, h2⟩
      exact (iha.1 h1).append (ihb.1 h2)
    · intro h
      have e : us = us.take (cellsR a x.1).length ++ us.drop (cellsR a x.1).length := (List.take_append_drop _ _).symm
      have ht := h.take (cellsR a x.1).length
      have hd := h.drop (cellsR a x.1).length
      refine ⟨_, _, e, iha.2 ?_, ihb.2 ?_⟩
      · simpa [cellsR] using ht
      · simpa [cellsR] using hd

theorem cellsR_len : ∀ {t : Ty} {x : Den t}, (cellsR t x).length = width t
  | .int _, _ => rfl
  | .str, _ => rfl
  | .bool, _ => rfl
  | .list _, _ => rfl
  | .pair a b, x => by simp only [cellsR, List.length_append, cellsR_len (t := a), cellsR_len (t := b), width]
  | .struct t, x => cellsR_len (t := t) (x := x)
  | .unit, _ => rfl
  | .tree, _ => rfl
  | .map _ _, _ => rfl
  | .ref _, _ => rfl

/-- A pointer's data. -/
theorem Ro_rf {w : World} {F : Nat → Prop} {t : Ty} {x : Den t} {u : Value} : Ro w F (.rf t x) u ↔ Ro w F (.rop (width t) fun j => (cellsR t x).getD j z0) u := by
  constructor
  · rintro ⟨b, o, e, hf, ys, h1, h2⟩
    simp only [List.cons.injEq, and_true] at e
    refine ⟨b, o, e, hf, fun j hj => ?_⟩
    obtain ⟨y, g1, g2⟩ := h2 j hj
    obtain ⟨r, g3, g4⟩ := (RoL_cells.1 h1).getR g1
    refine ⟨y, g2, ?_⟩
    show Ro w F (List.getD (cellsR t x) j z0) y
    rw [List.getD_eq_getElem?_getD, g3]; exact g4
  · rintro ⟨b, o, rfl, hf, h⟩
    obtain ⟨ys, g1, g2⟩ := list_of h
    refine ⟨b, o, rfl, hf, ys, RoL_cells.2 (All2.of_get (by rw [cellsR_len, g1]) fun j r hr => ?_), fun j hj => ?_⟩
    · have hj : j < width t := by
        rcases Nat.lt_or_ge j (width t) with h | h
        · exact h
        · rw [List.getElem?_eq_none (by rw [cellsR_len]; exact h)] at hr; cases hr
      refine ⟨ys[j]'(by omega), by simp [g1, hj], ?_⟩
      have : Ro w F (List.getD (cellsR t x) j z0) (ys[j]'(by omega)) := (g2 j _ (List.getElem?_eq_getElem (by omega))).2
      rw [List.getD_eq_getElem?_getD, hr] at this
      exact this
    · exact ⟨ys[j]'(by omega), by simp [g1, hj], (g2 j _ (List.getElem?_eq_getElem (by omega))).1⟩

/-- A list's slice. -/
theorem Ro_li {w : World} {F : Nat → Prop} {t : Ty} {l : List (Den t)} {u : Value} : Ro w F (.li t l) u ↔ Ro w F (.sl (width t) l.length (getL t l)) u := by
  constructor
  · rintro ⟨a, cap, e, h1, h2, h3⟩
    simp only [List.cons.injEq, and_true] at e
    refine ⟨a, cap, e, h1, h2, ?_⟩
    rcases h3 with h3 | ⟨b, o, e1, hf, h3⟩
    · exact .inl h3
    · refine .inr ⟨b, o, e1, hf, fun i hi j hj => ?_⟩
      obtain ⟨ys, g1, g2⟩ := h3 i hi
      obtain ⟨y, g3, g4⟩ := g2 j hj
      obtain ⟨r, g5, g6⟩ := (RoL_cells.1 g1).getR g3
      refine ⟨y, g4, ?_⟩
      simp only [getL, List.getD] at g5 ⊢
      rw [g5]
      exact g6
  · rintro ⟨a, cap, e, h1, h2, h3⟩
    refine ⟨a, cap, by rw [e], h1, h2, ?_⟩
    rcases h3 with h3 | ⟨b, o, e1, hf, h3⟩
    · exact .inl h3
    · refine .inr ⟨b, o, e1, hf, fun i hi => ?_⟩
      obtain ⟨ys, g1, g2⟩ := list_of (h3 i hi)
      refine ⟨ys, RoL_cells.2 (All2.of_get (by rw [cellsR_len, g1]) fun j x hx => ?_), fun j hj => ?_⟩
      · have hj : j < width t := by
          rcases Nat.lt_or_ge j (width t) with h | h
          · exact h
          · rw [List.getElem?_eq_none (by rw [cellsR_len]; exact h)] at hx; cases hx
        refine ⟨ys[j]'(by omega), by simp [g1, hj], ?_⟩
        have := (g2 j _ (List.getElem?_eq_getElem (by omega))).2
        have e2 : getL t l i j = x := by
          simp only [getL]
          rw [List.getD_eq_getElem?_getD, hx]; rfl
        rw [e2] at this
        exact this
      · exact ⟨ys[j]'(by omega), by simp [g1, hj], (g2 j _ (List.getElem?_eq_getElem (by omega))).1⟩

/-- What an own slice holds reads as read only data. -/
theorem ro_of_arr {i : Nat} {t : TypeId} {sz n : Nat} {get : Nat → Nat → R} (ho : RepO w F h β i (.arr t sz n get)) (hF : ∀ b, F b → F' b) (hb : ∀ b, Blk (β i) b → F' b) :
    Ro w F' (.sl sz n get) (β i) := by
  rcases ho with ⟨x, h1, h2⟩ | ⟨b, cap, cur, h1, h2, h3, h4, h5, h6, h7⟩
  · exact ⟨x, 0, by rw [h1, h2], by omega, by simp [maxLen], .inl h2⟩
  · refine ⟨some ⟨b, 0, none⟩, cap, h1, h4, h5, .inr ⟨b, 0, rfl, hb b (by rw [h1]; simp [blk]; omega), fun k hk j hj => ?_⟩⟩
    obtain ⟨y, hy, hr⟩ := h7 k hk j hj
    refine ⟨y, ?_, Ro.mono (fun _ _ => rfl) hF hr⟩
    rw [cell_of_row w b _ cur t (0, 0) h3]
    simpa using hy

theorem LeafAt.ro {t : TypeId} {e : Ty} {l : List (Den e)} {v : Value} (h : LeafAt w F t e l v) (hF : ∀ b, F b → F' b) (hb : ∀ b, blk v = some b → F' b) : RoL w F' (.list e) l [v] := by
  refine (show Ro w F' (.li e l) v ↔ RoL w F' (.list e) l [v] from Iff.rfl).1 (Ro_li.2 ?_)
  rcases h with ⟨x, h1, h2⟩ | ⟨b, cap, cur, h1, h2, h3, h4, h5, h6, h7⟩
  · exact ⟨x, 0, by rw [h1, h2], by omega, by simp [maxLen], .inl h2⟩
  · refine ⟨some ⟨b, 0, none⟩, cap, h1, h4, h5, .inr ⟨b, 0, rfl, hb b (by rw [h1]; simp [blk]; omega), fun k hk j hj => ?_⟩⟩
    obtain ⟨y, hy, hr⟩ := h7 k hk j hj
    refine ⟨y, ?_, Ro.mono (fun _ _ => rfl) hF hr⟩
    rw [cell_of_row w b _ cur t (0, 0) h3]
    simpa using hy

/-- slices of slices read as read only data -/
theorem DeepAt.ro (hF : ∀ b, F b → F' b) {e : Ty} : ∀ {ts : List TypeId} {l : List (Den e)} {sk : Value}, DeepAt w F e ts l sk → (∀ b, Blk sk b → F' b) → RoL w F' (.list e) l [hd sk] := by
  have leaf : ∀ {e : Ty} {t : TypeId} {l : List (Den e)} {u : Value}, LeafAt w F t e l u → (∀ b, Blk (.tuple #[u]) b → F' b) → RoL w F' (.list e) l [u] := fun h hb =>
    h.ro hF fun b hbb => hb b ⟨[], _, skAt_hd rfl, hbb⟩
  induction e with
  | list e ih =>
    rintro ts l sk ⟨t, ts', us, ad, cap, rfl, rfl, h1, h2, h3, h4, h5, h6⟩ hb
    have hhd : hd (.tuple us) = .slice ad (List.length l) cap := by
      have := skAt_hd h2
      simpa only [skAt, Option.some.injEq] using this
    refine ⟨ad, cap, by rw [hhd], h3, h4, ?_⟩
    rcases h5 with h5 | ⟨b, cur, rfl, g0, g1, g2, g3⟩
    · exact .inl (by have h3 : List.length l ≤ cap := h3; omega)
    · refine .inr ⟨b, 0, rfl, hb b ⟨[], _, skAt_hd h2, by simp [blk]; omega⟩, fun i hi => ?_⟩
      obtain ⟨s, e1, e2⟩ := g3 i hi
      obtain ⟨s', e3, e4⟩ := h6 i hi
      rw [e1] at e3
      cases e3
      refine ⟨[hd s], ih e4 fun b' hbb => hb b' (Blk_sub e1 hbb), fun j hj => ?_⟩
      have hj0 : j = 0 := by have hj : j < 1 := hj; omega
      subst hj0
      refine ⟨hd s, rfl, ?_⟩
      rw [cell_of_row w b _ cur t (0, 0) g1]
      show cur[0 + (i * 1 + 0)]? = _
      rw [show 0 + (i * 1 + 0) = i by omega]; exact e2
  | int k => rintro ts l sk ⟨t, u, rfl, rfl, h⟩ hb; exact leaf h hb
  | str => rintro ts l sk ⟨t, u, rfl, rfl, h⟩ hb; exact leaf h hb
  | bool => rintro ts l sk ⟨t, u, rfl, rfl, h⟩ hb; exact leaf h hb
  | pair a b _ _ => rintro ts l sk ⟨t, u, rfl, rfl, h⟩ hb; exact leaf h hb
  | struct a _ => rintro ts l sk ⟨t, u, rfl, rfl, h⟩ hb; exact leaf h hb
  | unit => rintro ts l sk h; exact h.elim
  | tree => rintro ts l sk h; exact h.elim
  | map k e _ _ => rintro ts l sk h; exact h.elim
  | ref t _ => rintro ts l sk h; exact h.elim

theorem toR_sound (H : Inv w0 O0 F0 w F h β) {hh : Nat → Option Obj} (hhh : ∀ i ob, hh i = some ob → h i = some (some ob)) (hF : ∀ b, F b → F' b)
    {c : C} {r : R} {u : Value} (hc : RepC w F h β c u) (hr : toR hh c = some r) (hfr : ∀ i ∈ c.refs, ∀ o b, h i = some (some o) → Blk (β i) b → F' b) : Ro w F' r u := by
  unfold toR at hr
  split at hr
  · cases hr; exact Ro.mono (fun _ _ => rfl) hF hc
  · rename_i i
    split at hr
    · rename_i t sz n get hi
      cases hr
      have hi' := hhh _ _ hi
      rw [hc.2.2 _ hi']
      exact ro_of_arr (H.obj _ _ hi') hF fun b hb => hfr i (by simp [C.refs]) _ b hi' hb
    · rename_i t e l hi
      cases hr
      have hi' := hhh _ _ hi
      rw [hc.2.2 _ hi']
      exact Ro_li.2 (ro_of_arr (RepO.lis.1 (H.obj _ _ hi')) hF fun b hb => hfr i (by simp [C.refs]) _ b hi' hb)
    · rename_i k e m hi
      cases hr
      have hi' := hhh _ _ hi
      rw [hc.2.2 _ hi']
      obtain ⟨b, es, clock, h1, h2, h3⟩ := H.obj _ _ hi'
      exact ⟨b, es, clock, by rw [h1], hfr i (by simp [C.refs]) _ b hi' (by rw [h1]; exact Blk_map.2 rfl), h2, h3.mono fun p en h => ⟨⟨RoL.mono (fun _ _ => rfl) hF h.1.1, h.1.2⟩, RoL.mono (fun _ _ => rfl) hF h.2.1, h.2.2⟩⟩
    · cases hr
  · rename_i i
    split at hr
    · rename_i ts e l hi
      cases hr
      have hi' := hhh _ _ hi
      have hu := hc.2.2 _ hi'
      simp only [skAt, Option.some.injEq] at hu
      rw [← hu]
      exact (H.obj _ _ hi').2.1.ro hF fun b hb => hfr i (by simp [C.refs]) _ b hi' hb
    · cases hr
  · cases hr

theorem allR_sound (H : Inv w0 O0 F0 w F h β) {hh : Nat → Option Obj} (hhh : ∀ i ob, hh i = some ob → h i = some (some ob)) (hF : ∀ b, F b → F' b) :
    ∀ {cs : List C} {rs : List R} {us : List Value}, All2 (RepC w F h β) cs us → allR hh cs = some rs →
      (∀ i ∈ cs.flatMap C.refs, ∀ o b, h i = some (some o) → Blk (β i) b → F' b) → All2 (Ro w F') rs us
  | [], rs, us, hc, hr, _ => by cases hc; simp [allR] at hr; subst hr; exact .nil
  | c :: cs, rs, us, hc, hr, hfr => by
    cases hc with
    | cons h1 h2 =>
      simp only [allR] at hr
      split at hr
      · rename_i r rs' e1 e2
        cases hr
        exact .cons (toR_sound H hhh hF h1 e1 fun i hi => hfr i (List.mem_flatMap.2 ⟨c, List.mem_cons_self .., hi⟩))
          (allR_sound H hhh hF h2 e2 fun i hi => hfr i (by simp only [List.flatMap_cons, List.mem_append]; exact .inr hi))
      · cases hr

theorem pres_of_refs {c : C} {u : Value} (hc : RepC w F h β c u) : ∀ i ∈ c.refs, ∃ q, h i = some q := by
  cases c with
  | r x => intro i hi; simp [C.refs] at hi
  | own i => intro j hj; simp [C.refs] at hj; subst hj; exact hc.2.1
  | ptr i off => intro j hj; simp [C.refs] at hj; subst hj; exact hc.2.1
  | eptr i s k off => intro j hj; simp [C.refs] at hj; subst hj; exact hc.2.1
  | fn f l => intro j hj; exact hc.2.1 j hj
  | dsl i p => intro j hj; simp [C.refs] at hj; subst hj; exact hc.2.1
  | dptr i p s k off => intro j hj; simp [C.refs] at hj; subst hj; exact hc.2.1
  | junk => intro i hi; simp [C.refs] at hi

theorem All2.pres {cs : List C} {us : List Value} (hc : All2 (RepC w F h β) cs us) : ∀ i ∈ cs.flatMap C.refs, ∃ q, h i = some q := by
  induction hc with
  | nil => intro i hi; simp at hi
  | cons h1 _ ih =>
    intro i hi
    simp only [List.flatMap_cons, List.mem_append] at hi
    rcases hi with hi | hi
    · exact pres_of_refs h1 i hi
    · exact ih i hi

theorem RepD.pres {d : D} {u : Value} (hd : RepD w F h β d u) : ∀ i ∈ d.refs, ∃ q, h i = some q := All2.pres hd.cells

/-- cells that lie at a place -/
def CellsAt (w : World) (b o : Nat) (us : List Value) : Prop := ∀ j u, us[j]? = some u → w.cell? ⟨b, o + j, none⟩ = some u

theorem CellsAt.take {b o : Nat} {us : List Value} (hc : CellsAt w b o us) (n : Nat) : CellsAt w b o (us.take n) := fun j u hu => by
  rw [List.getElem?_take] at hu
  split at hu
  · exact hc j u hu
  · cases hu
theorem CellsAt.drop {b o : Nat} {us : List Value} (hc : CellsAt w b o us) (n : Nat) : CellsAt w b (o + n) (us.drop n) := fun j u hu => by
  rw [List.getElem?_drop] at hu
  rw [Nat.add_assoc]; exact hc _ u hu

theorem run_loadCells_at {P : Program} {b o : Nat} {us : List Value} (hc : CellsAt w b o us) : (loadCells ⟨b, o, none⟩ us.length).run P w = .ok us.toArray w :=
  run_loadCells_list (P := P) w ⟨b, o, none⟩ us fun j v hv => by rw [Addr.add_lit]; exact hc j v hv

/-- What a pointer leads to. -/
theorem cellsAt_sound (H : Inv w0 O0 F0 w F h β) {hh : Nat → Option Obj} (hhh : ∀ i ob, hh i = some ob → h i = some (some ob)) {n : Nat} {c : C} {cs : List C} {u : Value}
    (hc : RepC w F h β c u) (hcs : cellsAt hh n c = some cs) : ∃ b o us, u = .pointer (some ⟨b, o, none⟩) ∧ us.length = n ∧ CellsAt w b o us ∧ All2 (RepC w F h β) cs us := by
  unfold cellsAt at hcs
  split at hcs
  · rename_i i off
    split at hcs
    · rename_i t xs hi
      split at hcs
      · rename_i hle
        cases hcs
        have hi' := hhh _ _ hi
        obtain ⟨b, h1, h2⟩ := hc.2.2 _ hi'
        obtain ⟨b', us, h3, h4, h5⟩ := H.obj _ _ hi'
        rw [h1] at h3
        cases h3
        have hlen := h5.len
        have hle' : off + n ≤ xs.length := by simpa using hle
        refine ⟨b, off, (us.toList.drop off).take n, h2, ?_, ?_, (h5.drop off).take n⟩
        · simp only [List.length_take, List.length_drop]; omega
        · refine CellsAt.take ?_ n
          have : CellsAt w b 0 us.toList := fun j v hv => by
            rw [cell_of_row w b _ us t (0, 0) h4]; simpa using hv
          have := this.drop off
          simpa using this
      · cases hcs
    · cases hcs
  · rename_i i s k off
    split at hcs
    · rename_i t sz m get hi
      split at hcs
      · rename_i hle
        cases hcs
        have hi' := hhh _ _ hi
        obtain ⟨b, n', cap, h1, hkn, h2⟩ := hc.2.2 _ hi'
        rcases H.obj _ _ hi' with ⟨x, h3, h4⟩ | ⟨b', cap', cur, h3, h4, h5, h6, h7, h8, h9⟩
        · rw [h1] at h3; cases h3; omega
        · rw [h1] at h3
          cases h3
          have hle' : off + n ≤ sz ∧ s = sz := by simpa [Nat.ble_eq] using hle
          obtain ⟨hle1, rfl⟩ := hle'
          obtain ⟨us, hl, hu⟩ := list_of (n := n) (p := fun j y => cur[k * s + (off + j)]? = some y ∧ Ro w F (get k (off + j)) y) fun j hj => h9 k hkn (off + j) (by omega)
          refine ⟨b, k * s + off, us, h2, hl, fun j v hv => ?_, ?_⟩
          · rw [cell_of_row w b _ cur t (0, 0) h5, Nat.add_assoc]; exact (hu j v hv).1
          · rw [All2.map_l]
            refine All2.of_get (by simp [hl]) fun j x hx => ?_
            have hj : j < n := by
              rcases Nat.lt_or_ge j n with hj | hj
              · exact hj
              · rw [List.getElem?_eq_none (by simpa using hj)] at hx; cases hx
            rw [List.getElem?_range hj] at hx
            cases hx
            exact ⟨us[j]'(by omega), by simp [hl, hj], (hu j _ (by simp [hl, hj])).2⟩
      · cases hcs
    · cases hcs
  · rename_i m get
    split at hcs
    · rename_i hle
      cases hcs
      obtain ⟨b, o, rfl, hf, hy⟩ := hc
      have hle' : n ≤ m := by simpa using hle
      obtain ⟨us, hl, hu⟩ := list_of fun j hj => hy j (Nat.lt_of_lt_of_le hj hle')
      refine ⟨b, o, us, rfl, hl, fun j v hv => (hu j v hv).1, ?_⟩
      rw [All2.map_l]
      refine All2.of_get (by simp [hl]) fun j x hx => ?_
      have hj : j < n := by
        rcases Nat.lt_or_ge j n with hj | hj
        · exact hj
        · rw [List.getElem?_eq_none (by simpa using hj)] at hx; cases hx
      rw [List.getElem?_range hj] at hx
      cases hx
      exact ⟨us[j]'(by omega), by simp [hl, hj], (hu j _ (by simp [hl, hj])).2⟩
    · cases hcs
  · cases hcs
end
end Go.Proofs.YthhmpjnmmhfngaaDoor.Ev
