/-
  Maps of the call's own, and read only ones.
-/
import Derived.Test.YthhmpjnmmhfngaaDoorEvOt
namespace Go.Proofs.YthhmpjnmmhfngaaDoor.Ev
open Go

/-- what a value of typed data looks like -/
def KV (w : World) (F : Nat → Prop) (t : Ty) (x : Den t) (u : Value) : Prop := RoL w F t x u.cells.toList ∧ formV t u

theorem KV.mono {w w' : World} {F F' : Nat → Prop} (hb : ∀ b, F b → w'.heap[b]? = w.heap[b]?) (hF : ∀ b, F b → F' b) {t : Ty} {x : Den t} {u : Value} (h : KV w F t x u) : KV w' F' t x u := ⟨RoL.mono hb hF h.1, h.2⟩

theorem ofD_agg {t : Ty} (h : isStruct t = true) (x : Den t) : ofD t x = .agg ((cellsR t x).map .r) := by
  cases t <;> first | rfl | cases h
theorem ofD_one {t : Ty} (h : isStruct t = false) (x : Den t) : ∃ r, cellsR t x = [r] ∧ ofD t x = .one (.r r) := by
  cases t <;> first | exact ⟨_, rfl, rfl⟩ | cases h

theorem KV_repD {w : World} {F : Nat → Prop} {h : HF} {β : Nat → Value} {t : Ty} {x : Den t} {u : Value} : KV w F t x u ↔ RepD w F h β (ofD t x) u := by
  constructor
  · rintro ⟨h1, h2⟩
    cases hs : isStruct t
    · obtain ⟨r, e1, e2⟩ := ofD_one hs x
      rw [e2]
      have := RoL_cells.1 h1
      rw [e1, cells_one (h2.2 hs)] at this
      cases this with | cons g _ => exact g
    · obtain ⟨us, rfl⟩ := h2.1 hs
      rw [ofD_agg hs]
      exact ⟨us, rfl, All2.map_l.2 (RoL_cells.1 h1)⟩
  · intro h1
    cases hs : isStruct t
    · obtain ⟨r, e1, e2⟩ := ofD_one hs x
      rw [e2] at h1
      have h1 : Ro w F r u := h1
      refine ⟨RoL_cells.2 ?_, ⟨fun e => (by rw [hs] at e; cases e), fun _ => Ro.one h1⟩⟩
      rw [e1, cells_one (Ro.one h1)]
      exact .cons h1 .nil
    · rw [ofD_agg hs] at h1
      obtain ⟨us, rfl, h2⟩ := h1
      exact ⟨RoL_cells.2 (All2.map_l (f := C.r).1 h2), fun _ => ⟨us, rfl⟩, fun e => (by rw [hs] at e; cases e)⟩

section
variable {P : Program} {TT : Types} {w : World} {F : Nat → Prop}

theorem eq_str (a b : ByteArray) : (a == b) = decide (a.data.toList = b.data.toList) :=
  (beq_toListBytes a b).trans (run_seq_eq a b)

def ckFields (em : Bool) (d : Nat) (xs : Array Value) : List Field → Sem Unit
  | [] => pure ()
  | f :: fs =>
    if f.name ≠ "_" then do
      let a ← part f.type xs f.offset
      Instr.checkKey em d f.type a
      ckFields em d xs fs
    else ckFields em d xs fs

theorem run_check_struct (w : World) (em : Bool) (d : Nat) (t : TypeId) (xs : Array Value) {fs : Array Field} (ht : P.underlying t = some (.struct fs)) :
    (Instr.checkKey em (d + 1) t (.agg xs)).run P w = (ckFields em d xs fs.toList).run P w := by
  simp only [Instr.checkKey, Sem.run_bind, run_underlying ht, Result.andThen_ok]
  rw [← Array.forIn_toList]
  generalize fs.toList = fs
  clear ht
  induction fs generalizing w with
  | nil => simp [ckFields]
  | cons f fs ih =>
    simp only [List.forIn_cons, ckFields, Sem.run_bind, Sem.run_ite]
    split
    · generalize (part f.type xs f.offset).run P w = r1
      cases r1 with
      | ok a w1 =>
        simp only [Result.andThen_ok]
        generalize (Instr.checkKey em d f.type a).run P w1 = r2
        cases r2 with
        | ok b w2 =>
          simp only [Result.andThen_ok, Sem.run_pure]
          exact ih w2
        | halt x w2 => simp [Result.andThen]
      | halt x w1 => simp [Result.andThen]
    · simp only [Sem.run_pure, Result.andThen_ok]
      exact ih w

/-- a struct's part out of its cells -/
theorem part_KV (ht : TTok P TT) {f : TypeId} {ti : TI} (hti : TT f = some ti) {a : Ty} (hag : aggDesc ti.desc = isStruct a) (hsz : ti.info.size = width a) {x : Den a} {us : Array Value} {off : Nat} {us1 : List Value} (h : RoL w F a x us1)
    (hc : us1 = (us.toList.drop off).take (width a)) : ∃ v, (part f us off).run P w = .ok v w ∧ KV w F a x v := by
  have hl : us1.length = width a := by rw [← (RoL_cells.1 h).len, cellsR_len]
  cases hs : isStruct a
  · have h1 : width a = 1 := by cases a <;> first | rfl | cases hs
    rw [h1] at hl
    obtain ⟨y, rfl⟩ := List.length_eq_one_iff.1 hl
    have hy : us[off]? = some y := by
      have h0 : ((us.toList.drop off).take (width a))[0]? = some y := by rw [← hc]; rfl
      rw [List.getElem?_take] at h0
      split at h0
      · rw [List.getElem?_drop] at h0; simpa using h0
      · cases h0
    refine ⟨y, ?_, ?_⟩
    · simp only [part, Sem.run_bind, ht.run_agg hti, hag, hs, Result.andThen_ok, Bool.false_eq_true, if_false, hy, Sem.run_pure]
    · obtain ⟨r, e1, e2⟩ := ofD_one hs x
      have hr := RoL_cells.1 h
      rw [e1] at hr
      cases hr with | cons g _ =>
      exact (KV_repD (h := fun _ => none) (β := fun _ => default)).2 (by rw [e2]; exact g)
  · refine ⟨.agg (us.extract off (off + ti.info.size)), ?_, ?_, fun _ => ⟨_, rfl⟩, fun e => (by rw [hs] at e; cases e)⟩
    · simp only [part, Sem.run_bind, ht.run_agg hti, hag, hs, Result.andThen_ok, if_true, ht.run_size hti, Sem.run_pure]
    · show RoL w F a x (us.extract off (off + ti.info.size)).toList
      have e : (us.extract off (off + ti.info.size)).toList = (us.toList.drop off).take ti.info.size := by
        simp [Array.toList_extract, List.extract_eq_take_drop]
      rw [e, hsz, ← hc]; exact h

/-- what is known of a type of keys -/
structure KeyAt (P : Program) (TT : Types) (n : Nat) (kt : TypeId) (k : Ty) : Prop where
  ti : ∃ ti, TT kt = some ti ∧ aggDesc ti.desc = isStruct k
  check : ∀ (w : World) (F : Nat → Prop) em d (x : Den k) u, n ≤ d → KV w F k x u → (Instr.checkKey em d kt u).run P w = .ok () w
  eq : ∀ (w : World) (F : Nat → Prop) d (x y : Den k) u v, n ≤ d → KV w F k x u → KV w F k y v → (Op.equalIn d kt u v).run P w = .ok (eqDen k x y) w
  now : ∀ (w : World) (F : Nat → Prop) ti (x y : Den k) u v, TT kt = some ti → KV w F k x u → KV w F k y v → Instr.sameNow ti.desc u v = some (eqDen k x y) ∨ Instr.sameNow ti.desc u v = none

theorem one_cell {u y : Value} (h : u.oneCell' = true) (e : u.cells.toList = [y]) : u = y := by
  rw [cells_one h] at e; simpa using e

theorem KV_int {k : IntKind} {x : Den (.int k)} {u : Value} (h : KV w F (.int k) x u) : u = .int k x := one_cell (h.2.2 rfl) h.1.1
theorem KV_str {x : Den .str} {u : Value} (h : KV w F .str x u) : u = .string (mk x) := one_cell (h.2.2 rfl) h.1.1
theorem KV_bool {x : Den .bool} {u : Value} (h : KV w F .bool x u) : u = .bool x := one_cell (h.2.2 rfl) h.1

theorem mk_toList (l : List UInt8) : (mk l).data.toList = l := by simp

theorem seq_mk (a b : List UInt8) : ((mk a) == (mk b)) = eqS a b := by
  rw [eq_str, mk_toList, mk_toList]; rfl

/-- one field and the rest -/
theorem key_fs (ht : TTok P TT) {n : Nat} (hk : ∀ kt k, keyB TT n kt k = true → KeyAt P TT n kt k) : ∀ (fs : List Field) (off : Nat) (t : Ty), keyFs TT (keyB TT n) fs off t = true →
    ∀ (w : World) (F : Nat → Prop) (d : Nat), n ≤ d → ∀ (xs ys : Array Value) (x y : Den t), RoL w F t x (xs.toList.drop off) → RoL w F t y (ys.toList.drop off) →
      (Op.eqFields d xs ys fs).run P w = .ok (eqDen t x y) w ∧ ∀ em, (ckFields em d xs fs).run P w = .ok () w := by
  have fld : ∀ {f : Field} {off : Nat} {a : Ty}, keyFs.keyF TT (keyB TT n) f off a = true → f.name ≠ "_" ∧ f.offset = off ∧ KeyAt P TT n f.type a ∧ ∃ ti, TT f.type = some ti ∧ ti.info.size = width a := by
    intro f off a h
    simp only [keyFs.keyF, Bool.and_eq_true, bne_iff_ne] at h
    obtain ⟨⟨⟨h1, h2⟩, h3⟩, h4⟩ := h
    refine ⟨h3, Nat.eq_of_beq_eq_true h2, hk _ _ h1, ?_⟩
    split at h4
    · rename_i ti hti; exact ⟨ti, hti, Nat.eq_of_beq_eq_true h4⟩
    · cases h4
  have one : ∀ {f : Field} {off : Nat} {a : Ty}, keyFs.keyF TT (keyB TT n) f off a = true → ∀ (w : World) (F : Nat → Prop) (xs : Array Value) (x : Den a) (us1 : List Value), RoL w F a x us1 → us1 = (xs.toList.drop off).take (width a) → ∃ v, (part f.type xs f.offset).run P w = .ok v w ∧ KV w F a x v := by
    intro f off a h w F xs x us1 h1 h2
    obtain ⟨g1, g2, g3, ti, g4, g5⟩ := fld h
    obtain ⟨ti', g6, g7⟩ := g3.ti
    rw [g4] at g6; cases g6
    rw [g2]
    exact part_KV ht g4 g7 g5 h1 h2
  have step : ∀ {f : Field} {fs : List Field} {off : Nat} {a : Ty}, keyFs.keyF TT (keyB TT n) f off a = true → ∀ (w : World) (F : Nat → Prop) (d : Nat), n ≤ d → ∀ (xs ys : Array Value) (x y : Den a) (us1 vs1 : List Value), RoL w F a x us1 → RoL w F a y vs1 →
      us1 = (xs.toList.drop off).take (width a) → vs1 = (ys.toList.drop off).take (width a) → ∀ (b : Bool), (Op.eqFields d xs ys fs).run P w = .ok b w → (∀ em, (ckFields em d xs fs).run P w = .ok () w) →
      (Op.eqFields d xs ys (f :: fs)).run P w = .ok (eqDen a x y && b) w ∧ ∀ em, (ckFields em d xs (f :: fs)).run P w = .ok () w := by
    intro f fs off a h w F d hd xs ys x y us1 vs1 h1 h2 e1 e2 b hb hc
    obtain ⟨g1, g2, g3, _⟩ := fld h
    obtain ⟨u, p1, p2⟩ := one h w F xs x us1 h1 e1
    obtain ⟨v, q1, q2⟩ := one h w F ys y vs1 h2 e2
    constructor
    · simp only [Op.eqFields, g1, ne_eq, not_false_eq_true, if_true, Sem.run_bind, p1, q1, Result.andThen_ok, g3.eq w F d x y u v hd p2 q2, Sem.run_ite]
      cases eqDen a x y
      · simp
      · simpa using hb
    · intro em
      simp only [ckFields, g1, ne_eq, not_false_eq_true, if_true, Sem.run_bind, p1, Result.andThen_ok, g3.check w F em d x u hd p2]
      exact hc em
  intro fs
  induction fs with
  | nil =>
    intro off t h w F d hd xs ys x y h1 h2
    cases t <;> try (simp [keyFs] at h)
    exact ⟨by simp [Op.eqFields, eqDen], fun em => by simp [ckFields]⟩
  | cons f fs ih =>
    intro off t h w F d hd xs ys x y h1 h2
    cases fs with
    | nil =>
      have hf : keyFs.keyF TT (keyB TT n) f off t = true := h
      have key := step hf w F d hd xs ys x y _ _ h1 h2 (by
        have hl : (xs.toList.drop off).length = width t := by rw [← (RoL_cells.1 h1).len, cellsR_len]
        rw [List.take_of_length_le (by omega)]) (by
        have hl : (ys.toList.drop off).length = width t := by rw [← (RoL_cells.1 h2).len, cellsR_len]
        rw [List.take_of_length_le (by omega)]) (fs := []) true (by simp [Op.eqFields]) (fun em => by simp [ckFields])
      rw [Bool.and_true] at key
      exact key
    | cons g gs =>
      cases t with
      | pair a b =>
        simp only [keyFs, Bool.and_eq_true] at h
        obtain ⟨u1, u2, e1, r1, r2⟩ := h1
        obtain ⟨v1, v2, e2, s1, s2⟩ := h2
        have lu : u1.length = width a := by rw [← (RoL_cells.1 r1).len, cellsR_len]
        have lv : v1.length = width a := by rw [← (RoL_cells.1 s1).len, cellsR_len]
        have rest := ih (off + width a) b h.2 w F d hd xs ys x.2 y.2 (by
          rw [← List.drop_drop, e1, List.drop_append_of_le_length (by omega), ← lu, List.drop_length, List.nil_append]; exact r2) (by
          rw [← List.drop_drop, e2, List.drop_append_of_le_length (by omega), ← lv, List.drop_length, List.nil_append]; exact s2)
        exact step h.1 w F d hd xs ys x.1 y.1 u1 v1 r1 s1 (by rw [e1, ← lu, List.take_left]) (by rw [e2, ← lv, List.take_left]) _ rest.1 rest.2
      | _ => simp [keyFs] at h

theorem keyB_ok (ht : TTok P TT) : ∀ (n : Nat) (kt : TypeId) (k : Ty), keyB TT n kt k = true → KeyAt P TT n kt k
  | 0, _, _, h => by cases h
  | n + 1, kt, k, h => by
    have ih := keyB_ok ht n
    simp only [keyB] at h
    split at h
    · cases h
    · rename_i ti hti
      have hu := ht.under kt ti hti
      split at h
      · rename_i a b hd
        have := of_decide_eq_true h
        subst this
        rw [hd] at hu
        refine ⟨⟨ti, hti, by rw [hd]; rfl⟩, fun w F em d x u hn hx => ?_, fun w F d x y u v hn hx hy => ?_, fun w F ti' x y u v hti' hx hy => ?_⟩
        · obtain ⟨d, rfl⟩ : ∃ e, d = e + 1 := ⟨d - 1, by omega⟩
          rw [KV_int hx]
          simp [Instr.checkKey, run_underlying hu]
        · obtain ⟨d, rfl⟩ : ∃ e, d = e + 1 := ⟨d - 1, by omega⟩
          have e := run_equalIn_int w d kt a a x y hu
          rw [KV_int hx, KV_int hy]
          refine e.trans ?_
          have : ∀ a b : Int, (a == b) = eqI a b := fun a b => by unfold eqI; rw [Bool.eq_iff_iff, beq_iff_eq, decide_eq_true_iff]
          exact congrArg (fun z => Result.ok z w) (this _ _)
        · rw [hti] at hti'; cases hti'
          rw [hd, KV_int hx, KV_int hy]
          left
          have : ∀ a b : Int, (a == b) = eqI a b := fun a b => by unfold eqI; rw [Bool.eq_iff_iff, beq_iff_eq, decide_eq_true_iff]
          simp only [Instr.sameNow, if_true]
          exact congrArg some (this _ _)
      · rename_i hd
        rw [hd] at hu
        refine ⟨⟨ti, hti, by rw [hd]; rfl⟩, fun w F em d x u hn hx => ?_, fun w F d x y u v hn hx hy => ?_, fun w F ti' x y u v hti' hx hy => ?_⟩
        · obtain ⟨d, rfl⟩ : ∃ e, d = e + 1 := ⟨d - 1, by omega⟩
          rw [KV_str hx]
          simp [Instr.checkKey, run_underlying hu]
        · obtain ⟨d, rfl⟩ : ∃ e, d = e + 1 := ⟨d - 1, by omega⟩
          rw [KV_str hx, KV_str hy, run_equalIn_string w d kt _ _ hu, ← beq_toListBytes]
          exact congrArg (fun z => Result.ok z w) (seq_mk _ _)
        · rw [hti] at hti'; cases hti'
          rw [hd, KV_str hx, KV_str hy]
          left
          simp only [Instr.sameNow]
          exact congrArg some (seq_mk _ _)
      · rename_i hd
        rw [hd] at hu
        refine ⟨⟨ti, hti, by rw [hd]; rfl⟩, fun w F em d x u hn hx => ?_, fun w F d x y u v hn hx hy => ?_, fun w F ti' x y u v hti' hx hy => ?_⟩
        · obtain ⟨d, rfl⟩ : ∃ e, d = e + 1 := ⟨d - 1, by omega⟩
          rw [KV_bool hx]
          simp [Instr.checkKey, run_underlying hu]
        · obtain ⟨d, rfl⟩ : ∃ e, d = e + 1 := ⟨d - 1, by omega⟩
          have e := run_equalIn_bool' w d kt x y hu
          rw [KV_bool hx, KV_bool hy]
          exact e
        · rw [hti] at hti'; cases hti'
          rw [hd, KV_bool hx, KV_bool hy]
          left; rfl
      · rename_i fs s hd
        rw [hd] at hu
        have hfo : P.fieldsOf kt = fs := by unfold Program.fieldsOf; rw [hu]
        have hheld := (ht.held kt ti fs hti hd).1
        refine ⟨⟨ti, hti, by rw [hd]; rfl⟩, fun w F em d x u hn hx => ?_, fun w F d x y u v hn hx hy => ?_, fun w F ti' x y u v hti' hx hy => ?_⟩
        · obtain ⟨d, rfl⟩ : ∃ e, d = e + 1 := ⟨d - 1, by omega⟩
          obtain ⟨us, rfl⟩ := hx.2.1 rfl
          have := (key_fs ht ih fs.toList 0 s h w F d (by omega) us us x x hx.1 hx.1).2 em
          rw [run_check_struct w em d kt us hu]
          exact this
        · obtain ⟨d, rfl⟩ : ∃ e, d = e + 1 := ⟨d - 1, by omega⟩
          obtain ⟨us, rfl⟩ := hx.2.1 rfl
          obtain ⟨vs, rfl⟩ := hy.2.1 rfl
          rw [run_equalIn_struct w d kt us vs (by rw [hfo]; exact hu) hheld, hfo]
          exact (key_fs ht ih fs.toList 0 s h w F d (by omega) us vs x y hx.1 hy.1).1
        · rw [hti] at hti'; cases hti'
          obtain ⟨us, rfl⟩ := hx.2.1 rfl
          rw [hd]
          right; rfl
      · cases h
theorem All2_le {rs rs' : List R} {us : List Value} (h1 : All2 (Ro w F) rs us) (h2 : All2 Le rs rs') : All2 (Ro w F) rs' us := by
  induction h2 generalizing us with
  | nil => exact h1
  | cons hl _ ih => cases h1 with | cons g1 g2 => exact .cons (hl _ _ _ g1) (ih g2)


theorem eqI_eq {a b : Int} (h : eqI a b = true) : a = b := of_decide_eq_true h
theorem eqS_eq {a b : List UInt8} (h : eqS a b = true) : a = b := of_decide_eq_true h
theorem bits_int (n : Nat) (k : IntKind) (m : Int) : Instr.sameBits n (.int k m) (.int k m) = true := by cases n <;> simp [Instr.sameBits]
theorem bits_str (n : Nat) (s : ByteArray) : Instr.sameBits n (.string s) (.string s) = true := by cases n <;> simp [Instr.sameBits, eq_str]
theorem bits_bool (n : Nat) (b : Bool) : Instr.sameBits n (.bool b) (.bool b) = true := by cases n <;> simp [Instr.sameBits]
theorem flat_vals {w w' : World} {F F' : Nat → Prop} : ∀ {t : Ty} {x y : Den t} {us vs : List Value}, tyFlat t = true → RoL w F t x us → RoL w' F' t y vs → eqDen t x y = true → us = vs ∧ x = y
  | .int k, x, y, us, vs, _, h1, h2, h3 => by
    have e : x = y := eqI_eq h3
    subst e; exact ⟨h1.1.trans h2.1.symm, rfl⟩
  | .str, x, y, us, vs, _, h1, h2, h3 => by
    have e : x = y := eqS_eq h3
    subst e; exact ⟨h1.1.trans h2.1.symm, rfl⟩
  | .bool, x, y, us, vs, _, h1, h2, h3 => by
    have e : x = y := eq_of_beq (α := Bool) h3
    subst e
    have h1 : us = _ := h1
    have h2 : vs = _ := h2
    exact ⟨h1.trans h2.symm, rfl⟩
  | .list t, _, _, _, _, hf, _, _, _ => by cases hf
  | .pair a b, x, y, us, vs, hf, ⟨u1, u2, e1, p1, p2⟩, ⟨v1, v2, e2, q1, q2⟩, h3 => by
    simp only [tyFlat, Bool.and_eq_true] at hf
    simp only [eqDen, Bool.and_eq_true] at h3
    obtain ⟨g1, g2⟩ := flat_vals hf.1 p1 q1 h3.1
    obtain ⟨g3, g4⟩ := flat_vals hf.2 p2 q2 h3.2
    exact ⟨by rw [e1, e2, g1, g3], Prod.ext g2 g4⟩
  | .struct t, x, y, us, vs, hf, h1, h2, h3 => flat_vals (t := t) hf h1 h2 h3
  | .unit, x, y, us, vs, _, h1, h2, _ => by
    have h1 : us = [] := h1
    have h2 : vs = [] := h2
    exact ⟨h1.trans h2.symm, rfl⟩
  | .tree, _, _, _, _, hf, _, _, _ => by cases hf
  | .map _ _, _, _, _, _, hf, _, _, _ => by cases hf
  | .ref _, _, _, _, _, hf, _, _, _ => by cases hf

theorem flat_bits : ∀ {t : Ty} {x : Den t} {us : List Value}, tyFlat t = true → RoL w F t x us → ∀ u ∈ us, ∀ n, Instr.sameBits n u u = true
  | .int k, x, us, _, h, u, hu, n => by
    obtain ⟨rfl, _⟩ := h
    simp only [List.mem_singleton] at hu
    subst hu
    exact bits_int n k _
  | .str, x, us, _, h, u, hu, n => by
    obtain ⟨rfl, _⟩ := h
    simp only [List.mem_singleton] at hu
    subst hu
    exact bits_str n _
  | .bool, x, us, _, h, u, hu, n => by
    have h : us = _ := h
    subst h
    simp only [List.mem_singleton] at hu
    subst hu
    exact bits_bool n _
  | .list t, _, _, hf, _, _, _, _ => by cases hf
  | .pair a b, x, us, hf, ⟨u1, u2, e1, p1, p2⟩, u, hu, n => by
    simp only [tyFlat, Bool.and_eq_true] at hf
    subst e1
    rcases List.mem_append.1 hu with hu | hu
    · exact flat_bits hf.1 p1 u hu n
    · exact flat_bits hf.2 p2 u hu n
  | .struct t, x, us, hf, h, u, hu, n => flat_bits (t := t) hf h u hu n
  | .unit, x, us, _, h, u, hu, n => by
    have h : us = [] := h
    subst h; simp at hu
  | .tree, _, _, hf, _, _, _, _ => by cases hf
  | .map _ _, _, _, hf, _, _, _, _ => by cases hf
  | .ref _, _, _, hf, _, _, _, _ => by cases hf

theorem KV_bits {t : Ty} {x : Den t} {u : Value} (hf : tyFlat t = true) (h : KV w F t x u) : Instr.sameBits 10000 u u = true := by
  cases hs : isStruct t
  · have e := cells_one (h.2.2 hs)
    exact flat_bits hf h.1 u (by rw [e]; simp) _
  · obtain ⟨us, rfl⟩ := h.2.1 hs
    have := flat_bits hf h.1
    simp only [Instr.sameBits, beq_self_eq_true, Bool.true_and, List.all_eq_true]
    rintro ⟨x, y⟩ hxy
    have hz : ∀ {l : List Value} {x y : Value}, (x, y) ∈ l.zip l → x = y ∧ x ∈ l := by
      intro l
      induction l with
      | nil => intro x y h; simp at h
      | cons a l ih =>
        intro x y h
        simp only [List.zip_cons_cons, List.mem_cons, Prod.mk.injEq] at h
        rcases h with ⟨rfl, rfl⟩ | h
        · exact ⟨rfl, List.mem_cons_self ..⟩
        · exact ⟨(ih h).1, List.mem_cons_of_mem _ (ih h).2⟩
    obtain ⟨rfl, hm⟩ := hz hxy
    exact this x hm _

theorem KV_same {w' : World} {F' : Nat → Prop} {t : Ty} {x y : Den t} {u v : Value} (hf : tyFlat t = true) (h : KV w F t x u) (g : KV w' F' t y v) (he : eqDen t x y = true) : u = v := by
  obtain ⟨e, _⟩ := flat_vals hf h.1 g.1 he
  cases hs : isStruct t
  · rw [cells_one (h.2.2 hs), cells_one (g.2.2 hs)] at e
    simpa using e
  · obtain ⟨us, rfl⟩ := h.2.1 hs
    obtain ⟨vs, rfl⟩ := g.2.1 hs
    have e : us.toList = vs.toList := e
    rw [Array.toList_inj.1 e]

/-- the entries of a map -/
abbrev Ent (w : World) (F : Nat → Prop) (k e : Ty) (p : Den k × Den e) (en : MapEntry) : Prop := (RoL w F k p.1 en.key.cells.toList ∧ formV k en.key) ∧ RoL w F e p.2 en.val.cells.toList ∧ formV e en.val

theorem find_all {n : Nat} {kt : TypeId} {k e : Ty} {ti : TI} (K : KeyAt P TT n kt k) (hn : n ≤ 10000) (hti : TT kt = some ti) {x : Den k} {u : Value} (hx : KV w F k x u) : ∀ {m : List (Den k × Den e)} {es : List MapEntry}, All2 (Ent w F k e) m es → ∀ i,
    ∃ r, (Instr.findAsking kt u es i).run P w = .ok r w ∧ (Instr.findNow ti.desc u es i = some r ∨ Instr.findNow ti.desc u es i = none) ∧
      ((r = none ∧ mget k e x m = none ∧ ∀ v, mset k e x v m = m ++ [(x, v)]) ∨
       ∃ j en p, r = some (i + j, en.val) ∧ es[j]? = some en ∧ m[j]? = some p ∧ eqDen k x p.1 = true ∧ mget k e x m = some p.2 ∧ ∀ v, mset k e x v m = m.set j (x, v))
  | [], _, .nil, i => ⟨none, by simp [Instr.findAsking], .inl rfl, .inl ⟨rfl, rfl, fun _ => rfl⟩⟩
  | p :: m, en :: es, .cons h1 h2, i => by
    obtain ⟨a, v0⟩ := p
    have hq := K.eq w F 10000 x a u en.key hn hx h1.1
    have hnow := K.now w F ti x a u en.key hti hx h1.1
    have hask : (Instr.findAsking kt u (en :: es) i).run P w = (if eqDen k x a = true then (pure (some (i, en.val)) : Sem _) else Instr.findAsking kt u es (i + 1)).run P w := by
      simp only [Instr.findAsking, Op.equal, Op.maxDepth, Sem.run_bind, hq, Result.andThen_ok]
    cases hb : eqDen k x a
    · obtain ⟨r, g1, g2, g3⟩ := find_all K hn hti hx h2 (i + 1)
      refine ⟨r, by rw [hask, hb]; simpa using g1, ?_, ?_⟩
      · rcases hnow with hnow | hnow
        · rw [hb] at hnow
          simp only [Instr.findNow, hnow]; exact g2
        · simp [Instr.findNow, hnow]
      · rcases g3 with ⟨q1, q2, q3⟩ | ⟨j, en', p, q1, q2, q3, q4, q5, q6⟩
        · exact .inl ⟨q1, by simp only [mget, hb, cond_false]; exact q2, fun v => by simp only [mset, hb, cond_false, q3]; rfl⟩
        · exact .inr ⟨j + 1, en', p, by rw [q1]; congr 2; omega, by simpa using q2, by simpa using q3, q4, by simp only [mget, hb, cond_false]; exact q5, fun v => by simp only [mset, hb, cond_false, q6]; rfl⟩
    · refine ⟨some (i, en.val), by rw [hask, hb]; simp, ?_, .inr ⟨0, en, (a, v0), rfl, rfl, rfl, hb, by simp only [mget, hb, cond_true], fun v => by simp only [mset, hb, cond_true]; rfl⟩⟩
      rcases hnow with hnow | hnow
      · rw [hb] at hnow
        simp [Instr.findNow, hnow]
      · simp [Instr.findNow, hnow]

theorem find_run {n : Nat} {kt : TypeId} {k e : Ty} (ht : TTok P TT) (K : KeyAt P TT n kt k) (hn : n ≤ 10000) {x : Den k} {u : Value} (hx : KV w F k x u) {m : List (Den k × Den e)} {es : List MapEntry} (hm : All2 (Ent w F k e) m es) :
    ∃ r, (Instr.findKey kt u es).run P w = .ok r w ∧
      ((r = none ∧ mget k e x m = none ∧ ∀ v, mset k e x v m = m ++ [(x, v)]) ∨
       ∃ j en p, r = some (j, en.val) ∧ es[j]? = some en ∧ m[j]? = some p ∧ eqDen k x p.1 = true ∧ mget k e x m = some p.2 ∧ ∀ v, mset k e x v m = m.set j (x, v)) := by
  obtain ⟨ti, hti, _⟩ := K.ti
  obtain ⟨r, g1, g2, g3⟩ := find_all K hn hti hx hm 0
  refine ⟨r, ?_, by simpa using g3⟩
  simp only [Instr.findKey, Sem.run_bind, run_underlying (ht.under kt ti hti), Result.andThen_ok]
  rcases g2 with g2 | g2
  · rw [g2]; simp
  · rw [g2]; exact g1

theorem mapTy_some {ty kt : TypeId} {k e : Ty} {ei : TI} (h : mapTy TT ty = some (kt, k, ei, e)) : ∃ ti et z, TT ty = some ti ∧ ti.desc = .map kt et ∧ TT et = some ei ∧ keyB TT 4 kt k = true ∧ tyFlat k = true ∧ ei.info.zero = some z ∧ isAggV z = isStruct e := by
  unfold mapTy at h
  split at h
  · rename_i ti hti
    split at h
    · rename_i kt' et hd
      split at h
      · rename_i ki ei' hki hei
        split at h
        · rename_i k' e' z h1 h2 h3
          cases hb : (keyB TT 4 kt' k' && tyFlat k' && (isAggV z == isStruct e')) with
          | false => rw [hb] at h; cases h
          | true =>
            rw [hb] at h
            cases h
            simp only [Bool.and_eq_true, beq_iff_eq] at hb
            exact ⟨ti, et, z, hti, hd, hei, hb.1.1, hb.1.2, h3, hb.2⟩
        · cases h
      · cases h
    · cases h
  · cases h

theorem zeroDen_KV {ei : TI} {e : Ty} {x : Den e} {z : Value} (hz : zeroDen ei e = some x) (h1 : ei.info.zero = some z) (h2 : isAggV z = isStruct e) : KV w F e x z := by
  unfold zeroDen at hz
  split at hz
  · rename_i cs hcs
    split at hz
    · rename_i zr hzr
      obtain ⟨z', e1, hc⟩ := zeroCells_sound (w := w) (F := F) (h := fun _ => none) (β := fun _ => default) hcs
      rw [h1] at e1; cases e1
      have hro : All2 (Ro w F) zr z.cells.toList := by
        have : ∀ {cs : List C} {zr : List R} {us : List Value}, All2 (RepC w F (fun _ => none) (fun _ => default)) cs us → allR (fun _ => none) cs = some zr → All2 (Ro w F) zr us := by
          intro cs
          induction cs with
          | nil => intro zr us h g; cases g; cases h; exact .nil
          | cons c cs ih =>
            intro zr us h g
            cases h with | cons q1 q2 =>
            simp only [allR] at g
            split at g
            · rename_i r rs e1 e2
              cases g
              refine .cons ?_ (ih q2 e2)
              cases c
              case r y => cases e1; exact q1
              case own i => simp [toR] at e1
              case dsl i p => cases p <;> simp [toR] at e1
              all_goals simp [toR] at e1
            · cases g
        exact this hc hzr
      have hl := All2_le hro (asR_sound hz)
      refine ⟨RoL_cells.2 hl, ⟨fun hs => ?_, fun hs => ?_⟩⟩
      · rw [hs] at h2
        cases z <;> first | exact ⟨_, rfl⟩ | cases h2
      · obtain ⟨r, e2, _⟩ := ofD_one hs x
        rw [e2] at hl
        rw [hs] at h2
        have hcz : z.cells = #[z] := by cases z <;> first | rfl | cases h2
        rw [hcz] at hl
        cases hl with | cons g _ => exact Ro.one g
    · cases hz
  · cases hz

end

section
variable {P : Program} {TT : Types} {w0 w : World} {O0 F0 F : Nat → Prop} {h : HF} {β : Nat → Value} {a : Act} {o : Oper} {K : Act → World → Prop} {Q : Exit → Act → World → Prop} {x : T} {v : Value}

theorem run_getObj_m {r : Nat} {es : Array MapEntry} {clock : Nat} (hb : w.heap[r]? = some (.map es clock)) : (getObj r).run P w = .ok (.map es clock) w := by
  simp [getObj, Sem.run, hb]
theorem run_setObj_m {r : Nat} {es : Array MapEntry} {clock : Nat} (o : Go.Obj) (hb : w.heap[r]? = some (.map es clock)) : (setObj r o).run P w = .ok () { w with heap := w.heap.setIfInBounds r o } := by
  simp [setObj, Sem.run, hb]

theorem denOf_sound (H : Inv w0 O0 F0 w F h β) {hh : Nat → Option Obj} (hhh : ∀ i ob, hh i = some ob → h i = some (some ob)) {F' : Nat → Prop} (hF : ∀ b, F b → F' b) {t : Ty} {d : D} {x : Den t} (hd : denOf hh t d = some x) {u : Value} (hu : RepD w F h β d u)
    (hfr : ∀ i ∈ ownIds d.cells, ∀ o b, h i = some (some o) → Blk (β i) b → F' b) : KV w F' t x u := by
  unfold denOf at hd
  split at hd
  · rename_i cs hs
    split at hd
    · rename_i rs hrs
      obtain ⟨us, rfl, h2⟩ := hu
      have h3 := allR_sound H hhh hF h2 hrs fun i hi => hfr i (allR_refs hrs i hi)
      exact ⟨RoL_cells.2 (All2_le h3 (asR_sound hd)), ⟨fun _ => ⟨us, rfl⟩, fun e => (by rw [hs] at e; cases e)⟩⟩
    · cases hd
  · rename_i c hs
    split at hd
    · rename_i rs hrs
      have h1 := RepC.one hu
      have h3 := allR_sound H hhh hF (.cons hu .nil) hrs fun i hi => hfr i (allR_refs hrs i hi)
      refine ⟨RoL_cells.2 ?_, ⟨fun e => (by rw [hs] at e; cases e), fun _ => h1⟩⟩
      rw [cells_one h1]
      exact All2_le h3 (asR_sound hd)
    · cases hd
  · cases hd

theorem op_makeMap (H : Inv w0 O0 F0 w F h β) {ty : TypeId} (ho : o.op = .makeMap ty none) {k e : Ty} {s : Nat} (hs0 : h s = none)
    (hK : ∀ v w', Out w0 O0 F0 w F h β a.tmps [(s, some (.map k e []))] (.d (.one (.own s))) v w' → K (a.put o.dst v) w') : o.wp P a w K Q := by
  have T := H.new hs0 (.map #[] 0) (.map k e []) (.map (some w.heap.size)) (fun b hb => by have hb := Blk_map.1 hb; simpa [blk] using hb.symm)
    (fun P => ⟨w.heap.size, #[], 0, by simp [setB], heap_alloc_new w _, .nil⟩)
  refine wp_val (v := .map (some w.heap.size)) (w' := w.alloc (.map #[] 0)) ?_ (hK _ _ ⟨F, _, by rw [upd_cons]; exact T.1, by rw [upd_cons]; exact T.2, rfl, ⟨some (.map k e []), by simp [upd, look]⟩, fun ob _ => by simp [setB]⟩)
  simp [execOp, ho, Instr.makeMap]

theorem castM_id {k e k' e' : Ty} {m : List (Den k × Den e)} {m' : List (Den k' × Den e')} (hc : castM k e k' e' m = some m') {p : (k e : Ty) → List (Den k × Den e) → Prop} (h : p k e m) : p k' e' m' := by
  obtain ⟨g, g', rfl⟩ := castM_some hc
  subst g; subst g'; exact h

/-- where a map is looked at -/
theorem mapOf_sound (H : Inv w0 O0 F0 w F h β) {hh : Nat → Option Obj} (hhh : ∀ i ob, hh i = some ob → h i = some (some ob)) {k e : Ty} {c : C} {m : List (Den k × Den e)} (hm : mapOf hh k e c = some m) {u : Value} (hu : RepC w F h β c u) :
    ∃ b es clock, u = .map (some b) ∧ w.heap[b]? = some (.map es clock) ∧ All2 (Ent w F k e) m es.toList := by
  unfold mapOf at hm
  split at hm
  · rename_i i
    split at hm
    · rename_i k' e' m' hi
      have hi' := hhh _ _ hi
      have hob := H.obj _ _ hi'
      rw [hu.2.2 _ hi']
      refine castM_id (p := fun k e m => ∃ b es clock, β i = .map (some b) ∧ w.heap[b]? = some (.map es clock) ∧ All2 (Ent w F k e) m es.toList) hm hob
    · cases hm
  · rename_i k' e' m'
    refine castM_id (p := fun k e m => ∃ b es clock, u = .map (some b) ∧ w.heap[b]? = some (.map es clock) ∧ All2 (Ent w F k e) m es.toList) hm ?_
    obtain ⟨b, es, clock, e1, _, e2, e3⟩ := hu
    exact ⟨b, es, clock, by simpa using e1, e2, e3⟩
  · cases hm

theorem op_lookup (H : Inv w0 O0 F0 w F h β) (ht : TTok P TT) {hh : Nat → Option Obj} (hhh : ∀ i ob, hh i = some ob → h i = some (some ob)) {ty kt : TypeId} {k e : Ty} {ei : TI} {X Y : Operand} {ok : Bool} (ho : o.op = .lookup ty X Y ok)
    (hty : mapTy TT ty = some (kt, k, ei, e)) {c : C} {d : D} {m : List (Den k × Den e)} {x : Den k} {z : Den e} (hm : mapOf hh k e c = some m) (hd : denOf hh k d = some x) (hz : zeroDen ei e = some z) (hn : ownIds d.cells = [])
    (hc : RepC w F h β c (a.eval X)) (hy : RepD w F h β d (a.eval Y))
    (hK : ∀ v w', Out w0 O0 F0 w F h β a.tmps [] (bif ok then .tup [ofD e ((mget k e x m).getD z), .one (.r (.v (.bool (mget k e x m).isSome)))] else .d (ofD e ((mget k e x m).getD z))) v w' → K (a.put o.dst v) w') : o.wp P a w K Q := by
  obtain ⟨ti, et, zv, h1, h2, h3, h4, h5, h6, h7⟩ := mapTy_some hty
  have K4 := keyB_ok ht 4 kt k h4
  obtain ⟨b, es, clock, e1, e2, e3⟩ := mapOf_sound H hhh hm hc
  have hx : KV w F k x (a.eval Y) := denOf_sound H hhh (fun _ h => h) hd hy (fun i hi => by rw [hn] at hi; simp at hi)
  obtain ⟨r, f1, f2⟩ := find_run ht K4 (by omega) hx e3
  have hcheck := K4.check w F es.isEmpty 10000 x _ (by omega) hx
  have hund : (underlying ty).run P w = .ok (.map kt et) w := by rw [ht.run_under h1, h2]
  have hzero : (zeroValue et).run P w = .ok zv w := ht.run_zero h3 h6 w
  have main : ∀ (val : Value) (y : Den e) (fd : Bool), (execOp a.eval o).run P w = .ok (.value (if ok then .tuple #[val, .bool fd] else val)) w → KV w F e y val → (mget k e x m).getD z = y → (mget k e x m).isSome = fd → o.wp P a w K Q := by
    intro val y fd hr hy he hs
    have hD : RepD w F h β (ofD e y) val := KV_repD.1 hy
    refine op_quiet H (v := if ok then .tuple #[val, .bool fd] else val) hr ?_ hK
    cases ok
    · simp only [cond_false, Bool.false_eq_true, if_false, he]; exact hD
    · simp only [cond_true, if_true, he, hs]
      exact ⟨_, rfl, .cons hD (.cons ⟨rfl, rfl⟩ .nil)⟩
  rcases f2 with ⟨rfl, q1, q2⟩ | ⟨j, en, p, rfl, q1, q2, q3, q4, q5⟩
  · refine main zv z false ?_ (zeroDen_KV hz h6 h7) (by rw [q1]; rfl) (by rw [q1]; rfl)
    simp [execOp, ho, Instr.lookup, e1, hund, run_getObj_m e2, hcheck, f1, hzero]
  · obtain ⟨en', g1, g2⟩ := e3.get q2
    rw [q1] at g1; cases g1
    refine main en.val p.2 true ?_ ⟨g2.2.1, g2.2.2⟩ (by rw [q4]; rfl) (by rw [q4]; rfl)
    simp [execOp, ho, Instr.lookup, e1, hund, run_getObj_m e2, hcheck, f1]

theorem heap_setm {r : Nat} {o o' : Go.Obj} (hb : w.heap[r]? = some o) : (w.heap.setIfInBounds r o')[r]? = some o' ∧ ∀ r', r' ≠ r → (w.heap.setIfInBounds r o')[r']? = w.heap[r']? := by
  have hlt : r < w.heap.size := (Array.getElem?_eq_some_iff.1 hb).1
  exact ⟨by simp [hlt], fun r' hne => by simp [Ne.symm hne]⟩

theorem ent_set {k e : Ty} {m : List (Den k × Den e)} {es : Array MapEntry} (h : All2 (Ent w F k e) m es.toList) {j : Nat} {en : MapEntry} {q : Den k × Den e} {f : MapEntry → MapEntry} (hj : es[j]? = some en) (hq : Ent w F k e q (f en)) :
    All2 (Ent w F k e) (m.set j q) (es.modify j f).toList := by
  refine All2.of_get (by simp [h.len]) fun i p hp => ?_
  have hget : (es.modify j f).toList[i]? = if j = i then es[i]?.map f else es[i]? := by
    rw [Array.getElem?_toList, Array.getElem?_modify]
  rw [hget]
  rw [List.getElem?_set] at hp
  by_cases hji : j = i
  · subst hji
    rw [if_pos rfl] at hp ⊢
    split at hp
    · cases hp
      exact ⟨f en, by rw [hj]; rfl, hq⟩
    · cases hp
  · rw [if_neg hji] at hp ⊢
    obtain ⟨y, hy, hr⟩ := h.get hp
    exact ⟨y, by simpa using hy, hr⟩

theorem op_mapUpdate (H : Inv w0 O0 F0 w F h β) (ht : TTok P TT) {hh : Nat → Option Obj} (hhh : ∀ i ob, hh i = some ob → h i = some (some ob)) {ty kt : TypeId} {k e : Ty} {ei : TI} {X Y Z : Operand} (ho : o.op = .mapUpdate ty X Y Z ∨ o.op = .insert ty X Y Z)
    (hty : mapTy TT ty = some (kt, k, ei, e)) {i : Nat} {d dv : D} {m : List (Den k × Den e)} {x : Den k} {z : Den e} (hm : mapOf hh k e (.own i) = some m) (hd : denOf hh k d = some x) (hz : denOf hh e dv = some z) (hn : ownIds d.cells = []) (hni : elemNat i (ownIds dv.cells) = false)
    (hc : RepC w F h β (.own i) (a.eval X)) (hy : RepD w F h β d (a.eval Y)) (hv : RepD w F h β dv (a.eval Z))
    (hK : ∀ v w', Out w0 O0 F0 w F h β a.tmps ((i, some (.map k e (mset k e x z m))) :: dropIds (ownIds dv.cells)) .und v w' → K (a.put o.dst v) w') : o.wp P a w K Q := by
  obtain ⟨ti, et, zv, h1, h2, h3, h4, h5, h6, h7⟩ := mapTy_some hty
  have K4 := keyB_ok ht 4 kt k h4
  obtain ⟨b, es, clock, e1, e2, e3⟩ := mapOf_sound H hhh hm hc
  have hobj : ∃ ob, h i = some (some ob) ∧ β i = .map (some b) := by
    simp only [mapOf] at hm
    split at hm
    · rename_i hi
      have hi' := hhh _ _ hi
      exact ⟨_, hi', by rw [← hc.2.2 _ hi', e1]⟩
    · cases hm
  obtain ⟨ob, hi, hb⟩ := hobj
  have hx : KV w F k x (a.eval Y) := denOf_sound H hhh (fun _ h => h) hd hy (fun i hi => by rw [hn] at hi; simp at hi)
  obtain ⟨F1, H1, P1, hb1⟩ := H.freezes (ownIds dv.cells) fun j hj => RepD.pres hv j (ownIds_refs j hj)
  have hz1 : KV w F1 e z (a.eval Z) := denOf_sound H hhh P1.sub hz hv hb1
  have hx1 : KV w F1 k x (a.eval Y) := hx.mono (fun _ _ => rfl) P1.sub
  have e4 : All2 (Ent w F1 k e) m es.toList := e3.mono fun p en h => ⟨KV.mono (fun _ _ => rfl) P1.sub h.1, KV.mono (fun _ _ => rfl) P1.sub h.2⟩
  have hni' : i ∉ ownIds dv.cells := fun hm => by rw [elemNat_iff.2 hm] at hni; cases hni
  have hi1 : upd (dropIds (ownIds dv.cells)) h i = some (some ob) := by rw [upd_drop_ne hni']; exact hi
  obtain ⟨r, f1, f2⟩ := find_run ht K4 (by omega) hx1 e4
  have hcheck := K4.check w F false 10000 x _ (by omega) hx
  have hund : (underlying ty).run P w = .ok (.map kt et) w := by rw [ht.run_under h1, h2]
  have hblk : Blk (β i) b := by rw [hb]; exact Blk_map.2 rfl
  have main : ∀ (es' : Array MapEntry) (clock' : Nat), (execOp a.eval o).run P w = .ok .skip { w with heap := w.heap.setIfInBounds b (.map es' clock') } → All2 (Ent w F1 k e) (mset k e x z m) es'.toList → o.wp P a w K Q := by
    intro es' clock' hr he
    obtain ⟨s1, s2⟩ := heap_setm (o' := .map es' clock') e2
    have T := H1.turn (w' := { w with heap := w.heap.setIfInBounds b (.map es' clock') }) (F' := F1) i (some (.map k e (mset k e x z m))) (β i) rfl rfl rfl (by simp) (fun k => k = b)
      (fun k hk => by
        subst hk
        exact ⟨H1.notF i _ k hi1 hblk, fun j o' hj hj' hb' => hj (H1.apart j i o' _ k hj' hi1 hb' hblk), H1.fromO i _ k hi1 hblk⟩)
      (fun k _ hk => s2 k hk) (fun _ hf => hf) (fun _ hf => .inl hf) (fun q0 _ h0 _ => ⟨⟨_, by rw [hi1] at h0; exact (Option.some.inj h0).symm⟩, rfl⟩)
      (fun P ob' hob => by
        cases hob
        refine ⟨⟨b, es', clock', by simp [setB, hb], s1, he.mono fun p en h => ⟨KV.mono P.blocks P.sub h.1, KV.mono P.blocks P.sub h.2⟩⟩, fun k hk => ?_⟩
        rw [hb] at hk
        have hk := Blk_map.1 hk
        exact .inl (by simpa [blk] using hk.symm))
    rw [setB_self] at T
    exact wp_skp hr (hK _ _ ⟨F1, β, by rw [upd_cons]; exact T.1, by rw [upd_cons]; exact P1.trans T.2, rfl⟩)
  have hop : ∀ w', (Instr.mapUpdate ty (a.eval X) (a.eval Y) (a.eval Z)).run P w = .ok () w' → (execOp a.eval o).run P w = .ok .skip w' := fun w' hr => by
    rcases ho with ho | ho <;> simp [execOp, ho, hr]
  rcases f2 with ⟨rfl, q1, q2⟩ | ⟨j, en, p, rfl, q1, q2, q3, q4, q5⟩
  · refine main (es.push { key := a.eval Y, val := a.eval Z, born := clock }) (clock + 1) ?_ ?_
    · apply hop
      simp [Instr.mapUpdate, e1, hund, run_getObj_m e2, hcheck, f1, run_setObj_m _ e2]
    · rw [q2, Array.toList_push]
      exact e4.append (.cons ⟨hx1, hz1⟩ .nil)
  · have hj : es[j]? = some en := by simpa using q1
    obtain ⟨en', g1, g2⟩ := e4.get q2
    rw [q1] at g1; cases g1
    have hkey : en.key = a.eval Y := (KV_same h5 hx1 g2.1 q3).symm
    have hstay : (Instr.keyThatStays en.key (a.eval Y)).run P w = .ok (a.eval Y) w := by
      simp [Instr.keyThatStays, hkey, KV_bits h5 hx]
    refine main (es.modify j fun e => { e with key := a.eval Y, val := a.eval Z }) clock ?_ ?_
    · apply hop
      simp [Instr.mapUpdate, e1, hund, run_getObj_m e2, hcheck, f1, hj, hstay, run_setObj_m _ e2]
    · rw [q5]
      exact ent_set e4 hj ⟨hx1, hz1⟩
end
end Go.Proofs.YthhmpjnmmhfngaaDoor.Ev
