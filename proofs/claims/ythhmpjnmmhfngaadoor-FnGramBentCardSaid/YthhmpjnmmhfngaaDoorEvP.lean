/-
  One operation of a region, over what is known of temporaries and objects as functions.
-/
import Derived.Test.YthhmpjnmmhfngaaDoorEvOu
namespace Go.Proofs.YthhmpjnmmhfngaaDoor.Ev
open Go

abbrev EF := Nat → Option T

def alv (h : HF) (i : Nat) : Option Obj := match h i with | some (some o) => some o | _ => none

def evOpdF (E : EF) : Operand → Option T
  | .tmp t => E t
  | .const v => evConst v
  | .func f => some (.d (.one (.fn f [])))
  | .global _ => none

def opdsF (E : EF) (g : Option (Nat × Bool)) (o : Oper) : Option (List T) := allSome (o.op.operands.toList.map fun x => (evOpdF E x).map (unwrap g))

def holdsF (E : EF) : Nat → Nat → Bool → Option Bool
  | 0, _, _ => none
  | k + 1, s, w => match E s with
    | some .und => some false
    | some (.d (.one (.r (.v (.bool b))))) => some (b == w)
    | some (.when s' w' (.one (.r (.v (.bool b))))) => match holdsF E k s' w' with
      | some v => some (v && (b == w))
      | none => none
    | _ => none

def putF (E : EF) (dst : Option Nat) (x : T) : EF := match dst with | some t => fun j => if j = t then some x else E j | none => E

def okC (c : Option Bool) : Prop := c = none ∨ c = some true

def PutOk (cx : Cx) (o : Oper) (E : EF) : Prop := ∀ t, o.dst = some t → t < cx.size ∧ (∀ j s w y, E j = some (.when s w y) → s ≠ t) ∧ ∀ s w y, E t ≠ some (.when s w y)

def UpsOk (ids : List Nat) (o : Oper) (h : HF) (ups : Ups) : Prop := ∀ i q, (i, q) ∈ ups → (∃ t, o.dst = some t ∧ isNew t i = true ∧ h i = none) ∨ (i ∈ ids ∧ isNew (o.dst.getD 0) i = false ∧ ∃ p, h i = some p)

/-- an operation takes what is known to what is known -/
inductive Ran (cx : Cx) (ops : Array Oper) (o : Oper) (E : EF) (h : HF) : EF → HF → Marks → Prop
  | all {xs : List T} {c : Option Bool} {x : T} {ups : Ups} : (o.guard = none ∨ ∃ g want d, o.guard = some (g, want) ∧ (ops[g]?).bind (·.dst) = some d ∧ holdsF E 20 d want = some true) →
      opdsF E none o = some xs → evOpT cx.TT cx.Γ o xs (within (alv h) (foot o xs (alv h))) = some (c, x, ups) → okC c → UpsOk (foot o xs (alv h)) o h ups → PutOk cx o E → isWhen x = false →
      Ran cx ops o E h (putF E o.dst x) (upd ups h) ⟨o, foot o xs (alv h), ups.map (·.1)⟩
  | cond {g : Nat} {want : Bool} {d : Nat} {v : Bool} {xs : List T} {c : Option Bool} {x : D} : o.guard = some (g, want) → (ops[g]?).bind (·.dst) = some d → holdsF E 20 d want = some v →
      opdsF E (some (d, want)) o = some xs → evOpT cx.TT cx.Γ o xs (within (alv h) (foot o xs (alv h))) = some (c, .d x, []) → (v = true → okC c) → PutOk cx o E → o.dst ≠ some d →
      Ran cx ops o E h (putF E o.dst (.when d want x)) h ⟨o, foot o xs (alv h), []⟩
  | skip {g : Nat} {want : Bool} {d : Nat} : o.guard = some (g, want) → (ops[g]?).bind (·.dst) = some d → holdsF E 20 d want = some false → PutOk cx o E →
      Ran cx ops o E h (putF E o.dst .und) h ⟨o, [], []⟩

/-- what is known of temporaries holds -/
structure ER (cx : Cx) (E : EF) (a : Act) (w : World) (F : Nat → Prop) (h : HF) (β : Nat → Value) : Prop where
  size : a.tmps.size = cx.size
  defers : a.defers = []
  rep : ∀ t x, E t = some x → t < cx.size ∧ RepX a.tmps w F h β x (a.tmps.getD t undef)

section
variable {P : Program} {cx : Cx} {w0 w : World} {O0 F0 F : Nat → Prop} {h : HF} {β : Nat → Value} {a : Act} {o : Oper} {E : EF}

theorem ER.per (R : ER cx E a w F h β) {w' : World} {F' : Nat → Prop} {h' : HF} {β' : Nat → Value} (p : Per w F h β w' F' h' β') : ER cx E a w' F' h' β' :=
  ⟨R.size, R.defers, fun t x hx => ⟨(R.rep t x hx).1, p.repX (R.rep t x hx).2⟩⟩

theorem RepX.setTm {tm : Array Value} {t : Nat} {v : Value} {x : T} {u : Value} (hx : ∀ s w y, x = .when s w y → s ≠ t) (hr : RepX tm w F h β x u) : RepX (tm.setIfInBounds t v) w F h β x u := by
  cases x with
  | when s b y =>
    have hne := hx s b y rfl
    have : (tm.setIfInBounds t v)[s]? = tm[s]? := Array.getElem?_setIfInBounds_ne (Ne.symm hne)
    simp only [RepX, this]
    exact hr
  | _ => exact hr

theorem ER.put (R : ER cx E a w F h β) (hp : PutOk cx o E) {x : T} {v : Value} (hx : RepX a.tmps w F h β x v) (hw : ∀ t, o.dst = some t → ∀ s b y, x = .when s b y → s ≠ t) : ER cx (putF E o.dst x) (a.put o.dst v) w F h β := by
  cases hd : o.dst with
  | none => exact R
  | some t =>
    obtain ⟨ht, hno, _⟩ := hp t hd
    refine ⟨by simp [Act.put, R.size], R.defers, fun j y hy => ?_⟩
    simp only [putF] at hy
    by_cases e : j = t
    · subst e
      simp only [if_true, Option.some.injEq] at hy
      subst hy
      refine ⟨ht, ?_⟩
      have : (a.put (some j) v).tmps.getD j undef = v := by
        have : j < a.tmps.size := by rw [R.size]; exact ht
        simp [Act.put, this]
      rw [this]
      exact RepX.setTm (hw j hd) hx
    · rw [if_neg e] at hy
      obtain ⟨h1, h2⟩ := R.rep j y hy
      refine ⟨h1, ?_⟩
      have : (a.put (some t) v).tmps.getD j undef = a.tmps.getD j undef := by
        simp [Act.put, Array.getElem?_setIfInBounds_ne (Ne.symm e)]
      rw [this]
      exact RepX.setTm (fun s w z e' => hno j s w z (e' ▸ hy)) h2

theorem evOpd_sound (R : ER cx E a w F h β) {X : Operand} {x : T} (hx : evOpdF E X = some x) : RepX a.tmps w F h β x (a.eval X) := by
  cases X with
  | tmp t => exact (R.rep t x hx).2
  | const v => exact evConst_sound hx
  | func f =>
    simp only [evOpdF, Option.some.injEq] at hx
    subst hx
    exact ⟨rfl, fun i hi => by simp at hi, fun _ => rfl⟩
  | global g => cases hx

theorem opds_sound (R : ER cx E a w F h β) {g : Option (Nat × Bool)} (hg : ∀ s b, g = some (s, b) → a.tmps[s]? = some (.bool b)) {xs : List T} (hx : opdsF E g o = some xs) : All2 (RepX a.tmps w F h β) xs (o.op.operands.toList.map a.eval) := by
  have hm := allSome_map hx
  rw [All2.map_r]
  refine hm.mono fun y X hy => ?_
  simp only [Option.map_eq_some_iff] at hy
  obtain ⟨z, hz, rfl⟩ := hy
  have hr := evOpd_sound R hz
  cases z with
  | when s b y =>
    simp only [unwrap]
    split
    · rename_i s' b'
      cases hc : (Nat.beq s s' && (b == b'))
      · exact hr
      · simp only [Bool.and_eq_true, beq_iff_eq] at hc
        have e := Nat.eq_of_beq_eq_true hc.1
        obtain ⟨_, e2⟩ := hc
        subst e
        subst e2
        exact hr.1 (hg s b rfl)
    · exact hr
  | _ => exact hr

theorem holds_sound (R : ER cx E a w F h β) : ∀ (k s : Nat) (b v : Bool), holdsF E k s b = some v → (a.tmps[s]? = some (.bool b) ↔ v = true)
  | 0, s, b, v, hh => by cases hh
  | k + 1, s, b, v, hh => by
    simp only [holdsF] at hh
    have hget : ∀ {x}, E s = some x → s < a.tmps.size ∧ RepX a.tmps w F h β x (a.tmps.getD s undef) := fun hx => by rw [R.size]; exact R.rep s _ hx
    have hat : ∀ {u : Value}, s < a.tmps.size → a.tmps.getD s undef = u → a.tmps[s]? = some u := fun hs hu => by
      rw [← hu]; simp [hs]
    split at hh
    · rename_i hE
      cases hh
      obtain ⟨h1, h2⟩ := hget hE
      rw [hat h1 h2]
      simp [undef]
    · rename_i b' hE
      cases hh
      obtain ⟨h1, h2⟩ := hget hE
      rw [hat h1 h2.1]
      simp
    · rename_i s' w' b' hE
      split at hh
      · rename_i v' hv
        cases hh
        have ih := holds_sound R k s' w' v' hv
        obtain ⟨h1, h2⟩ := hget hE
        cases v' with
        | true =>
          have := ih.2 rfl
          rw [hat h1 (h2.1 this).1]
          simp
        | false =>
          have : a.tmps[s']? ≠ some (.bool w') := fun e => by have := ih.1 e; cases this
          rw [hat h1 (h2.2 this)]
          simp [undef]
      · cases hh
    · cases hh

theorem yielded_at {ops : Array Oper} {g d : Nat} {tm : Array Value} {b : Bool} (hd : (ops[g]?).bind (·.dst) = some d) : yielded ops tm g = some b ↔ tm[d]? = some (.bool b) := by
  unfold yielded
  rw [hd]
  simp only [Option.bind_some]
  constructor
  · intro hy
    split at hy
    · rename_i hq; cases hy; exact hq
    · cases hy
  · intro hy; rw [hy]

/-- passed objects lie where they lay -/
def Stay (m : Nat) (β0 : Nat → Value) (h : HF) (β : Nat → Value) : Prop := ∀ i o, i < m → h i = some (some o) → β i = β0 i

theorem isNew_big {t i : Nat} (h : isNew t i = true) : 1000 ≤ i := by
  simp only [isNew, sid, Bool.and_eq_true, Nat.ble_eq] at h; omega

theorem Ran.old {ops : Array Oper} {E' : EF} {h' : HF} {k : Marks} (hran : Ran cx ops o E h E' h' k) {i : Nat} {ob : Obj} (hi : i < 1000) (ho : h' i = some (some ob)) : ∃ q, h i = some q := by
  cases hran with
  | @all xs c x ups hg hxs he hc hu hp hnw =>
    simp only [upd] at ho
    split at ho
    · rename_i q hq
      have : (i, q) ∈ ups := by
        clear ho hu he
        induction ups with
        | nil => simp [look] at hq
        | cons p l ih =>
          obtain ⟨k, y⟩ := p
          simp only [look] at hq
          cases hb : Nat.beq k i
          · rw [hb] at hq; exact List.mem_cons_of_mem _ (ih hq)
          · rw [hb] at hq
            have e := Nat.eq_of_beq_eq_true hb
            simp only [cond_true, Option.some.injEq] at hq
            subst e; subst hq
            exact List.mem_cons_self ..
      rcases hu i q this with ⟨t, _, h2, _⟩ | ⟨_, _, h3⟩
      · have := isNew_big h2; omega
      · exact h3
    · exact ⟨_, ho⟩
  | cond => exact ⟨_, ho⟩
  | skip => exact ⟨_, ho⟩

theorem Stay.per {m : Nat} {β0 : Nat → Value} (S : Stay m β0 h β) {w' : World} {F' : Nat → Prop} {h' : HF} {β' : Nat → Value} (p : Per w F h β w' F' h' β') (hm : m ≤ 1000) (hold : ∀ i ob, i < 1000 → h' i = some (some ob) → ∃ q, h i = some q) : Stay m β0 h' β' := by
  intro i ob hi ho
  obtain ⟨q, hq⟩ := hold i ob (by omega) ho
  obtain ⟨⟨o', rfl⟩, e⟩ := p.back i q ob hq ho
  rw [e]; exact S i o' hi hq

/-- What is told of one operation is so, whatever comes behind it. -/
theorem Ran.wp {n : Nat} {β0 : Nat → Value} (hn : n ≤ 1000) (hTT : TTok P cx.TT) (hΓ : EnvOk P cx.Γ) {ops : Array Oper} {i : Nat} (hi : ops[i]? = some o) {E' : EF} {h' : HF} {m : Marks} (hran : Ran cx ops o E h E' h' m) (H : Inv w0 O0 F0 w F h β) (S : Stay n β0 h β) (R : ER cx E a w F h β) {K : Act → World → Prop} {Q : Exit → Act → World → Prop}
    (hK : ∀ a' w' F' β', Inv w0 O0 F0 w' F' h' β' → Stay n β0 h' β' → ER cx E' a' w' F' h' β' → K a' w') : wpOp P ops Q i K a w := by
  have hwith : ∀ (ids : List Nat) i ob, within (alv h) ids i = some ob → h i = some (some ob) := fun ids i ob hw => by
    unfold within at hw
    cases he : elemNat i ids
    · rw [he] at hw; cases hw
    · rw [he] at hw
      simp only [cond_true, alv] at hw
      split at hw
      · rename_i e; cases hw; exact e
      · cases hw
  have hnewOf : ∀ {ids ups}, UpsOk ids o h ups → ∀ j q, (j, q) ∈ ups → isNew (o.dst.getD 0) j = true → h j = none := fun hu j q hj hn => by
    rcases hu j q hj with ⟨t, _, _, h3⟩ | ⟨_, h2, _⟩
    · exact h3
    · rw [hn] at h2; cases h2
  have hold := fun i ob => hran.old (i := i) (ob := ob)
  unfold wpOp
  rw [hi]
  dsimp only
  cases hran with
  | all hg hxs he hc hu hp hnw =>
    rename_i xs c x ups
    have hwanted : Region.wanted o (yielded ops a.tmps) = true := by
      unfold Region.wanted
      rcases hg with hg | ⟨g, want, d, hg, hd, hh⟩
      · rw [hg]
      · rw [hg]
        have := (holds_sound R 20 d want true hh).2 rfl
        simp only [(yielded_at hd).2 this, beq_self_eq_true]
    simp only [hwanted, if_true]
    refine .inl (evOpT_sound H hTT hΓ (hwith _) he hc (opds_sound R (fun s b e => by cases e) hxs) (hnewOf hu) fun v w' hout => ?_)
    obtain ⟨F', β', h1, h2, h3⟩ := hout
    exact hK _ w' F' β' h1 (S.per h2 hn hold) ((R.per h2).put hp h3 fun t _ s b y e => by subst e; cases hnw)
  | cond hg hd hh hxs he hc hp hne =>
    rename_i g want d v xs c x
    have hiff := holds_sound R 20 d want v hh
    have hw : Region.wanted o (yielded ops a.tmps) = decide (yielded ops a.tmps g = some want) := by
      unfold Region.wanted
      rw [hg]
      simp only []
      by_cases e : yielded ops a.tmps g = some want
      · simp [e]
      · simp [e]
    by_cases hy : a.tmps[d]? = some (.bool want)
    · have hv := hiff.1 hy
      rw [hw, decide_eq_true ((yielded_at hd).2 hy)]
      simp only [if_true]
      refine .inl (evOpT_sound H hTT hΓ (hwith _) he (hc hv) (opds_sound R (fun s b e => by cases e; exact hy) hxs) (fun j q hj => by simp at hj) fun u w' hout => ?_)
      obtain ⟨F', β', h1, h2, h3⟩ := hout
      rw [upd_nil] at h1 h2 h3
      exact hK _ w' F' β' h1 (S.per h2 hn hold) ((R.per h2).put hp (x := .when d want x) ⟨fun _ => h3, fun e => absurd hy e⟩ fun t ht s b y e => by cases e; exact fun e => hne (by rw [ht, e]))
    · rw [hw, decide_eq_false (fun e => hy ((yielded_at hd).1 e))]
      simp only [Bool.false_eq_true, if_false]
      exact hK _ w F β H S (R.put hp (x := .when d want x) ⟨fun e => absurd e hy, fun _ => rfl⟩ fun t ht s b y e => by cases e; exact fun e => hne (by rw [ht, e]))
  | skip hg hd hh hp =>
    rename_i g want d
    have hiff := holds_sound R 20 d want false hh
    have hy : a.tmps[d]? ≠ some (.bool want) := fun e => by have := hiff.1 e; cases this
    have hw : Region.wanted o (yielded ops a.tmps) = false := by
      unfold Region.wanted
      rw [hg]
      simp only []
      have : yielded ops a.tmps g ≠ some want := fun e => hy ((yielded_at hd).1 e)
      simpa using this
    rw [hw]
    simp only [Bool.false_eq_true, if_false]
    exact hK _ w F β H S (R.put hp (x := .und) rfl fun t _ s b y e => by cases e)
end
end Go.Proofs.YthhmpjnmmhfngaaDoor.Ev
