/-
  Regions: operations behind one another, and in any order that the edges leave open.
-/
import Derived.Test.YthhmpjnmmhfngaaDoorEvP
namespace Go.Proofs.YthhmpjnmmhfngaaDoor.Ev
open Go

theorem evOpd_eq (env : List (Nat × T)) (X : Operand) : evOpd env X = evOpdF (look env) X := by cases X <;> rfl
theorem opds_eq (env : List (Nat × T)) (g : Option (Nat × Bool)) (o : Oper) : opds env g o = opdsF (look env) g o := by
  unfold opds opdsF
  simp only [evOpd_eq]
theorem holds_eq (env : List (Nat × T)) : ∀ (k s : Nat) (b : Bool), holds env k s b = holdsF (look env) k s b
  | 0, _, _ => rfl
  | k + 1, s, b => by
    simp only [holds, holdsF]
    split <;> simp_all
    rename_i s' w' b' _
    rw [holds_eq env k s' w']
    cases holdsF (look env) k s' w' <;> rfl
theorem live_eq (h : Heap) : live h = alv (look h) := by
  funext i
  unfold live alv
  rfl

theorem look_put (st : St) (dst : Option Nat) (x : T) : look (st.put dst x).env = putF (look st.env) dst x ∧ (st.put dst x).heap = st.heap := by
  cases dst with
  | none => exact ⟨rfl, rfl⟩
  | some t =>
    refine ⟨?_, rfl⟩
    funext j
    simp only [St.put, look, putF]
    cases hb : Nat.beq t j
    · have : j ≠ t := fun e => by subst e; simp at hb
      simp [this]
    · have := Nat.eq_of_beq_eq_true hb
      simp [this]

theorem noWhen_sound {t : Nat} : ∀ {env : List (Nat × T)}, noWhen t env = true → ∀ j s w y, look env j = some (.when s w y) → s ≠ t
  | [], _, j, s, w, y, hl => by simp [look] at hl
  | (k, x) :: l, hn, j, s, w, y, hl => by
    have hrest : noWhen t l = true := by
      unfold noWhen at hn
      split at hn
      · rename_i e; cases e
      · rename_i e; cases e
        cases hb : Nat.beq _ t <;> rw [hb] at hn
        · exact hn
        · cases hn
      · rename_i e; cases e; exact hn
    simp only [look] at hl
    cases hb : Nat.beq k j
    · rw [hb] at hl; exact noWhen_sound hrest j s w y hl
    · rw [hb] at hl
      simp only [cond_true, Option.some.injEq] at hl
      subst hl
      unfold noWhen at hn
      cases hb2 : Nat.beq s t
      · intro e; subst e; simp at hb2
      · simp only [hb2] at hn; cases hn

/-- no entry hangs on a slot -/
def Clean (E : EF) : Prop := ∀ j s w y, E j ≠ some (.when s w y)

theorem upsOk_sound {ids : List Nat} {o : Oper} {h : Heap} : ∀ {ups : Ups}, upsOk ids o h ups = true → UpsOk ids o (look h) ups
  | [], _, i, q, hm => by simp at hm
  | (k, r) :: l, hu, i, q, hm => by
    simp only [upsOk, Bool.and_eq_true] at hu
    rcases List.mem_cons.1 hm with e | hm
    · cases e
      have h1 := hu.1
      split at h1
      · rename_i t ht
        cases hb : isNew t k
        · rw [hb] at h1
          simp only [cond_false, Bool.and_eq_true] at h1
          refine .inr ⟨elemNat_iff.1 h1.1, by rw [ht]; exact hb, ?_⟩
          have h2 := h1.2
          unfold missing at h2
          cases hl : look h k with
          | none => rw [hl] at h2; cases h2
          | some q' => exact ⟨q', rfl⟩
        · rw [hb] at h1
          simp only [cond_true, missing] at h1
          split at h1
          · rename_i e; exact .inl ⟨t, ht, hb, e⟩
          · cases h1
      · rename_i ht
        cases hb : isNew 0 k
        · rw [hb] at h1
          simp only [cond_false, Bool.and_eq_true] at h1
          refine .inr ⟨elemNat_iff.1 h1.1, by rw [ht]; exact hb, ?_⟩
          have h2 := h1.2
          unfold missing at h2
          cases hl : look h k with
          | none => rw [hl] at h2; cases h2
          | some q' => exact ⟨q', rfl⟩
        · rw [hb] at h1; cases h1
    · exact upsOk_sound hu.2 i q hm

theorem putOk_sound {gd : Bool} {cx : Cx} {o : Oper} {env : List (Nat × T)} (hc : gd = false → Clean (look env)) (hp : putOk gd cx o env = true) : PutOk cx o (look env) := by
  intro t ht
  unfold putOk at hp
  rw [ht] at hp
  simp only [Bool.and_eq_true] at hp
  obtain ⟨h1, h2⟩ := hp
  refine ⟨by simpa using h1, ?_⟩
  cases gd with
  | false => exact ⟨fun j s w y e => absurd e (hc rfl j s w y), fun s w y e => hc rfl t s w y e⟩
  | true =>
    simp only [cond_true, Bool.and_eq_true] at h2
    refine ⟨noWhen_sound h2.1, fun s w y e => ?_⟩
    have := h2.2
    rw [e] at this
    cases this

theorem isWhen_iff {x : T} (h : isWhen x = false) : ∀ s w y, x ≠ .when s w y := by
  intro s w y e; subst e; cases h

theorem clean_put {E : EF} (hc : Clean E) (dst : Option Nat) {x : T} (hx : ∀ s w y, x ≠ .when s w y) : Clean (putF E dst x) := by
  intro j s w y
  cases dst with
  | none => exact hc j s w y
  | some t =>
    simp only [putF]
    split
    · intro e; exact hx s w y (Option.some.inj e)
    · exact hc j s w y

theorem choice_some {c : Option Bool} {x : Option Fin} {r : Fin} (h : choice c x = some r) : okC c ∧ x = some r := by
  unfold choice at h
  split at h
  · exact ⟨.inl rfl, h⟩
  · rename_i b
    unfold branch at h
    cases b
    · cases h
    · exact ⟨.inr rfl, h⟩

theorem choiceIf_some {v : Bool} {c : Option Bool} {x : Option Fin} {r : Fin} (h : choiceIf v c x = some r) : (v = true → okC c) ∧ x = some r := by
  unfold choiceIf at h
  split at h
  · exact ⟨fun _ => .inl rfl, h⟩
  · rename_i b
    unfold branch at h
    cases v
    · exact ⟨fun e => (by cases e), h⟩
    · cases b
      · cases h
      · exact ⟨fun _ => .inr rfl, h⟩

section
variable {cx : Cx} {ops : Array Oper} {o : Oper} {r : Fin}

theorem run1_some {gd : Bool} {st : St} {K : St → Marks → Option Fin} (h : run1 cx gd o st K = some r) (hc : gd = false → Clean (look st.env))
    (hg : o.guard = none ∨ ∃ g want d, o.guard = some (g, want) ∧ (ops[g]?).bind (·.dst) = some d ∧ holdsF (look st.env) 20 d want = some true) :
    ∃ st' m, Ran cx ops o (look st.env) (look st.heap) (look st'.env) (look st'.heap) m ∧ K st' m = some r ∧ m.op = o ∧ (gd = false → Clean (look st'.env)) := by
  unfold run1 at h
  split at h
  · cases h
  · rename_i xs hxs
    dsimp only at h
    split at h
    · cases h
    · rename_i c x ups he
      split at h
      · rename_i hck
        simp only [Bool.and_eq_true, Bool.not_eq_true'] at hck
        obtain ⟨⟨k1, k2⟩, k3⟩ := hck
        obtain ⟨g1, g2⟩ := choice_some h
        obtain ⟨p1, p2⟩ := look_put (St.mk st.env (ups ++ st.heap)) o.dst x
        rw [opds_eq] at hxs
        rw [live_eq] at he k1
        refine ⟨_, _, ?_, g2, rfl, fun e => ?_⟩
        · rw [p1, p2, look_upd, live_eq]
          exact .all hg hxs he g1 (upsOk_sound k1) (putOk_sound hc k2) k3
        · rw [p1]; exact clean_put (hc e) _ (isWhen_iff k3)
      · cases h

theorem run2_some {st : St} {g : Nat} {d : Nat} {w : Bool} {K : St → Marks → Option Fin} (hg : o.guard = some (g, w)) (hd : (ops[g]?).bind (·.dst) = some d) (h : run2 cx d w o st K = some r) :
    ∃ st' m, Ran cx ops o (look st.env) (look st.heap) (look st'.env) (look st'.heap) m ∧ K st' m = some r ∧ m.op = o := by
  unfold run2 at h
  split at h
  · cases h
  · rename_i v hv
    split at h
    · cases h
    · rename_i xs hxs
      dsimp only at h
      split at h
      · rename_i c x he
        split at h
        · rename_i hck
          simp only [Bool.and_eq_true] at hck
          obtain ⟨k1, k2⟩ := hck
          obtain ⟨g1, g2⟩ := choiceIf_some h
          obtain ⟨p1, p2⟩ := look_put st o.dst (.when d w x)
          rw [opds_eq] at hxs
          rw [live_eq] at he
          rw [holds_eq] at hv
          refine ⟨_, _, ?_, g2, rfl⟩
          rw [p1, p2, live_eq]
          refine .cond hg hd hv hxs he g1 (putOk_sound (fun e => by cases e) k1) ?_
          intro e
          unfold dstNe at k2
          rw [e] at k2
          simp at k2
        · cases h
      · cases h

theorem step_some {gd part : Bool} {st : St} {K : St → Marks → Option Fin} (h : step cx gd part ops o st K = some r) (hc : gd = false → Clean (look st.env)) (hgd : gd = false → o.guard = none) :
    ∃ st' m, Ran cx ops o (look st.env) (look st.heap) (look st'.env) (look st'.heap) m ∧ K st' m = some r ∧ m.op = o ∧ (gd = false → Clean (look st'.env)) := by
  unfold step at h
  split at h
  · rename_i hg
    exact run1_some h hc (.inl hg)
  · rename_i g want hg
    have hgd' : gd = true := by
      cases gd with
      | true => rfl
      | false => rw [hgd rfl] at hg; cases hg
    subst hgd'
    split at h
    · cases h
    · rename_i d hd
      split at h
      · obtain ⟨st', m, h1, h2, h3⟩ := run2_some hg hd h
        exact ⟨st', m, h1, h2, h3, fun e => by cases e⟩
      · split at h
        · rename_i v hv
          unfold branch at h
          rw [holds_eq] at hv
          cases v with
          | true => exact run1_some h hc (.inr ⟨g, want, d, hg, hd, hv⟩)
          | false =>
            simp only [cond_false] at h
            cases hp : putOk true cx o st.env with
            | false => rw [hp] at h; cases h
            | true =>
              rw [hp] at h
              simp only [cond_true] at h
              obtain ⟨p1, p2⟩ := look_put st o.dst .und
              refine ⟨_, _, ?_, h, rfl, fun e => by cases e⟩
              rw [p1, p2]
              exact .skip hg hd hv (putOk_sound (fun e => by cases e) hp)
        · cases h

/-- operations behind one another -/
inductive RanL (cx : Cx) (ops : Array Oper) : List Oper → EF → HF → EF → HF → List Marks → Prop
  | nil {E h} : RanL cx ops [] E h E h []
  | cons {o l E h E1 h1 E2 h2 m ms} : Ran cx ops o E h E1 h1 m → m.op = o → RanL cx ops l E1 h1 E2 h2 ms → RanL cx ops (o :: l) E h E2 h2 (m :: ms)

theorem steps_some {gd part : Bool} : ∀ {l : List Oper} {st : St} {K : St → List Marks → Option Fin}, steps cx gd part ops l st K = some r → (gd = false → Clean (look st.env)) → (gd = false → ∀ o ∈ l, o.guard = none) →
    ∃ st' ms, RanL cx ops l (look st.env) (look st.heap) (look st'.env) (look st'.heap) ms ∧ K st' ms = some r ∧ (gd = false → Clean (look st'.env))
  | [], st, K, h, hc, _ => ⟨st, [], .nil, h, hc⟩
  | o :: l, st, K, h, hc, hgd => by
    simp only [steps] at h
    obtain ⟨st1, m, h1, h2, h3, h4⟩ := step_some h hc fun e => hgd e o (List.mem_cons_self ..)
    obtain ⟨st2, ms, g1, g2, g3⟩ := steps_some h2 h4 fun e o' ho' => hgd e o' (List.mem_cons_of_mem _ ho')
    exact ⟨st2, m :: ms, .cons h1 h3 g1, g2, g3⟩
end

/-! ### in any order -/
theorem disj_iff {a b : List Nat} : disj a b = true ↔ ∀ i ∈ a, i ∉ b := by
  simp only [disj, List.all_eq_true, Bool.not_eq_true']
  constructor
  · intro h i hi hb
    have := h i hi
    rw [elemNat_iff.2 hb] at this; cases this
  · intro h i hi
    cases hb : elemNat i b
    · rfl
    · exact absurd (elemNat_iff.1 hb) (h i hi)

theorem look_none {ups : Ups} {i : Nat} (h : i ∉ ups.map (·.1)) : look ups i = none := by
  induction ups with
  | nil => rfl
  | cons p l ih =>
    obtain ⟨k, q⟩ := p
    simp only [List.map_cons, List.mem_cons, not_or] at h
    simp only [look]
    cases hb : Nat.beq k i
    · exact ih h.2
    · exact absurd (Nat.eq_of_beq_eq_true hb).symm h.1

theorem upd_none {ups : Ups} {h : HF} {i : Nat} (hi : i ∉ ups.map (·.1)) : upd ups h i = h i := by simp [upd, look_none hi]

theorem upd_comm {a b : Ups} (hd : ∀ i ∈ a.map (·.1), i ∉ b.map (·.1)) (h : HF) : upd a (upd b h) = upd b (upd a h) := by
  funext i
  by_cases ha : i ∈ a.map (·.1)
  · have hb := hd i ha
    rw [upd_none hb]
    simp only [upd, look_none hb]
  · rw [upd_none ha]
    simp only [upd, look_none ha]

theorem closure_congr {h h' : Nat → Option Obj} : ∀ (k : Nat) (l : List Nat), (∀ i ∈ closure h k l, h i = h' i) → closure h' k l = closure h k l
  | 0, _, _ => rfl
  | k + 1, l, hh => by
    simp only [closure] at hh ⊢
    have e : l.flatMap (hget h') = l.flatMap (hget h) := by
      rw [List.flatMap_def, List.flatMap_def]
      congr 1
      apply List.map_congr_left
      intro i hi
      have := hh i (closure_self h k _ i (mem_addNew.2 (.inl hi)))
      simp only [hget, this]
    rw [e]
    exact closure_congr k _ hh

theorem foot_congr {o : Oper} {xs : List T} {h h' : Nat → Option Obj} (hh : ∀ i ∈ foot o xs h, h i = h' i) : foot o xs h' = foot o xs h := by
  unfold foot at hh ⊢
  split
  all_goals first | rfl | skip
  rename_i c hc
  rw [hc] at hh
  dsimp only at hh
  split
  · rfl
  · rename_i hn
    split at hh
    · rename_i b hb; exact absurd hb (hn b)
    · exact closure_congr 3 _ hh

theorem within_congr {h h' : Nat → Option Obj} {ids : List Nat} (hh : ∀ i ∈ ids, h i = h' i) : within h' ids = within h ids := by
  funext i
  unfold within
  cases he : elemNat i ids
  · rfl
  · rw [hh i (elemNat_iff.1 he)]

theorem putF_ne {E : EF} {dst : Option Nat} {x : T} {j : Nat} (h : dst ≠ some j) : putF E dst x j = E j := by
  cases dst with
  | none => rfl
  | some t => simp only [putF]; rw [if_neg]; intro e; exact h (by rw [e])

theorem putF_comm {E : EF} {d1 d2 : Option Nat} {x1 x2 : T} (h : ∀ d, d1 = some d → d2 ≠ some d) : putF (putF E d1 x1) d2 x2 = putF (putF E d2 x2) d1 x1 := by
  cases d1 with
  | none => rfl
  | some a => cases d2 with
    | none => rfl
    | some b =>
      have hab : a ≠ b := fun e => h a rfl (by rw [e])
      funext j
      simp only [putF]
      split <;> split <;> simp_all

theorem opdsF_congr {E E' : EF} {g : Option (Nat × Bool)} {o : Oper} (h : ∀ t, Operand.tmp t ∈ o.op.operands.toList → E' t = E t) : opdsF E' g o = opdsF E g o := by
  unfold opdsF
  congr 1
  apply List.map_congr_left
  intro x hx
  cases x with
  | tmp t => simp only [evOpdF, h t hx]
  | _ => rfl

theorem holdsF_congr {E E' : EF} {t : Option Nat} (h : ∀ j, t ≠ some j → E' j = E j) (hno : ∀ j s w y, E j = some (.when s w y) → t ≠ some s) : ∀ (k s : Nat) (b : Bool), t ≠ some s → holdsF E' k s b = holdsF E k s b
  | 0, _, _, _ => rfl
  | k + 1, s, b, hs => by
    simp only [holdsF, h s hs]
    split <;> try rfl
    rename_i s' w' b' hE
    rw [holdsF_congr h hno k s' w' (hno s s' w' _ hE)]

section
variable {cx : Cx} {ops : Array Oper}

theorem Ran.mop {o : Oper} {E E' : EF} {h h' : HF} {m : Marks} (hr : Ran cx ops o E h E' h' m) : m.op = o := by cases hr <;> rfl

/-- what an operation does elsewhere, too -/
theorem Ran.move {o : Oper} {E E1 : EF} {h h1 : HF} {m : Marks} (hr : Ran cx ops o E h E1 h1 m) :
    ∃ x ups, E1 = putF E o.dst x ∧ h1 = upd ups h ∧ m.wrote = ups.map (·.1) ∧ (∀ s w y, x = .when s w y → s ∈ o.looksAt ops) ∧ PutOk cx o E ∧
      ∀ E' h', (∀ t, t ∈ o.looksAt ops → E' t = E t) → (∀ k s b, s ∈ o.looksAt ops → holdsF E' k s b = holdsF E k s b) → (∀ i ∈ m.seen, h' i = h i) → (∀ i ∈ m.wrote, h i = none → h' i = none) → PutOk cx o E' →
        Ran cx ops o E' h' (putF E' o.dst x) (upd ups h') m := by
  have hop : ∀ {E' : EF} {g}, (∀ t, t ∈ o.looksAt ops → E' t = E t) → opdsF E' g o = opdsF E g o := fun {E' g} hE => opdsF_congr fun t ht => hE t (List.mem_append_left _ (List.mem_filterMap.2 ⟨.tmp t, ht, rfl⟩))
  have hgl : ∀ {g want d}, o.guard = some (g, want) → (ops[g]?).bind (·.dst) = some d → d ∈ o.looksAt ops := fun {g want d} hg hd => by
    refine List.mem_append_right _ ?_
    rw [hg]
    simp [hd]
  have hal : ∀ {h' : HF} {i}, h' i = h i → alv h' i = alv h i := fun {h' i} e => by simp only [alv, e]
  cases hr with
  | all hg hxs he hc hu hp hw =>
    rename_i xs c x ups
    refine ⟨x, ups, rfl, rfl, rfl, fun s w y e => absurd e (isWhen_iff hw s w y), hp, fun E' h' hE hH hS hN hp' => ?_⟩
    have hf : foot o xs (alv h') = foot o xs (alv h) := foot_congr fun i hi => (hal (hS i hi)).symm
    have hwi : within (alv h') (foot o xs (alv h)) = within (alv h) (foot o xs (alv h)) := within_congr fun i hi => (hal (hS i hi)).symm
    have := Ran.all (cx := cx) (ops := ops) (o := o) (E := E') (h := h') (xs := xs) (c := c) (x := x) (ups := ups)
      (hg.imp id fun ⟨g, want, d, e1, e2, e3⟩ => ⟨g, want, d, e1, e2, by rw [hH 20 d want (hgl e1 e2)]; exact e3⟩) (by rw [hop hE]; exact hxs) (by rw [hf, hwi]; exact he) hc
      (by rw [hf]; exact fun i q hi => (hu i q hi).imp (fun ⟨t, e1, e2, e3⟩ => ⟨t, e1, e2, hN i (List.mem_map.2 ⟨(i, q), hi, rfl⟩) e3⟩) fun ⟨e1, e2, p, e3⟩ => ⟨e1, e2, p, by rw [hS i e1]; exact e3⟩) hp' hw
    rw [hf] at this
    exact this
  | cond hg hd hh hxs he hc hp hne =>
    rename_i g want d v xs c x
    refine ⟨.when d want x, [], rfl, rfl, rfl, fun s w y e => (by cases e; exact hgl hg hd), hp, fun E' h' hE hH hS hN hp' => ?_⟩
    have hf : foot o xs (alv h') = foot o xs (alv h) := foot_congr fun i hi => (hal (hS i hi)).symm
    have hwi : within (alv h') (foot o xs (alv h)) = within (alv h) (foot o xs (alv h)) := within_congr fun i hi => (hal (hS i hi)).symm
    have := Ran.cond (cx := cx) (ops := ops) (o := o) (E := E') (h := h') (v := v) (xs := xs) (c := c) (x := x) hg hd (by rw [hH 20 d want (hgl hg hd)]; exact hh) (by rw [hop hE]; exact hxs) (by rw [hf, hwi]; exact he) hc hp' hne
    rw [hf] at this
    exact this
  | skip hg hd hh hp =>
    rename_i g want d
    exact ⟨.und, [], rfl, rfl, rfl, fun s w y e => (by cases e), hp, fun E' h' hE hH hS hN hp' => Ran.skip hg hd (by rw [hH 20 d want (hgl hg hd)]; exact hh) hp'⟩

/-- Two operations that do not touch each other's slots and objects, in the other order. -/
theorem Ran.swap {o1 o2 : Oper} {E E1 E2 : EF} {h h1 h2 : HF} {m1 m2 : Marks} (r1 : Ran cx ops o1 E h E1 h1 m1) (r2 : Ran cx ops o2 E1 h1 E2 h2 m2) (hi : indep ops m1 m2 = true) :
    ∃ E1' h1', Ran cx ops o2 E h E1' h1' m2 ∧ Ran cx ops o1 E1' h1' E2 h2 m1 := by
  simp only [indep, Bool.and_eq_true] at hi
  obtain ⟨⟨⟨i1, i2⟩, i3⟩, i4⟩ := hi
  rw [r1.mop, r2.mop] at i1
  have i2 := disj_iff.1 i2
  have i3 := disj_iff.1 i3
  have i4 := disj_iff.1 i4
  obtain ⟨a1, a2, a3⟩ := Oper.apart_spec i1
  obtain ⟨x1, ups1, e1, e2, e3, e4, p1, mv1⟩ := r1.move
  obtain ⟨x2, ups2, f1, f2, f3, f4, p2, mv2⟩ := r2.move
  subst e1
  subst e2
  subst f1
  subst f2
  -- the first one's slot hangs on nothing
  have hno1 : ∀ j s w y, E j = some (.when s w y) → o1.dst ≠ some s := fun j s w y hE hd => (p1 s hd).2.1 j s w y hE rfl
  have p2' : PutOk cx o2 E := fun t ht => by
    obtain ⟨q1, q2, q3⟩ := p2 t ht
    refine ⟨q1, fun j s w y hE => ?_, fun s w y hE => ?_⟩
    · by_cases hd : o1.dst = some j
      · exact absurd hE ((p1 j hd).2.2 s w y)
      · exact q2 j s w y (by rw [putF_ne hd]; exact hE)
    · have hd : o1.dst ≠ some t := fun e => a2 t e ht
      exact q3 s w y (by rw [putF_ne hd]; exact hE)
  have hno2 : ∀ j s w y, E j = some (.when s w y) → o2.dst ≠ some s := fun j s w y hE hd => (p2' s hd).2.1 j s w y hE rfl
  have R2 := mv2 E h (fun t ht => (putF_ne (fun e => a1 t e ht)).symm) (fun k s b hs => (holdsF_congr (t := o1.dst) (fun j hj => putF_ne hj) hno1 k s b (fun e => a1 s e hs)).symm)
    (fun i hi => (upd_none (fun hm => i2 i (by rw [e3]; exact hm) hi)).symm) (fun i hi hn => by
      have : i ∉ ups1.map (·.1) := fun hm => i3 i (by rw [e3]; exact hm) hi
      rw [upd_none this] at hn; exact hn) p2'
  refine ⟨_, _, R2, ?_⟩
  have R1 := mv1 (putF E o2.dst x2) (upd ups2 h) (fun t ht => putF_ne (fun e => a3 t e ht)) (fun k s b hs => holdsF_congr (t := o2.dst) (fun j hj => putF_ne hj) hno2 k s b (fun e => a3 s e hs))
    (fun i hi => upd_none (fun hm => i4 i (by rw [f3]; exact hm) hi)) (fun i hi hn => by
      have : i ∉ ups2.map (·.1) := fun hm => i3 i hi (by rw [f3]; exact hm)
      rw [upd_none this]; exact hn)
    (fun t ht => by
      obtain ⟨q1, q2, q3⟩ := p1 t ht
      refine ⟨q1, fun j s w y hE => ?_, fun s w y hE => ?_⟩
      · by_cases hd : o2.dst = some j
        · rw [hd] at hE
          simp only [putF, if_true, Option.some.injEq] at hE
          exact fun e => a1 t ht (e ▸ f4 s w y hE)
        · rw [putF_ne hd] at hE; exact q2 j s w y hE
      · have hd : o2.dst ≠ some t := fun e => a2 t ht e
        rw [putF_ne hd] at hE; exact q3 s w y hE)
  rw [← putF_comm a2, upd_comm (fun i hi => by rw [← e3] at hi; rw [← f3]; exact i3 i hi)] at R1
  exact R1
end
end Go.Proofs.YthhmpjnmmhfngaaDoor.Ev
