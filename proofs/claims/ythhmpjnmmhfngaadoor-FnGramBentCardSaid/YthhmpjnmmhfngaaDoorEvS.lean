/-
  What is kept, under new ids.
-/
import Derived.Test.YthhmpjnmmhfngaaDoorEvR
import Derived.LoopN
namespace Go.Proofs.YthhmpjnmmhfngaaDoor.Ev
open Go

section
variable {w0 w : World} {O0 F0 F : Nat → Prop} {h hq : HF} {β : Nat → Value} {ρ : Nat → Option Nat}

/-- The same memory under other ids. -/
theorem rename_inv (H : Inv w0 O0 F0 w F h β) (K1 : ∀ j o', hq j = some (some o') → ∃ i o, ρ i = some j ∧ h i = some (some o) ∧ o' = o.ren ρ) (K2 : ∀ i j q, h i = some q → ρ i = some j → ∃ q', hq j = some q')
    (hinj : ∀ i i' j, ρ i = some j → ρ i' = some j → i = i') :
    ∃ βq : Nat → Value, (∀ i j, ρ i = some j → βq j = β i) ∧ (∀ i q j, h i = some q → ρ i = some j → (∃ q', hq j = some q') ∧ ∀ o', hq j = some (some o') → (∃ o, q = some o) ∧ βq j = β i) ∧ Inv w0 O0 F0 w F hq βq := by
  let βq : Nat → Value := fun j => open Classical in if hj : ∃ i, ρ i = some j then β (Classical.choose hj) else default
  have hβ : ∀ i j, ρ i = some j → βq j = β i := fun i j hij => by
    have hex : ∃ i, ρ i = some j := ⟨i, hij⟩
    simp only [βq, dif_pos hex]
    rw [hinj _ _ _ (Classical.choose_spec hex) hij]
  have hr : ∀ i q j, h i = some q → ρ i = some j → (∃ q', hq j = some q') ∧ ∀ o', hq j = some (some o') → (∃ o, q = some o) ∧ βq j = β i := fun i q j hi hij => by
    refine ⟨K2 i j q hi hij, fun o' ho' => ?_⟩
    obtain ⟨k, o, g1, g2, _⟩ := K1 j o' ho'
    have := hinj _ _ _ g1 hij
    subst this
    rw [hi] at g2
    exact ⟨⟨o, Option.some.inj g2⟩, hβ _ _ hij⟩
  refine ⟨βq, hβ, hr, ⟨fun j o' hj => ?_, fun j k o o' b hj hk hbj hbk => ?_, fun j o b hj hb => ?_, H.low, H.os, H.tape, H.output, H.size, H.kept, fun j o b hj hb => ?_, H.fromF, H.inF⟩⟩
  · obtain ⟨i, o, g1, g2, rfl⟩ := K1 j o' hj
    exact ren_repO hr (hβ i j g1) (H.obj i o g2)
  · obtain ⟨i, o1, g1, g2, _⟩ := K1 j o hj
    obtain ⟨l, o2, f1, f2, _⟩ := K1 k o' hk
    rw [hβ i j g1] at hbj
    rw [hβ l k f1] at hbk
    have := H.apart i l o1 o2 b g2 f2 hbj hbk
    subst this
    rw [g1] at f1
    exact Option.some.inj f1
  · obtain ⟨i, o1, g1, g2, _⟩ := K1 j o hj
    rw [hβ i j g1] at hb
    exact H.notF i o1 b g2 hb
  · obtain ⟨i, o1, g1, g2, _⟩ := K1 j o hj
    rw [hβ i j g1] at hb
    exact H.fromO i o1 b g2 hb

theorem look_mem {α : Type} : ∀ {l : List (Nat × α)} {i : Nat} {x : α}, look l i = some x → (i, x) ∈ l
  | [], i, x, h => by simp [look] at h
  | (k, y) :: l, i, x, h => by
    simp only [look] at h
    cases hb : Nat.beq k i
    · rw [hb] at h; exact List.mem_cons_of_mem _ (look_mem h)
    · rw [hb] at h
      have e := Nat.eq_of_beq_eq_true hb
      simp only [cond_true, Option.some.injEq] at h
      subst e; subst h
      exact List.mem_cons_self ..

theorem mem_look {α : Type} : ∀ {l : List (Nat × α)} {i : Nat} {x : α}, (l.map (·.1)).Nodup → (i, x) ∈ l → look l i = some x
  | [], i, x, _, h => by simp at h
  | (k, y) :: l, i, x, hn, h => by
    simp only [List.map_cons, List.nodup_cons] at hn
    simp only [look]
    rcases List.mem_cons.1 h with e | h
    · cases e; simp
    · cases hb : Nat.beq k i
      · exact mem_look hn.2 h
      · exfalso
        have e := Nat.eq_of_beq_eq_true hb
        subst e
        exact hn.1 (List.mem_map.2 ⟨(k, x), h, rfl⟩)

theorem tab_inj {tab : List (Nat × Nat)} (hv : (tab.map (·.2)).Nodup) {i i' j : Nat} (h1 : look tab i = some j) (h2 : look tab i' = some j) : i = i' := by
  have m1 := look_mem h1
  have m2 := look_mem h2
  obtain ⟨a, ha⟩ := List.getElem?_of_mem m1
  obtain ⟨b, hb⟩ := List.getElem?_of_mem m2
  have e1 : (tab.map (·.2))[a]? = some j := by simp [ha]
  have e2 : (tab.map (·.2))[b]? = some j := by simp [hb]
  have := nodup_inj hv e1 e2
  subst this
  rw [ha] at hb
  cases hb; rfl

theorem keepHeap_mem {h : Heap} {ρ : Nat → Option Nat} : ∀ {tab : List (Nat × Nat)} {j : Nat} {q : Option Obj}, (j, q) ∈ keepHeap h ρ tab → ∃ i o, (i, j) ∈ tab ∧ live h i = some o ∧ q = some (o.ren ρ)
  | [], j, q, hm => by simp [keepHeap] at hm
  | (i, j') :: l, j, q, hm => by
    simp only [keepHeap] at hm
    split at hm
    · rename_i o ho
      rcases List.mem_cons.1 hm with e | hm
      · cases e; exact ⟨i, o, List.mem_cons_self .., ho, rfl⟩
      · obtain ⟨i', o', h1, h2⟩ := keepHeap_mem hm
        exact ⟨i', o', List.mem_cons_of_mem _ h1, h2⟩
    · obtain ⟨i', o', h1, h2⟩ := keepHeap_mem hm
      exact ⟨i', o', List.mem_cons_of_mem _ h1, h2⟩

theorem keepHeap_of {h : Heap} {ρ : Nat → Option Nat} : ∀ {tab : List (Nat × Nat)} {i j : Nat} {o : Obj}, (i, j) ∈ tab → live h i = some o → ∃ q, look (keepHeap h ρ tab) j = some q
  | [], i, j, o, hm, _ => by simp at hm
  | (i', j') :: l, i, j, o, hm, ho => by
    simp only [keepHeap]
    rcases List.mem_cons.1 hm with e | hm
    · cases e
      rw [ho]
      exact ⟨some (o.ren ρ), by simp [look]⟩
    · obtain ⟨q, hq⟩ := keepHeap_of (ρ := ρ) hm ho
      split
      · simp only [look]
        cases Nat.beq j' j
        · exact ⟨q, hq⟩
        · exact ⟨_, rfl⟩
      · exact ⟨q, hq⟩

theorem live_some {h : Heap} {i : Nat} {o : Obj} : live h i = some o ↔ look h i = some (some o) := by
  unfold live
  split
  · rename_i e; rw [e]; simp
  · rename_i hn
    constructor
    · intro e; cases e
    · intro e; exact absurd e (hn o)

theorem liveOnly_mem {h : Heap} : ∀ {l : List Nat} {i : Nat}, i ∈ liveOnly h l → ∃ o, look h i = some (some o)
  | [], i, hi => by simp [liveOnly] at hi
  | k :: l, i, hi => by
    simp only [liveOnly] at hi
    split at hi
    · rename_i o ho
      rcases List.mem_cons.1 hi with rfl | hi
      · exact ⟨o, live_some.1 ho⟩
      · exact liveOnly_mem hi
    · exact liveOnly_mem hi

theorem liveOnly_of {h : Heap} : ∀ {l : List Nat} {i : Nat} {o : Obj}, i ∈ l → look h i = some (some o) → i ∈ liveOnly h l
  | [], i, o, hi, _ => by simp at hi
  | k :: l, i, o, hi, ho => by
    simp only [liveOnly]
    rcases List.mem_cons.1 hi with rfl | hi
    · rw [live_some.2 ho]; exact List.mem_cons_self ..
    · have := liveOnly_of hi ho
      split
      · exact List.mem_cons_of_mem _ this
      · exact this

theorem freshAt_mem : ∀ {k : Nat} {l : List Nat} {i j : Nat}, (i, j) ∈ freshAt k l → i ∈ l ∧ (i < 1000 → j = i) ∧ (j < 1000 → i = j)
  | k, [], i, j, h => by simp [freshAt] at h
  | k, a :: l, i, j, h => by
    simp only [freshAt] at h
    cases hb : Nat.blt a 1000
    · rw [hb] at h
      simp only [cond_false] at h
      have ha : ¬ a < 1000 := fun e => by have : Nat.blt a 1000 = true := by simpa using e
                                          rw [hb] at this; cases this
      rcases List.mem_cons.1 h with e | h
      · cases e; exact ⟨List.mem_cons_self .., fun e => absurd e ha, fun e => by omega⟩
      · obtain ⟨g1, g2⟩ := freshAt_mem h
        exact ⟨List.mem_cons_of_mem _ g1, g2⟩
    · rw [hb] at h
      simp only [cond_true] at h
      rcases List.mem_cons.1 h with e | h
      · cases e; exact ⟨List.mem_cons_self .., fun _ => rfl, fun _ => rfl⟩
      · obtain ⟨g1, g2⟩ := freshAt_mem h
        exact ⟨List.mem_cons_of_mem _ g1, g2⟩

theorem backIds_mem : ∀ {k : Nat} {l : List Nat} {i j : Nat}, (i, j) ∈ backIds k l → i ∈ l ∧ (i < 1000 → j = i) ∧ (j < 1000 → i = j)
  | k, [], i, j, h => by simp [backIds] at h
  | k, a :: l, i, j, h => by
    simp only [backIds] at h
    cases hb : Nat.blt a 1000
    · rw [hb] at h
      simp only [cond_false] at h
      have ha : ¬ a < 1000 := fun e => by have : Nat.blt a 1000 = true := by simpa using e
                                          rw [hb] at this; cases this
      rcases List.mem_cons.1 h with e | h
      · cases e; exact ⟨List.mem_cons_self .., fun e => absurd e ha, fun e => by omega⟩
      · obtain ⟨g1, g2⟩ := backIds_mem h
        exact ⟨List.mem_cons_of_mem _ g1, g2⟩
    · rw [hb] at h
      simp only [cond_true] at h
      rcases List.mem_cons.1 h with e | h
      · cases e; exact ⟨List.mem_cons_self .., fun _ => rfl, fun _ => rfl⟩
      · obtain ⟨g1, g2⟩ := backIds_mem h
        exact ⟨List.mem_cons_of_mem _ g1, g2⟩

theorem backIds_of : ∀ {k : Nat} {l : List Nat} {i : Nat}, i ∈ l → i < 1000 → (i, i) ∈ backIds k l
  | k, [], i, h, _ => by simp at h
  | k, a :: l, i, h, hi => by
    simp only [backIds]
    cases hb : Nat.blt a 1000
    · rcases List.mem_cons.1 h with rfl | h
      · have : Nat.blt i 1000 = true := by simpa using hi
        rw [hb] at this; cases this
      · exact List.mem_cons_of_mem _ (backIds_of h hi)
    · rcases List.mem_cons.1 h with rfl | h
      · exact List.mem_cons_self ..
      · exact List.mem_cons_of_mem _ (backIds_of h hi)

/-- the state stands for frame and memory; passed objects lie where they lay -/
structure Rel (cx : Cx) (m : Nat) (β0 : Nat → Value) (w0 : World) (O0 F0 : Nat → Prop) (st : St) (a : Act) (w : World) (F : Nat → Prop) (β : Nat → Value) : Prop where
  inv : Inv w0 O0 F0 w F (look st.heap) β
  env : ER cx (look st.env) a w F (look st.heap) β
  clean : Clean (look st.env)
  stay : Stay m β0 (look st.heap) β

section
variable {cx : Cx} {m : Nat} {β0 : Nat → Value} {w0 w : World} {O0 F0 F : Nat → Prop} {β : Nat → Value} {st : St} {a : Act}

theorem look_keepEnv {env : List (Nat × T)} {ρ : Nat → Option Nat} : ∀ {l : List Nat} {t : Nat} {x : T}, look (keepEnv env ρ l) t = some x → ∃ y, look env t = some y ∧ x = y.ren ρ
  | [], t, x, h => by simp [keepEnv, look] at h
  | k :: l, t, x, h => by
    simp only [keepEnv] at h
    split at h
    · rename_i y hy
      simp only [look] at h
      cases hb : Nat.beq k t
      · rw [hb] at h; exact look_keepEnv h
      · rw [hb] at h
        have e := Nat.eq_of_beq_eq_true hb
        subst e
        simp only [cond_true, Option.some.injEq] at h
        exact ⟨y, hy, h.symm⟩
    · exact look_keepEnv h

theorem isWhen_ren {ρ : Nat → Option Nat} {y : T} {s : Nat} {b : Bool} {d : D} (h : T.ren ρ y = .when s b d) : ∃ d', y = .when s b d' := by
  cases y with
  | when s' b' d' => simp only [T.ren] at h; cases h; exact ⟨d', rfl⟩
  | d x => simp [T.ren] at h
  | tup xs => simp [T.ren] at h
  | nilq n => simp [T.ren] at h
  | und => simp [T.ren] at h
  | unk => simp [T.ren] at h

theorem nodups {tab : List (Nat × Nat)} (h : tabOk tab = true) : (tab.map (·.1)).Nodup ∧ (tab.map (·.2)).Nodup := by
  simp only [tabOk, Bool.and_eq_true] at h
  exact ⟨nodupN_iff.1 h.1, nodupN_iff.1 h.2⟩

theorem prune_rel (hm : m ≤ 1000) (R : Rel cx m β0 w0 O0 F0 st a w F β) (keep : List Nat) : ∃ β', Rel cx m β0 w0 O0 F0 (prune keep st) a w F β' := by
  unfold prune
  dsimp only
  generalize htab : freshAt 0 (liveOnly st.heap (closure (live st.heap) 4 (addNew [] (rootsOf st.env keep ++ passed st.heap)))) = tab
  split
  · rename_i hok
    obtain ⟨hk, hv⟩ := nodups hok
    have hmem : ∀ {i j}, look tab i = some j → (∃ o, look st.heap i = some (some o)) ∧ (i < 1000 → j = i) ∧ (j < 1000 → i = j) := fun {i j} hij => by
      have := look_mem hij
      rw [← htab] at this
      obtain ⟨g1, g2⟩ := freshAt_mem this
      exact ⟨liveOnly_mem g1, g2⟩
    obtain ⟨βq, q1, q2, q3⟩ := rename_inv (ρ := look tab) (hq := look (keepHeap st.heap (look tab) tab)) R.inv
      (fun j o' hj => by
        obtain ⟨i, o, g1, g2, g3⟩ := keepHeap_mem (look_mem hj)
        exact ⟨i, o, mem_look hk g1, live_some.1 g2, Option.some.inj g3⟩)
      (fun i j q hi hij => by
        obtain ⟨⟨o, ho⟩, _⟩ := hmem hij
        exact keepHeap_of (look_mem hij) (live_some.2 ho))
      (fun i i' j => tab_inj hv)
    refine ⟨βq, q3, ⟨R.env.size, R.env.defers, fun t x hx => ?_⟩, fun t s b d hx => ?_, fun i o hi ho => ?_⟩
    · obtain ⟨y, hy, rfl⟩ := look_keepEnv hx
      obtain ⟨g1, g2⟩ := R.env.rep t y hy
      exact ⟨g1, ren_repX q2 g2⟩
    · obtain ⟨y, hy, e⟩ := look_keepEnv hx
      obtain ⟨d', rfl⟩ := isWhen_ren e.symm
      exact R.clean t s b d' hy
    · obtain ⟨k, o', g1, g2, _⟩ := keepHeap_mem (look_mem ho)
      have hki := mem_look hk g1
      obtain ⟨_, _, f2⟩ := hmem hki
      have := f2 (by omega)
      subst this
      rw [q1 _ _ hki]
      exact R.stay _ o' hi (live_some.1 g2)
  · refine ⟨β, ⟨fun i o hi => by simp [look] at hi, fun i j o o' b hi => by simp [look] at hi, fun i o b hi => by simp [look] at hi, R.inv.low, R.inv.os, R.inv.tape, R.inv.output, R.inv.size, R.inv.kept, fun i o b hi => by simp [look] at hi, R.inv.fromF, R.inv.inF⟩,
      ⟨R.env.size, R.env.defers, fun t x hx => by simp [look] at hx⟩, fun t s b d hx => by simp [look] at hx, fun i o _ hi => by simp [look] at hi⟩

theorem ownNils_rel (hm : m ≤ 1000) : ∀ (l : List (Nat × TypeId × Ty)) {st : St} {β : Nat → Value}, Rel cx m β0 w0 O0 F0 st a w F β → ∃ β', Rel cx m β0 w0 O0 F0 (ownNils l st) a w F β'
  | [], st, β, R => ⟨β, R⟩
  | (s, t, e) :: l, st, β, R => by
    simp only [ownNils]
    split
    · rename_i hs
      split
      · rename_i hmis
        have hno : look st.heap (400000 + s) = none := by
          unfold missing at hmis
          split at hmis
          · rename_i hn; exact hn
          · cases hmis
        have hv := R.env.rep s _ hs
        have hval : a.tmps.getD s undef = .slice none 0 0 := hv.2.1
        have T := R.inv.turn (w' := w) (F' := F) (400000 + s) (some (.lis t e [])) (.slice none 0 0) rfl rfl rfl (Nat.le_refl _) (fun _ => False) (fun _ h => h.elim) (fun _ _ _ => rfl) (fun _ h => h) (fun _ h => .inl h)
          (fun q0 _ h0 => by rw [hno] at h0; cases h0) (fun _ ob hob => by cases hob; exact ⟨.inl ⟨none, by simp [setB], rfl⟩, fun b hb => by simp [blk] at hb⟩)
        have eh : look ((400000 + s, some (.lis t e [])) :: st.heap) = setH (look st.heap) (400000 + s) (some (.lis t e [])) := by
          funext j
          simp only [look, setH]
          by_cases ej : j = 400000 + s
          · subst ej; simp
          · rw [if_neg ej]
            cases hb : Nat.beq (400000 + s) j
            · rfl
            · exact absurd (Nat.eq_of_beq_eq_true hb).symm ej
        refine ownNils_rel hm l (β := setB β (400000 + s) (.slice none 0 0)) ⟨by rw [eh]; exact T.1, ⟨R.env.size, R.env.defers, fun t' x hx => ?_⟩, fun t' s' b d hx => ?_, fun i o hi ho => ?_⟩
        · rw [eh]
          simp only [look] at hx
          cases hb : Nat.beq s t'
          · rw [hb] at hx
            exact ⟨(R.env.rep t' x hx).1, T.2.repX (R.env.rep t' x hx).2⟩
          · rw [hb] at hx
            have := Nat.eq_of_beq_eq_true hb
            subst this
            simp only [cond_true, Option.some.injEq] at hx
            subst hx
            refine ⟨hv.1, ?_⟩
            rw [hval]
            exact ⟨rfl, ⟨_, by simp [setH]; rfl⟩, fun ob _ => by simp [setB]⟩
        · simp only [look] at hx
          cases hb : Nat.beq s t'
          · rw [hb] at hx; exact R.clean t' s' b d hx
          · rw [hb] at hx; cases hx
        · rw [eh] at ho
          have : i ≠ 400000 + s := by omega
          simp only [setH, if_neg this] at ho
          simp only [setB, if_neg this]
          exact R.stay i o hi ho
      · exact ownNils_rel hm l R
    · exact ownNils_rel hm l R

theorem pruneAt_rel (hm : m ≤ 1000) (R : Rel cx m β0 w0 O0 F0 st a w F β) (l : List (Nat × List Nat)) (i : Nat) : ∃ β', Rel cx m β0 w0 O0 F0 (pruneAt l i st) a w F β' := by
  unfold pruneAt
  split
  · exact prune_rel hm R _
  · exact ⟨β, R⟩

theorem headAt_rel (hm : m ≤ 1000) (R : Rel cx m β0 w0 O0 F0 st a w F β) (i : Nat) : ∃ β', Rel cx m β0 w0 O0 F0 (headAt cx i st) a w F β' := by
  unfold headAt
  split
  · rename_i l _
    obtain ⟨β', R'⟩ := ownNils_rel hm l R
    exact pruneAt_rel hm R' _ _
  · exact pruneAt_rel hm R _ _

theorem dropWhen_look : ∀ {env : List (Nat × T)} {t : Nat} {x : T}, look (dropWhen env) t = some x → x = .unk ∨ (look env t = some x ∧ ∀ s b d, x ≠ .when s b d)
  | [], t, x, h => by simp [dropWhen, look] at h
  | (k, y) :: l, t, x, h => by
    cases y with
    | when s b d =>
      simp only [dropWhen, look] at h ⊢
      cases hb : Nat.beq k t
      · rw [hb] at h; exact dropWhen_look h
      · rw [hb] at h
        simp only [cond_true, Option.some.injEq] at h
        exact .inl h.symm
    | _ =>
      simp only [dropWhen, look] at h ⊢
      cases hb : Nat.beq k t
      · rw [hb] at h; exact dropWhen_look h
      · rw [hb] at h
        simp only [cond_true, Option.some.injEq] at h
        subst h
        exact .inr ⟨rfl, fun _ _ _ e => by cases e⟩
end
end
end Go.Proofs.YthhmpjnmmhfngaaDoor.Ev
