/-
  Calls, and all operations together.
-/
import Derived.Test.YthhmpjnmmhfngaaDoorEvL
namespace Go.Proofs.YthhmpjnmmhfngaaDoor.Ev
open Go

/-- the contracts are kept -/
def EnvOk (P : Program) (Γ : Env) : Prop := ∀ f con, Γ f = some con →
  (∀ args w, (callFunc f args).run P w = .ok (.enter f args) w) ∧
  ∀ ds os c x objs, con.f ds os = some (c, x, objs) → (c = none ∨ c = some true) → Sat P f ds os x objs

section
variable {P : Program} {TT : Types} {w0 w : World} {O0 F0 F : Nat → Prop} {h : HF} {β : Nat → Value} {a : Act} {o : Oper} {K : Act → World → Prop} {Q : Exit → Act → World → Prop} {x : T} {v : Value}

theorem closure_pres (H : Inv w0 O0 F0 w F h β) {hh : Nat → Option Obj} (hhh : ∀ i ob, hh i = some ob → h i = some (some ob)) : ∀ (k : Nat) (l : List Nat), (∀ i ∈ l, ∃ q, h i = some q) → ∀ i ∈ closure hh k l, ∃ q, h i = some q
  | 0, _, hl, i, hi => hl i hi
  | k + 1, l, hl, i, hi => closure_pres H hhh k _ (fun j hj => by
      rcases mem_addNew.1 hj with hj | hj
      · exact hl j hj
      · obtain ⟨m, hm, hj⟩ := List.mem_flatMap.1 hj
        unfold hget at hj
        split at hj
        · rename_i ob hob
          have := H.obj m ob (hhh m ob hob)
          cases ob with
          | box t cs => obtain ⟨b, us, _, _, hc⟩ := this; exact All2.pres hc j hj
          | arr => simp [Obj.refs] at hj
          | lis => simp [Obj.refs] at hj
          | map => simp [Obj.refs] at hj
          | deep => simp [Obj.refs] at hj
        · simp at hj) i hi

theorem ro_any {h' : HF} {β' : Nat → Value} {F' : Nat → Prop} {r : R} {u : Value} (hr : Ro w F' r u) : RepC w F' h' β' (.r r) u := hr

/-- Data as read only data. -/
theorem toR_D (H : Inv w0 O0 F0 w F h β) {hh : Nat → Option Obj} (hhh : ∀ i ob, hh i = some ob → h i = some (some ob)) {F' : Nat → Prop} (hF : ∀ b, F b → F' b) {l : List Nat}
    (hb : ∀ i ∈ closure hh 3 l, ∀ o b, h i = some (some o) → Blk (β i) b → F' b) {d d' : D} {u : Value} (hd : RepD w F h β d u) (ht : d.toR hh = some d') (hl : ∀ i ∈ d.refs, i ∈ l) (h' : HF) (β' : Nat → Value) : RepD w F' h' β' d' u := by
  unfold D.toR at ht
  split at ht
  · rename_i i off
    split at ht
    · rename_i t cs hi
      simp only [Option.map_eq_some_iff] at ht
      obtain ⟨rs, h1, rfl⟩ := ht
      have hi' := hhh _ _ hi
      obtain ⟨b, e1, e2⟩ := hd.2.2 _ hi'
      obtain ⟨b', us, e3, e4, e5⟩ := H.obj _ _ hi'
      rw [e1] at e3
      cases e3
      have hil : i ∈ l := hl i (by simp [D.refs, D.cells, C.refs])
      have hro := allR_sound H hhh hF (e5.drop off) h1 fun k hk o' b' g1 g2 => hb k (closure_step hh 2 l i k hil (by
        simp only [hget, hi, Obj.refs]
        obtain ⟨c, hc, hk⟩ := List.mem_flatMap.1 hk
        exact List.mem_flatMap.2 ⟨c, List.mem_of_mem_drop hc, hk⟩)) o' b' g1 g2
      refine ⟨b, off, e2, hb i (closure_self hh 3 l i hil) _ b hi' (by rw [e1]; exact Blk_pointer.2 rfl), fun j hj => ?_⟩
      obtain ⟨y, hy, hr⟩ := hro.get (j := j) (x := rs.getD j z0) (by simp [List.getD, List.getElem?_eq_getElem hj])
      refine ⟨y, ?_, hr⟩
      rw [cell_of_row w b _ us t (0, 0) e4]
      rw [List.getElem?_drop] at hy
      simpa using hy
    · cases ht
  · cases ht
    exact ⟨hd.1, fun i hi => by simp at hi, fun _ => by have := hd.2.2 (fun i hi => by simp at hi); simpa using this⟩
  · simp only [Option.map_eq_some_iff] at ht
    obtain ⟨r, h1, rfl⟩ := ht
    exact toR_sound H hhh hF hd h1 fun i hi o' b g1 g2 => hb i (closure_self hh 3 l i (hl i (by simpa [D.refs, D.cells] using hi))) o' b g1 g2
  · simp only [Option.map_eq_some_iff] at ht
    obtain ⟨rs, h1, rfl⟩ := ht
    obtain ⟨us, e1, e2⟩ := hd
    have hro := allR_sound H hhh hF e2 h1 fun i hi o' b g1 g2 => hb i (closure_self hh 3 l i (hl i (by simpa [D.refs, D.cells] using hi))) o' b g1 g2
    exact ⟨us, e1, All2.map_l.2 (hro.mono fun _ _ hr => hr)⟩

theorem flat_rep {tm : Array Value} {w' : World} {F' : Nat → Prop} {h' : HF} {β' : Nat → Value} {y : T} {u : Value} (hy : y.flat = true) (hr : RepX tm w F h β y u) : RepX tm w' F' h' β' y u := by
  have hc : ∀ {c : C} {u : Value}, c.flat = true → RepC w F h β c u → RepC w' F' h' β' c u := by
    intro c u hf hr
    unfold C.flat at hf
    split at hf
    · exact hr
    · exact ⟨hr.1, fun i hi => by simp at hi, fun _ => by have := hr.2.2 (fun i hi => by simp at hi); simpa using this⟩
    · cases hf
  have hd : ∀ {d : D} {u : Value}, d.flat = true → RepD w F h β d u → RepD w' F' h' β' d u := by
    intro d u hf hr
    cases d with
    | one c => exact hc (by simpa [D.flat, D.cells] using hf) hr
    | agg cs =>
      obtain ⟨us, e, hh⟩ := hr
      refine ⟨us, e, All2.of_get hh.len fun j c hj => ?_⟩
      obtain ⟨y, hy, hr⟩ := hh.get hj
      have : c ∈ cs := List.mem_of_getElem? hj
      exact ⟨y, hy, hc (by have := List.all_eq_true.1 (show cs.all C.flat = true from hf) c this; exact this) hr⟩
  cases y with
  | d d => exact hd hy hr
  | tup xs =>
    obtain ⟨us, e, hh⟩ := hr
    refine ⟨us, e, All2.of_get hh.len fun j c hj => ?_⟩
    obtain ⟨y, hy', hr⟩ := hh.get hj
    have : c ∈ xs := List.mem_of_getElem? hj
    exact ⟨y, hy', hd (List.all_eq_true.1 (show xs.all D.flat = true from hy) c this) hr⟩
  | when s b d => exact ⟨fun e => hd hy (hr.1 e), hr.2⟩
  | nilq n => exact hr
  | und => exact hr
  | unk => trivial

/-- Memory that was there stays as it is. -/
theorem Inv.grow (H : Inv w0 O0 F0 w F h β) {w' : World} (hos : w'.os = w.os) (htape : w'.tape = w.tape) (hout : w'.output = w.output) (hsz : w.heap.size ≤ w'.heap.size) (hk : ∀ b, b < w.heap.size → w'.heap[b]? = w.heap[b]?) :
    Inv w0 O0 F0 w' F h β ∧ Per w F h β w' F h β := by
  have Pr : Per w F h β w' F h β := ⟨fun b hb => hk b (H.low b hb), fun _ hf => hf, fun i q hi => ⟨q, hi⟩, fun i q o' hi ho => by rw [hi] at ho; cases ho; exact ⟨⟨o', rfl⟩, rfl⟩⟩
  exact ⟨⟨fun i o' hi => Pr.repO (fun b hb => hk b (blk_lt (H.obj i o' hi) hb)) rfl (H.obj i o' hi), H.apart, H.notF, fun b hb => Nat.lt_of_lt_of_le (H.low b hb) hsz, hos.trans H.os, htape.trans H.tape, hout.trans H.output, Nat.le_trans H.size hsz,
    fun k hk' ho => (hk k (Nat.lt_of_lt_of_le hk' H.size)).trans (H.kept k hk' ho), H.fromO, H.fromF, H.inF⟩, Pr⟩

theorem flat_ty {w' : World} {F' : Nat → Prop} : ∀ {t : Ty} {x : Den t}, tyFlat t = true → ∀ r ∈ cellsR t x, ∀ u, Ro w F r u → Ro w' F' r u
  | .int k, n, _, r, hr, u, h => by simp only [cellsR, List.mem_singleton] at hr; subst hr; exact h
  | .str, n, _, r, hr, u, h => by simp only [cellsR, List.mem_singleton] at hr; subst hr; exact h
  | .bool, n, _, r, hr, u, h => by simp only [cellsR, List.mem_singleton] at hr; subst hr; exact h
  | .list t, n, hf, _, _, _, _ => by cases hf
  | .pair a b, x, hf, r, hr, u, h => by
    simp only [tyFlat, Bool.and_eq_true] at hf
    simp only [cellsR, List.mem_append] at hr
    rcases hr with hr | hr
    · exact flat_ty hf.1 r hr u h
    · exact flat_ty hf.2 r hr u h
  | .struct t, x, hf, r, hr, u, h => flat_ty (t := t) hf r hr u h
  | .unit, _, _, r, hr, u, h => by simp [cellsR] at hr
  | .tree, _, hf, _, _, _, _ => by cases hf
  | .map _ _, _, hf, _, _, _, _ => by cases hf
  | .ref _, _, hf, _, _, _, _ => by cases hf

theorem flat_L {w' : World} {F' : Nat → Prop} {t : Ty} {x : Den t} (hf : tyFlat t = true) {us : List Value} (h : RoL w F t x us) : RoL w' F' t x us := by
  refine RoL_cells.2 (All2.of_get (RoL_cells.1 h).len fun j r hj => ?_)
  obtain ⟨y, hy, hr⟩ := (RoL_cells.1 h).get hj
  exact ⟨y, hy, flat_ty hf r (List.mem_of_getElem? hj) y hr⟩

theorem thin_leaf {F' : Nat → Prop} {t : TypeId} {e : Ty} {l : List (Den e)} {v : Value} (hf : tyFlat e = true) (ho : LeafAt w F' t e l v) : LeafAt w F t e l v := by
  rcases ho with ho | ⟨b, cap, cur, h1, h2, h3, h4, h5, h6, h7⟩
  · exact .inl ho
  · refine .inr ⟨b, cap, cur, h1, h2, h3, h4, h5, h6, fun k hk j hj => ?_⟩
    obtain ⟨y, g1, g2⟩ := h7 k hk j hj
    refine ⟨y, g1, ?_⟩
    unfold getL at g2 ⊢
    by_cases hlt : j < (cellsR e (l.getD k (dflt e))).length
    · rw [List.getD_eq_getElem?_getD, List.getElem?_eq_getElem hlt] at g2 ⊢
      exact flat_ty hf _ (List.getElem_mem hlt) _ g2
    · rw [List.getD_eq_getElem?_getD, List.getElem?_eq_none (by omega)] at g2 ⊢
      exact g2

theorem thin_deep {F' : Nat → Prop} {e : Ty} : ∀ {ts : List TypeId} {l : List (Den e)} {sk : Value}, tyNest e = true → DeepAt w F' e ts l sk → DeepAt w F e ts l sk := by
  induction e with
  | list e ih =>
    rintro ts l sk hf ⟨t, ts', us, ad, cap, rfl, rfl, h1, h2, h3, h4, h5, h6⟩
    refine ⟨t, ts', us, ad, cap, rfl, rfl, h1, h2, h3, h4, h5, fun k hk => ?_⟩
    obtain ⟨s, g1, g2⟩ := h6 k hk
    exact ⟨s, g1, ih hf g2⟩
  | int k => rintro ts l sk hf ⟨t, u, rfl, rfl, h⟩; exact ⟨t, u, rfl, rfl, thin_leaf hf h⟩
  | str => rintro ts l sk hf ⟨t, u, rfl, rfl, h⟩; exact ⟨t, u, rfl, rfl, thin_leaf hf h⟩
  | bool => rintro ts l sk hf ⟨t, u, rfl, rfl, h⟩; exact ⟨t, u, rfl, rfl, thin_leaf hf h⟩
  | pair a b _ _ => rintro ts l sk hf ⟨t, u, rfl, rfl, h⟩; exact ⟨t, u, rfl, rfl, thin_leaf hf h⟩
  | struct a _ => rintro ts l sk hf ⟨t, u, rfl, rfl, h⟩; exact ⟨t, u, rfl, rfl, thin_leaf hf h⟩
  | unit => rintro ts l sk _ h; exact h
  | tree => rintro ts l sk _ h; exact h
  | map k e _ _ => rintro ts l sk _ h; exact h
  | ref t _ => rintro ts l sk _ h; exact h

/-- What lies in memory of its own does not lean on read only memory. -/
theorem thin_obj {F' : Nat → Prop} {i : Nat} {q : Nat × Option Obj} {o : Obj} (hq : objFresh q = true) (e : q.2 = some o) (ho : RepO w F' h β i o) : RepO w F h β i o := by
  obtain ⟨j, q⟩ := q
  subst e
  cases o with
  | box t cs => cases hq
  | arr t sz n get => cases hq
  | lis t e l =>
    exact RepO.leaf.2 (thin_leaf (show tyFlat e = true from hq) (RepO.leaf.1 ho))
  | map k e m =>
    have hf : (tyFlat k && tyFlat e) = true := hq
    rw [Bool.and_eq_true] at hf
    obtain ⟨b, es, clock, h1, h2, h3⟩ := ho
    exact ⟨b, es, clock, h1, h2, h3.mono fun p en h => ⟨⟨flat_L hf.1 h.1.1, h.1.2⟩, flat_L hf.2 h.2.1, h.2.2⟩⟩
  | deep ts e l =>
    obtain ⟨h0, h1, h2⟩ := ho
    exact ⟨h0, thin_deep (show tyNest e = true from hq) h1, h2⟩

theorem thin_inv {O : Nat → Prop} {w' : World} {F1 F' : Nat → Prop} {objs : Heap} {β' : Nat → Value} (hi : Inv w O F1 w' F' (look objs) β') (hF : ∀ b, F b → F1 b) (hf : objs.all objFresh = true) : Inv w O F w' F (look objs) β' := by
  have hsub : ∀ b, F b → F' b := fun b hb => hi.inF b (hF b hb)
  refine ⟨fun i o ho => ?_, hi.apart, fun i o b h1 h2 h3 => hi.notF i o b h1 h2 (hsub b h3), fun b hb => hi.low b (hsub b hb), hi.os, hi.tape, hi.output, hi.size, hi.kept, hi.fromO, fun b hb => .inl hb, fun _ h => h⟩
  have hm : ∃ q ∈ objs, q.2 = some o := by
    have : ∀ {l : Heap}, look l i = some (some o) → ∃ q ∈ l, q.2 = some o := by
      intro l
      induction l with
      | nil => intro h; simp [look] at h
      | cons p l ih =>
        obtain ⟨k, y⟩ := p
        intro h
        simp only [look] at h
        cases hb : Nat.beq k i
        · rw [hb] at h
          obtain ⟨q, q1, q2⟩ := ih h
          exact ⟨q, List.mem_cons_of_mem _ q1, q2⟩
        · rw [hb] at h
          simp only [cond_true, Option.some.injEq] at h
          exact ⟨(k, y), List.mem_cons_self .., h⟩
    exact this ho
  obtain ⟨q, q1, q2⟩ := hm
  exact thin_obj (List.all_eq_true.1 hf q q1) q2 (hi.obj i o ho)

theorem thin_rep {tm : Array Value} {w' : World} {F' : Nat → Prop} {h' : HF} {β' : Nat → Value} {y : T} {u : Value} (hy : y.fresh = true) (hr : RepX tm w' F' h' β' y u) : RepX tm w' F h' β' y u := by
  have hc : ∀ {c : C} {u : Value}, c.fresh = true → RepC w' F' h' β' c u → RepC w' F h' β' c u := by
    intro c u hf hr
    unfold C.fresh at hf
    split at hf
    · exact hr
    · exact hr
    · exact hr
    · cases hf
  have hd : ∀ {d : D} {u : Value}, d.cells.all C.fresh = true → RepD w' F' h' β' d u → RepD w' F h' β' d u := by
    intro d u hf hr
    cases d with
    | one c => exact hc (by simpa [D.cells] using hf) hr
    | agg cs =>
      obtain ⟨us, e, hh⟩ := hr
      refine ⟨us, e, All2.of_get hh.len fun j c hj => ?_⟩
      obtain ⟨y, hy, hr⟩ := hh.get hj
      exact ⟨y, hy, hc (List.all_eq_true.1 (show cs.all C.fresh = true from hf) c (List.mem_of_getElem? hj)) hr⟩
  cases y with
  | d d => exact hd hy hr
  | tup xs =>
    obtain ⟨us, e, hh⟩ := hr
    refine ⟨us, e, All2.of_get hh.len fun j c hj => ?_⟩
    obtain ⟨y, hy', hr⟩ := hh.get hj
    exact ⟨y, hy', hd (List.all_eq_true.1 (show (xs.all fun x => x.cells.all C.fresh) = true from hy) c (List.mem_of_getElem? hj)) hr⟩
  | when s b d => cases hy
  | nilq n => cases hy
  | und => cases hy
  | unk => cases hy

theorem flat_when {y : T} : y.flat = true → True := fun _ => trivial

theorem evCall_sound (H : Inv w0 O0 F0 w F h β) {Γ : Env} (hΓ : EnvOk P Γ) {hh : Nat → Option Obj} (hhh : ∀ i ob, hh i = some ob → h i = some (some ob)) {f : FuncId} {con : Con} (hcon : Γ f = some con) {t : Nat} {ds : List D} {args : List Value} (hds : All2 (RepD w F h β) ds args)
    {c : Option Bool} {ups : Ups} (he : evCall con t ds hh = some (c, x, ups)) (hc : c = none ∨ c = some true) (hnew : ∀ j q, (j, q) ∈ ups → isNew t j = true → h j = none) (tm : Array Value) :
    Calls P f args.toArray w fun e w' => ∃ v, e = .returned v ∧ Out w0 O0 F0 w F h β tm ups x v w' := by
  obtain ⟨_, hsat⟩ := hΓ f con hcon
  have hpres0 : ∀ i ∈ addNew [] (ds.flatMap D.refs), ∃ q, h i = some q := fun i hi => by
    rcases mem_addNew.1 hi with hi | hi
    · simp at hi
    · obtain ⟨d, hd, hi⟩ := List.mem_flatMap.1 hi
      obtain ⟨k, hk⟩ := List.getElem?_of_mem hd
      obtain ⟨u, _, hr⟩ := hds.get hk
      exact RepD.pres hr i hi
  have hpres := closure_pres H hhh 3 _ hpres0
  unfold evCall at he
  split at he
  · -- read only
    split at he
    · cases he
    · rename_i ds' hds'
      obtain ⟨F1, H1, P1, hb1⟩ := H.freezes (closure hh 3 (addNew [] (ds.flatMap D.refs))) hpres
      have hargs : All2 (RepD w F1 (hOf []) (fun k => β (([] : List Nat).getD k 0))) ds' args := by
        have hmap := allSome_map hds'
        refine All2.of_get (hmap.len.trans hds.len) fun j d' hj => ?_
        obtain ⟨d, hd, he⟩ := hmap.get hj
        obtain ⟨u, hu, hr⟩ := hds.get hd
        refine ⟨u, hu, toR_D H hhh P1.sub (l := addNew [] (ds.flatMap D.refs)) hb1 hr he (fun i hi => mem_addNew.2 (.inr (List.mem_flatMap.2 ⟨d, List.mem_of_getElem? hd, hi⟩))) _ _⟩
      have key : ∀ c' r objs, con.f ds' [] = some (c', r, objs) → (c' = none ∨ c' = some true) → 
          Calls P f args.toArray w fun e w' => ∃ v F' β', e = .returned v ∧ Inv w (Own (hOf []) (fun k => β (([] : List Nat).getD k 0))) F1 w' F' (look objs) β' ∧ (∀ s b d, r ≠ .when s b d) ∧ RepX #[] w' F' (look objs) β' r v := fun c' r objs hf hc' => by
        have s2 := hsat ds' [] c' r objs hf hc'
        refine (s2 w F1 (fun k => β (([] : List Nat).getD k 0)) args ?_ hargs).mono ?_
        · have := (callee_inv H1 (ids := []) (os := []) List.nodup_nil .nil).2
          exact this
        · rintro e w' ⟨v, F', β', g1, g2, _, _, hw, g5⟩
          exact ⟨v, F', β', g1, g2, hw, g5⟩
      have fin : ∀ c' r objs ups', con.f ds' [] = some (c', r, objs) → (c' = none ∨ c' = some true) → renUps (backTo [] t) objs = some ups' → (∀ j q, (j, q) ∈ ups' → isNew t j = true → h j = none) →
          Calls P f args.toArray w fun e w' => ∃ v, e = .returned v ∧ Out w0 O0 F0 w F h β tm (ups' ++ dropIds (closure hh 3 (addNew [] (ds.flatMap D.refs)))) (r.ren (backTo [] t)) v w' := fun c' r objs ups' hf hc' hren hnew' => by
        have hcalls := key c' r objs hf hc'
        refine hcalls.mono ?_
        rintro e w' ⟨v, F', β', g1, g2, hw, g3⟩
        refine ⟨v, g1, ?_⟩
        obtain ⟨F2, β2, r1, r2, r3⟩ := caller_inv H1 (ids := []) (os := []) List.nodup_nil (by simp) .nil hren (fun j q hj hn => by
          have hjn := hnew' j q hj hn
          rw [upd_drop_ne]
          · exact hjn
          · intro hm
            obtain ⟨q', hq'⟩ := hpres j hm
            rw [hjn] at hq'; cases hq') g2 (fun i hi => by simp at hi) (fun i _ hi => by simp at hi) (RepX.tm (tm' := tm) hw g3)
        exact ⟨F2, β2, by rw [upd_append]; exact r1, by rw [upd_append]; exact P1.trans r2, by rw [upd_append]; exact r3⟩
      split at he
      · cases he
      · rename_i c' r hf
        split at he
        · rename_i hflat
          cases he
          have hcalls := key _ _ _ hf hc
          refine hcalls.mono ?_
          rintro e w' ⟨v, F', β', g1, g2, hw, g3⟩
          have hk : ∀ b, b < w.heap.size → w'.heap[b]? = w.heap[b]? := fun b hb => g2.kept b hb fun ⟨i, o', hi, _⟩ => by simp [hOf, startHeap, look] at hi
          obtain ⟨H2, P2⟩ := H.grow g2.os g2.tape g2.output g2.size hk
          exact ⟨v, g1, F, β, by rw [upd_nil]; exact H2, by rw [upd_nil]; exact P2, flat_rep hflat (RepX.tm (tm' := tm) hw g3)⟩
        · cases he
          exact fin _ _ _ [] hf hc rfl (fun j q hj => by simp at hj)
      · rename_i c' r objs _ hf
        split at he
        · cases he
        · rename_i ups' hren
          split at he
          · rename_i hfr
            cases he
            simp only [Bool.and_eq_true] at hfr
            have hcalls := key _ _ _ hf hc
            refine hcalls.mono ?_
            rintro e w' ⟨v, F', β', g1, g2, hw, g3⟩
            refine ⟨v, g1, ?_⟩
            exact caller_inv H (ids := []) (os := []) List.nodup_nil (by simp) .nil hren hnew (thin_inv g2 P1.sub hfr.2) (fun i hi => by simp at hi) (fun i _ hi => by simp at hi) (RepX.tm (tm' := tm) hw (thin_rep hfr.1 g3))
          · cases he
            exact fin _ _ _ _ hf hc hren fun j q hj hn => hnew j q (List.mem_append_left _ hj) hn
  · -- with objects
    dsimp only at he
    split at he
    · rename_i os hos hnd
      simp only [Bool.and_eq_true] at hnd
      split at he
      · cases he
      · rename_i c' r objs hf
        split at he
        · cases he
        · rename_i ups' hren
          cases he
          have hn := nodupN_iff.1 hnd.1
          have hl : (closure hh 3 (addNew [] (ds.flatMap D.refs))).length ≤ 1000 := by simpa using hnd.2
          have hos' : All2 (fun o i => h i = some (some o)) os (closure hh 3 (addNew [] (ds.flatMap D.refs))) := (allSome_map hos).mono fun ob i hi => hhh i ob hi
          obtain ⟨hr, HC⟩ := callee_inv H hn hos'
          have s2 := hsat _ _ _ _ _ hf hc
          have hargs : All2 (RepD w F (hOf (os.map (Obj.ren (idxOf (closure hh 3 (addNew [] (ds.flatMap D.refs))))))) (fun k => β ((closure hh 3 (addNew [] (ds.flatMap D.refs))).getD k 0))) (ds.map (D.ren (idxOf (closure hh 3 (addNew [] (ds.flatMap D.refs)))))) args :=
            All2.map_l.2 (hds.mono fun _ _ hd => ren_repD hr hd)
          refine (s2 w F _ args HC hargs).mono ?_
          rintro e w' ⟨v, F', β', g1, g2, g3, g4, s1, g5⟩
          exact ⟨v, g1, caller_inv H hn hl hos' hren hnew g2 (by simpa using g3) (by simpa using g4) (RepX.tm (tm' := tm) s1 g5)⟩
    · cases he

theorem dsOf_sound {tm : Array Value} : ∀ {xs : List T} {ds : List D} {us : List Value}, dsOf xs = some ds → All2 (RepX tm w F h β) xs us → All2 (RepD w F h β) ds us
  | [], ds, us, hd, hx => by cases hx; simp [dsOf] at hd; subst hd; exact .nil
  | x :: xs, ds, us, hd, hx => by
    cases hx with
    | cons h1 h2 =>
      cases x <;> simp only [dsOf] at hd <;> try cases hd
      simp only [Option.map_eq_some_iff] at hd
      obtain ⟨ds', g1, rfl⟩ := hd
      exact .cons h1 (dsOf_sound g1 h2)

theorem evCall_alive {con : Con} {t : Nat} {ds : List D} {hh : Nat → Option Obj} {r : Option Bool × T × Ups} (he : evCall con t ds hh = some r) : ∀ i off, D.one (.ptr i off) ∈ ds → ∃ ob, hh i = some ob := by
  intro i off hi
  unfold evCall at he
  split at he
  · split at he
    · cases he
    · rename_i ds' hds'
      have hmap := allSome_map hds'
      obtain ⟨k, hk⟩ := List.getElem?_of_mem hi
      obtain ⟨d', _, he'⟩ := hmap.getR hk
      simp only [D.toR] at he'
      split at he'
      · rename_i hob; exact ⟨_, hob⟩
      · cases he'
  · dsimp only at he
    split at he
    · rename_i os hos _
      have hmap := allSome_map hos
      have hm : i ∈ closure hh 3 (addNew [] (ds.flatMap D.refs)) := closure_self hh 3 _ i (mem_addNew.2 (.inr (List.mem_flatMap.2 ⟨_, hi, by simp [D.refs, D.cells, C.refs]⟩)))
      obtain ⟨k, hk⟩ := List.getElem?_of_mem hm
      obtain ⟨ob, _, hob⟩ := hmap.getR hk
      exact ⟨ob, hob⟩
    · cases he

theorem areBoxes_sound {hh : Nat → Option Obj} : ∀ {l : List Nat}, areBoxes hh l = true → ∀ i ∈ l, ∃ t cs, hh i = some (.box t cs)
  | [], _, i, hi => by simp at hi
  | k :: l, hb, i, hi => by
    simp only [areBoxes] at hb
    split at hb
    · rename_i hk
      rcases List.mem_cons.1 hi with rfl | hi
      · exact ⟨_, _, hk⟩
      · exact areBoxes_sound hb i hi
    · cases hb

theorem op_call (H : Inv w0 O0 F0 w F h β) {Γ : Env} (hΓ : EnvOk P Γ) {hh : Nat → Option Obj} (hhh : ∀ i ob, hh i = some ob → h i = some (some ob)) {fo : Operand} {args : Array Operand} {ats : Array TypeId} (ho : o.op = .call { callee := .value fo, args := args, argTypes := ats })
    {f : FuncId} {caps : List Nat} {con : Con} (hcon : Γ f = some con) {xs : List T} {ds : List D} (hds : dsOf xs = some ds) (hbx : areBoxes hh caps = true) (hf : RepC w F h β (.fn f caps) (a.eval fo)) (hx : All2 (RepX a.tmps w F h β) xs (args.toList.map a.eval))
    {c : Option Bool} {ups : Ups} (he : evCall con (o.dst.getD 0) (ds ++ caps.map fun i => .one (.ptr i 0)) hh = some (c, x, ups)) (hc : c = none ∨ c = some true) (hnew : ∀ j q, (j, q) ∈ ups → isNew (o.dst.getD 0) j = true → h j = none)
    (hK : ∀ v w', Out w0 O0 F0 w F h β a.tmps ups x v w' → K (a.put o.dst v) w') : o.wp P a w K Q := by
  have hbox : ∀ i ∈ caps, (∃ ob, h i = some (some ob)) ∧ ∃ b, β i = .pointer (some ⟨b, 0, none⟩) := fun i hi => by
    obtain ⟨t, cs, hi⟩ := areBoxes_sound hbx i hi
    obtain ⟨b, us, e1, _⟩ := H.obj _ _ (hhh _ _ hi)
    exact ⟨⟨_, hhh _ _ hi⟩, b, e1⟩
  have halive : ∀ i ∈ caps, ∃ ob, h i = some (some ob) := fun i hi => (hbox i hi).1
  have hfv := hf.2.2 halive
  have hcaps : All2 (RepD w F h β) (caps.map fun i => D.one (.ptr i 0)) (caps.map β) := by
    rw [All2.map_l, All2.map_r]
    have : ∀ {l : List Nat}, (∀ i ∈ l, (∃ ob, h i = some (some ob)) ∧ ∃ b, β i = .pointer (some ⟨b, 0, none⟩)) → All2 (fun i j => RepD w F h β (.one (.ptr i 0)) (β j)) l l := by
      intro l
      induction l with
      | nil => intro _; exact .nil
      | cons i l ih =>
        intro hl
        obtain ⟨⟨ob, g1⟩, b, g2⟩ := hl i (List.mem_cons_self ..)
        exact .cons ⟨by rw [g2]; rfl, ⟨_, g1⟩, fun o' _ => ⟨b, g2, g2⟩⟩ (ih fun k hk => hl k (List.mem_cons_of_mem _ hk))
    exact this hbox
  have hcalls := evCall_sound H hΓ hhh hcon (args := args.toList.map a.eval ++ caps.map β) ((dsOf_sound hds hx).append hcaps) he hc hnew a.tmps
  unfold Oper.wp
  have hrun : (execOp a.eval o).run P w = .ok (.enter f (args.toList.map a.eval ++ caps.map β).toArray) w := by
    have hcf := (hΓ f con hcon).1 (args.toList.map a.eval ++ caps.map β).toArray w
    simp only [execOp, ho, resolve, hfv, Deferred.ofValue, Sem.run_bind, Sem.run_pure, Result.andThen_ok, invoke]
    rw [← hcf]
    congr 2
    apply Array.ext'
    simp
  rw [hrun]
  refine hcalls.mono ?_
  rintro e w' ⟨v, rfl, hout⟩
  exact hK v w' hout
end
end Go.Proofs.YthhmpjnmmhfngaaDoor.Ev
