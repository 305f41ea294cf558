/-
  Operations that make and turn memory: stores into slices, literals, append, make.
-/
import Derived.Test.YthhmpjnmmhfngaaDoorEvH
namespace Go.Proofs.YthhmpjnmmhfngaaDoor.Ev
open Go

theorem allR_refs {hh : Nat → Option Obj} : ∀ {cs : List C} {rs : List R}, allR hh cs = some rs → ∀ i ∈ cs.flatMap C.refs, i ∈ ownIds cs
  | [], _, _, i, hi => by simp at hi
  | c :: cs, rs, hr, i, hi => by
    simp only [allR] at hr
    split at hr
    · rename_i r rs' e1 e2
      simp only [List.flatMap_cons, List.mem_append] at hi
      have ih := allR_refs e2 i
      rcases hi with hi | hi
      · unfold toR at e1
        split at e1
        · simp [C.refs] at hi
        · simp [C.refs] at hi; simp [ownIds, hi]
        · simp [C.refs] at hi; simp [ownIds, hi]
        · cases e1
      · have := ih hi
        cases c <;> simp [ownIds, this]
    · cases hr

theorem allR_none_own : ∀ {cs : List C} {rs : List R}, allR (fun _ => none) cs = some rs → ownIds cs = [] := by
  intro cs
  induction cs with
  | nil => intro _ _; rfl
  | cons c cs ih =>
    intro rs hr
    simp only [allR] at hr
    split at hr
    · rename_i e1 e2
      have := ih e2
      cases c
      case own i => simp [toR] at e1
      case dsl i p => cases p <;> simp [toR] at e1
      all_goals simpa [ownIds] using this
    · cases hr

theorem ownIds_refs : ∀ {cs : List C}, ∀ i ∈ ownIds cs, i ∈ cs.flatMap C.refs
  | [], i, hi => by simp [ownIds] at hi
  | c :: cs, i, hi => by
    simp only [List.flatMap_cons, List.mem_append]
    cases c
    case own k =>
      simp only [ownIds, List.mem_cons] at hi
      rcases hi with rfl | hi
      · exact .inl (by simp [C.refs])
      · exact .inr (ownIds_refs i hi)
    case dsl k p =>
      simp only [ownIds, List.mem_cons] at hi
      rcases hi with rfl | hi
      · exact .inl (by simp [C.refs])
      · exact .inr (ownIds_refs i hi)
    all_goals exact .inr (ownIds_refs i (by simpa [ownIds] using hi))

theorem allR_len {hh : Nat → Option Obj} : ∀ {cs : List C} {rs : List R}, allR hh cs = some rs → rs.length = cs.length
  | [], rs, hr => by simp [allR] at hr; subst hr; rfl
  | c :: cs, rs, hr => by
    simp only [allR] at hr
    split at hr
    · rename_i e1 e2; cases hr; simp [allR_len e2]
    · cases hr

section
variable {P : Program} {TT : Types} {w0 w : World} {O0 F0 F : Nat → Prop} {h : HF} {β : Nat → Value} {a : Act} {o : Oper} {K : Act → World → Prop} {Q : Exit → Act → World → Prop} {x : T} {v : Value}

theorem upd_drop_ne {l : List Nat} {i : Nat} (hi : i ∉ l) (h : HF) : upd (dropIds l) h i = h i := by
  simp [upd, look_dropIds, hi]

theorem op_store_arr (H : Inv w0 O0 F0 w F h β) (ht : TTok P TT) {hh : Nat → Option Obj} (hhh : ∀ i ob, hh i = some ob → h i = some (some ob)) {ty : TypeId} {ti : TI} {X Y : Operand} (ho : o.op = .store ty X Y) (hti : TT ty = some ti)
    {i sz k off : Nat} {t : TypeId} {n : Nat} {get : Nat → Nat → R} (hi : h i = some (some (.arr t sz n get))) {d : D}
    (hx : RepC w F h β (.eptr i sz k off) (a.eval X)) (hy : RepX a.tmps w F h β (.d d) (a.eval Y)) (hn : d.cells.length = ti.info.size) {rs : List R} (hrs : allR hh d.cells = some rs) (hfit : off + ti.info.size ≤ sz) (hni : i ∉ ownIds d.cells)
    (hK : ∀ v w', Out w0 O0 F0 w F h β a.tmps ((i, some (.arr t sz n (arrSetAll get k off rs))) :: dropIds (ownIds d.cells)) .und v w' → K (a.put o.dst v) w') : o.wp P a w K Q := by
  obtain ⟨b, n', cap, h1, hkn, h2⟩ := hx.2.2 _ hi
  have hyc := RepD.cells hy
  obtain ⟨F1, H1, P1, hb1⟩ := H.freezes (ownIds d.cells) fun j hj => RepD.pres hy j (ownIds_refs j hj)
  have hus := allR_sound H hhh P1.sub hyc hrs fun j hj o b' h3 h4 => hb1 j (allR_refs hrs j hj) o b' h3 h4
  have hi1 : upd (dropIds (ownIds d.cells)) h i = some (some (.arr t sz n get)) := by rw [upd_drop_ne hni]; exact hi
  have hn' : n' = n := by
    rcases H.obj _ _ hi with ⟨ad, h3, h4⟩ | ⟨b', cap', cur, h3, _⟩
    · rw [h1] at h3; cases h3; exact h4.symm
    · rw [h1] at h3; cases h3; rfl
  subst hn'
  obtain ⟨cur, h3, h4, H', P'⟩ := store_arr H1 hi1 h1 hkn hus (by rw [allR_len hrs, hn]; exact hfit)
  have hl := hyc.len
  simp only [Array.length_toList] at hl h4 H' P'
  refine wp_skp (w' := w.setRow b (cur.toList.take (k * sz + off) ++ (a.eval Y).cells.toList ++ cur.toList.drop (k * sz + off + (a.eval Y).cells.size)).toArray) ?_ (hK _ _ ⟨F1, β, by rw [upd_cons]; exact H', by rw [upd_cons]; exact P1.trans P', rfl⟩)
  have hst := run_storeVar_at (P := P) (w := w) ht hti (u := a.eval Y) h3 (by omega) (by omega) (all_one hyc)
  simp only [execOp, ho, h2, Instr.storeAt, Instr.sureAddr, Sem.run_bind, Sem.run_pure, Result.andThen_ok, hst]

/-! ### filling -/
theorem fold_set (vs : List Value) : ∀ (cells : Array Value) (off k : Nat), off + k + vs.length ≤ cells.size →
    ((vs.zipIdx k).foldl (fun cs (x : Value × Nat) => cs.setIfInBounds (off + x.2) x.1) cells).toList = cells.toList.take (off + k) ++ vs ++ cells.toList.drop (off + k + vs.length) := by
  induction vs with
  | nil => intro cells off k _; simp
  | cons u vs ih =>
    intro cells off k hl
    simp only [List.length_cons] at hl
    rw [List.zipIdx_cons, List.foldl_cons, ih _ _ _ (by simp; omega)]
    simp only [Array.toList_setIfInBounds, List.length_cons]
    rw [List.drop_set_of_lt (by omega), show off + k + (vs.length + 1) = off + (k + 1) + vs.length by omega]
    congr 1
    rw [show off + (k + 1) = off + k + 1 by omega, List.take_succ_eq_append_getElem (by simp; omega), List.take_set_of_le (Nat.le_refl _)]
    simp

theorem fill_step {place : Nat → Option (Nat × Nat)} {cells : Array Value} {i off size : Nat} {u : Value} {rest : List (Nat × Value)} (hp : place i = some (off, size)) (hs : u.cells.size = size) (hf : off + size ≤ cells.size) :
    ∃ cells' : Array Value, cells'.toList = cells.toList.take off ++ u.cells.toList ++ cells.toList.drop (off + size) ∧ Instr.fill place cells ((i, u) :: rest) = Instr.fill place cells' rest := by
  refine ⟨u.cells.zipIdx.foldl (fun cs (c, j) => cs.setIfInBounds (off + j) c) cells, ?_, ?_⟩
  · have := fold_set u.cells.toList cells off 0 (by simp; omega)
    simp only [Nat.add_zero, Array.length_toList, hs] at this
    rw [← this, ← Array.toList_zipIdx, Array.foldl_toList]
  · simp only [Instr.fill, hp]
    rw [if_neg]
    simp only [Bool.or_eq_true, decide_eq_true_eq, not_or]
    omega

/-- struct literals -/
def szOf (TT : Types) (t : TypeId) : Nat := match TT t with | some ti => ti.info.size | none => 0

theorem buildCells_sound {fs : Array Field} : ∀ {ps : List (Nat × Operand)} {xs : List T} {cs cs' : List C} {cells : Array Value}, buildCells TT fs cs ps xs = some cs' → All2 (RepX a.tmps w F h β) xs (ps.map fun p => a.eval p.2) →
    All2 (RepC w F h β) cs cells.toList → ∃ cells', Instr.fill (fun i => ((fs.map fun f => (f.offset, szOf TT f.type))[i]?)) cells (ps.map fun p => (p.1, a.eval p.2)) = some cells' ∧ All2 (RepC w F h β) cs' cells'.toList
  | [], xs, cs, cs', cells, hb, hx, hc => by
    cases hx
    simp [buildCells] at hb
    subst hb
    exact ⟨cells, rfl, hc⟩
  | (i, Y) :: ps, xs, cs, cs', cells, hb, hx, hc => by
    cases hx with
    | @cons x _ xs _ h1 h2 =>
      cases x <;> simp only [buildCells] at hb <;> try cases hb
      rename_i x
      split at hb
      · rename_i f hf
        split at hb
        · rename_i ti hti
          split at hb
          · rename_i e1 e2
            have e1 := Nat.eq_of_beq_eq_true e1
            have e2 : f.offset + x.cells.length ≤ cs.length := Nat.le_of_ble_eq_true e2
            have hxc := RepD.cells h1
            have hl := hxc.len
            have hlc := hc.len
            simp only [Array.length_toList] at hl hlc
            obtain ⟨cells1, he1, he2⟩ := fill_step (place := fun i => ((fs.map fun f => (f.offset, szOf TT f.type))[i]?)) (cells := cells) (i := i) (off := f.offset) (size := ti.info.size) (u := a.eval Y) (rest := ps.map fun p => (p.1, a.eval p.2))
              (by simp [hf, szOf, hti]) (by omega) (by omega)
            have hc1 : All2 (RepC w F h β) (setCells cs f.offset x.cells) cells1.toList := by
              rw [he1, setCells_eq _ _ _ e2, e1]
              exact ((hc.take _).append hxc).append (hc.drop _)
            obtain ⟨cells', h3, h4⟩ := buildCells_sound hb h2 hc1
            exact ⟨cells', by rw [List.map_cons, he2]; exact h3, h4⟩
          · cases hb
        · cases hb
      · cases hb

theorem run_places (ht : TTok P TT) (w : World) : ∀ (fs : List Field), (∀ f ∈ fs, (TT f.type).isSome = true) → (fs.mapM fun f => do pure (f.offset, ← sizeOf f.type) : Sem (List (Nat × Nat))).run P w = .ok (fs.map fun f => (f.offset, szOf TT f.type)) w
  | [], _ => rfl
  | f :: fs, hall => by
    have hf := hall f (List.mem_cons_self ..)
    cases hti : TT f.type with
    | none => simp [hti] at hf
    | some ti =>
      simp only [List.mapM_cons, Sem.run_bind, ht.run_size hti, Result.andThen_ok, Sem.run_pure, run_places ht w fs fun g hg => hall g (List.mem_cons_of_mem _ hg), List.map_cons, szOf, hti]

theorem op_build (H : Inv w0 O0 F0 w F h β) (ht : TTok P TT) {ty : TypeId} {ti : TI} {ps : Array (Nat × Operand)} (ho : o.op = .build ty ps) (hti : TT ty = some ti) {fs : Array Field} (hfs : fieldsOf ti = some fs) {z : List C} (hz : zeroCells ti = some z)
    (hall : fs.toList.all (fun f => (TT f.type).isSome) = true) {xs : List T} {cs : List C} (hb : buildCells TT fs z ps.toList xs = some cs) (hx : All2 (RepX a.tmps w F h β) xs (ps.toList.map fun p => a.eval p.2))
    (hK : ∀ v w', Out w0 O0 F0 w F h β a.tmps [] (.d (.agg cs)) v w' → K (a.put o.dst v) w') : o.wp P a w K Q := by
  obtain ⟨zv, hz1, hz2⟩ := zeroCells_sound (w := w) (F := F) (h := h) (β := β) hz
  obtain ⟨cells', h1, h2⟩ := buildCells_sound (a := a) hb hx hz2
  refine op_quiet H (x := .d (.agg cs)) (v := .agg cells') ?_ ⟨cells', rfl, h2⟩ hK
  have hd := fieldsOf_some hfs
  have hpl : (fs.mapM fun f => do pure (f.offset, ← sizeOf f.type) : Sem (Array (Nat × Nat))).run P w = .ok (fs.map fun f => (f.offset, szOf TT f.type)) w := by
    rw [Array.mapM_eq_mapM_toList]
    simp only [Sem.run_map, run_places ht w fs.toList fun f hf => List.all_eq_true.1 hall f hf, Result.andThen_ok]
    congr 1
    apply Array.ext'
    simp
  have hpar : (ps.map fun (i, x) => (i, a.eval x)).toList = ps.toList.map fun p => (p.1, a.eval p.2) := by simp
  simp only [execOp, ho, Instr.build, Sem.run_bind, ht.run_zero hti hz1, ht.run_under hti, hd, Result.andThen_ok, hpl, hpar, h1, Sem.run_pure]
end
end Go.Proofs.YthhmpjnmmhfngaaDoor.Ev
