/-
  Operations that make and turn memory: variables, stores, literals of structs.
-/
import Derived.Test.YthhmpjnmmhfngaaDoorEvG
namespace Go.Proofs.YthhmpjnmmhfngaaDoor.Ev
open Go

theorem setCells_eq : ∀ (xs cs : List C) (off : Nat), off + xs.length ≤ cs.length → setCells cs off xs = cs.take off ++ xs ++ cs.drop (off + xs.length)
  | [], cs, off, _ => by simp [setCells]
  | x :: xs, cs, off, hl => by
    simp only [List.length_cons] at hl
    rw [setCells, setCells_eq xs (cs.set off x) (off + 1) (by simp; omega)]
    rw [List.length_cons, show off + (xs.length + 1) = off + 1 + xs.length by omega]
    rw [List.drop_set_of_lt (by omega)]
    congr 1
    rw [List.take_succ_eq_append_getElem (by simp; omega), List.take_set_of_le (Nat.le_refl _)]
    simp

section
variable {P : Program} {TT : Types} {w0 w : World} {O0 F0 F : Nat → Prop} {h : HF} {β : Nat → Value} {a : Act} {o : Oper} {K : Act → World → Prop} {Q : Exit → Act → World → Prop} {x : T} {v : Value}

theorem new_box (H : Inv w0 O0 F0 w F h β) {e : TypeId} {cs : List C} {us : Array Value} {s : Nat} (hs0 : h s = none) (hc : All2 (RepC w F h β) cs us.toList) (tm : Array Value) :
    Out w0 O0 F0 w F h β tm [(s, some (.box e cs))] (.d (.one (.ptr s 0))) (.pointer (some ⟨w.heap.size, 0, none⟩)) (w.alloc (.cells us e)) := by
  have T := H.new hs0 (.cells us e) (.box e cs) (.pointer (some ⟨w.heap.size, 0, none⟩)) (fun b hb => by have hb := Blk_pointer.1 hb; simpa [blk] using hb.symm)
    (fun P => ⟨w.heap.size, us, by simp [setB], heap_alloc_new w _, hc.mono fun _ _ => P.repC⟩)
  refine ⟨F, _, by rw [upd_cons]; exact T.1, by rw [upd_cons]; exact T.2, rfl, ⟨some (.box e cs), by simp [upd, look]⟩, fun ob _ => ⟨w.heap.size, by simp [setB], rfl⟩⟩

theorem op_box (H : Inv w0 O0 F0 w F h β) {e : TypeId} {X : Operand} (ho : o.op = .box e X) {d : D} (hx : RepX a.tmps w F h β (.d d) (a.eval X)) {s : Nat} (hs0 : h s = none)
    (hK : ∀ v w', Out w0 O0 F0 w F h β a.tmps [(s, some (.box e d.cells))] (.d (.one (.ptr s 0))) v w' → K (a.put o.dst v) w') : o.wp P a w K Q := by
  refine wp_val (w' := w.alloc (.cells (a.eval X).cells e)) ?_ (hK _ _ (new_box H hs0 (RepD.cells hx) a.tmps))
  simp [execOp, ho, Instr.box, newVar, newRow, newObj, Sem.run]

theorem zeroCells_sound {ti : TI} {cs : List C} (hz : zeroCells ti = some cs) : ∃ z, ti.info.zero = some z ∧ All2 (RepC w F h β) cs z.cells.toList := by
  unfold zeroCells at hz
  split at hz
  · rename_i z e
    refine ⟨z, e, ?_⟩
    have := allSome_map hz
    exact this.mono fun _ _ hc => cellOf_sound hc
  · cases hz

theorem TTok.run_zero {ti : TI} (ht : TTok P TT) {t : TypeId} (h : TT t = some ti) {z : Value} (hz : ti.info.zero = some z) (w : World) : (zeroValue t).run P w = .ok z w := by
  simp [zeroValue, ht.run_info h, hz]

theorem op_alloc (H : Inv w0 O0 F0 w F h β) (ht : TTok P TT) {e : TypeId} {ti : TI} (ho : o.op = .alloc e) (hti : TT e = some ti) {cs : List C} (hz : zeroCells ti = some cs) {s : Nat} (hs0 : h s = none)
    (hK : ∀ v w', Out w0 O0 F0 w F h β a.tmps [(s, some (.box e cs))] (.d (.one (.ptr s 0))) v w' → K (a.put o.dst v) w') : o.wp P a w K Q := by
  obtain ⟨z, hz1, hz2⟩ := zeroCells_sound (w := w) (F := F) (h := h) (β := β) hz
  refine wp_val (w' := w.alloc (.cells z.cells e)) ?_ (hK _ _ (new_box H hs0 hz2 a.tmps))
  simp [execOp, ho, Instr.alloc, ht.run_zero hti hz1, newVar, newRow, newObj, Sem.run]

/-! ### stores -/
theorem run_storeVar_at (ht : TTok P TT) {t : TypeId} {ti : TI} (hti : TT t = some ti) {g off : Nat} {et : TypeId} {cur : Array Value} {u : Value} (hg : w.heap[g]? = some (.cells cur et (0, 0))) (hl : u.cells.size = ti.info.size)
    (hfit : off + u.cells.size ≤ cur.size) (h1 : ∀ v ∈ u.cells.toList, v.oneCell' = true) :
    (storeVar t ⟨g, off, none⟩ u).run P w = .ok () (w.setRow g (cur.toList.take off ++ u.cells.toList ++ cur.toList.drop (off + u.cells.size)).toArray) := by
  have hst := run_storeCells_at P g off et u.cells.toList 0 cur w hg (by simpa using hfit) h1
  simp only [Nat.add_zero, Array.length_toList] at hst
  simp only [storeVar, Sem.run_bind, ht.run_size hti, Result.andThen_ok, hl, ne_eq, not_true_eq_false, if_false]
  simpa [hl] using hst

theorem setRow_same (w : World) (g : Nat) (cs : Array Value) : (w.setRow g cs).os = w.os ∧ (w.setRow g cs).tape = w.tape ∧ (w.setRow g cs).output = w.output ∧ (w.setRow g cs).heap.size = w.heap.size := by
  refine ⟨rfl, rfl, rfl, ?_⟩
  simp [World.setRow]

theorem all_one {cs : List C} {us : List Value} (hc : All2 (RepC w F h β) cs us) : ∀ v ∈ us, v.oneCell' = true := by
  induction hc with
  | nil => intro v hv; simp at hv
  | cons h1 _ ih =>
    intro v hv
    rcases List.mem_cons.1 hv with rfl | hv
    · exact RepC.one h1
    · exact ih v hv

/-- A store into a variable of the call's own. -/
theorem store_box (H : Inv w0 O0 F0 w F h β) {i off : Nat} {t : TypeId} {cs : List C} (hi : h i = some (some (.box t cs))) {b : Nat} (hb : β i = .pointer (some ⟨b, 0, none⟩)) {xs : List C} {us : List Value} (hx : All2 (RepC w F h β) xs us)
    (hfit : off + xs.length ≤ cs.length) :
    ∃ cur : Array Value, w.heap[b]? = some (.cells cur t (0, 0)) ∧ off + us.length ≤ cur.size ∧ Inv w0 O0 F0 (w.setRow b (cur.toList.take off ++ us ++ cur.toList.drop (off + us.length)).toArray) F (setH h i (some (.box t (setCells cs off xs)))) β ∧
      Per w F h β (w.setRow b (cur.toList.take off ++ us ++ cur.toList.drop (off + us.length)).toArray) F (setH h i (some (.box t (setCells cs off xs)))) β := by
  obtain ⟨b', cur, h1, h2, h3⟩ := H.obj _ _ hi
  rw [hb] at h1
  cases h1
  have hl := hx.len
  have hl3 := h3.len
  refine ⟨cur, h2, by simp at hl3; omega, ?_⟩
  have hnew : All2 (RepC w F h β) (setCells cs off xs) (cur.toList.take off ++ us ++ cur.toList.drop (off + us.length)) := by
    rw [setCells_eq _ _ _ hfit, hl]
    exact ((h3.take off).append hx).append (h3.drop _)
  obtain ⟨s1, s2, s3, s4⟩ := setRow_same w b (cur.toList.take off ++ us ++ cur.toList.drop (off + us.length)).toArray
  have T := H.turn (w' := w.setRow b (cur.toList.take off ++ us ++ cur.toList.drop (off + us.length)).toArray) (F' := F) i (some (.box t (setCells cs off xs))) (β i) s1 s2 s3 (Nat.le_of_eq s4.symm) (fun k => k = b)
    (fun k hk => by
      subst hk
      have hk : Blk (β i) k := by rw [hb]; exact Blk_pointer.2 rfl
      exact ⟨H.notF i _ k hi hk, fun j o' hj hj' hb' => hj (H.apart j i o' _ k hj' hi hb' hk), H.fromO i _ k hi hk⟩)
    (fun k _ hk => setRow_other w b k _ hk) (fun _ hf => hf) (fun _ hf => .inl hf) (fun q0 _ h0 _ => ⟨⟨_, by rw [hi] at h0; exact (Option.some.inj h0).symm⟩, rfl⟩)
    (fun P ob hob => by
      cases hob
      refine ⟨⟨b, _, by simp [setB, hb], setRow_heap w b cur _ t _ h2, ?_⟩, fun k hk => ?_⟩
      · exact hnew.mono fun _ _ => P.repC
      · rw [hb] at hk; have hk := Blk_pointer.1 hk; exact .inl (by simpa [blk] using hk.symm))
  rw [setB_self] at T
  exact T

theorem op_store_box (H : Inv w0 O0 F0 w F h β) (ht : TTok P TT) {ty : TypeId} {ti : TI} {X Y : Operand} (ho : o.op = .store ty X Y) (hti : TT ty = some ti) {i off : Nat} {t : TypeId} {cs : List C} (hi : h i = some (some (.box t cs))) {d : D}
    (hx : RepC w F h β (.ptr i off) (a.eval X)) (hy : RepX a.tmps w F h β (.d d) (a.eval Y)) (hn : d.cells.length = ti.info.size) (hfit : off + ti.info.size ≤ cs.length)
    (hK : ∀ v w', Out w0 O0 F0 w F h β a.tmps [(i, some (.box t (setCells cs off d.cells)))] .und v w' → K (a.put o.dst v) w') : o.wp P a w K Q := by
  obtain ⟨b, h1, h2⟩ := hx.2.2 _ hi
  have hyc := RepD.cells hy
  obtain ⟨cur, h3, h4, H', P'⟩ := store_box H hi h1 hyc (by rw [hn]; exact hfit)
  have hl := hyc.len
  simp only [Array.length_toList] at hl h4 H' P'
  refine wp_skp (w' := w.setRow b (cur.toList.take off ++ (a.eval Y).cells.toList ++ cur.toList.drop (off + (a.eval Y).cells.size)).toArray) ?_ (hK _ _ ⟨F, β, by rw [upd_cons]; exact H', by rw [upd_cons]; exact P', rfl⟩)
  have hst := run_storeVar_at (P := P) (w := w) ht hti (u := a.eval Y) h3 (by omega) (by omega) (all_one hyc)
  simp only [execOp, ho, h2, Instr.storeAt, Instr.sureAddr, Sem.run_bind, Sem.run_pure, Result.andThen_ok, hst]

theorem arrSet_one (get : Nat → Nat → R) (k off : Nat) (r : R) (k' j : Nat) : arrSetAll get k off [r] k' j = arrSet get k off r k' j := by
  unfold arrSetAll arrSet
  by_cases h1 : k' = k ∧ j = off
  · obtain ⟨rfl, rfl⟩ := h1
    simp
  · rw [if_neg h1, if_neg]
    simp only [List.length_cons, List.length_nil]
    omega

theorem lin_inj {sz k k' j j' : Nat} (hj : j < sz) (hj' : j' < sz) (e : k * sz + j = k' * sz + j') : k = k' ∧ j = j' := by
  have e1 : (k * sz + j) / sz = k := by rw [Nat.add_comm, Nat.add_mul_div_right _ _ (by omega), Nat.div_eq_of_lt hj]; omega
  have e2 : (k' * sz + j') / sz = k' := by rw [Nat.add_comm, Nat.add_mul_div_right _ _ (by omega), Nat.div_eq_of_lt hj']; omega
  have : k = k' := by rw [← e1, ← e2, e]
  subst this
  exact ⟨rfl, by omega⟩

theorem store_arr (H : Inv w0 O0 F0 w F h β) {i k off : Nat} {t : TypeId} {sz n : Nat} {get : Nat → Nat → R} (hi : h i = some (some (.arr t sz n get))) {b cap : Nat} (hb : β i = .slice (some ⟨b, 0, none⟩) n cap) (hk : k < n) {rs : List R} {us : List Value} (hx : All2 (Ro w F) rs us)
    (hfit : off + rs.length ≤ sz) :
    ∃ cur : Array Value, w.heap[b]? = some (.cells cur t (0, 0)) ∧ k * sz + off + us.length ≤ cur.size ∧ Inv w0 O0 F0 (w.setRow b (cur.toList.take (k * sz + off) ++ us ++ cur.toList.drop (k * sz + off + us.length)).toArray) F (setH h i (some (.arr t sz n (arrSetAll get k off rs)))) β ∧
      Per w F h β (w.setRow b (cur.toList.take (k * sz + off) ++ us ++ cur.toList.drop (k * sz + off + us.length)).toArray) F (setH h i (some (.arr t sz n (arrSetAll get k off rs)))) β := by
  rcases H.obj _ _ hi with ⟨ad, h1, h2⟩ | ⟨b', cap', cur, h1, h2, h3, h4, h5, h6, h7⟩
  · omega
  rw [hb] at h1
  cases h1
  have hl := hx.len
  have hmul : k * sz + sz ≤ cap * sz := by have := Nat.mul_le_mul_right sz (show k + 1 ≤ cap by omega); rw [Nat.add_mul] at this; omega
  have hsz : k * sz + off + us.length ≤ cur.size := by rw [h6]; omega
  refine ⟨cur, h3, hsz, ?_⟩
  obtain ⟨s1, s2, s3, s4⟩ := setRow_same w b (cur.toList.take (k * sz + off) ++ us ++ cur.toList.drop (k * sz + off + us.length)).toArray
  have hblk : Blk (β i) b := by rw [hb]; simp [blk]; omega
  have T := H.turn (w' := w.setRow b (cur.toList.take (k * sz + off) ++ us ++ cur.toList.drop (k * sz + off + us.length)).toArray) (F' := F) i (some (.arr t sz n (arrSetAll get k off rs))) (β i) s1 s2 s3 (Nat.le_of_eq s4.symm) (fun k => k = b)
    (fun k hk => by
      subst hk
      exact ⟨H.notF i _ k hi hblk, fun j o' hj hj' hb' => hj (H.apart j i o' _ k hj' hi hb' hblk), H.fromO i _ k hi hblk⟩)
    (fun k _ hk => setRow_other w b k _ hk) (fun _ hf => hf) (fun _ hf => .inl hf) (fun q0 _ h0 _ => ⟨⟨_, by rw [hi] at h0; exact (Option.some.inj h0).symm⟩, rfl⟩)
    (fun P ob hob => by
      cases hob
      refine ⟨.inr ⟨b, cap, _, by simp [setB, hb], h2, setRow_heap w b cur _ t _ h3, h4, h5, ?_, fun k' hk' j' hj' => ?_⟩, fun k hk => ?_⟩
      · simp only [List.size_toArray, List.length_append, List.length_take, List.length_drop, Array.length_toList]; omega
      · have hmul' : k' * sz + sz ≤ cap * sz := by have := Nat.mul_le_mul_right sz (show k' + 1 ≤ cap by omega); rw [Nat.add_mul] at this; omega
        simp only [List.getElem?_toArray]
        by_cases hin : k' = k ∧ off ≤ j' ∧ j' < off + rs.length
        · obtain ⟨rfl, h8, h9⟩ := hin
          obtain ⟨y, hy, hr⟩ := hx.get (j := j' - off) (x := rs.getD (j' - off) z0) (by
            have : j' - off < rs.length := by omega
            simp [List.getD, List.getElem?_eq_getElem this])
          refine ⟨y, ?_, ?_⟩
          · rw [List.append_assoc, List.getElem?_append_right (by simp; omega), List.getElem?_append_left (by simp; omega)]
            rw [← hy]; congr 1; simp; omega
          · simp only [arrSetAll, h8, h9, and_self, if_true]
            exact Ro.mono P.blocks P.sub hr
        · obtain ⟨y, hy, hr⟩ := h7 k' hk' j' hj'
          refine ⟨y, ?_, ?_⟩
          · have hout : k' * sz + j' < k * sz + off ∨ k * sz + off + us.length ≤ k' * sz + j' := by
              rcases Nat.lt_or_ge (k' * sz + j') (k * sz + off) with h8 | h8
              · exact .inl h8
              · rcases Nat.lt_or_ge (k' * sz + j') (k * sz + off + us.length) with h9 | h9
                · exfalso
                  have := lin_inj (k := k') (k' := k) (j := j') (j' := k' * sz + j' - k * sz) (sz := sz) hj' (by omega) (by omega)
                  exact hin ⟨this.1, by rw [this.1] at h8 h9; omega, by rw [this.1] at h8 h9; omega⟩
                · exact .inr h9
            rcases hout with h8 | h8
            · rw [List.append_assoc, List.getElem?_append_left (by simp; omega), List.getElem?_take, if_pos h8]
              simpa using hy
            · rw [List.getElem?_append_right (by simp; omega), List.getElem?_drop]
              have hy' : cur.toList[k' * sz + j']? = some y := by simpa using hy
              rw [← hy']; congr 1; simp; omega
          · simp only [arrSetAll, hin, if_false]
            exact Ro.mono P.blocks P.sub hr
      · rw [hb] at hk; have hk := Blk_slice.1 hk; simp only [blk] at hk; split at hk
        · cases hk
        · exact .inl (Option.some.inj hk).symm)
  rw [setB_self] at T
  exact T
end
end Go.Proofs.YthhmpjnmmhfngaaDoor.Ev
