/-
  Literals of slices, append, make, function values, the least and the greatest.
-/
import Derived.Test.YthhmpjnmmhfngaaDoorEvI
import Derived.Laws.MakeOwn
import Derived.IntWalk
namespace Go.Proofs.YthhmpjnmmhfngaaDoor.Ev
open Go

theorem seg_get (l us : List Value) (off idx : Nat) (hl : off + us.length ≤ l.length) :
    (l.take off ++ us ++ l.drop (off + us.length))[idx]? = if idx < off then l[idx]? else if idx < off + us.length then us[idx - off]? else l[idx]? := by
  by_cases h1 : idx < off
  · rw [if_pos h1, List.append_assoc, List.getElem?_append_left (by simp; omega), List.getElem?_take, if_pos h1]
  · rw [if_neg h1]
    by_cases h2 : idx < off + us.length
    · rw [if_pos h2, List.append_assoc, List.getElem?_append_right (by simp; omega), List.getElem?_append_left (by simp; omega)]
      congr 1; simp; omega
    · rw [if_neg h2, List.getElem?_append_right (by simp; omega), List.getElem?_drop]
      congr 1; simp; omega

section
variable {P : Program} {TT : Types} {w0 w : World} {O0 F0 F : Nat → Prop} {h : HF} {β : Nat → Value} {a : Act} {o : Oper} {K : Act → World → Prop} {Q : Exit → Act → World → Prop} {x : T} {v : Value}

/-- rows of data in a row of cells -/
def RowsIn (w : World) (F : Nat → Prop) (sz : Nat) (rows : List (List R)) (cells : Array Value) : Prop :=
  cells.size = rows.length * sz ∧ ∀ i row, rows[i]? = some row → row.length = sz ∧ ∀ j r, row[j]? = some r → ∃ y, cells[i * sz + j]? = some y ∧ Ro w F r y

theorem rows_fit {sz i n : Nat} (hi : i < n) : i * sz + sz ≤ n * sz := by
  have := Nat.mul_le_mul_right sz (show i + 1 ≤ n by omega)
  rw [Nat.add_mul] at this; omega

theorem sliceRows_sound (H : Inv w0 O0 F0 w F h β) {F' : Nat → Prop} {hh : Nat → Option Obj} (hhh : ∀ i ob, hh i = some ob → h i = some (some ob)) (hF : ∀ b, F b → F' b) {sz : Nat} (hsz : 0 < sz) :
    ∀ {ps : List (Nat × Operand)} {xs : List T} {rows rows' : List (List R)} {cells : Array Value}, sliceRows hh sz rows ps xs = some rows' → All2 (RepX a.tmps w F h β) xs (ps.map fun p => a.eval p.2) →
    (∀ i ∈ xs.flatMap T.refs, ∀ o b, h i = some (some o) → Blk (β i) b → F' b) → RowsIn w F' sz rows cells →
    ∃ cells', Instr.fill (fun i => some (i * sz, sz)) cells (ps.map fun p => (p.1, a.eval p.2)) = some cells' ∧ RowsIn w F' sz rows' cells' ∧ rows'.length = rows.length
  | [], xs, rows, rows', cells, hb, hx, _, hc => by
    cases hx
    simp [sliceRows] at hb
    subst hb
    exact ⟨cells, rfl, hc, rfl⟩
  | (i, Y) :: ps, xs, rows, rows', cells, hb, hx, hfr, hc => by
    cases hx with
    | @cons x _ xs _ h1 h2 =>
      cases x <;> simp only [sliceRows] at hb <;> try cases hb
      rename_i x
      split at hb
      · rename_i rs hrs
        split at hb
        · rename_i e1 e2
          have e1 := Nat.eq_of_beq_eq_true e1
          have e2 : i < rows.length := by simpa using e2
          have hxc := RepD.cells h1
          have hro := allR_sound H hhh hF hxc hrs fun k hk => hfr k (by simp only [List.flatMap_cons, List.mem_append]; exact .inl hk)
          have hl := hro.len
          simp only [Array.length_toList] at hl
          have hfit := rows_fit (sz := sz) e2
          have hcs := hc.1
          obtain ⟨cells1, he1, he2⟩ := fill_step (place := fun i => some (i * sz, sz)) (cells := cells) (i := i) (off := i * sz) (size := sz) (u := a.eval Y) (rest := ps.map fun p => (p.1, a.eval p.2)) rfl (by omega) (by omega)
          have hul : (a.eval Y).cells.toList.length = sz := by simp; omega
          have hsz1 : cells1.size = cells.size := by
            have := congrArg List.length he1
            simp only [Array.length_toList, List.length_append, List.length_take, List.length_drop] at this
            rw [this]; simp at hul; omega
          have hget : ∀ idx, cells1[idx]? = if idx < i * sz then cells[idx]? else if idx < i * sz + sz then (a.eval Y).cells.toList[idx - i * sz]? else cells[idx]? := fun idx => by
            have := seg_get cells.toList (a.eval Y).cells.toList (i * sz) idx (by rw [hul]; simp; omega)
            rw [hul, ← he1] at this
            simpa using this
          have hc1 : RowsIn w F' sz (rows.set i rs) cells1 := by
            refine ⟨by rw [hsz1, hcs]; simp, fun k row hk => ?_⟩
            rw [List.getElem?_set] at hk
            by_cases hik : i = k
            · subst hik
              simp only [if_true, e2] at hk
              cases hk
              refine ⟨e1, fun j r hj => ?_⟩
              have hjl : j < sz := by
                rcases Nat.lt_or_ge j sz with hj' | hj'
                · exact hj'
                · rw [List.getElem?_eq_none (by omega)] at hj; cases hj
              obtain ⟨y, hy, hr⟩ := hro.get hj
              refine ⟨y, ?_, hr⟩
              rw [hget, if_neg (by omega), if_pos (by omega), ← hy]
              congr 1; omega
            · rw [if_neg hik] at hk
              obtain ⟨g1, g2⟩ := hc.2 k row hk
              refine ⟨g1, fun j r hj => ?_⟩
              have hjl : j < sz := by
                rcases Nat.lt_or_ge j sz with hj' | hj'
                · exact hj'
                · rw [List.getElem?_eq_none (by omega)] at hj; cases hj
              obtain ⟨y, hy, hr⟩ := g2 j r hj
              refine ⟨y, ?_, hr⟩
              rw [hget]
              by_cases q1 : k * sz + j < i * sz
              · rw [if_pos q1]; exact hy
              · rw [if_neg q1]
                by_cases q2 : k * sz + j < i * sz + sz
                · exfalso
                  have := lin_inj (k := k) (k' := i) (j := j) (j' := k * sz + j - i * sz) (sz := sz) hjl (by omega) (by omega)
                  exact hik this.1.symm
                · rw [if_neg q2]; exact hy
          obtain ⟨cells', h3, h4, h5⟩ := sliceRows_sound H hhh hF hsz hb h2 (fun k hk => hfr k (by simp only [List.flatMap_cons, List.mem_append]; exact .inr hk)) hc1
          exact ⟨cells', by rw [List.map_cons, he2]; exact h3, h4, by rw [h5]; simp⟩
        · cases hb
      · cases hb

theorem allInts_get {k : IntKind} : ∀ {rows : List (List R)} {l : List Int}, allInts k rows = some l → ∀ (i : Nat) (row : List R), rows[i]? = some row → row = [.v (.int k (l.getD i 0))]
  | [], l, _, i, row, hi => by simp at hi
  | r :: rows, l, hl, i, row, hi => by
    unfold allInts at hl
    split at hl
    · rename_i e; cases e
    · rename_i e
      cases e
      split at hl
      · rename_i hk
        have hk : _ = _ := of_decide_eq_true hk
        subst hk
        simp only [Option.map_eq_some_iff] at hl
        obtain ⟨m, h1, rfl⟩ := hl
        cases i with
        | zero => simp at hi; subst hi; rfl
        | succ i => simp at hi; simpa using allInts_get h1 i row hi
      · cases hl
    · cases hl

theorem allStrs_get : ∀ {rows : List (List R)} {l : List ByteArray}, allStrs rows = some l → ∀ (i : Nat) (row : List R), rows[i]? = some row → row = [.v (.string (l.getD i (mk [])))]
  | [], l, _, i, row, hi => by simp at hi
  | r :: rows, l, hl, i, row, hi => by
    unfold allStrs at hl
    split at hl
    · rename_i e; cases e
    · rename_i e
      cases e
      simp only [Option.map_eq_some_iff] at hl
      obtain ⟨m, h1, rfl⟩ := hl
      cases i with
      | zero => simp at hi; subst hi; rfl
      | succ i => simp at hi; simpa using allStrs_get h1 i row hi
    · cases hl

theorem rowsGet_eq (desc : TypeDesc) (ez : List R) {rows : List (List R)} {i : Nat} {row : List R} (hi : rows[i]? = some row) {j : Nat} {r : R} (hj : row[j]? = some r) : rowsGet desc ez rows i j = r := by
  have gen : (rows.getD i ez).getD j z0 = r := by simp [List.getD, hi, hj]
  unfold rowsGet
  split
  · rename_i k
    cases hl : allInts k rows with
    | some l =>
      have := allInts_get hl i row hi
      rw [this] at hj
      cases j with
      | zero => simp at hj; exact hj
      | succ j => simp at hj
    | none => exact gen
  · cases hl : allStrs rows with
    | some l =>
      have := allStrs_get hl i row hi
      rw [this] at hj
      cases j with
      | zero => simp at hj; exact hj
      | succ j => simp at hj
    | none => exact gen
  · exact gen

theorem repl_get {α : Type} (x : α) : ∀ (n i : Nat), (repl x n)[i]? = if i < n then some x else none
  | 0, i => by simp [repl]
  | n + 1, i => by
    cases i with
    | zero => simp [repl]
    | succ i => simp only [repl, List.getElem?_cons_succ, repl_get x n i]; simp
theorem repl_len {α : Type} (x : α) : ∀ (n : Nat), (repl x n).length = n
  | 0 => rfl
  | n + 1 => by simp [repl, repl_len x n]

theorem refs_pres {tm : Array Value} {y : T} {u : Value} (hy : RepX tm w F h β y u) (hnw : ∀ s b d, y ≠ .when s b d) : ∀ i ∈ y.refs, ∃ q, h i = some q := by
  cases y with
  | d d => exact RepD.pres hy
  | tup ds =>
    obtain ⟨us, _, hh⟩ := hy
    intro i hi
    simp only [T.refs, List.mem_flatMap] at hi
    obtain ⟨d, hd, hi⟩ := hi
    obtain ⟨k, hk⟩ := List.getElem?_of_mem hd
    obtain ⟨u, _, hr⟩ := hh.get hk
    exact RepD.pres hr i hi
  | when s b d => exact absurd rfl (hnw s b d)
  | nilq n => intro i hi; simp [T.refs] at hi
  | und => intro i hi; simp [T.refs] at hi
  | unk => intro i hi; simp [T.refs] at hi

theorem sliceRows_d {hh : Nat → Option Obj} {sz : Nat} : ∀ {ps : List (Nat × Operand)} {xs : List T} {rows rows' : List (List R)}, sliceRows hh sz rows ps xs = some rows' → ∀ y ∈ xs, ∃ d, y = .d d
  | [], xs, rows, rows', hb => by cases xs <;> simp [sliceRows] at hb ⊢
  | (i, Y) :: ps, [], rows, rows', hb => by simp
  | (i, Y) :: ps, x :: xs, rows, rows', hb => by
    cases x <;> simp only [sliceRows] at hb <;> try cases hb
    rename_i x
    split at hb
    · split at hb
      · intro y hy
        rcases List.mem_cons.1 hy with rfl | hy
        · exact ⟨x, rfl⟩
        · exact sliceRows_d hb y hy
      · cases hb
    · cases hb

theorem zero_rows {z : Value} (sz n : Nat) {zr : List R} (hzr : All2 (Ro w F) zr z.cells.toList) (hl : zr.length = sz) :
    RowsIn w F sz (repl zr n) ((Array.range (n * sz)).map (z.cells[· % z.cells.size]!)) := by
  have hzl : z.cells.size = sz := by have := hzr.len; simp at this; omega
  refine ⟨by simp [repl_len], fun i row hi => ?_⟩
  rw [repl_get] at hi
  split at hi
  · rename_i hin
    cases hi
    refine ⟨hl, fun j r hj => ?_⟩
    have hjl : j < sz := by
      rcases Nat.lt_or_ge j sz with hj' | hj'
      · exact hj'
      · rw [List.getElem?_eq_none (by omega)] at hj; cases hj
    obtain ⟨y, hy, hr⟩ := hzr.get hj
    refine ⟨y, ?_, hr⟩
    have hfit := rows_fit (sz := sz) hin
    have hmod : (i * sz + j) % sz = j := by rw [Nat.add_comm, Nat.add_mul_mod_self_right]; exact Nat.mod_eq_of_lt hjl
    have hy' : z.cells[j]? = some y := by simpa using hy
    simp only [Array.getElem?_map]
    rw [show (Array.range (n * sz))[i * sz + j]? = some (i * sz + j) by rw [Array.getElem?_range, if_pos (by omega)]]
    simp only [Option.map_some, hzl, hmod]
    rw [getElem!_def, hy']
  · cases hi

theorem op_buildSlice (H : Inv w0 O0 F0 w F h β) (ht : TTok P TT) {hh : Nat → Option Obj} (hhh : ∀ i ob, hh i = some ob → h i = some (some ob)) {ty e : TypeId} {ti ei : TI} {n : Nat} {ps : Array (Nat × Operand)} (ho : o.op = .buildSlice ty n ps)
    (hti : TT ty = some ti) (hd : ti.desc = .slice e) (hei : TT e = some ei) {z : List C} (hz : zeroCells ei = some z) {zr : List R} (hzr : allR (fun _ => none) z = some zr) (hl : zr.length = ei.info.size) (hpos : 0 < ei.info.size) (hbig : n * ei.info.size ≤ 16777216)
    {xs : List T} {rows : List (List R)} (hb : sliceRows hh ei.info.size (repl zr n) ps.toList xs = some rows) (hx : All2 (RepX a.tmps w F h β) xs (ps.toList.map fun p => a.eval p.2)) {s : Nat} (hs0 : h s = none)
    (hK : ∀ v w', Out w0 O0 F0 w F h β a.tmps ((s, some (.arr e ei.info.size n (rowsGet ei.desc ti.ez rows))) :: dropIds (xs.flatMap T.refs)) (.d (.one (.own s))) v w' → K (a.put o.dst v) w') : o.wp P a w K Q := by
  obtain ⟨zv, hz1, hz2⟩ := zeroCells_sound (w := w) (F := F) (h := h) (β := β) hz
  have hds := sliceRows_d hb
  have hpres : ∀ i ∈ xs.flatMap T.refs, ∃ q, h i = some q := fun i hi => by
    obtain ⟨y, hy, hi⟩ := List.mem_flatMap.1 hi
    obtain ⟨k, hk⟩ := List.getElem?_of_mem hy
    obtain ⟨u, _, hr⟩ := hx.get hk
    obtain ⟨d, rfl⟩ := hds y hy
    exact refs_pres hr (fun _ _ _ => by simp) i hi
  obtain ⟨F1, H1, P1, hb1⟩ := H.freezes (xs.flatMap T.refs) hpres
  have hzro : All2 (Ro w F1) zr zv.cells.toList := allR_sound H (hh := fun _ => none) (fun _ _ hq => by cases hq) P1.sub hz2 hzr (fun i hi => by
    have := allR_refs hzr i hi
    have hmem := ownIds_refs (cs := z) i this
    exfalso
    rw [allR_none_own hzr] at *
    simp_all)
  obtain ⟨cells', hf, hrows, hrl⟩ := sliceRows_sound (a := a) H hhh P1.sub hpos hb hx hb1 (zero_rows ei.info.size n hzro hl)
  have hs1 : upd (dropIds (xs.flatMap T.refs)) h s = none := by
    rw [upd_drop_ne]
    · exact hs0
    · intro hm; obtain ⟨q, hq⟩ := hpres s hm; rw [hs0] at hq; cases hq
  have hn : rows.length = n := by rw [hrl, repl_len]
  have T := H1.new hs1 (.cells cells' e) (.arr e ei.info.size n (rowsGet ei.desc ti.ez rows)) (.slice (some ⟨w.heap.size, 0, none⟩) n n) (fun b hb' => by
      have hb' := Blk_slice.1 hb'
      simp only [blk] at hb'; split at hb'
      · cases hb'
      · simpa using hb'.symm) (fun P => by
      by_cases hn0 : n = 0
      · exact .inl ⟨some ⟨w.heap.size, 0, none⟩, by simp [setB, hn0], hn0⟩
      · refine .inr ⟨w.heap.size, n, cells', by simp [setB], by omega, heap_alloc_new w _, Nat.le_refl _, ?_, ?_, fun k hk j hj => ?_⟩
        · have : n ≤ n * ei.info.size := Nat.le_mul_of_pos_right n hpos
          simp [maxLen]; omega
        · rw [hrows.1, hn]
        · obtain ⟨row, hrow⟩ : ∃ row, rows[k]? = some row := ⟨rows[k]'(by omega), List.getElem?_eq_getElem _⟩
          obtain ⟨g1, g2⟩ := hrows.2 k row hrow
          obtain ⟨r, hr⟩ : ∃ r, row[j]? = some r := ⟨row[j]'(by omega), List.getElem?_eq_getElem _⟩
          obtain ⟨y, hy, hro⟩ := g2 j r hr
          exact ⟨y, hy, by rw [rowsGet_eq ei.desc ti.ez hrow hr]; exact Ro.mono P.blocks P.sub hro⟩)
  refine wp_val (v := .slice (some ⟨w.heap.size, 0, none⟩) n n) (w' := w.alloc (.cells cells' e)) ?_ (hK _ _ ⟨F1, _, by rw [upd_cons]; exact T.1, by rw [upd_cons]; exact P1.trans T.2, rfl, ⟨some (.arr e ei.info.size n (rowsGet ei.desc ti.ez rows)), by rw [upd_cons]; simp [setH]⟩, fun ob _ => by simp [setB]⟩)
  have hpar : (ps.map fun (i, x) => (i, a.eval x)).toList = ps.toList.map fun p => (p.1, a.eval p.2) := by simp
  have hbig' : ¬ (n * ei.info.size > 2 ^ 24) := by omega
  simp only [execOp, ho, Instr.buildSlice, Sem.run_bind, ht.run_under hti, hd, Result.andThen_ok, ht.run_size hei, hbig', if_false, Sem.run_pure]
  by_cases hn0 : n * ei.info.size = 0
  · simp only [hn0, if_true, Sem.run_bind, Sem.run_pure, Result.andThen_ok]
    rw [hn0] at hf
    simp only [hpar]
    have e0 : ∀ g : Nat → Value, (Array.range 0).map g = #[] := fun g => by simp
    rw [e0] at hf ⊢
    simp only [hf, newRow, newObj, Sem.run_bind, Sem.run_pure]
    rfl
  · simp only [hn0, if_false, Sem.run_bind, ht.run_zero hei hz1, Sem.run_pure, Result.andThen_ok, hpar, hf]
    rfl
end
end Go.Proofs.YthhmpjnmmhfngaaDoor.Ev
