/-
  Append, make, function values, the least and the greatest.
-/
import Derived.Test.YthhmpjnmmhfngaaDoorEvJ
namespace Go.Proofs.YthhmpjnmmhfngaaDoor.Ev
open Go

section
variable {P : Program} {TT : Types} {w0 w : World} {O0 F0 F : Nat → Prop} {h : HF} {β : Nat → Value} {a : Act} {o : Oper} {K : Act → World → Prop} {Q : Exit → Act → World → Prop} {x : T} {v : Value}

theorem run_append_zero (ht : TTok P TT) {t e : TypeId} {ti ei : TI} (hti : TT t = some ti) (hd : ti.desc = .slice e) (hei : TT e = some ei) {base ad : Option Addr} {n cap c : Nat} (hn : n ≤ cap) (ty : TypeId) :
    (Builtin.append_ #[t, t] ty #[.slice base n cap, .slice ad 0 c]).run P w = .ok (.slice base n cap) w := by
  have h1 : ∀ ad' : Option Addr, (Builtin.firstCells ei.info.size 0 (.slice ad' 0 c)).run P w = .ok #[] w := fun ad' => by
    cases ad' <;> simp [Builtin.firstCells, loadCells, loadCellsFrom]
  simp only [Builtin.append_, Sem.run_bind, List.getElem?_toArray, List.getElem?_cons_zero, List.getElem?_cons_succ, ht.run_under hti, hd, Result.andThen_ok, ht.run_size hei, Sem.run_pure, Builtin.lenOf, Nat.add_zero, hn, if_true, Bool.false_eq_true, if_false, Bool.not_false, h1]
  cases base <;> simp [storeCells]

/-- What an append leaves. -/
def Appended (w : World) (e : TypeId) (size n m cap : Nat) (base : Option Addr) (olds news : List Value) (v' : Value) (w' : World) : Prop :=
  w'.os = w.os ∧ w'.tape = w.tape ∧ w'.output = w.output ∧ w.heap.size ≤ w'.heap.size ∧
  (∀ b, b < w.heap.size → (0 < cap → base.map (·.block) ≠ some b) → w'.heap[b]? = w.heap[b]?) ∧
  ((∃ a', v' = .slice a' 0 0 ∧ n + m = 0) ∨
   ∃ g cap' cur, v' = .slice (some ⟨g, 0, none⟩) (n + m) cap' ∧ 0 < cap' ∧ w'.heap[g]? = some (.cells cur e (0, 0)) ∧ n + m ≤ cap' ∧ cap' ≤ maxLen ∧ cur.size = cap' * size ∧ cur.toList.take ((n + m) * size) = olds ++ news ∧
     (g = w.heap.size ∨ base = some ⟨g, 0, none⟩ ∧ 0 < cap))

theorem grown_cells {size n m cap' : Nat} {z : Array Value} {olds news : List Value} (ho : olds.length = n * size) (hn : news.length = m * size) (hz : z.size = size) (hc : n + m ≤ cap') :
    (olds.toArray ++ news.toArray ++ Builtin.zeroCells z (cap' - (n + m))).size = cap' * size ∧
    (olds.toArray ++ news.toArray ++ Builtin.zeroCells z (cap' - (n + m))).toList.take ((n + m) * size) = olds ++ news := by
  have hl : (olds ++ news).length = (n + m) * size := by rw [List.length_append, ho, hn, Nat.add_mul]
  refine ⟨?_, ?_⟩
  · simp only [Array.size_append, List.size_toArray, size_zeroCells, hz, ho, hn, ← Nat.add_mul]
    congr 1; omega
  · simp only [Array.toList_append, List.append_assoc]
    rw [← List.append_assoc, ← hl]
    exact List.take_left

theorem append_core (ht : TTok P TT) {t e : TypeId} {ti ei : TI} (hti : TT t = some ti) (hd : ti.desc = .slice e) (hei : TT e = some ei) {z : Value} (hz : ei.info.zero = some z) (hzs : z.cells.size = ei.info.size) (_hpos : 0 < ei.info.size) (ty : TypeId)
    {base : Option Addr} {n cap : Nat} {olds : List Value} (ho : olds.length = n * ei.info.size)
    (hx : (n = 0 ∧ cap = 0) ∨ ∃ g cur, base = some ⟨g, 0, none⟩ ∧ 0 < cap ∧ w.heap[g]? = some (.cells cur e (0, 0)) ∧ n ≤ cap ∧ cap ≤ maxLen ∧ cur.size = cap * ei.info.size ∧ cur.toList.take (n * ei.info.size) = olds)
    {ad : Option Addr} {m c : Nat} {news : List Value} (hn : news.length = m * ei.info.size) (h1 : ∀ u ∈ news, u.oneCell' = true)
    (hy : m = 0 ∨ ∃ b off, ad = some ⟨b, off, none⟩ ∧ CellsAt w b off news) (hm : n + m ≤ maxLen) (hfit : fits (n + m) ei.info.bytes = true) :
    ∃ v' w', (Builtin.append_ #[t, t] ty #[.slice base n cap, .slice ad m c]).run P w = .ok v' w' ∧ Appended w e ei.info.size n m cap base olds news v' w' := by
  have hu : P.underlying t = some (.slice e) := by rw [ht.under t ti hti, hd]
  have hi := ht.info e ei hei
  have hfit' : (n + m) * ei.info.bytes ≤ 140737488355328 := by simpa [fits] using hfit
  have hmI : ((n + m : Nat) : Int) ≤ 9223372036854775807 := by simp [maxLen] at hm; omega
  rcases hy with rfl | ⟨b, off, rfl, hc⟩
  · have hnews : news = [] := List.eq_nil_of_length_eq_zero (by simpa using hn)
    subst hnews
    rcases hx with ⟨rfl, rfl⟩ | ⟨g, cur, rfl, h2, h3, h4, h5, h6, h7⟩
    · exact ⟨_, w, run_append_zero ht hti hd hei (Nat.le_refl _) ty, rfl, rfl, rfl, Nat.le_refl _, fun _ _ _ => rfl, .inl ⟨base, rfl, rfl⟩⟩
    · exact ⟨_, w, run_append_zero ht hti hd hei h4 ty, rfl, rfl, rfl, Nat.le_refl _, fun _ _ _ => rfl, .inr ⟨g, cap, cur, rfl, h2, h3, h4, h5, h6, by simpa using h7, .inr ⟨rfl, h2⟩⟩⟩
  · have hcells : ∀ j u, news[j]? = some u → w.cell? ((⟨b, off, none⟩ : Addr).add j) = some u := fun j u hj => by rw [Addr.add_lit]; exact hc j u hj
    by_cases hm0 : m = 0
    · subst hm0
      have hnews : news = [] := List.eq_nil_of_length_eq_zero (by simpa using hn)
      subst hnews
      rcases hx with ⟨rfl, rfl⟩ | ⟨g, cur, rfl, h2, h3, h4, h5, h6, h7⟩
      · exact ⟨_, w, run_append_zero ht hti hd hei (Nat.le_refl _) ty, rfl, rfl, rfl, Nat.le_refl _, fun _ _ _ => rfl, .inl ⟨base, rfl, rfl⟩⟩
      · exact ⟨_, w, run_append_zero ht hti hd hei h4 ty, rfl, rfl, rfl, Nat.le_refl _, fun _ _ _ => rfl, .inr ⟨g, cap, cur, rfl, h2, h3, h4, h5, h6, by simpa using h7, .inr ⟨rfl, h2⟩⟩⟩
    · have fresh : ∀ old, old < n + m → ∃ cap' cur, grownCap w (n + m) old e = cap' ∧ olds.toArray ++ news.toArray ++ Builtin.zeroCells z.cells (cap' - (n + m)) = cur ∧
          Appended w e ei.info.size n m cap base olds news (.slice (some ⟨w.heap.size, 0, none⟩) (n + m) cap') (w.drew.alloc (.cells cur e)) := fun old hold => by
        have hge := grownCap_ge w (n + m) old e
        have hle := grownCap_le_maxLen w (n + m) old e hm
        obtain ⟨g1, g2⟩ := grown_cells ho hn hzs hge
        exact ⟨_, _, rfl, rfl, rfl, rfl, rfl, by simp, fun k hk _ => heap_alloc_old w.drew _ k hk, .inr ⟨w.heap.size, _, _, rfl, by omega, heap_alloc_new w.drew _, hge, hle, g1, g2, .inl rfl⟩⟩
      rcases hx with ⟨rfl, rfl⟩ | ⟨g, cur, rfl, h2, h3, h4, h5, h6, h7⟩
      · have holds : olds = [] := List.eq_nil_of_length_eq_zero (by simpa using ho)
        subst holds
        obtain ⟨cap', cur, e1, e2, hA⟩ := fresh 0 (by omega)
        have e2' : news.toArray ++ Builtin.zeroCells z.cells (cap' - m) = cur := by simpa using e2
        cases base with
        | none =>
          have := run_append_nil (P := P) w t ty e ei.info z hu hi hz ⟨b, off, none⟩ m c news hn hcells (by omega) (by omega) (by rw [Nat.zero_add] at hfit'; omega)
          rw [Nat.zero_add] at e1 hA
          rw [e1, e2'] at this
          exact ⟨_, _, this, hA⟩
        | some ad0 =>
          have := run_append_grow (P := P) w t ty e ei.info z hu hi hz ad0 0 0 [] (by simp) (by simp) ⟨b, off, none⟩ m c news hn hcells (by omega) (by omega) (growslice_fits (by omega) hfit')
          rw [e1, e2] at this
          exact ⟨_, _, this, hA⟩
      · by_cases hroom : n + m ≤ cap
        · have hfc : n * ei.info.size + news.length ≤ cur.size := by rw [hn, h6, ← Nat.add_mul]; exact Nat.mul_le_mul_right _ hroom
          have := run_append_room (P := P) w t ty e ei.info hu hi g n cap cur h3 ⟨b, off, none⟩ m c news hn hcells h1 hroom hfc
          obtain ⟨s1, s2, s3, s4⟩ := setRow_same w g (cur.toList.take (n * ei.info.size) ++ news ++ cur.toList.drop (n * ei.info.size + news.length)).toArray
          refine ⟨_, _, this, s1, s2, s3, Nat.le_of_eq s4.symm, fun k hk hne => setRow_other w g k _ (fun e => hne h2 (by simp [e])), .inr ⟨g, cap, _, rfl, h2, setRow_heap w g cur _ e _ h3, hroom, h5, ?_, ?_, .inr ⟨rfl, h2⟩⟩⟩
          · simp only [List.size_toArray, List.length_append, List.length_take, List.length_drop, Array.length_toList]; omega
          · rw [h7]
            have : (n + m) * ei.info.size = (olds ++ news).length := by rw [List.length_append, ho, hn, Nat.add_mul]
            rw [this]
            exact List.take_left
        · have holds : ∀ j u, olds[j]? = some u → w.cell? ((⟨g, 0, none⟩ : Addr).add j) = some u := fun j u hj => by
            rw [Addr.add_lit, cell_of_row w g _ cur e (0, 0) h3]
            rw [← h7, List.getElem?_take] at hj
            split at hj
            · simpa using hj
            · cases hj
          have := run_append_grow (P := P) w t ty e ei.info z hu hi hz ⟨g, 0, none⟩ n cap olds ho holds ⟨b, off, none⟩ m c news hn hcells (by omega) (by omega) (growslice_fits (by omega) hfit')
          obtain ⟨cap', cur', e1, e2, hA⟩ := fresh cap (by omega)
          rw [e1, e2] at this
          exact ⟨_, _, this, hA⟩

/-- The cells of a slice that is read. -/
theorem sliceIn_cells (H : Inv w0 O0 F0 w F h β) {hh : Nat → Option Obj} (hhh : ∀ i ob, hh i = some ob → h i = some (some ob)) {sz : Nat} {ez : List R} {c : C} {ids : List Nat} {n : Nat} {get : Nat → Nat → R} {u : Value}
    (hs : sliceIn hh sz ez c = some (ids, n, get)) (hc : RepC w F h β c u) :
    ∃ ad cap us, u = .slice ad n cap ∧ n ≤ cap ∧ cap ≤ maxLen ∧ us.length = n * sz ∧ (n = 0 ∨ ∃ b off, ad = some ⟨b, off, none⟩ ∧ CellsAt w b off us) ∧ ∀ i, i < n → ∀ j, j < sz → ∃ y, us[i * sz + j]? = some y ∧ Ro w F (get i j) y := by
  have gen : ∀ (b off : Nat), (∀ i, i < n → ∀ j, j < sz → ∃ y, w.cell? ⟨b, off + (i * sz + j), none⟩ = some y ∧ Ro w F (get i j) y) →
      ∃ us : List Value, us.length = n * sz ∧ CellsAt w b off us ∧ ∀ i, i < n → ∀ j, j < sz → ∃ y, us[i * sz + j]? = some y ∧ Ro w F (get i j) y := fun b off hall => by
    rcases Nat.eq_zero_or_pos sz with hsz | hsz
    · subst hsz; exact ⟨[], by simp, fun j y hj => by simp at hj, fun i _ j hj => by omega⟩
    obtain ⟨us, hl, hu⟩ := list_of (n := n * sz) (p := fun k y => w.cell? ⟨b, off + k, none⟩ = some y ∧ Ro w F (get (k / sz) (k % sz)) y) fun k hk => by
      have h1 : k / sz < n := Nat.div_lt_of_lt_mul (by rw [Nat.mul_comm]; exact hk)
      have h2 : k % sz < sz := Nat.mod_lt _ hsz
      obtain ⟨y, hy, hr⟩ := hall (k / sz) h1 (k % sz) h2
      refine ⟨y, ?_, hr⟩
      have : k / sz * sz + k % sz = k := by rw [Nat.mul_comm]; exact Nat.div_add_mod k sz
      rw [this] at hy; exact hy
    refine ⟨us, hl, fun j y hj => (hu j y hj).1, fun i hi j hj => ?_⟩
    have hlt : i * sz + j < us.length := by have := rows_fit (sz := sz) hi; omega
    have hk := hu (i * sz + j) us[i * sz + j] (List.getElem?_eq_getElem hlt)
    have e1 : (i * sz + j) / sz = i := by rw [Nat.add_comm, Nat.add_mul_div_right _ _ hsz, Nat.div_eq_of_lt hj]; omega
    have e2 : (i * sz + j) % sz = j := by rw [Nat.add_comm, Nat.add_mul_mod_self_right]; exact Nat.mod_eq_of_lt hj
    rw [e1, e2] at hk
    exact ⟨_, List.getElem?_eq_getElem hlt, hk.2⟩
  unfold sliceIn at hs
  split at hs
  · split at hs
    · rename_i e
      cases hs
      have e := Nat.eq_of_beq_eq_true e
      subst e
      obtain ⟨ad, cap, rfl, h1, h2, h3⟩ := hc
      rcases h3 with rfl | ⟨b, off, rfl, hf, h3⟩
      · exact ⟨ad, cap, [], rfl, h1, h2, by simp, .inl rfl, fun i hi => by omega⟩
      · obtain ⟨us, g1, g2, g3⟩ := gen b off h3
        exact ⟨_, cap, us, rfl, h1, h2, g1, .inr ⟨b, off, rfl, g2⟩, g3⟩
    · cases hs
  · cases hs; obtain ⟨rfl, _⟩ := hc; exact ⟨none, 0, [], rfl, by omega, by simp [maxLen], by simp, .inl rfl, fun i hi => by omega⟩
  · split at hs
    · rename_i hi
      split at hs
      · rename_i e
        cases hs
        have e := Nat.eq_of_beq_eq_true e
        subst e
        have hi' := hhh _ _ hi
        rw [hc.2.2 _ hi']
        rcases H.obj _ _ hi' with ⟨ad, h2, rfl⟩ | ⟨b, cap, cur, h2, h3, h4, h5, h6, h7, h8⟩
        · exact ⟨ad, 0, [], h2, by omega, by simp [maxLen], by simp, .inl rfl, fun i hi => by omega⟩
        · obtain ⟨us, g1, g2, g3⟩ := gen b 0 fun i hi j hj => by
            obtain ⟨y, hy, hr⟩ := h8 i hi j hj
            exact ⟨y, by rw [cell_of_row w b _ cur _ (0, 0) h4]; simpa using hy, hr⟩
          exact ⟨_, cap, us, h2, h5, h6, g1, .inr ⟨b, 0, rfl, g2⟩, g3⟩
      · cases hs
    · cases hs
  · cases hs

theorem Ro.ones {us : List Value} {n sz : Nat} {get : Nat → Nat → R} (hl : us.length = n * sz) (hg : ∀ i, i < n → ∀ j, j < sz → ∃ y, us[i * sz + j]? = some y ∧ Ro w F (get i j) y) : ∀ u ∈ us, u.oneCell' = true := by
  intro u hu
  obtain ⟨k, hk⟩ := List.getElem?_of_mem hu
  have hkl : k < us.length := by
    rcases Nat.lt_or_ge k us.length with h1 | h1
    · exact h1
    · rw [List.getElem?_eq_none h1] at hk; cases hk
  rcases Nat.eq_zero_or_pos sz with hsz | hsz
  · subst hsz; simp at hl; subst hl; simp at hu
  have h1 : k / sz < n := Nat.div_lt_of_lt_mul (by rw [Nat.mul_comm]; omega)
  obtain ⟨y, hy, hr⟩ := hg (k / sz) h1 (k % sz) (Nat.mod_lt _ hsz)
  have : k / sz * sz + k % sz = k := by rw [Nat.mul_comm]; exact Nat.div_add_mod k sz
  rw [this, hk] at hy
  cases hy
  exact Ro.one hr

/-- appending to nil, or to a slice of the call's own -/
theorem op_append (H : Inv w0 O0 F0 w F h β) (ht : TTok P TT) {hh : Nat → Option Obj} (hhh : ∀ i ob, hh i = some ob → h i = some (some ob)) {X Y : Operand} {t e : TypeId} {ti ei : TI} (ho : o.op = .call { callee := .builtin .append, args := #[X, Y], argTypes := #[t, t] })
    (hti : TT t = some ti) (hd : ti.desc = .slice e) (hei : TT e = some ei) {zs : List C} (hz : zeroCells ei = some zs) (hzl : zs.length = ei.info.size) (hpos : 0 < ei.info.size) (hby : 0 < ei.info.bytes) {cx cy : C} {n m : Nat} {get get' : Nat → Nat → R} {ids : List Nat} {pre : Ups}
    (hxs : (cx = .r (.v (.slice none 0 0)) ∧ n = 0 ∧ pre = []) ∨ ∃ i, cx = .own i ∧ h i = some (some (.arr e ei.info.size n get)) ∧ pre = [(i, none)])
    (hy : sliceIn hh ei.info.size ti.ez cy = some (ids, m, get')) (hx : RepC w F h β cx (a.eval X)) (hyr : RepC w F h β cy (a.eval Y)) (hfit : fits (n + m) ei.info.bytes = true) {s : Nat} (hs0 : h s = none) {g : Nat → Nat → R} (hg : ∀ i, g i = if i < n then get i else get' (i - n))
    (hK : ∀ v w', Out w0 O0 F0 w F h β a.tmps (pre ++ [(s, some (.arr e ei.info.size (n + m) g))]) (.d (.one (.own s))) v w' → K (a.put o.dst v) w') : o.wp P a w K Q := by
  obtain ⟨zv, hz1, hz2⟩ := zeroCells_sound (w := w) (F := F) (h := h) (β := β) hz
  have hzs : zv.cells.size = ei.info.size := by have := hz2.len; simp at this; omega
  obtain ⟨ad, c, news, hyv, hmc, hcm, hnl, hyc, hyg⟩ := sliceIn_cells H hhh hy hyr
  have h1 := Ro.ones hnl hyg
  have hy' : m = 0 ∨ ∃ b off, ad = some ⟨b, off, none⟩ ∧ CellsAt w b off news := hyc
  -- the slice that is appended to
  have main : ∀ (base : Option Addr) (cap : Nat) (olds : List Value), a.eval X = .slice base n cap → olds.length = n * ei.info.size →
      ((n = 0 ∧ cap = 0) ∨ ∃ g cur, base = some ⟨g, 0, none⟩ ∧ 0 < cap ∧ w.heap[g]? = some (.cells cur e (0, 0)) ∧ n ≤ cap ∧ cap ≤ maxLen ∧ cur.size = cap * ei.info.size ∧ cur.toList.take (n * ei.info.size) = olds) →
      (∀ i, i < n → ∀ j, j < ei.info.size → ∃ y, olds[i * ei.info.size + j]? = some y ∧ Ro w F (get i j) y) → n + m ≤ maxLen →
      (∃ h1, upd pre h = h1 ∧ Inv w0 O0 F0 w F h1 β ∧ Per w F h β w F h1 β ∧ h1 s = none ∧ ∀ b, 0 < cap → base.map (·.block) = some b → ¬ F b ∧ (∀ j o, h1 j = some (some o) → ¬ Blk (β j) b) ∧ (O0 b ∨ w0.heap.size ≤ b)) →
      o.wp P a w K Q := by
    intro base cap olds hxv hol hxb hxg hmax ⟨h2, hpre, H1, P1, hs1, hfree⟩
    obtain ⟨v', w', hrun, q1, q2, q3, q4, q5, q6⟩ := append_core (P := P) (c := c) ht hti hd hei hz1 hzs hpos o.type hol hxb hnl h1 hy' hmax hfit
    have T := H1.turn (w' := w') (F' := F) s (some (.arr e ei.info.size (n + m) g)) v' q1 q2 q3 q4 (fun b => 0 < cap ∧ base.map (·.block) = some b)
      (fun b hb => by obtain ⟨g1, g2, g3⟩ := hfree b hb.1 hb.2; exact ⟨g1, fun j o' _ hj hb' => g2 j o' hj hb', g3⟩)
      (fun b hb hx => q5 b hb fun h0 e => hx ⟨h0, e⟩) (fun _ hf => hf) (fun _ hf => .inl hf) (fun q0 _ h0 => by rw [hs1] at h0; cases h0)
      (fun P2 ob hob => by
        cases hob
        rcases q6 with ⟨a', rfl, hnm⟩ | ⟨g', cap', cur, rfl, r1, r2, r3, r4, r5, r6, r7⟩
        · exact ⟨.inl ⟨a', by simp [setB], hnm⟩, fun b hb => by cases a' <;> simp [blk] at hb⟩
        · refine ⟨.inr ⟨g', cap', cur, by simp [setB], r1, r2, r3, r4, r5, fun k hk j hj => ?_⟩, fun b hb => ?_⟩
          · have hfit2 := rows_fit (sz := ei.info.size) hk
            have e0 : cur.toList[k * ei.info.size + j]? = (olds ++ news)[k * ei.info.size + j]? := by
              rw [← r6, List.getElem?_take, if_pos (by omega)]
            rw [hg]
            by_cases hkn : k < n
            · obtain ⟨y, hy1, hy2⟩ := hxg k hkn j hj
              refine ⟨y, ?_, ?_⟩
              · have : cur.toList[k * ei.info.size + j]? = some y := by
                  rw [e0, List.getElem?_append_left (by rw [hol]; have := rows_fit (sz := ei.info.size) hkn; omega)]; exact hy1
                simpa using this
              · rw [if_pos hkn]; exact Ro.mono P2.blocks P2.sub (Ro.mono (fun _ _ => rfl) (fun _ h => h) hy2)
            · obtain ⟨y, hy1, hy2⟩ := hyg (k - n) (by omega) j hj
              refine ⟨y, ?_, ?_⟩
              · have hnk : n * ei.info.size ≤ k * ei.info.size := Nat.mul_le_mul_right _ (by omega)
                have : cur.toList[k * ei.info.size + j]? = some y := by
                  rw [e0, List.getElem?_append_right (by rw [hol]; omega), hol, ← hy1]
                  congr 1
                  rw [Nat.sub_mul]; omega
                simpa using this
              · rw [if_neg hkn]; exact Ro.mono P2.blocks P2.sub (Ro.mono (fun _ _ => rfl) (fun _ h => h) hy2)
          · have : b = g' := by simp [blk] at hb; exact hb.2.symm
            subst this
            rcases r7 with rfl | ⟨rfl, r8⟩
            · exact .inr (Nat.le_refl _)
            · exact .inl ⟨r8, rfl⟩)
    have hcomm : upd (pre ++ [(s, some (.arr e ei.info.size (n + m) g))]) h = setH h2 s (some (.arr e ei.info.size (n + m) g)) := by
      rw [upd_append, upd_cons, upd_nil, ← hpre]
      rcases hxs with ⟨_, _, rfl⟩ | ⟨i, _, hi, rfl⟩
      · rfl
      · rw [upd_cons, upd_cons, upd_nil, upd_nil]
        exact setH_comm h (fun e => by subst e; rw [hs0] at hi; cases hi) _ _
    refine wp_val (v := v') (w' := w') (op_builtin ho (f := Builtin.append_ #[t, t] o.type #[a.eval X, a.eval Y]) (by simp [builtin]) (by rw [hxv, hyv]; exact hrun)) (hK _ _ ⟨F, _, by rw [hcomm]; exact T.1, by rw [hcomm]; exact P1.trans T.2, ?_⟩)
    refine ⟨?_, ⟨some (.arr e ei.info.size (n + m) g), by rw [hcomm]; simp [setH]⟩, fun ob _ => by simp [setB]⟩
    rcases q6 with ⟨a', rfl, _⟩ | ⟨g', cap', cur, rfl, _⟩ <;> rfl
  have hmax : n + m ≤ maxLen := by
    have h3 : (n + m) * ei.info.bytes ≤ 140737488355328 := by simpa [fits] using hfit
    have h4 : n + m ≤ (n + m) * ei.info.bytes := Nat.le_mul_of_pos_right _ hby
    simp only [maxLen]; omega
  rcases hxs with ⟨rfl, rfl, rfl⟩ | ⟨i, rfl, hi, rfl⟩
  · obtain ⟨hxv, _⟩ := hx
    exact main none 0 [] hxv (by simp) (.inl ⟨rfl, rfl⟩) (fun i hi => by omega) hmax ⟨h, rfl, H, Per.refl w F h β, hs0, fun b h0 => by omega⟩
  · have hxv := hx.2.2 _ hi
    obtain ⟨H1, P1⟩ := H.kill i
    rw [setB_self] at H1 P1
    have hs1 : setH h i none s = none := by
      simp only [setH]; split
      · rename_i e; subst e; rw [hs0] at hi; cases hi
      · exact hs0
    have hfree : ∀ b, Blk (β i) b → ¬ F b ∧ (∀ j o, setH h i none j = some (some o) → ¬ Blk (β j) b) ∧ (O0 b ∨ w0.heap.size ≤ b) := fun b hb =>
      ⟨H.notF i _ b hi hb, fun j o' hj hb' => by
        simp only [setH] at hj
        split at hj
        · cases hj
        · rename_i hne; exact hne (H.apart j i o' _ b hj hi hb' hb), H.fromO i _ b hi hb⟩
    rcases H.obj _ _ hi with ⟨ad0, r1, rfl⟩ | ⟨b, cap, cur, r1, r2, r3, r4, r5, r6, r7⟩
    · exact main ad0 0 [] (by rw [hxv, r1]) (by simp) (.inl ⟨rfl, rfl⟩) (fun i hi => by omega) hmax ⟨_, by rw [upd_cons, upd_nil], H1, P1, hs1, fun b h0 => by omega⟩
    · refine main (some ⟨b, 0, none⟩) cap (cur.toList.take (n * ei.info.size)) (by rw [hxv, r1]) ?_ (.inr ⟨b, cur, rfl, r2, r3, r4, r5, r6, rfl⟩) (fun i hi j hj => ?_) hmax
        ⟨_, by rw [upd_cons, upd_nil], H1, P1, hs1, fun b' _ hb' => hfree b' (by rw [r1]; simp [blk]; simp at hb'; exact ⟨by omega, hb'⟩)⟩
      · simp only [List.length_take, Array.length_toList, r6]
        have := Nat.mul_le_mul_right ei.info.size r4
        omega
      · obtain ⟨y, hy1, hy2⟩ := r7 i hi j hj
        refine ⟨y, ?_, hy2⟩
        have := rows_fit (sz := ei.info.size) hi
        rw [List.getElem?_take, if_pos (by omega)]
        simpa using hy1

/-! ### make, function values, the least and the greatest -/
theorem op_makeSlice (H : Inv w0 O0 F0 w F h β) (ht : TTok P TT) {ty e : TypeId} {ti ei : TI} {X Y : Operand} (ho : o.op = .makeSlice ty X Y) (hti : TT ty = some ti) (hd : ti.desc = .slice e) (hei : TT e = some ei)
    {z : List C} (hz : zeroCells ei = some z) {zr : List R} (hzr : allR (fun _ => none) z = some zr) (hl : zr.length = ei.info.size) (_hpos : 0 < ei.info.size) {n c : Int} {kn kc : IntKind} (hX : a.eval X = .int kn n) (hY : a.eval Y = .int kc c)
    (hc : decide (0 ≤ n ∧ n ≤ c ∧ c * ei.info.bytes ≤ 140737488355328 ∧ c ≤ 9223372036854775807) = true) {s : Nat} (hs0 : h s = none) (ez : List R)
    (hK : ∀ v w', Out w0 O0 F0 w F h β a.tmps [(s, some (.arr e ei.info.size n.toNat fun i => if i < n.toNat then ezAt zr else ezAt ez))] (.d (.one (.own s))) v w' → K (a.put o.dst v) w') : o.wp P a w K Q := by
  obtain ⟨h0, h1, h2, h3⟩ := of_decide_eq_true hc
  obtain ⟨zv, hz1, hz2⟩ := zeroCells_sound (w := w) (F := F) (h := h) (β := β) hz
  have hzro : All2 (Ro w F) zr zv.cells.toList := allR_sound H (hh := fun _ => none) (fun _ _ hq => by cases hq) (fun _ hf => hf) hz2 hzr (fun i hi => by
    have := allR_refs hzr i hi
    exfalso
    rw [allR_none_own hzr] at this
    simp at this)
  have hrows := zero_rows (w := w) (F := F) (z := zv) ei.info.size c.toNat hzro hl
  have hrun := run_make (P := P) w ty e ei.info zv (by rw [ht.under ty ti hti, hd]) (ht.info e ei hei) hz1 kn kc n c h0 h1 (by rw [Int.mul_comm]; omega) h3
  have T := H.new hs0 (.cells (madeCells zv.cells (c.toNat * ei.info.size)) e) (.arr e ei.info.size n.toNat fun i => if i < n.toNat then ezAt zr else ezAt ez) (.slice (some ⟨w.heap.size, 0, none⟩) n.toNat c.toNat) (fun b hb => by
      have hb := Blk_slice.1 hb
      simp only [blk] at hb; split at hb
      · cases hb
      · simpa using hb.symm) (fun P => by
      by_cases hc0 : c.toNat = 0
      · exact .inl ⟨some ⟨w.heap.size, 0, none⟩, by simp [setB]; omega, by omega⟩
      · refine .inr ⟨w.heap.size, c.toNat, _, by simp [setB], by omega, heap_alloc_new w _, by omega, by simp [maxLen]; omega, ?_, fun k hk j hj => ?_⟩
        · have := hrows.1; rw [repl_len] at this; exact this
        · obtain ⟨r, hr⟩ : ∃ r, zr[j]? = some r := ⟨zr[j]'(by omega), List.getElem?_eq_getElem _⟩
          obtain ⟨y, hy, hro⟩ := (hrows.2 k zr (by rw [repl_get, if_pos (by omega)])).2 j r hr
          exact ⟨y, hy, by simp only [hk, if_true, ezAt, List.getD, hr, Option.getD_some]; exact Ro.mono P.blocks P.sub hro⟩)
  refine wp_val (v := .slice (some ⟨w.heap.size, 0, none⟩) n.toNat c.toNat) (w' := w.alloc (.cells (madeCells zv.cells (c.toNat * ei.info.size)) e)) ?_ (hK _ _ ⟨F, _, by rw [upd_cons]; exact T.1, by rw [upd_cons]; exact T.2, rfl, ⟨some (.arr e ei.info.size n.toNat fun i => if i < n.toNat then ezAt zr else ezAt ez), by rw [upd_cons]; simp [setH]⟩, fun ob _ => by simp [setB]⟩)
  simp only [execOp, ho, hX, hY, Sem.run_bind, hrun, Result.andThen_ok, Sem.run_pure]

theorem op_makeFunc (H : Inv w0 O0 F0 w F h β) {f : FuncId} {caps : Array Operand} (ho : o.op = .makeFunc (.func f) #[] caps) {ids : List Nat} (hx : All2 (fun i u => RepC w F h β (.ptr i 0) u) ids (caps.toList.map a.eval))
    (hK : ∀ v w', Out w0 O0 F0 w F h β a.tmps [] (.d (.one (.fn f ids))) v w' → K (a.put o.dst v) w') : o.wp P a w K Q := by
  refine op_quiet H (x := .d (.one (.fn f ids))) (v := .func (.func f) #[] (caps.map a.eval)) (by simp [execOp, ho, Instr.makeFunc]) ⟨rfl, fun i hi => ?_, fun hall => ?_⟩ hK
  · obtain ⟨k, hk⟩ := List.getElem?_of_mem hi
    obtain ⟨u, _, hr⟩ := hx.get hk
    exact hr.2.1
  · congr 1
    apply Array.ext'
    simp only [Array.toList_map]
    have : ∀ {l : List Nat} {us : List Value}, All2 (fun i u => RepC w F h β (.ptr i 0) u) l us → (∀ i ∈ l, ∃ o, h i = some (some o)) → us = l.map β := by
      intro l us hh
      induction hh with
      | nil => intro _; rfl
      | cons h1 _ ih =>
        intro hal
        obtain ⟨o', ho'⟩ := hal _ (List.mem_cons_self ..)
        obtain ⟨b, e1, e2⟩ := h1.2.2 o' ho'
        rw [ih fun i hi => hal i (List.mem_cons_of_mem _ hi), List.map_cons, e1, e2]
    exact this hx hall

theorem run_foldMin : ∀ {l : List T} {us : List Value} {u r : Value}, foldMin u l = some r → All2 (RepX a.tmps w F h β) l us → (us.foldlM Builtin.min2 u).run P w = .ok r w
  | [], us, u, r, hm, hx => by cases hx; simp [foldMin] at hm; subst hm; rfl
  | y :: l, us, u, r, hm, hx => by
    cases hx with
    | cons h1 h2 =>
      unfold foldMin at hm
      split at hm
      · simp_all
      · rename_i e1 e2
        cases e2
        obtain ⟨hu, _⟩ := h1
        split at hm
        · rw [List.foldlM_cons, Sem.run_bind]
          simp only [hu, Builtin.min2, Sem.run_pure, Result.andThen_ok]
          exact run_foldMin hm h2
        · cases hm
      · cases hm

theorem run_foldMax : ∀ {l : List T} {us : List Value} {u r : Value}, foldMax u l = some r → All2 (RepX a.tmps w F h β) l us → (us.foldlM Builtin.max2 u).run P w = .ok r w
  | [], us, u, r, hm, hx => by cases hx; simp [foldMax] at hm; subst hm; rfl
  | y :: l, us, u, r, hm, hx => by
    cases hx with
    | cons h1 h2 =>
      unfold foldMax at hm
      split at hm
      · simp_all
      · rename_i e1 e2
        cases e2
        obtain ⟨hu, _⟩ := h1
        split at hm
        · rw [List.foldlM_cons, Sem.run_bind]
          simp only [hu, Builtin.max2, Sem.run_pure, Result.andThen_ok]
          exact run_foldMax hm h2
        · cases hm
      · cases hm

theorem foldMin_plain : ∀ {l : List T} {us : List Value} {u r : Value}, plain u = true → foldMin u l = some r → All2 (RepX a.tmps w F h β) l us → plain r = true
  | [], us, u, r, hp, hm, _ => by simp [foldMin] at hm; subst hm; exact hp
  | y :: l, us, u, r, hp, hm, hx => by
    cases hx with
    | cons h1 h2 =>
      unfold foldMin at hm
      split at hm
      · cases hm; exact hp
      · rename_i e1 e2
        cases e2
        split at hm
        · rename_i hk
          have hk := of_decide_eq_true hk
          subst hk
          refine foldMin_plain ?_ hm h2
          split
          · exact h1.2
          · exact hp
        · cases hm
      · cases hm
theorem foldMax_plain : ∀ {l : List T} {us : List Value} {u r : Value}, plain u = true → foldMax u l = some r → All2 (RepX a.tmps w F h β) l us → plain r = true
  | [], us, u, r, hp, hm, _ => by simp [foldMax] at hm; subst hm; exact hp
  | y :: l, us, u, r, hp, hm, hx => by
    cases hx with
    | cons h1 h2 =>
      unfold foldMax at hm
      split at hm
      · cases hm; exact hp
      · rename_i e1 e2
        cases e2
        split at hm
        · rename_i hk
          have hk := of_decide_eq_true hk
          subst hk
          refine foldMax_plain ?_ hm h2
          split
          · exact h1.2
          · exact hp
        · cases hm
      · cases hm

theorem op_min (H : Inv w0 O0 F0 w F h β) {X : Operand} {args : List Operand} {ats : Array TypeId} {mx : Bool} (ho : o.op = .call { callee := .builtin (bif mx then .max else .min), args := (X :: args).toArray, argTypes := ats }) {u r : Value} (hX : a.eval X = u) (hp : plain u = true) {l : List T}
    (hm : (bif mx then foldMax u l else foldMin u l) = some r) (hx : All2 (RepX a.tmps w F h β) l (args.map a.eval))
    (hK : ∀ v w', Out w0 O0 F0 w F h β a.tmps [] (.d (.one (.r (.v r)))) v w' → K (a.put o.dst v) w') : o.wp P a w K Q := by
  cases mx
  · refine op_quiet H (v := r) ?_ (rep_v (foldMin_plain hp hm hx)) hK
    refine op_builtin (b := .min) ho (f := Builtin.min_ ats o.type ((X :: args).toArray.map a.eval)) (fun cs => by simp [builtin]) ?_
    simp only [Builtin.min_, List.map_toArray, List.map_cons, hX]
    exact run_foldMin hm hx
  · refine op_quiet H (v := r) ?_ (rep_v (foldMax_plain hp hm hx)) hK
    refine op_builtin (b := .max) ho (f := Builtin.max_ ats o.type ((X :: args).toArray.map a.eval)) (fun cs => by simp [builtin]) ?_
    simp only [Builtin.max_, List.map_toArray, List.map_cons, hX]
    exact run_foldMax hm hx
end
end Go.Proofs.YthhmpjnmmhfngaaDoor.Ev
