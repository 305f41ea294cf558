/-
  Slices of slices of the call's own.
-/
import Derived.Test.YthhmpjnmmhfngaaDoorEvOx
namespace Go.Proofs.YthhmpjnmmhfngaaDoor.Ev
open Go

/-! ### skeletons -/
def tupOf (v : Value) (S : List Value) : Value := .tuple (v :: S).toArray

theorem sk_nil (v : Value) (S : List Value) : skAt [] (tupOf v S) = some v := skAt_hd (by simp)
theorem sk_cons (v : Value) (S : List Value) (k : Nat) (p : List Nat) : skAt (k :: p) (tupOf v S) = (S[k]?).bind (skAt p) := by
  simp only [skAt, tupOf, List.getElem?_toArray, List.getElem?_cons_succ]
  cases S[k]? <;> rfl
theorem hd_tup (v : Value) (S : List Value) : hd (tupOf v S) = v := by
  have := sk_nil v S
  simpa only [skAt, Option.some.injEq] using this

theorem Blk_tup {v : Value} {S : List Value} {b : Nat} : Blk (tupOf v S) b ↔ blk v = some b ∨ ∃ (k : Nat) (s : Value), S[k]? = some s ∧ Blk s b := by
  constructor
  · rintro ⟨p, u, h1, h2⟩
    cases p with
    | nil => rw [sk_nil] at h1; cases h1; exact .inl h2
    | cons k p =>
      rw [sk_cons, Option.bind_eq_some_iff] at h1
      obtain ⟨s, g1, g2⟩ := h1
      exact .inr ⟨k, s, g1, p, u, g2, h2⟩
  · rintro (h | ⟨k, s, h1, p, u, h2, h3⟩)
    · exact ⟨[], v, sk_nil v S, h⟩
    · exact ⟨k :: p, u, by rw [sk_cons, h1]; exact h2, h3⟩

theorem Inj_mk {v : Value} {S : List Value} (h1 : ∀ (k : Nat) s b, S[k]? = some s → blk v = some b → ¬ Blk s b) (h2 : ∀ (k j : Nat) s s' b, S[k]? = some s → S[j]? = some s' → Blk s b → Blk s' b → k = j) (h3 : ∀ (k : Nat) s, S[k]? = some s → Inj s) : Inj (tupOf v S) := by
  intro p q u u' b hp hq hu hu'
  cases p with
  | nil =>
    rw [sk_nil] at hp; cases hp
    cases q with
    | nil => rfl
    | cons k q =>
      rw [sk_cons, Option.bind_eq_some_iff] at hq
      obtain ⟨s, g1, g2⟩ := hq
      exact absurd ⟨q, u', g2, hu'⟩ (h1 k s b g1 hu)
  | cons k p =>
    rw [sk_cons, Option.bind_eq_some_iff] at hp
    obtain ⟨s, g1, g2⟩ := hp
    cases q with
    | nil =>
      rw [sk_nil] at hq; cases hq
      exact absurd ⟨p, u, g2, hu⟩ (h1 k s b g1 hu')
    | cons j q =>
      rw [sk_cons, Option.bind_eq_some_iff] at hq
      obtain ⟨s', g3, g4⟩ := hq
      have e := h2 k j s s' b g1 g3 ⟨p, u, g2, hu⟩ ⟨q, u', g4, hu'⟩
      subst e
      rw [g1] at g3; cases g3
      rw [h3 k s g1 p q u u' b g2 g4 hu hu']

theorem Inj_top {v : Value} {S : List Value} (h : Inj (tupOf v S)) {k : Nat} {s : Value} {b : Nat} (hk : S[k]? = some s) (hb : blk v = some b) : ¬ Blk s b := fun ⟨p, u, g1, g2⟩ => by
  have := h [] (k :: p) v u b (sk_nil v S) (by rw [sk_cons, hk]; exact g1) hb g2
  cases this
theorem Inj_apart {v : Value} {S : List Value} (h : Inj (tupOf v S)) {k j : Nat} {s s' : Value} {b : Nat} (hk : S[k]? = some s) (hj : S[j]? = some s') (hb : Blk s b) (hb' : Blk s' b) : k = j := by
  obtain ⟨p, u, g1, g2⟩ := hb
  obtain ⟨q, u', g3, g4⟩ := hb'
  have := h (k :: p) (j :: q) u u' b (by rw [sk_cons, hk]; exact g1) (by rw [sk_cons, hj]; exact g3) g2 g4
  cases this; rfl
theorem Inj_sub {v : Value} {S : List Value} (h : Inj (tupOf v S)) {k : Nat} {s : Value} (hk : S[k]? = some s) : Inj s := fun p q u u' b hp hq hu hu' => by
  have := h (k :: p) (k :: q) u u' b (by rw [sk_cons, hk]; exact hp) (by rw [sk_cons, hk]; exact hq) hu hu'
  cases this; rfl

theorem tup_of {us : Array Value} {n : Nat} {v : Value} (hs : us.size = n + 1) (h0 : us[0]? = some v) : ∃ S, S.length = n ∧ .tuple us = tupOf v S ∧ ∀ k, us[k + 1]? = S[k]? := by
  obtain ⟨l⟩ := us
  cases l with
  | nil => simp at hs
  | cons a S =>
    simp only [List.getElem?_toArray, List.getElem?_cons_zero, Option.some.injEq] at h0
    subst h0
    exact ⟨S, by simpa using hs, rfl, fun k => by simp⟩

/-- slices of slices, by the list of the skeletons of their elements -/
theorem deep_list {w : World} {F : Nat → Prop} {e : Ty} {ts : List TypeId} {l : List (Den (.list e))} {sk : Value} : DeepAt w F (.list e) ts l sk ↔ ∃ t ts' ad cap S, ts = t :: ts' ∧ sk = tupOf (.slice ad (List.length l) cap) S ∧ S.length = List.length l ∧ List.length l ≤ cap ∧ cap ≤ maxLen ∧
      ((cap = 0) ∨ ∃ b cur, ad = some ⟨b, 0, none⟩ ∧ 0 < cap ∧ w.heap[b]? = some (.cells cur t (0, 0)) ∧ cur.size = cap ∧ ∀ k, k < List.length l → ∃ s, S[k]? = some s ∧ cur[k]? = some (hd s)) ∧
      ∀ k, k < List.length l → ∃ s, S[k]? = some s ∧ DeepAt w F e ts' (List.getD l k ([] : List (Den e))) s := by
  constructor
  · rintro ⟨t, ts', us, ad, cap, rfl, rfl, h1, h2, h3, h4, h5, h6⟩
    obtain ⟨S, g1, g2, g3⟩ := tup_of h1 h2
    refine ⟨t, ts', ad, cap, S, rfl, g2, g1, h3, h4, ?_, fun k hk => ?_⟩
    · rcases h5 with h5 | ⟨b, cur, q1, q2, q3, q4, q5⟩
      · exact .inl h5
      · exact .inr ⟨b, cur, q1, q2, q3, q4, fun k hk => by obtain ⟨s, r1, r2⟩ := q5 k hk; exact ⟨s, by rw [← g3]; exact r1, r2⟩⟩
    · obtain ⟨s, r1, r2⟩ := h6 k hk
      exact ⟨s, by rw [← g3]; exact r1, r2⟩
  · rintro ⟨t, ts', ad, cap, S, rfl, rfl, h1, h3, h4, h5, h6⟩
    refine ⟨t, ts', (.slice ad (List.length l) cap :: S).toArray, ad, cap, rfl, rfl, by simp [h1], by simp, h3, h4, ?_, fun k hk => ?_⟩
    · rcases h5 with h5 | ⟨b, cur, q1, q2, q3, q4, q5⟩
      · exact .inl h5
      · exact .inr ⟨b, cur, q1, q2, q3, q4, fun k hk => by obtain ⟨s, r1, r2⟩ := q5 k hk; exact ⟨s, by simpa using r1, r2⟩⟩
    · obtain ⟨s, r1, r2⟩ := h6 k hk
      exact ⟨s, by simpa using r1, r2⟩

/-- plain slices below -/
theorem deep_leaf {w : World} {F : Nat → Prop} {e : Ty} (hf : tyFlat e = true) {ts : List TypeId} {l : List (Den e)} {sk : Value} (h : DeepAt w F e ts l sk) : ∃ t u, ts = [t] ∧ sk = tupOf u [] ∧ LeafAt w F t e l u := by
  cases e with
  | list e => cases hf
  | int k => exact h
  | str => exact h
  | bool => exact h
  | pair a b => exact h
  | struct a => exact h
  | unit => exact h.elim
  | tree => cases hf
  | map k e => cases hf
  | ref t => cases hf

theorem leaf_deep {w : World} {F : Nat → Prop} {e : Ty} (hf : isDeepLeaf e = true) {t : TypeId} {l : List (Den e)} {u : Value} (h : LeafAt w F t e l u) : DeepAt w F e [t] l (tupOf u []) := by
  cases e with
  | int k => exact ⟨t, u, rfl, rfl, h⟩
  | str => exact ⟨t, u, rfl, rfl, h⟩
  | bool => exact ⟨t, u, rfl, rfl, h⟩
  | pair a b => exact ⟨t, u, rfl, rfl, h⟩
  | struct a => exact ⟨t, u, rfl, rfl, h⟩
  | _ => cases hf

theorem leaf_head {w : World} {F : Nat → Prop} {t : TypeId} {e : Ty} {l : List (Den e)} {v : Value} (h : LeafAt w F t e l v) : ∃ ad cap, v = .slice ad (List.length l) cap ∧ List.length l ≤ cap ∧ cap ≤ maxLen ∧ (List.length l = 0 ∨ ∃ b, ad = some ⟨b, 0, none⟩) := by
  rcases h with ⟨a, h1, h2⟩ | ⟨b, cap, cur, h1, h2, h3, h4, h5, h6⟩
  · exact ⟨a, 0, by rw [h1, h2], by omega, by simp [maxLen], .inl h2⟩
  · exact ⟨_, cap, h1, h4, h5, .inr ⟨b, rfl⟩⟩

theorem deep_head {w : World} {F : Nat → Prop} {e : Ty} {ts : List TypeId} {l : List (Den e)} {sk : Value} (h : DeepAt w F e ts l sk) : ∃ ad cap, hd sk = .slice ad (List.length l) cap ∧ List.length l ≤ cap ∧ cap ≤ maxLen ∧ (List.length l = 0 ∨ ∃ b, ad = some ⟨b, 0, none⟩) := by
  cases e with
  | list e =>
    obtain ⟨t, ts', ad, cap, S, rfl, rfl, h1, h3, h4, h5, h6⟩ := deep_list.1 h
    refine ⟨ad, cap, hd_tup _ _, h3, h4, ?_⟩
    rcases h5 with h5 | ⟨b, cur, q1, _⟩
    · exact .inl (by omega)
    · exact .inr ⟨b, q1⟩
  | int k => obtain ⟨t, u, rfl, rfl, h⟩ := h; obtain ⟨ad, cap, g⟩ := leaf_head h; exact ⟨ad, cap, (hd_tup u []).trans g.1, g.2⟩
  | str => obtain ⟨t, u, rfl, rfl, h⟩ := h; obtain ⟨ad, cap, g⟩ := leaf_head h; exact ⟨ad, cap, (hd_tup u []).trans g.1, g.2⟩
  | bool => obtain ⟨t, u, rfl, rfl, h⟩ := h; obtain ⟨ad, cap, g⟩ := leaf_head h; exact ⟨ad, cap, (hd_tup u []).trans g.1, g.2⟩
  | pair a b => obtain ⟨t, u, rfl, rfl, h⟩ := h; obtain ⟨ad, cap, g⟩ := leaf_head h; exact ⟨ad, cap, (hd_tup u []).trans g.1, g.2⟩
  | struct a => obtain ⟨t, u, rfl, rfl, h⟩ := h; obtain ⟨ad, cap, g⟩ := leaf_head h; exact ⟨ad, cap, (hd_tup u []).trans g.1, g.2⟩
  | unit => exact h.elim
  | tree => exact h.elim
  | map k e => exact h.elim
  | ref t => exact h.elim

/-- what lies at a path -/
theorem deep_sub {w : World} {F : Nat → Prop} : ∀ (p : List Nat) {e : Ty} {ts : List TypeId} {l : List (Den e)} {sk u : Value} {q : Pay}, DeepAt w F e ts l sk → skAt p sk = some u → subPay p ⟨e, l⟩ = some q →
    ∃ ts' sk', DeepAt w F q.t ts' q.l sk' ∧ hd sk' = u ∧ ∀ p', skAt (p ++ p') sk = skAt p' sk'
  | [], e, ts, l, sk, u, q, h, hp, hq => by
    cases hq
    exact ⟨ts, sk, h, by simpa only [skAt, Option.some.injEq] using hp, fun p' => rfl⟩
  | k :: p, .list e, ts, l, sk, u, q, h, hp, hq => by
    obtain ⟨t, ts', ad, cap, S, rfl, rfl, h1, h3, h4, h5, h6⟩ := deep_list.1 h
    rw [sk_cons, Option.bind_eq_some_iff] at hp
    obtain ⟨s, g1, g2⟩ := hp
    have hk : k < List.length l := by rw [← h1]; exact (List.getElem?_eq_some_iff.1 g1).1
    obtain ⟨s', g3, g4⟩ := h6 k hk
    rw [g1] at g3; cases g3
    obtain ⟨ts2, sk2, r1, r2, r3⟩ := deep_sub p g4 g2 hq
    exact ⟨ts2, sk2, r1, r2, fun p' => by rw [List.cons_append, sk_cons, g1]; exact r3 p'⟩
  | k :: p, .int _, _, _, _, _, _, _, _, hq => by cases hq
  | k :: p, .str, _, _, _, _, _, _, _, hq => by cases hq
  | k :: p, .bool, _, _, _, _, _, _, _, hq => by cases hq
  | k :: p, .pair _ _, _, _, _, _, _, _, _, hq => by cases hq
  | k :: p, .struct _, _, _, _, _, _, _, _, hq => by cases hq
  | k :: p, .unit, _, _, _, _, _, _, _, hq => by cases hq
  | k :: p, .tree, _, _, _, _, _, _, _, hq => by cases hq
  | k :: p, .map _ _, _, _, _, _, _, _, _, hq => by cases hq
  | k :: p, .ref _, _, _, _, _, _, _, _, hq => by cases hq

section
variable {P : Program} {TT : Types} {w0 w : World} {O0 F0 F : Nat → Prop} {h : HF} {β : Nat → Value} {a : Act} {o : Oper} {K : Act → World → Prop} {Q : Exit → Act → World → Prop} {x : T} {v : Value}

theorem sliceOf_some {ty et : TypeId} {ei : TI} (hs : sliceOf TT ty = some (et, ei)) : ∃ ti, TT ty = some ti ∧ ti.desc = .slice et ∧ TT et = some ei := by
  unfold sliceOf at hs
  split at hs
  · rename_i ti hti
    split at hs
    · rename_i e hd
      split at hs
      · rename_i ei' hei; cases hs; exact ⟨ti, hti, hd, hei⟩
      · cases hs
    · cases hs
  · cases hs

theorem op_indexDeep (H : Inv w0 O0 F0 w F h β) (ht : TTok P TT) {ty et : TypeId} {ei : TI} {X Y : Operand} (ho : o.op = .indexAddr ty X Y) (hty : sliceOf TT ty = some (et, ei)) {i : Nat} {p : List Nat} {ts : List TypeId} {e : Ty} {l : List (Den e)} {q : Pay}
    (hi : h i = some (some (.deep ts e l))) (hq : subPay p ⟨e, l⟩ = some q) (_hw : ei.info.size = width q.t) (hx : RepC w F h β (.dsl i p) (a.eval X)) {k : IntKind} {n : Int} (hY : a.eval Y = .int k n) (hb : inb n q.l.length = true)
    (hK : ∀ v w', Out w0 O0 F0 w F h β a.tmps [] (.d (.one (.dptr i p ei.info.size n.toNat 0))) v w' → K (a.put o.dst v) w') : o.wp P a w K Q := by
  obtain ⟨ti, hti, hd, hei⟩ := sliceOf_some hty
  obtain ⟨h0, h1⟩ := inb_iff.1 hb
  have hsk := hx.2.2 _ hi
  obtain ⟨ts', sk', g1, g2, g3⟩ := deep_sub p (H.obj _ _ hi).2.1 hsk hq
  obtain ⟨ad, cap, e1, e2, e3, e4⟩ := deep_head g1
  rcases e4 with e4 | ⟨b, rfl⟩
  · have : q.l.length = 0 := e4
    omega
  · have hu : a.eval X = .slice (some ⟨b, 0, none⟩) (List.length q.l) cap := by rw [← g2, e1]
    refine op_quiet H (x := .d (.one (.dptr i p ei.info.size n.toNat 0))) (v := .pointer (some ⟨b, 0 + n.toNat * ei.info.size, none⟩)) ?_ ⟨rfl, ⟨_, hi⟩, fun ob _ => ⟨b, List.length q.l, cap, by rw [hsk, hu], by have : n.toNat < q.l.length := by omega
                                                                                                                                                                                                                   exact this, by simp⟩⟩ hK
    simp only [execOp, ho, hu, hY, Sem.run_bind, run_indexAt_in ht hti hd hei h0 h1 w, Result.andThen_ok, Sem.run_pure]

/-- the cells of an element at a path -/
theorem deep_elem {e : Ty} (_hf : tyFlat e = true) {t : TypeId} {l : List (Den e)} {b cap : Nat} (hl : LeafAt w F t e l (.slice (some ⟨b, 0, none⟩) (List.length l) cap)) {k : Nat} (hk : k < List.length l) : ∃ us, us.length = width e ∧ CellsAt w b (k * width e) us ∧ All2 (Ro w F) (cellsR e (l.getD k (dflt e))) us := by
  rcases hl with ⟨ad, h1, h2⟩ | ⟨b', cap', cur, h1, h2, h3, h4, h5, h6, h7⟩
  · omega
  · cases h1
    obtain ⟨us, g1, g2⟩ := list_of (h7 k hk)
    refine ⟨us, g1, fun j u hu => ?_, All2.of_get (by rw [cellsR_len, g1]) fun j x hx => ?_⟩
    · rw [cell_of_row w b _ cur t (0, 0) h3]
      have := (g2 j u hu).1
      simpa using this
    · have hj : j < width e := by
        rcases Nat.lt_or_ge j (width e) with h | h
        · exact h
        · rw [List.getElem?_eq_none (by rw [cellsR_len]; exact h)] at hx; cases hx
      refine ⟨us[j]'(by omega), List.getElem?_eq_getElem (by omega), ?_⟩
      have h8 := (g2 j _ (List.getElem?_eq_getElem (by omega))).2
      unfold getL at h8
      rw [List.getD_eq_getElem?_getD, hx] at h8
      exact h8

theorem op_loadDeep1 (H : Inv w0 O0 F0 w F h β) (ht : TTok P TT) {ty : TypeId} {ti : TI} {X : Operand} (ho : o.op = .load ty X) (hti : TT ty = some ti) (hag : aggDesc ti.desc = false) {i : Nat} {p : List Nat} {k : Nat} {ts : List TypeId} {e e' : Ty} {l : List (Den e)} {m : List (Den (.list e'))}
    (hi : h i = some (some (.deep ts e l))) (hq : subPay p ⟨e, l⟩ = some ⟨.list e', m⟩) (hx : RepC w F h β (.dptr i p 1 k 0) (a.eval X))
    (hK : ∀ v w', Out w0 O0 F0 w F h β a.tmps [] (.d (.one (.dsl i (p ++ [k])))) v w' → K (a.put o.dst v) w') : o.wp P a w K Q := by
  obtain ⟨_, _, hsk⟩ := hx
  obtain ⟨b, n, cap, g1, g2, g3⟩ := hsk _ hi
  obtain ⟨ts', sk', d1, d2, d3⟩ := deep_sub p (H.obj _ _ hi).2.1 g1 hq
  obtain ⟨t, ts2, ad, cap', S, rfl, rfl, q1, q2, q3, q4, q5⟩ := deep_list.1 d1
  rw [hd_tup] at d2
  cases d2
  rcases q4 with q4 | ⟨b', cur, q6, q7, q8, q9, q10⟩
  · exfalso; have : List.length m ≤ cap := q2; have : k < List.length m := g2; omega
  · cases q6
    obtain ⟨s, r1, r2⟩ := q10 k g2
    obtain ⟨s', r3, r4⟩ := q5 k g2
    rw [r1] at r3; cases r3
    obtain ⟨ad2, cap2, z1, _⟩ := deep_head r4
    have hcell : w.cell? ⟨b, k * 1 + 0, none⟩ = some (hd s) := by
      rw [cell_of_row w b _ cur t (0, 0) q8]
      rw [show k * 1 + 0 = k by omega]; exact r2
    refine op_quiet H (x := .d (.one (.dsl i (p ++ [k])))) (v := hd s) ?_ ⟨by rw [z1]; rfl, ⟨_, hi⟩, fun ob _ => ?_⟩ hK
    · simp only [execOp, ho, g3, Instr.loadAt, Instr.sureAddr, Sem.run_bind, Sem.run_pure, Result.andThen_ok, loadVar, ht.run_agg hti, hag, Bool.false_eq_true, if_false, run_load, hcell]
    · rw [d3, sk_cons, r1]; rfl

theorem op_loadDeep2 (H : Inv w0 O0 F0 w F h β) (ht : TTok P TT) {ty : TypeId} {ti : TI} {X : Operand} (ho : o.op = .load ty X) (hti : TT ty = some ti) {i : Nat} {p : List Nat} {sz k off : Nat} {ts : List TypeId} {e : Ty} {l : List (Den e)} {q : Pay} {d : D}
    (hi : h i = some (some (.deep ts e l))) (hq : subPay p ⟨e, l⟩ = some q) (hf : tyFlat q.t = true) (hsz : sz = width q.t) (hfit : off + ti.info.size ≤ width q.t) (hd : D.mkOf ti ((((cellsR q.t (q.l.getD k (dflt q.t))).drop off).take ti.info.size).map .r) = some d)
    (hx : RepC w F h β (.dptr i p sz k off) (a.eval X))
    (hK : ∀ v w', Out w0 O0 F0 w F h β a.tmps [] (.d d) v w' → K (a.put o.dst v) w') : o.wp P a w K Q := by
  obtain ⟨_, _, hsk⟩ := hx
  obtain ⟨b, n, cap, g1, g2, g3⟩ := hsk _ hi
  obtain ⟨ts', sk', d1, d2, d3⟩ := deep_sub p (H.obj _ _ hi).2.1 g1 hq
  obtain ⟨t, u, rfl, rfl, hl⟩ := deep_leaf hf d1
  rw [hd_tup] at d2
  subst d2
  obtain ⟨ad, cap', z1, _⟩ := leaf_head hl
  cases z1
  obtain ⟨us, e1, e2, e3⟩ := deep_elem hf hl g2
  obtain ⟨v, r1, r2⟩ := load_sound (β := β) (h := h) ht hti (us := (us.drop off).take ti.info.size) (b := b) (off := k * width q.t + off) (All2.map_l.2 ((e3.drop off).take ti.info.size)) (by simp; omega) ((e2.drop off).take _) hd
  refine op_quiet H (x := .d d) (v := v) ?_ r2 hK
  rw [hsz] at g3
  simp only [execOp, ho, g3, Instr.loadAt, Instr.sureAddr, Sem.run_bind, Sem.run_pure, Result.andThen_ok, r1]

theorem op_lenDeep (H : Inv w0 O0 F0 w F h β) (ht : TTok P TT) {X : Operand} {t et : TypeId} {ei : TI} {ts' : List TypeId} (ho : o.op = .call { callee := .builtin .len, args := #[X], argTypes := (t :: ts').toArray }) (hty : sliceOf TT t = some (et, ei)) {i : Nat} {p : List Nat} {ts : List TypeId} {e : Ty} {l : List (Den e)} {q : Pay}
    (hi : h i = some (some (.deep ts e l))) (hq : subPay p ⟨e, l⟩ = some q) (hx : RepC w F h β (.dsl i p) (a.eval X))
    (hK : ∀ v w', Out w0 O0 F0 w F h β a.tmps [] (.d (.one (.r (.v (.int .i64 (q.l.length : Int)))))) v w' → K (a.put o.dst v) w') : o.wp P a w K Q := by
  obtain ⟨ti, hti, hd, hei⟩ := sliceOf_some hty
  have hsk := hx.2.2 _ hi
  obtain ⟨ts2, sk', g1, g2, g3⟩ := deep_sub p (H.obj _ _ hi).2.1 hsk hq
  obtain ⟨ad, cap, e1, e2, e3, e4⟩ := deep_head g1
  have hu : a.eval X = .slice ad (List.length q.l) cap := by rw [← g2, e1]
  have hle : List.length q.l ≤ 9223372036854775807 := by simp only [maxLen] at e3; omega
  refine op_quiet H (v := .int .i64 (q.l.length : Int)) ?_ (rep_v (plain_i64 (by omega) (by have : q.l.length = List.length q.l := rfl; omega))) hK
  refine op_builtin ho (f := Builtin.len_ (t :: ts').toArray o.type #[a.eval X]) (by simp [builtin]) ?_
  simp [Builtin.len_, hu, ht.run_under hti, hd, goInt]

/-- cells of a row, some of them set -/
theorem row_set {cur : Array Value} {n cap sz k off : Nat} {get : Nat → Nat → R} {rs : List R} {us : List Value} (hk : k < n) (h4 : n ≤ cap) (h6 : cur.size = cap * sz) (hx : All2 (Ro w F) rs us) (hfit : off + rs.length ≤ sz)
    (h7 : ∀ k', k' < n → ∀ j, j < sz → ∃ y, cur[k' * sz + j]? = some y ∧ Ro w F (get k' j) y) :
    (cur.toList.take (k * sz + off) ++ us ++ cur.toList.drop (k * sz + off + us.length)).toArray.size = cap * sz ∧
    ∀ k', k' < n → ∀ j, j < sz → ∃ y, (cur.toList.take (k * sz + off) ++ us ++ cur.toList.drop (k * sz + off + us.length)).toArray[k' * sz + j]? = some y ∧ Ro w F (arrSetAll get k off rs k' j) y := by
  have hl := hx.len
  have hmul : k * sz + sz ≤ cap * sz := by have := Nat.mul_le_mul_right sz (show k + 1 ≤ cap by omega); rw [Nat.add_mul] at this; omega
  have hsz : k * sz + off + us.length ≤ cur.size := by rw [h6]; omega
  refine ⟨?_, fun k' hk' j' hj' => ?_⟩
  · simp only [List.size_toArray, List.length_append, List.length_take, List.length_drop, Array.length_toList]; omega
  · have hmul' : k' * sz + sz ≤ cap * sz := by have := Nat.mul_le_mul_right sz (show k' + 1 ≤ cap by omega); rw [Nat.add_mul] at this; omega
    simp only [List.getElem?_toArray]
    by_cases hin : k' = k ∧ off ≤ j' ∧ j' < off + rs.length
    · obtain ⟨rfl, h8, h9⟩ := hin
      obtain ⟨y, hy, hr⟩ := hx.get (j := j' - off) (x := rs.getD (j' - off) z0) (by
        have : j' - off < rs.length := by omega
        simp [List.getD, List.getElem?_eq_getElem this])
      refine ⟨y, ?_, ?_⟩
      · rw [List.append_assoc, List.getElem?_append_right (by simp; omega), List.getElem?_append_left (by simp; omega)]
        rw [← hy]; congr 1; simp; omega
      · simp only [arrSetAll, h8, h9, and_self, if_true]
        exact hr
    · obtain ⟨y, hy, hr⟩ := h7 k' hk' j' hj'
      refine ⟨y, ?_, ?_⟩
      · have hout : k' * sz + j' < k * sz + off ∨ k * sz + off + us.length ≤ k' * sz + j' := by
          rcases Nat.lt_or_ge (k' * sz + j') (k * sz + off) with h8 | h8
          · exact .inl h8
          · rcases Nat.lt_or_ge (k' * sz + j') (k * sz + off + us.length) with h9 | h9
            · exfalso
              have := lin_inj (k := k') (k' := k) (j := j') (j' := k' * sz + j' - k * sz) (sz := sz) hj' (by omega) (by omega)
              exact hin ⟨this.1, by rw [this.1] at h8 h9; omega, by rw [this.1] at h8 h9; omega⟩
            · exact .inr h9
        rcases hout with h8 | h8
        · rw [List.append_assoc, List.getElem?_append_left (by simp; omega), List.getElem?_take, if_pos h8]
          simpa using hy
        · rw [List.getElem?_append_right (by simp; omega), List.getElem?_drop]
          have hy' : cur.toList[k' * sz + j']? = some y := by simpa using hy
          rw [← hy']; congr 1; simp; omega
      · simp only [arrSetAll, hin, if_false]
        exact hr

theorem setAll_le {t : Ty} {l : List (Den t)} {k off : Nat} {rs : List R} {y : Den t} (hy : asR t (setR (cellsR t (l.getD k (dflt t))) off rs) = some y) {k' j : Nat} (hk' : k' < l.length) (hj : j < width t) : Le (arrSetAll (getL t l) k off rs k' j) (getL t (l.set k y) k' j) := by
  have hcell : ∀ j, j < width t → Le ((setR (cellsR t (l.getD k (dflt t))) off rs).getD j z0) ((cellsR t y).getD j z0) := fun j hj => le_at (asR_sound hy) hj
  by_cases hk : k' = k
  · subst hk
    rw [getL_lt (l := l.set k' y) (x := y) (by simp [hk'])]
    refine fun w F u hu => hcell j hj w F u ?_
    rw [setR_get (by rw [cellsR_len]; exact hj)]
    simp only [arrSetAll, true_and] at hu
    by_cases h2 : off ≤ j ∧ j < off + rs.length
    · rw [if_pos h2] at hu ⊢
      exact hu
    · rw [if_neg h2] at hu ⊢
      exact hu
  · refine Le.of_eq ?_
    simp only [arrSetAll, hk, false_and, if_false, getL, List.getD, List.getElem?_set_ne (Ne.symm hk)]

theorem set_facts {α : Type} (l : List α) (k : Nat) (m d : α) : (l.set k m).length = l.length ∧ (k < l.length → (l.set k m).getD k d = m) ∧ ∀ j, j ≠ k → (l.set k m).getD j d = l.getD j d := by
  refine ⟨List.length_set .., fun hk => ?_, fun j hj => ?_⟩
  · rw [List.getD_eq_getElem?_getD, List.getElem?_set_self hk]; rfl
  · rw [List.getD_eq_getElem?_getD, List.getD_eq_getElem?_getD, List.getElem?_set_ne (Ne.symm hj)]

/-- a store at the end of a path -/
theorem deep_set {b n cap k off : Nat} {rs : List R} {us : List Value} (hx : All2 (Ro w F) rs us) (hk : k < n) : ∀ (p : List Nat) {e : Ty} {ts : List TypeId} {l l' : List (Den e)} {sk : Value} {q : Pay}, DeepAt w F e ts l sk → Inj sk →
    skAt p sk = some (.slice (some ⟨b, 0, none⟩) n cap) → subPay p ⟨e, l⟩ = some q → tyFlat q.t = true → off + rs.length ≤ width q.t → setSub p e l k off rs = some l' →
    ∃ t cur, w.heap[b]? = some (.cells cur t (0, 0)) ∧ k * width q.t + off + us.length ≤ cur.size ∧ blk (.slice (some ⟨b, 0, none⟩) n cap) = some b ∧
      ∀ w', w' = w.setRow b (cur.toList.take (k * width q.t + off) ++ us ++ cur.toList.drop (k * width q.t + off + us.length)).toArray → List.length l' = List.length l ∧ DeepAt w' F e ts l' sk
  | [], e, ts, l, l', sk, q, h, hinj, hp, hq, hf, hfit, hs => by
    cases hq
    obtain ⟨t, u, rfl, rfl, hl⟩ := deep_leaf hf h
    rw [sk_nil] at hp; cases hp
    have hs : (match asR e (setR (cellsR e (l.getD k (dflt e))) off rs) with | some y => some (l.set k y) | none => none) = some l' := by
      cases e <;> exact hs
    split at hs
    · rename_i y hy
      cases hs
      rcases hl with ⟨ad, h1, h2⟩ | ⟨b', cap', cur, h1, h2, h3, h4, h5, h6, h7⟩
      · cases h1; omega
      · cases h1
        obtain ⟨r1, r2⟩ := row_set hk h4 h6 hx hfit h7
        have hmul : k * width e + width e ≤ cap * width e := by have := Nat.mul_le_mul_right (width e) (show k + 1 ≤ cap by omega); rw [Nat.add_mul] at this; omega
        have hlen := hx.len
        have hfit' : off + rs.length ≤ width e := hfit
        have hcur : k * width e + off + us.length ≤ cur.size := by
          have : k * width e + off + us.length ≤ cap * width e := by omega
          rw [← h6] at this; exact this
        refine ⟨t, cur, h3, hcur, by simp [blk]; omega, fun w' hw => ⟨by simp, ?_⟩⟩
        have hdl : isDeepLeaf e = true := by
          cases e <;> first | rfl | exact h.elim | cases hf
        refine leaf_deep hdl (.inr ⟨b, cap, _, by rw [List.length_set], h2, by rw [hw]; exact setRow_heap w b cur _ t _ h3, by rw [List.length_set]; exact h4, h5, r1, fun k' hk' j hj => ?_⟩)
        rw [List.length_set] at hk'
        obtain ⟨y', e1, e2⟩ := r2 k' hk' j hj
        refine ⟨y', e1, ?_⟩
        have hle := setAll_le hy hk' hj w F y' e2
        have : ∀ {t : Ty} {x : Den t}, tyFlat t = true → ∀ r ∈ cellsR t x, ∀ u, Ro w F r u → Ro w' F r u := fun hf => flat_ty hf
        unfold getL at hle ⊢
        have hjl : j < (cellsR e ((l.set k y).getD k' (dflt e))).length := by rw [cellsR_len]; exact hj
        rw [List.getD_eq_getElem?_getD, List.getElem?_eq_getElem hjl] at hle ⊢
        exact this hf _ (List.getElem_mem hjl) _ hle
    · cases hs
  | k0 :: p, .list e, ts, l, l', sk, q, h, hinj, hp, hq, hf, hfit, hs => by
    simp only [setSub] at hs
    split at hs
    · rename_i m hm
      cases hs
      obtain ⟨t, ts', ad, cap0, S, rfl, rfl, h1, h3, h4, h5, h6⟩ := deep_list.1 h
      rw [sk_cons, Option.bind_eq_some_iff] at hp
      obtain ⟨s, g1, g2⟩ := hp
      have hk0 : k0 < List.length l := by rw [← h1]; exact (List.getElem?_eq_some_iff.1 g1).1
      obtain ⟨s', g3, g4⟩ := h6 k0 hk0
      rw [g1] at g3; cases g3
      obtain ⟨t2, cur, r1, r2, r3, r4⟩ := deep_set hx hk p g4 (Inj_sub hinj g1) g2 hq hf hfit hm
      have hbs : Blk s b := ⟨p, _, g2, r3⟩
      refine ⟨t2, cur, r1, r2, r3, fun w' hw => ?_⟩
      obtain ⟨q1, q2⟩ := r4 w' hw
      have hother : ∀ b', b' ≠ b → w'.heap[b']? = w.heap[b']? := fun b' hne => by rw [hw]; exact setRow_other w b b' _ hne
      have hL := set_facts (α := Den (.list e)) l k0 m ([] : List (Den e))
      generalize List.set l k0 m = L at hL ⊢
      obtain ⟨L1, L2, L3⟩ := hL
      refine ⟨L1, deep_list.2 ⟨t, ts', ad, cap0, S, rfl, by rw [L1], by rw [L1]; exact h1, by rw [L1]; exact h3, h4, ?_, fun k1 hk1 => ?_⟩⟩
      · rcases h5 with h5 | ⟨b1, cur1, z1, z2, z3, z4, z5⟩
        · exact .inl h5
        · refine .inr ⟨b1, cur1, z1, z2, ?_, z4, fun k1 hk1 => z5 k1 (by rw [L1] at hk1; exact hk1)⟩
          rw [hother b1]
          · exact z3
          · intro e1
            exact Inj_top hinj g1 (b := b) (by rw [z1, e1]; simp [blk]; omega) hbs
      · rw [L1] at hk1
        by_cases e1 : k1 = k0
        · subst e1
          refine ⟨s, g1, ?_⟩
          have e2 : List.getD L k1 ([] : List (Den e)) = m := L2 hk1
          exact Eq.mpr (congrArg (fun z : List (Den e) => DeepAt w' F e ts' z s) e2) q2
        · obtain ⟨s1, z1, z2⟩ := h6 k1 hk1
          refine ⟨s1, z1, ?_⟩
          have e2 : List.getD L k1 ([] : List (Den e)) = List.getD l k1 ([] : List (Den e)) := L3 k1 e1
          refine Eq.mpr (congrArg (fun z : List (Den e) => DeepAt w' F e ts' z s1) e2) ?_
          have hnest : tyNest e = true := by
            have : ∀ (p : List Nat) {e : Ty} {l : List (Den e)} {q : Pay}, subPay p ⟨e, l⟩ = some q → tyFlat q.t = true → tyNest e = true := by
              intro p
              induction p with
              | nil => intro e l q h1 h2; cases h1; cases e <;> first | exact h2 | cases h2
              | cons k p ih =>
                intro e l q h1 h2
                cases e with
                | list e1 => exact ih (e := e1) (l := (List.getD l k ([] : List (Den e1)) : List (Den e1))) h1 h2
                | _ => cases h1
            exact this p hq hf
          refine thin_deep (F' := fun _ => False) hnest ((thin_deep (w := w) (F := fun _ => False) hnest z2).mono (fun _ hb => hb.elim) (fun _ hb => hb) fun b' hb' => hother b' fun e3 => ?_)
          subst e3
          exact e1 (Inj_apart hinj z1 g1 hb' hbs)
    · cases hs
  | k :: p, .int _, _, _, _, _, _, _, _, _, hq, _, _, _ => by cases hq
  | k :: p, .str, _, _, _, _, _, _, _, _, hq, _, _, _ => by cases hq
  | k :: p, .bool, _, _, _, _, _, _, _, _, hq, _, _, _ => by cases hq
  | k :: p, .pair _ _, _, _, _, _, _, _, _, _, hq, _, _, _ => by cases hq
  | k :: p, .struct _, _, _, _, _, _, _, _, _, hq, _, _, _ => by cases hq
  | k :: p, .unit, _, _, _, _, _, _, _, _, hq, _, _, _ => by cases hq
  | k :: p, .tree, _, _, _, _, _, _, _, _, hq, _, _, _ => by cases hq
  | k :: p, .map _ _, _, _, _, _, _, _, _, _, hq, _, _, _ => by cases hq
  | k :: p, .ref _, _, _, _, _, _, _, _, _, hq, _, _, _ => by cases hq

theorem op_storeDeep (H : Inv w0 O0 F0 w F h β) (ht : TTok P TT) {ty : TypeId} {ti : TI} {X Y : Operand} (ho : o.op = .store ty X Y) (hti : TT ty = some ti) {i : Nat} {p : List Nat} {sz k off : Nat} {ts : List TypeId} {e : Ty} {l l' : List (Den e)} {q : Pay} {d : D} {rs : List R}
    (hi : h i = some (some (.deep ts e l))) (hq : subPay p ⟨e, l⟩ = some q) (hf : tyFlat q.t = true) (hsz : sz = width q.t) (hn : rs.length = ti.info.size) (hfit : off + rs.length ≤ width q.t) (hrs : allR (fun _ => none) d.cells = some rs) (hs : setSub p e l k off rs = some l')
    (hx : RepC w F h β (.dptr i p sz k off) (a.eval X)) (hy : RepD w F h β d (a.eval Y))
    (hK : ∀ v w', Out w0 O0 F0 w F h β a.tmps [(i, some (.deep ts e l'))] .und v w' → K (a.put o.dst v) w') : o.wp P a w K Q := by
  obtain ⟨_, _, hsk⟩ := hx
  obtain ⟨b, n, cap, g1, g2, g3⟩ := hsk _ hi
  have hyc := RepD.cells hy
  have hus : All2 (Ro w F) rs (a.eval Y).cells.toList := allR_sound H (hh := fun _ => none) (fun _ _ hq => by cases hq) (fun _ hf => hf) hyc hrs (fun j hj => by
    have := allR_refs hrs j hj
    rw [allR_none_own hrs] at this
    simp at this)
  have hob := H.obj _ _ hi
  obtain ⟨t, cur, r1, r2, r3, r4⟩ := deep_set hus g2 p hob.2.1 hob.2.2 g1 hq hf hfit hs
  have hblk : Blk (β i) b := ⟨p, _, g1, r3⟩
  obtain ⟨s1, s2, s3, s4⟩ := setRow_same w b (cur.toList.take (k * width q.t + off) ++ (a.eval Y).cells.toList ++ cur.toList.drop (k * width q.t + off + (a.eval Y).cells.toList.length)).toArray
  have T := H.turn (w' := w.setRow b (cur.toList.take (k * width q.t + off) ++ (a.eval Y).cells.toList ++ cur.toList.drop (k * width q.t + off + (a.eval Y).cells.toList.length)).toArray) (F' := F) i (some (.deep ts e l')) (β i) s1 s2 s3 (Nat.le_of_eq s4.symm) (fun k => Blk (β i) k)
    (fun k hk => ⟨H.notF i _ k hi hk, fun j o' hj hj' hb' => hj (H.apart j i o' _ k hj' hi hb' hk), H.fromO i _ k hi hk⟩)
    (fun k _ hk => setRow_other w b k _ fun e => hk (by rw [e]; exact hblk)) (fun _ hf => hf) (fun _ hf => .inl hf) (fun q0 _ h0 _ => ⟨⟨_, by rw [hi] at h0; exact (Option.some.inj h0).symm⟩, rfl⟩)
    (fun P ob hob' => by
      cases hob'
      refine ⟨⟨hob.1, ?_, ?_⟩, fun k hk => .inl hk⟩
      · simp only [setB, if_true]; exact (r4 _ rfl).2
      · simp only [setB, if_true]; exact hob.2.2)
  rw [setB_self] at T
  have hl := hyc.len
  have hl2 := allR_len hrs
  simp only [Array.length_toList] at hl r2 T
  refine wp_skp (w' := w.setRow b (cur.toList.take (k * width q.t + off) ++ (a.eval Y).cells.toList ++ cur.toList.drop (k * width q.t + off + (a.eval Y).cells.size)).toArray) ?_ (hK _ _ ⟨F, β, by rw [upd_cons, upd_nil]; exact T.1, by rw [upd_cons, upd_nil]; exact T.2, rfl⟩)
  have hst := run_storeVar_at (P := P) (w := w) ht hti (u := a.eval Y) (off := k * width q.t + off) r1 (by omega) (by omega) (all_one hyc)
  rw [hsz] at g3
  simp only [execOp, ho, g3, Instr.storeAt, Instr.sureAddr, Sem.run_bind, Sem.run_pure, Result.andThen_ok, hst]

theorem getD_app_l {α : Type} (l m : List α) (d : α) {k : Nat} (h : k < l.length) : (l ++ m).getD k d = l.getD k d := by
  rw [List.getD_eq_getElem?_getD, List.getD_eq_getElem?_getD, List.getElem?_append_left h]
theorem getD_app_r {α : Type} (l m : List α) (d : α) {k : Nat} (h : l.length ≤ k) : (l ++ m).getD k d = m.getD (k - l.length) d := by
  rw [List.getD_eq_getElem?_getD, List.getD_eq_getElem?_getD, List.getElem?_append_right h]

theorem deep_mono {w' : World} {F' : Nat → Prop} (hP : ∀ b, F b → w'.heap[b]? = w.heap[b]?) (hF : ∀ b, F b → F' b) {e : Ty} {ts : List TypeId} {l : List (Den e)} {s : Value} (hs : ∀ b, Blk s b → w'.heap[b]? = w.heap[b]?) (h : DeepAt w F e ts l s) : DeepAt w' F' e ts l s := h.mono hP hF hs

/-- slices of slices put behind each other -/
theorem append_deep (ht : TTok P TT) {X Y : Operand} {t et : TypeId} {ti ei : TI} (ho : o.op = .call { callee := .builtin .append, args := #[X, Y], argTypes := #[t, t] }) (hti : TT t = some ti) (hd0 : ti.desc = .slice et) (hei : TT et = some ei) {zs : List C} (hz : zeroCells ei = some zs) (hzl : zs.length = 1) (hsz : ei.info.size = 1) (hby : 0 < ei.info.bytes)
    {h1 : HF} (H1 : Inv w0 O0 F0 w F h1 β) {s : Nat} (hs1 : h1 s = none) {e : Ty} {ts : List TypeId} {l m : List (Den (.list e))} {base adj : Option Addr} {cap cj : Nat} {Si Sj : List Value}
    (hX : a.eval X = .slice base (List.length l) cap) (hY : a.eval Y = .slice adj (List.length m) cj) (hSi : Si.length = List.length l) (hSj : Sj.length = List.length m)
    (hxb : (List.length l = 0 ∧ cap = 0) ∨ ∃ g cur, base = some ⟨g, 0, none⟩ ∧ 0 < cap ∧ w.heap[g]? = some (.cells cur et (0, 0)) ∧ List.length l ≤ cap ∧ cap ≤ maxLen ∧ cur.size = cap ∧ cur.toList.take (List.length l) = Si.map hd)
    (hyb : List.length m = 0 ∨ ∃ b, adj = some ⟨b, 0, none⟩ ∧ CellsAt w b 0 (Sj.map hd))
    (hdi : ∀ k, k < List.length l → ∃ s, Si[k]? = some s ∧ DeepAt w F e ts (List.getD l k ([] : List (Den e))) s) (hdj : ∀ k, k < List.length m → ∃ s, Sj[k]? = some s ∧ DeepAt w F e ts (List.getD m k ([] : List (Den e))) s)
    (XB : Nat → Prop) (hXB : ∀ b, XB b → ¬ F b ∧ (∀ j o, h1 j = some (some o) → ¬ Blk (β j) b) ∧ (O0 b ∨ w0.heap.size ≤ b)) (hbase : ∀ b, 0 < cap → base.map (·.block) = some b → XB b)
    (hsub : ∀ (k : Nat) s b, (Si ++ Sj)[k]? = some s → Blk s b → XB b ∧ (0 < cap → base.map (·.block) ≠ some b) ∧ b < w.heap.size)
    (hap : ∀ (k j : Nat) s s' b, (Si ++ Sj)[k]? = some s → (Si ++ Sj)[j]? = some s' → Blk s b → Blk s' b → k = j) (hinj : ∀ (k : Nat) s, (Si ++ Sj)[k]? = some s → Inj s) (hfit : fits (List.length l + List.length m) ei.info.bytes = true)
    (hK : ∀ v w' β', Inv w0 O0 F0 w' F (setH h1 s (some (.deep (et :: ts) (.list e) (l ++ m)))) β' → Per w F h1 β w' F (setH h1 s (some (.deep (et :: ts) (.list e) (l ++ m)))) β' → v.oneCell' = true → skAt [] (β' s) = some v → K (a.put o.dst v) w') : o.wp P a w K Q := by
  obtain ⟨zv, hz1, hz2⟩ := zeroCells_sound (w := w) (F := F) (h := h1) (β := β) hz
  have hzs : zv.cells.size = ei.info.size := by have := hz2.len; simp at this; omega
  have hone : ∀ u ∈ Sj.map hd, u.oneCell' = true := by
    intro u hu
    obtain ⟨s', hs', rfl⟩ := List.mem_map.1 hu
    obtain ⟨k, hk⟩ := List.getElem?_of_mem hs'
    have hkl : k < List.length m := by rw [← hSj]; exact (List.getElem?_eq_some_iff.1 hk).1
    obtain ⟨s2, g1, g2⟩ := hdj k hkl
    rw [hk] at g1; cases g1
    obtain ⟨ad, c, e1, _⟩ := deep_head g2
    rw [e1]; rfl
  have hmax : List.length l + List.length m ≤ maxLen := by
    have h3 : (List.length l + List.length m) * ei.info.bytes ≤ 140737488355328 := by simpa [fits] using hfit
    have h4 : List.length l + List.length m ≤ (List.length l + List.length m) * ei.info.bytes := Nat.le_mul_of_pos_right _ hby
    simp only [maxLen]; omega
  obtain ⟨v', w', hrun, q1, q2, q3, q4, q5, q6⟩ := append_core (P := P) (c := cj) (olds := Si.map hd) (news := Sj.map hd) ht hti hd0 hei hz1 hzs (by omega) o.type (base := base) (n := List.length l) (cap := cap) (by rw [hsz, List.length_map, hSi, Nat.mul_one])
    (hxb.imp id fun ⟨g, cur, r1, r2, r3, r4, r5, r6, r7⟩ => ⟨g, cur, r1, r2, r3, r4, r5, by rw [hsz, r6, Nat.mul_one], by rw [hsz, Nat.mul_one]; exact r7⟩) (ad := adj) (m := List.length m) (by rw [hsz, List.length_map, hSj, Nat.mul_one]) hone
    (hyb.imp id fun ⟨b, r1, r2⟩ => ⟨b, 0, r1, r2⟩) hmax hfit
  have hkeep : ∀ (k : Nat) s', (Si ++ Sj)[k]? = some s' → ∀ b, Blk s' b → w'.heap[b]? = w.heap[b]? := fun k s' hk b hb => by
    obtain ⟨r1, r2, r3⟩ := hsub k s' b hk hb
    exact q5 b r3 r2
  have hv1 : v'.oneCell' = true := by
    rcases q6 with ⟨a', rfl, _⟩ | ⟨g', cap', cur, rfl, _⟩ <;> rfl
  have T := H1.turn (w' := w') (F' := F) s (some (.deep (et :: ts) (.list e) (l ++ m))) (tupOf v' (Si ++ Sj)) q1 q2 q3 q4 XB
    (fun b hb => by obtain ⟨g1, g2, g3⟩ := hXB b hb; exact ⟨g1, fun j o' _ hj hb' => g2 j o' hj hb', g3⟩)
    (fun b hb hx => q5 b hb fun h0 e => hx (hbase b h0 e)) (fun _ hf => hf) (fun _ hf => .inl hf) (fun q0 _ h0 => by rw [hs1] at h0; cases h0)
    (fun P2 ob hob => by
      cases hob
      refine ⟨⟨rfl, ?_, ?_⟩, fun b hb => ?_⟩
      · simp only [setB, if_true]
        have hlen : List.length (l ++ m) = List.length l + List.length m := List.length_append
        have hel : ∀ k, k < List.length l + List.length m → ∃ s, (Si ++ Sj)[k]? = some s ∧ DeepAt w' F e ts (List.getD (l ++ m) k ([] : List (Den e))) s := fun k hk => by
          rcases Nat.lt_or_ge k (List.length l) with hkl | hkl
          · obtain ⟨s', g1, g2⟩ := hdi k hkl
            have g3 : (Si ++ Sj)[k]? = some s' := by rw [List.getElem?_append_left (by omega)]; exact g1
            refine ⟨s', g3, Eq.mpr (congrArg (fun z : List (Den e) => DeepAt w' F e ts z s') (getD_app_l (α := Den (.list e)) l m ([] : List (Den e)) hkl)) (deep_mono P2.blocks P2.sub (hkeep k s' g3) g2)⟩
          · obtain ⟨s', g1, g2⟩ := hdj (k - List.length l) (by omega)
            have g3 : (Si ++ Sj)[k]? = some s' := by rw [List.getElem?_append_right (by omega), hSi]; exact g1
            refine ⟨s', g3, Eq.mpr (congrArg (fun z : List (Den e) => DeepAt w' F e ts z s') (getD_app_r (α := Den (.list e)) l m ([] : List (Den e)) hkl)) (deep_mono P2.blocks P2.sub (hkeep k s' g3) g2)⟩
        rcases q6 with ⟨a', rfl, hnm⟩ | ⟨g', cap', cur, rfl, r1, r2, r3, r4, r5, r6, r7⟩
        · refine deep_list.2 ⟨et, ts, a', 0, Si ++ Sj, rfl, by rw [hlen, hnm], by rw [List.length_append, hlen, hSi, hSj], by rw [hlen]; omega, by simp [maxLen], .inl rfl, fun k hk => ?_⟩
          rw [hlen] at hk; exact hel k hk
        · refine deep_list.2 ⟨et, ts, _, cap', Si ++ Sj, rfl, by rw [hlen], by rw [List.length_append, hlen, hSi, hSj], by rw [hlen]; exact r3, r4, .inr ⟨g', cur, rfl, r1, r2, by rw [r5, hsz, Nat.mul_one], fun k hk => ?_⟩, fun k hk => ?_⟩
          · rw [hlen] at hk
            obtain ⟨s', g1, g2⟩ := hel k hk
            refine ⟨s', g1, ?_⟩
            have e0 : cur.toList[k]? = (Si.map hd ++ Sj.map hd)[k]? := by
              rw [← r6, List.getElem?_take, if_pos (by rw [hsz]; omega)]
            rw [← List.map_append, List.getElem?_map, g1] at e0
            simpa using e0
          · rw [hlen] at hk; exact hel k hk
      · simp only [setB, if_true]
        refine Inj_mk (fun k s' b hk hb hbs => ?_) hap hinj
        obtain ⟨r1, r2, r3⟩ := hsub k s' b hk hbs
        rcases q6 with ⟨a', rfl, _⟩ | ⟨g', cap', cur, rfl, p1, p2, p3, p4, p5, p6, p7⟩
        · cases a' <;> simp [blk] at hb
        · have : b = g' := by simp [blk] at hb; exact hb.2.symm
          subst this
          rcases p7 with p7 | ⟨p7, p8⟩
          · omega
          · exact r2 p8 (by rw [p7]; rfl)
      · rcases Blk_tup.1 hb with hb | ⟨k, s', hk, hb⟩
        · rcases q6 with ⟨a', rfl, _⟩ | ⟨g', cap', cur, rfl, p1, p2, p3, p4, p5, p6, p7⟩
          · cases a' <;> simp [blk] at hb
          · have : b = g' := by simp [blk] at hb; exact hb.2.symm
            subst this
            rcases p7 with p7 | ⟨p7, p8⟩
            · exact .inr (by omega)
            · exact .inl (hbase b p8 (by rw [p7]; rfl))
        · exact .inl (hsub k s' b hk hb).1)
  refine wp_val (v := v') (w' := w') (op_builtin ho (f := Builtin.append_ #[t, t] o.type #[a.eval X, a.eval Y]) (by simp [builtin]) (by rw [hX, hY]; exact hrun)) (hK v' w' _ T.1 T.2 hv1 ?_)
  simp only [setB, if_true]
  exact sk_nil _ _
end
end Go.Proofs.YthhmpjnmmhfngaaDoor.Ev
