/-
  Slices of slices: append and literals; all new operations together.
-/
import Derived.Test.YthhmpjnmmhfngaaDoorEvOy
namespace Go.Proofs.YthhmpjnmmhfngaaDoor.Ev
open Go

section
variable {P : Program} {TT : Types} {w0 w : World} {O0 F0 F : Nat → Prop} {h : HF} {β : Nat → Value} {a : Act} {o : Oper} {K : Act → World → Prop} {Q : Exit → Act → World → Prop} {x : T} {v : Value}

/-- an object of nested slices, opened -/
theorem deep_open {i : Nat} {t0 : TypeId} {ts : List TypeId} {e : Ty} {l : List (Den (.list e))} (ho : RepO w F h β i (.deep (t0 :: ts) (.list e) l)) : ∃ ad cap S, β i = tupOf (.slice ad (List.length l) cap) S ∧ S.length = List.length l ∧ List.length l ≤ cap ∧ cap ≤ maxLen ∧
    ((List.length l = 0 ∧ cap = 0) ∨ ∃ b cur, ad = some ⟨b, 0, none⟩ ∧ 0 < cap ∧ w.heap[b]? = some (.cells cur t0 (0, 0)) ∧ List.length l ≤ cap ∧ cap ≤ maxLen ∧ cur.size = cap ∧ cur.toList.take (List.length l) = S.map hd) ∧
    (∀ k, k < List.length l → ∃ s, S[k]? = some s ∧ DeepAt w F e ts (List.getD l k ([] : List (Den e))) s) ∧ Inj (β i) := by
  obtain ⟨_, h1, h2⟩ := ho
  obtain ⟨t, ts', ad, cap, S, e1, e2, g1, g3, g4, g5, g6⟩ := deep_list.1 h1
  cases e1
  refine ⟨ad, cap, S, e2, g1, g3, g4, ?_, g6, h2⟩
  rcases g5 with g5 | ⟨b, cur, q1, q2, q3, q4, q5⟩
  · exact .inl ⟨by omega, g5⟩
  · refine .inr ⟨b, cur, q1, q2, q3, g3, g4, q4, ?_⟩
    apply List.ext_getElem?
    intro k
    rw [List.getElem?_take, List.getElem?_map]
    split
    · rename_i hk
      obtain ⟨s, r1, r2⟩ := q5 k hk
      rw [r1]
      simpa using r2
    · rename_i hk
      rw [List.getElem?_eq_none (by omega)]; rfl

theorem app_at {α : Type} {l m : List α} {k : Nat} {x : α} (h : (l ++ m)[k]? = some x) : (k < l.length ∧ l[k]? = some x) ∨ (l.length ≤ k ∧ m[k - l.length]? = some x) := by
  rcases Nat.lt_or_ge k l.length with hk | hk
  · rw [List.getElem?_append_left hk] at h; exact .inl ⟨hk, h⟩
  · rw [List.getElem?_append_right hk] at h; exact .inr ⟨hk, h⟩

theorem op_appendDeep0 (H : Inv w0 O0 F0 w F h β) (ht : TTok P TT) {X Y : Operand} {t et : TypeId} {ti ei : TI} (ho : o.op = .call { callee := .builtin .append, args := #[X, Y], argTypes := #[t, t] }) (hti : TT t = some ti) (hd0 : ti.desc = .slice et) (hei : TT et = some ei) {zs : List C} (hz : zeroCells ei = some zs) (hzl : zs.length = 1) (hsz : ei.info.size = 1) (hby : 0 < ei.info.bytes)
    {j s : Nat} {e : Ty} {ts : List TypeId} {m : List (Den (.list e))} (hj : h j = some (some (.deep (et :: ts) (.list e) m))) (hs0 : h s = none) (hX : a.eval X = .slice none 0 0) (hy : RepC w F h β (.dsl j []) (a.eval Y)) (hfit : fits (List.length m) ei.info.bytes = true)
    (hK : ∀ v w', Out w0 O0 F0 w F h β a.tmps [(j, none), (s, some (.deep (et :: ts) (.list e) m))] (.d (.one (.dsl s []))) v w' → K (a.put o.dst v) w') : o.wp P a w K Q := by
  obtain ⟨adj, cj, Sj, b1, b2, b3, b4, b5, b6, b7⟩ := deep_open (H.obj _ _ hj)
  have hyv := hy.2.2 _ hj
  rw [b1, sk_nil] at hyv
  have hyv := (Option.some.inj hyv).symm
  obtain ⟨H1, P1⟩ := H.kill j
  rw [setB_self] at H1 P1
  have hjs : j ≠ s := fun e => by subst e; rw [hs0] at hj; cases hj
  have hs1 : setH h j none s = none := by simp only [setH, if_neg (Ne.symm hjs)]; exact hs0
  have hblk : ∀ (k : Nat) s' b, Sj[k]? = some s' → Blk s' b → Blk (β j) b := fun k s' b hk hb => by rw [b1]; exact Blk_tup.2 (.inr ⟨k, s', hk, hb⟩)
  have hcomm : ∀ q, upd [(j, none), (s, some q)] h = setH (setH h j none) s (some q) := fun q => by
    rw [upd_cons, upd_cons, upd_nil]; exact setH_comm h (Ne.symm hjs) _ _
  refine append_deep ht ho hti hd0 hei hz hzl hsz hby H1 hs1 (e := e) (ts := ts) (l := ([] : List (Den (.list e)))) (m := m) (base := none) (adj := adj) (cap := 0) (cj := cj) (Si := []) (Sj := Sj) hX hyv rfl b2 (.inl ⟨rfl, rfl⟩) ?_ (fun k hk => absurd hk (Nat.not_lt_zero k)) b6
    (fun b => Blk (β j) b) (fun b hb => ⟨H.notF j _ b hj hb, fun j' o' hj' hb' => ?_, H.fromO j _ b hj hb⟩) (fun b h0 => absurd h0 (by omega)) (fun k s' b hk hb => ⟨hblk k s' b hk hb, fun h0 => absurd h0 (by omega), blk_lt (H.obj _ _ hj) (hblk k s' b hk hb)⟩)
    (fun k k' s1 s2 b h1 h2 g1 g2 => by rw [b1] at b7; exact Inj_apart b7 h1 h2 g1 g2) (fun k s' hk => by rw [b1] at b7; exact Inj_sub b7 hk) (by
      have : List.length ([] : List (Den (.list e))) + List.length m = List.length m := by simp
      rw [this]; exact hfit) fun v w' β' h1 h2 h3 h4 => hK v w' ⟨F, β', ?_, ?_, ?_⟩
  · rcases b5 with ⟨b5, _⟩ | ⟨b, cur, q1, q2, q3, q4, q5, q6, q7⟩
    · exact .inl b5
    · refine .inr ⟨b, q1, fun k u hk => ?_⟩
      rw [← q7, List.getElem?_take] at hk
      split at hk
      · rw [cell_of_row w b _ cur et (0, 0) q3]
        simpa using hk
      · cases hk
  · simp only [setH] at hj'
    split at hj'
    · cases hj'
    · rename_i hne; exact hne (H.apart j' j o' _ b hj' hj hb' hb)
  · rw [hcomm]; exact h1
  · rw [hcomm]; exact P1.trans h2
  · refine ⟨h3, ⟨some (.deep (et :: ts) (.list e) m), by rw [hcomm]; simp [setH]⟩, fun _ _ => h4⟩

theorem op_appendDeep (H : Inv w0 O0 F0 w F h β) (ht : TTok P TT) {X Y : Operand} {t et : TypeId} {ti ei : TI} (ho : o.op = .call { callee := .builtin .append, args := #[X, Y], argTypes := #[t, t] }) (hti : TT t = some ti) (hd0 : ti.desc = .slice et) (hei : TT et = some ei) {zs : List C} (hz : zeroCells ei = some zs) (hzl : zs.length = 1) (hsz : ei.info.size = 1) (hby : 0 < ei.info.bytes)
    {i j s : Nat} {e : Ty} {ts : List TypeId} {l m : List (Den (.list e))} (hi : h i = some (some (.deep (et :: ts) (.list e) l))) (hj : h j = some (some (.deep (et :: ts) (.list e) m))) (hij : i ≠ j) (hs0 : h s = none) (hx : RepC w F h β (.dsl i []) (a.eval X)) (hy : RepC w F h β (.dsl j []) (a.eval Y))
    (hfit : fits (List.length l + List.length m) ei.info.bytes = true)
    (hK : ∀ v w', Out w0 O0 F0 w F h β a.tmps [(i, none), (j, none), (s, some (.deep (et :: ts) (.list e) (l ++ m)))] (.d (.one (.dsl s []))) v w' → K (a.put o.dst v) w') : o.wp P a w K Q := by
  obtain ⟨adi, ci, Si, a1, a2, a3, a4, a5, a6, a7⟩ := deep_open (H.obj _ _ hi)
  obtain ⟨adj, cj, Sj, b1, b2, b3, b4, b5, b6, b7⟩ := deep_open (H.obj _ _ hj)
  have hxv := hx.2.2 _ hi
  rw [a1, sk_nil] at hxv
  have hxv := (Option.some.inj hxv).symm
  have hyv := hy.2.2 _ hj
  rw [b1, sk_nil] at hyv
  have hyv := (Option.some.inj hyv).symm
  obtain ⟨H1, P1⟩ := H.kill i
  rw [setB_self] at H1 P1
  obtain ⟨H2, P2⟩ := H1.kill j
  rw [setB_self] at H2 P2
  have hjs : j ≠ s := fun e => by subst e; rw [hs0] at hj; cases hj
  have his : i ≠ s := fun e => by subst e; rw [hs0] at hi; cases hi
  have hs1 : setH (setH h i none) j none s = none := by simp only [setH, if_neg (Ne.symm hjs), if_neg (Ne.symm his)]; exact hs0
  have hbi : ∀ (k : Nat) s' b, Si[k]? = some s' → Blk s' b → Blk (β i) b := fun k s' b hk hb => by rw [a1]; exact Blk_tup.2 (.inr ⟨k, s', hk, hb⟩)
  have hbj : ∀ (k : Nat) s' b, Sj[k]? = some s' → Blk s' b → Blk (β j) b := fun k s' b hk hb => by rw [b1]; exact Blk_tup.2 (.inr ⟨k, s', hk, hb⟩)
  have hapart : ∀ b, Blk (β i) b → ¬ Blk (β j) b := fun b h1 h2 => hij (H.apart i j _ _ b hi hj h1 h2)
  have hbase : ∀ b, 0 < ci → adi.map (·.block) = some b → blk (.slice adi (List.length l) ci) = some b := fun b h0 hb => by
    cases adi with
    | none => simp at hb
    | some ad => simp only [Option.map_some, Option.some.injEq] at hb; simp [blk, hb]; omega
  have hcomm : ∀ q, upd [(i, none), (j, none), (s, some q)] h = setH (setH (setH h i none) j none) s (some q) := fun q => by
    rw [upd_cons, upd_cons, upd_cons, upd_nil, setH_comm h (Ne.symm hjs), setH_comm _ (Ne.symm his)]
    congr 1
    exact setH_comm h (Ne.symm hij) _ _
  refine append_deep ht ho hti hd0 hei hz hzl hsz hby H2 hs1 (e := e) (ts := ts) (l := l) (m := m) (base := adi) (adj := adj) (cap := ci) (cj := cj) (Si := Si) (Sj := Sj) hxv hyv a2 b2 a5 ?_ a6 b6
    (fun b => Blk (β i) b ∨ Blk (β j) b) (fun b hb => ?_) (fun b h0 hb => .inl (by rw [a1]; exact Blk_tup.2 (.inl (hbase b h0 hb)))) (fun k s' b hk hb => ?_) (fun k k' s1 s2 b h1 h2 g1 g2 => ?_) (fun k s' hk => ?_) hfit fun v w' β' h1 h2 h3 h4 => hK v w' ⟨F, β', ?_, ?_, ?_⟩
  · rcases b5 with ⟨b5, _⟩ | ⟨b, cur, q1, q2, q3, q4, q5, q6, q7⟩
    · exact .inl b5
    · refine .inr ⟨b, q1, fun k u hk => ?_⟩
      rw [← q7, List.getElem?_take] at hk
      split at hk
      · rw [cell_of_row w b _ cur et (0, 0) q3]
        simpa using hk
      · cases hk
  · refine ⟨?_, fun j' o' hj' hb' => ?_, ?_⟩
    · rcases hb with hb | hb
      · exact H.notF i _ b hi hb
      · exact H.notF j _ b hj hb
    · simp only [setH] at hj'
      split at hj'
      · cases hj'
      · rename_i hne
        split at hj'
        · cases hj'
        · rename_i hne2
          rcases hb with hb | hb
          · exact hne2 (H.apart j' i o' _ b hj' hi hb' hb)
          · exact hne (H.apart j' j o' _ b hj' hj hb' hb)
    · rcases hb with hb | hb
      · exact H.fromO i _ b hi hb
      · exact H.fromO j _ b hj hb
  · rcases app_at hk with ⟨_, hk⟩ | ⟨_, hk⟩
    · refine ⟨.inl (hbi _ s' b hk hb), fun h0 e1 => ?_, blk_lt (H.obj _ _ hi) (hbi _ s' b hk hb)⟩
      rw [a1] at a7
      exact Inj_top a7 hk (hbase b h0 e1) hb
    · refine ⟨.inr (hbj _ s' b hk hb), fun h0 e1 => ?_, blk_lt (H.obj _ _ hj) (hbj _ s' b hk hb)⟩
      exact hapart b (by rw [a1]; exact Blk_tup.2 (.inl (hbase b h0 e1))) (hbj _ s' b hk hb)
  · rcases app_at h1 with ⟨l1, h1⟩ | ⟨l1, h1⟩ <;> rcases app_at h2 with ⟨l2, h2⟩ | ⟨l2, h2⟩
    · rw [a1] at a7; exact Inj_apart a7 h1 h2 g1 g2
    · exact absurd (hbj _ _ b h2 g2) (hapart b (hbi _ _ b h1 g1))
    · exact absurd (hbj _ _ b h1 g1) (hapart b (hbi _ _ b h2 g2))
    · rw [b1] at b7
      have := Inj_apart b7 h1 h2 g1 g2
      omega
  · rcases app_at hk with ⟨_, hk⟩ | ⟨_, hk⟩
    · rw [a1] at a7; exact Inj_sub a7 hk
    · rw [b1] at b7; exact Inj_sub b7 hk
  · rw [hcomm]; exact h1
  · rw [hcomm]; exact P1.trans (P2.trans h2)
  · refine ⟨h3, ⟨some (.deep (et :: ts) (.list e) (l ++ m)), by rw [hcomm]; simp [setH]⟩, fun _ _ => h4⟩

/-- a row of the call's own, as a skeleton -/
theorem rowOf_sound (H : Inv w0 O0 F0 w F h β) {hh : Nat → Option Obj} (hhh : ∀ i ob, hh i = some ob → h i = some (some ob)) {c : C} {i : Nat} {ts : List TypeId} {q : Pay} (hr : rowOf hh c = some (i, ts, q)) {u : Value} (hu : RepC w F h β c u) :
    ∃ ob s, h i = some (some ob) ∧ DeepAt w F q.t ts q.l s ∧ Inj s ∧ hd s = u ∧ ∀ b, Blk s b ↔ Blk (β i) b := by
  unfold rowOf at hr
  split at hr
  · rename_i i'
    split at hr
    · rename_i t e l hi
      cases hb : (tyFlat e && isDeepLeaf e) with
      | false => rw [hb] at hr; cases hr
      | true =>
        rw [hb] at hr
        cases hr
        simp only [Bool.and_eq_true] at hb
        have hi' := hhh _ _ hi
        have hl := RepO.leaf.1 (H.obj _ _ hi')
        obtain ⟨ad, cap, e1, _⟩ := leaf_head hl
        have hblk : ∀ b, Blk (tupOf (β i) []) b ↔ Blk (β i) b := fun b => by
          rw [Blk_tup, e1, Blk_slice]; simp
        refine ⟨_, tupOf (β i) [], hi', leaf_deep hb.2 hl, Inj_mk (fun k s b hk => by simp at hk) (fun k j s s' b hk => by simp at hk) (fun k s hk => by simp at hk), ?_, hblk⟩
        rw [hd_tup]; exact (hu.2.2 _ hi').symm
    · cases hr
  · rename_i i'
    split at hr
    · rename_i ts' e l hi
      cases hr
      have hi' := hhh _ _ hi
      have hob := H.obj _ _ hi'
      have hsk := hu.2.2 _ hi'
      refine ⟨_, β i, hi', hob.2.1, hob.2.2, by simpa only [skAt, Option.some.injEq] using hsk, fun b => Iff.rfl⟩
    · cases hr
  · cases hr

theorem op_buildDeep0 (H : Inv w0 O0 F0 w F h β) (ht : TTok P TT) {ty et : TypeId} {ti ei : TI} (ho : o.op = .buildSlice ty 0 #[]) (hti : TT ty = some ti) (hd0 : ti.desc = .slice et) (hei : TT et = some ei) {e : Ty} {ts : List TypeId} {s : Nat} (hs0 : h s = none)
    (hK : ∀ v w', Out w0 O0 F0 w F h β a.tmps [(s, some (.deep (et :: ts) (.list e) []))] (.d (.one (.dsl s []))) v w' → K (a.put o.dst v) w') : o.wp P a w K Q := by
  have T := H.new hs0 (.cells #[] et) (.deep (et :: ts) (.list e) ([] : List (Den (.list e)))) (tupOf (.slice (some ⟨w.heap.size, 0, none⟩) 0 0) []) (fun b hb => by
    rcases Blk_tup.1 hb with hb | ⟨k, s, hk, _⟩
    · simp [blk] at hb
    · simp at hk) (fun P => ⟨rfl, by
      simp only [setB, if_true]
      exact deep_list.2 ⟨et, ts, _, 0, [], rfl, rfl, rfl, Nat.zero_le _, by simp [maxLen], .inl rfl, fun k hk => absurd hk (Nat.not_lt_zero k)⟩, by
      simp only [setB, if_true]
      exact Inj_mk (fun k s b hk => by simp at hk) (fun k j s s' b hk => by simp at hk) (fun k s hk => by simp at hk)⟩)
  refine wp_val (v := .slice (some ⟨w.heap.size, 0, none⟩) 0 0) (w' := w.alloc (.cells #[] et)) ?_ (hK _ _ ⟨F, _, by rw [upd_cons]; exact T.1, by rw [upd_cons]; exact T.2, rfl, ⟨some (.deep (et :: ts) (.list e) []), by simp [upd, look]⟩, fun ob _ => by simp only [setB, if_true]; exact sk_nil _ _⟩)
  have hr0 : Array.range 0 = #[] := rfl
  simp [execOp, ho, Instr.buildSlice, ht.run_under hti, hd0, ht.run_size hei, Instr.fill, newRow, newObj, hr0]
  rfl

theorem op_buildDeep1 (H : Inv w0 O0 F0 w F h β) (ht : TTok P TT) {hh : Nat → Option Obj} (hhh : ∀ i ob, hh i = some ob → h i = some (some ob)) {ty et : TypeId} {ti ei : TI} {X : Operand} (ho : o.op = .buildSlice ty 1 #[(0, X)]) (hti : TT ty = some ti) (hd0 : ti.desc = .slice et) (hei : TT et = some ei) {zs : List C} (hz : zeroCells ei = some zs) (hzl : zs.length = 1) (hsz : ei.info.size = 1)
    {c : C} {i : Nat} {ts : List TypeId} {e : Ty} {l : List (Den e)} (hr : rowOf hh c = some (i, ts, ⟨e, l⟩)) (hx : RepC w F h β c (a.eval X)) {s : Nat} (hs0 : h s = none)
    (hK : ∀ v w', Out w0 O0 F0 w F h β a.tmps [(i, none), (s, some (.deep (et :: ts) (.list e) [l]))] (.d (.one (.dsl s []))) v w' → K (a.put o.dst v) w') : o.wp P a w K Q := by
  obtain ⟨ob, sk, hi, r1, r2, r3, r4⟩ := rowOf_sound H hhh hr hx
  obtain ⟨zv, hz1, hz2⟩ := zeroCells_sound (w := w) (F := F) (h := h) (β := β) hz
  have hzs : zv.cells.size = 1 := by have := hz2.len; simp at this; omega
  obtain ⟨H1, P1⟩ := H.kill i
  rw [setB_self] at H1 P1
  have his : i ≠ s := fun e => by subst e; rw [hs0] at hi; cases hi
  have hs1 : setH h i none s = none := by simp only [setH, if_neg (Ne.symm his)]; exact hs0
  have hcomm : ∀ q, upd [(i, none), (s, some q)] h = setH (setH h i none) s (some q) := fun q => by
    rw [upd_cons, upd_cons, upd_nil]; exact setH_comm h (Ne.symm his) _ _
  obtain ⟨ad, cap, e1, _⟩ := deep_head r1
  have hu : a.eval X = .slice ad (List.length l) cap := by rw [← r3, e1]
  have hold : ∀ b, Blk sk b → (w.alloc (.cells #[a.eval X] et)).heap[b]? = w.heap[b]? := fun b hb => heap_alloc_old w _ b (blk_lt (H.obj _ _ hi) ((r4 b).1 hb))
  have T := H1.turn (w' := w.alloc (.cells #[a.eval X] et)) (F' := F) s (some (.deep (et :: ts) (.list e) ([l] : List (Den (.list e))))) (tupOf (.slice (some ⟨w.heap.size, 0, none⟩) 1 1) [sk]) rfl rfl rfl (by simp) (fun b => Blk (β i) b)
    (fun b hb => ⟨H.notF i _ b hi hb, fun j o' _ hj hb' => by
      simp only [setH] at hj
      split at hj
      · cases hj
      · rename_i hne; exact hne (H.apart j i o' _ b hj hi hb' hb), H.fromO i _ b hi hb⟩)
    (fun b hb _ => heap_alloc_old w _ b hb) (fun _ hf => hf) (fun _ hf => .inl hf) (fun q0 _ h0 => by rw [hs1] at h0; cases h0)
    (fun P2 ob2 hob => by
      cases hob
      refine ⟨⟨rfl, ?_, ?_⟩, fun b hb => ?_⟩
      · simp only [setB, if_true]
        refine deep_list.2 ⟨et, ts, _, 1, [sk], rfl, rfl, rfl, Nat.le_refl _, by simp [maxLen], .inr ⟨w.heap.size, _, rfl, by omega, heap_alloc_new w _, rfl, fun k hk => ?_⟩, fun k hk => ?_⟩
        · have hk0 : k = 0 := by have : k < 1 := hk; omega
          subst hk0
          exact ⟨sk, rfl, by rw [r3]; rfl⟩
        · have hk0 : k = 0 := by have : k < 1 := hk; omega
          subst hk0
          exact ⟨sk, rfl, deep_mono P2.blocks P2.sub hold r1⟩
      · simp only [setB, if_true]
        refine Inj_mk (fun k s' b hk hb hbs => ?_) (fun k j s1 s2 b hk hj _ _ => ?_) (fun k s' hk => ?_)
        · have hk0 : k = 0 := by
            have := (List.getElem?_eq_some_iff.1 hk).1
            simp at this; exact this
          subst hk0
          simp at hk; subst hk
          simp [blk] at hb
          have := blk_lt (H.obj _ _ hi) ((r4 b).1 hbs)
          omega
        · have h1 := (List.getElem?_eq_some_iff.1 hk).1
          have h2 := (List.getElem?_eq_some_iff.1 hj).1
          simp at h1 h2; omega
        · have hk0 : k = 0 := by
            have := (List.getElem?_eq_some_iff.1 hk).1
            simp at this; exact this
          subst hk0
          simp at hk; subst hk
          exact r2
      · rcases Blk_tup.1 hb with hb | ⟨k, s', hk, hb⟩
        · simp [blk] at hb; exact .inr (by omega)
        · have hk0 : k = 0 := by
            have := (List.getElem?_eq_some_iff.1 hk).1
            simp at this; exact this
          subst hk0
          simp at hk; subst hk
          exact .inl ((r4 b).1 hb))
  refine wp_val (v := .slice (some ⟨w.heap.size, 0, none⟩) 1 1) (w' := w.alloc (.cells #[a.eval X] et)) ?_ (hK _ _ ⟨F, _, by rw [hcomm]; exact T.1, by rw [hcomm]; exact P1.trans T.2, rfl, ⟨some (.deep (et :: ts) (.list e) [l]), by rw [hcomm]; simp [setH]⟩, fun ob _ => by simp only [setB, if_true]; exact sk_nil _ _⟩)
  have hcell : (a.eval X).cells = #[a.eval X] := by rw [hu]; rfl
  have hr1 : (Array.range 1) = #[0] := rfl
  simp only [execOp, ho, Instr.buildSlice, Sem.run_bind, ht.run_under hti, hd0, ht.run_size hei, hsz, Result.andThen_ok, ht.run_zero hei hz1, Sem.run_pure]
  simp [Instr.fill, hcell, hr1, newRow, newObj, ht.run_zero hei hz1]
  rfl

theorem eqNats_iff : ∀ {l m : List Nat}, eqNats l m = true → l = m
  | [], [], _ => rfl
  | [], _ :: _, h => by cases h
  | _ :: _, [], h => by cases h
  | a :: l, b :: m, h => by
    simp only [eqNats, Bool.and_eq_true] at h
    rw [Nat.eq_of_beq_eq_true h.1, eqNats_iff h.2]

theorem tsOf_list {e : Ty} {t : TypeId} {ts : List TypeId} (h : tsOf TT (.list e) t = some ts) : ∃ l ti, ts = t :: l ∧ TT t = some ti ∧ ti.info.size = 1 := by
  simp only [tsOf] at h
  split at h
  · rename_i ti hti
    split at h
    · split at h
      · rename_i l hl
        cases hb : Nat.beq ti.info.size 1 with
        | false => rw [hb] at h; cases h
        | true => rw [hb] at h; cases h; exact ⟨l, ti, rfl, hti, Nat.eq_of_beq_eq_true hb⟩
      · cases h
    · cases h
  · cases h

/-- ████ MAPS, AND SLICES OF SLICES. ████ -/
theorem xOp_sound (H : Inv w0 O0 F0 w F h β) (ht : TTok P TT) {hh : Nat → Option Obj} (hhh : ∀ i ob, hh i = some ob → h i = some (some ob)) {xs : List T} {c : Option Bool} {ups : Ups}
    (he : xOp TT o xs hh = some (c, x, ups)) (hc : c = none ∨ c = some true) (hx : All2 (RepX a.tmps w F h β) xs (o.op.operands.toList.map a.eval)) (hnew : ∀ j q, (j, q) ∈ ups → isNew (o.dst.getD 0) j = true → h j = none)
    (hK : ∀ v w', Out w0 O0 F0 w F h β a.tmps ups x v w' → K (a.put o.dst v) w') : o.wp P a w K Q := by
  unfold xOp at he
  dsimp only at he
  split at he
  · rename_i ty ho
    split at he
    · cases he
      exact op_makeMap H ho (new_of hnew (by omega) (List.mem_singleton_self _)) hK
    · cases he
  · rename_i ty X Y ok cc key ho; rw [ho] at hx
    cases hx with | cons h1 h2 => cases h2 with | cons h2 h3 =>
    split at he
    · rename_i kt k ei e hty
      split at he
      · rename_i m kx z e1 e2 e3 e4
        split at he
        · cases he
          exact op_lookup H ht hhh ho hty e1 e2 e3 e4 h1 h2 hK
        · cases he
          exact op_lookup H ht hhh ho hty e1 e2 e3 e4 h1 h2 hK
      · cases he
    · cases he
  · rename_i ty X Y Z i key val ho; rw [ho] at hx
    cases hx with | cons h1 h2 => cases h2 with | cons h2 h3 => cases h3 with | cons h3 h4 =>
    split at he
    · rename_i kt k ei e hty
      split at he
      · rename_i m kx z e1 e2 e3 e4 e5
        cases he
        exact op_mapUpdate H ht hhh (.inl ho) hty e1 e2 e3 e5 e4 h1 h2 h3 hK
      · cases he
    · cases he
  · rename_i ty X Y Z i key val ho; rw [ho] at hx
    cases hx with | cons h1 h2 => cases h2 with | cons h2 h3 => cases h3 with | cons h3 h4 =>
    split at he
    · rename_i kt k ei e hty
      split at he
      · rename_i m kx z e1 e2 e3 e4 e5
        cases he
        exact op_mapUpdate H ht hhh (.inr ho) hty e1 e2 e3 e5 e4 h1 h2 h3 hK
      · cases he
    · cases he
  · rename_i ty X Y i p n ho; rw [ho] at hx
    cases hx with | cons h1 h2 => cases h2 with | cons h2 h3 =>
    split at he
    · rename_i ts e l et ei n' e1 e2 e3
      split at he
      · rename_i q e4
        cases hb : Nat.beq ei.info.size (width q.t) with
        | false => rw [hb] at he; cases he
        | true =>
          rw [hb] at he
          cases he
          simp only [reduceCtorEq, Option.some.injEq, false_or] at hc
          obtain ⟨k, hk⟩ := intD_sound e3 h2
          exact op_indexDeep H ht ho e2 (hhh _ _ e1) e4 (Nat.eq_of_beq_eq_true hb) h1 hk hc hK
      · cases he
    · cases he
  · rename_i ty X i p sz k off ho; rw [ho] at hx
    cases hx with | cons h1 h2 =>
    split at he
    · rename_i ts e l ti e1 e2
      split at he
      · rename_i e' m e3
        cases hb : (Nat.beq off 0 && Nat.beq sz 1 && Nat.beq ti.info.size 1 && isSliceD ti.desc) with
        | false => rw [hb] at he; cases he
        | true =>
          rw [hb] at he
          cases he
          simp only [Bool.and_eq_true] at hb
          obtain ⟨⟨⟨b1, b2⟩, b3⟩, b4⟩ := hb
          have b1 := Nat.eq_of_beq_eq_true b1
          have b2 := Nat.eq_of_beq_eq_true b2
          subst b1; subst b2
          have hag : aggDesc ti.desc = false := by
            cases hdd : ti.desc <;> first | rfl | (rw [hdd] at b4; cases b4)
          exact op_loadDeep1 H ht ho e2 hag (hhh _ _ e1) e3 h1 hK
      · rename_i q _ e3
        cases hb : (Nat.ble (off + ti.info.size) (width q.t) && Nat.beq sz (width q.t) && tyFlat q.t) with
        | false => rw [hb] at he; cases he
        | true =>
          rw [hb] at he
          simp only [cond_true, Option.map_eq_some_iff, Prod.mk.injEq] at he
          obtain ⟨d, hd, rfl, rfl, rfl⟩ := he
          simp only [Bool.and_eq_true] at hb
          exact op_loadDeep2 H ht ho e2 (hhh _ _ e1) e3 hb.2 (Nat.eq_of_beq_eq_true hb.1.2) (Nat.le_of_ble_eq_true hb.1.1) hd h1 hK
      · cases he
    · cases he
  · rename_i ty X Y i p sz k off d ho; rw [ho] at hx
    cases hx with | cons h1 h2 => cases h2 with | cons h2 h3 =>
    split at he
    · rename_i ts e l ti e1 e2
      split at he
      · rename_i q rs e3 e4
        split at he
        · rename_i l' hb e5
          cases he
          simp only [Bool.and_eq_true] at hb
          obtain ⟨⟨⟨b1, b2⟩, b3⟩, b4⟩ := hb
          exact op_storeDeep H ht ho e2 (hhh _ _ e1) e3 b4 (Nat.eq_of_beq_eq_true b3) (Nat.eq_of_beq_eq_true b1) (Nat.le_of_ble_eq_true b2) e4 e5 h1 h2 hK
        · cases he
      · cases he
    · cases he
  · rename_i cl ho
    obtain ⟨callee, args, ats⟩ := cl
    rw [ho] at hx
    dsimp only at he
    split at he
    · rename_i i p
      replace hx : All2 (RepX a.tmps w F h β) [.d (.one (.dsl i p))] (args.toList.map a.eval) := by simpa [Op.operands, Call.operands] using hx
      split at he
      · rename_i ts e l z e1 e2
        obtain ⟨et, ei⟩ := z
        simp only [Option.bind_eq_some_iff] at e2
        obtain ⟨t, h2, hty⟩ := e2
        split at he
        · rename_i q e3
          cases he
          obtain ⟨args⟩ := args
          cases args with
          | nil => cases hx
          | cons X l =>
            cases l with
            | cons Y l => cases hx with | cons g1 g2 => cases g2
            | nil =>
              cases hx with
              | cons g1 g2 =>
                obtain ⟨ats⟩ := ats
                cases ats with
                | nil => simp at h2
                | cons t' l' =>
                  simp at h2
                  subst h2
                  exact op_lenDeep H ht ho hty (hhh _ _ e1) e3 g1 hK
        · cases he
      · cases he
    · rename_i a0 j
      replace hx : All2 (RepX a.tmps w F h β) [.d (.one a0), .d (.one (.dsl j []))] (args.toList.map a.eval) := by simpa [Op.operands, Call.operands] using hx
      split at he
      · rename_i t1 t2 et ts e m e1 e2
        split at he
        · rename_i et' ei hty
          obtain ⟨ti, hti, hd0, hei⟩ := sliceOf_some hty
          split at he
          · rename_i zs hz
            cases hb : (Nat.beq t1 t2 && Nat.beq et et' && Nat.beq ei.info.size 1 && Nat.beq zs.length 1 && Nat.blt 0 ei.info.bytes && isListTy e) with
            | false => rw [hb] at he; cases a0 <;> cases he
            | true =>
              rw [hb] at he
              simp only [Bool.and_eq_true] at hb
              obtain ⟨⟨⟨⟨⟨b1, b2⟩, b3⟩, b4⟩, b5⟩, b6⟩ := hb
              have b1 := Nat.eq_of_beq_eq_true b1
              have b2 := Nat.eq_of_beq_eq_true b2
              have b3 := Nat.eq_of_beq_eq_true b3
              have b4 := Nat.eq_of_beq_eq_true b4
              have b5 : 0 < ei.info.bytes := by simpa using b5
              subst b1; subst b2
              cases e with
              | list e =>
                have hats' : ats = #[t1, t1] := by apply Array.ext'; rw [e1]
                subst hats'
                obtain ⟨args⟩ := args
                cases args with
                | nil => cases hx
                | cons X l0 =>
                  cases l0 with
                  | nil => cases hx with | cons g1 g2 => cases g2
                  | cons Y l0 =>
                    cases l0 with
                    | cons Z l0 => cases hx with | cons g1 g2 => cases g2 with | cons g2 g3 => cases g3
                    | nil =>
                      cases hx with
                      | cons g1 g2 =>
                        cases g2 with
                        | cons g2 g3 =>
                          split at he
                          · cases he
                            simp only [reduceCtorEq, Option.some.injEq, false_or] at hc
                            exact op_appendDeep0 H ht ho hti hd0 hei hz b4 b3 b5 (hhh _ _ e2) (new_of hnew (by omega) (List.mem_cons_of_mem _ (List.mem_singleton_self _))) g1.1 g2 hc hK
                          · rename_i i _
                            split at he
                            · rename_i ts' e' l hi
                              split at he
                              · rename_i l2 e3 e4
                                cases he
                                simp only [reduceCtorEq, Option.some.injEq, false_or] at hc
                                simp only [Bool.and_eq_true, Bool.not_eq_true'] at e4
                                obtain ⟨g, rfl⟩ := castL_some e3
                                subst g
                                have e5 := eqNats_iff e4.1
                                subst e5
                                have hij : i ≠ j := fun e => by rw [e, Nat.beq_refl] at e4; cases e4.2
                                exact op_appendDeep H ht ho hti hd0 hei hz b4 b3 b5 (hhh _ _ hi) (hhh _ _ e2) hij (new_of hnew (by omega) (List.mem_cons_of_mem _ (List.mem_cons_of_mem _ (List.mem_singleton_self _)))) g1 g2 hc hK
                              · cases he
                            · cases he
                          · cases he
              | _ => cases b6
          · cases he
        · cases he
      · cases he
    · cases he
  · rename_i ty n ps ho
    rw [ho] at hx
    split at he
    · rename_i et ei t2 e e1 e2
      obtain ⟨ti, hti, hd0, hei⟩ := sliceOf_some e1
      split at he
      · rename_i ts zs e3 e4
        obtain ⟨ts0, ti2, rfl, hti2, hsz⟩ := tsOf_list e3
        rw [hei] at hti2
        cases hti2
        split at he
        · rename_i hps hb
          cases he
          have hps' : ps = #[] := by apply Array.ext'; rw [hps]
          subst hps'
          exact op_buildDeep0 H ht ho hti hd0 hei (new_of hnew (by omega) (List.mem_singleton_self _)) hK
        · rename_i X c hps hb
          have hps' : ps = #[(0, X)] := by apply Array.ext'; rw [hps]
          subst hps'
          cases hx with | cons h1 h2 =>
          split at he
          · rename_i i ts' q e5
            split at he
            · rename_i l e6 e7
              cases he
              obtain ⟨g, rfl⟩ := castL_some e6
              obtain ⟨qt, ql⟩ := q
              dsimp only at g
              subst g
              have e8 := eqNats_iff e7
              cases e8
              exact op_buildDeep1 H ht hhh ho hti hd0 hei e4 (Nat.eq_of_beq_eq_true hb) hsz e5 h1 (new_of hnew (by omega) (List.mem_cons_of_mem _ (List.mem_singleton_self _))) hK
            · cases he
          · cases he
        · cases he
      · cases he
    · cases he
  · cases he
end
end Go.Proofs.YthhmpjnmmhfngaaDoor.Ev
