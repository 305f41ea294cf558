/-
  Typed lists: what an operation makes, told by lists.
-/
import Derived.Test.YthhmpjnmmhfngaaDoorEvO
namespace Go.Proofs.YthhmpjnmmhfngaaDoor.Ev
open Go

def Le (r r' : R) : Prop := ∀ w F u, Ro w F r u → Ro w F r' u

theorem Le.refl (r : R) : Le r r := fun _ _ _ h => h
theorem Le.of_eq {r r' : R} (h : r = r') : Le r r' := h ▸ Le.refl r

theorem castL_some {t e : Ty} {l : List (Den t)} {m : List (Den e)} (h : castL t e l = some m) : ∃ g : t = e, m = g ▸ l := by
  unfold castL at h
  split at h
  · rename_i g _; cases h; exact ⟨g.down, rfl⟩
  · cases h

theorem headR_some {α : Type} {f : R → Option α} {rs rest : List R} {x : α} (h : headR f rs = some (x, rest)) : ∃ r, rs = r :: rest ∧ f r = some x := by
  cases rs with
  | nil => cases h
  | cons r rs =>
    simp only [headR] at h
    split at h
    · rename_i hf; cases h; exact ⟨r, rfl, hf⟩
    · cases h

theorem intR_some {k : IntKind} {r : R} {n : Int} (h : intR k r = some n) : r = .v (.int k n) := by
  unfold intR at h
  split at h
  · split at h
    · rename_i hk; cases h; have := of_decide_eq_true hk; subst this; rfl
    · cases h
  · cases h
theorem strR_some {r : R} {n : List UInt8} (h : strR r = some n) : r = .v (.string (mk n)) := by
  unfold strR at h
  split at h
  · cases h; rfl
  · cases h
theorem boolR_some {r : R} {n : Bool} (h : boolR r = some n) : r = .v (.bool n) := by
  unfold boolR at h
  split at h
  · cases h; rfl
  · cases h
theorem nil_le (t : Ty) : Le (.v (.slice none 0 0)) (.li t []) := fun w F u hu => ⟨none, 0, by rw [hu.1]; rfl, by simp, by simp [maxLen], .inl rfl⟩
theorem listR_some {t : Ty} {r : R} {l : List (Den t)} (h : listR t r = some l) : Le r (.li t l) := by
  unfold listR at h
  split at h
  · obtain ⟨g, rfl⟩ := castL_some h
    subst g
    exact Le.refl _
  · cases h; exact nil_le t
  · cases h

theorem castM_some {k e k' e' : Ty} {m : List (Den k × Den e)} {m' : List (Den k' × Den e')} (h : castM k e k' e' m = some m') : ∃ (g : k = k') (g' : e = e'), m' = g ▸ g' ▸ m := by
  unfold castM at h
  split at h
  · rename_i g g' _ _; cases h; exact ⟨g.down, g'.down, rfl⟩
  · cases h
theorem mapR_some {k e : Ty} {r : R} {m : List (Den k × Den e)} (h : mapR k e r = some m) : r = .mp k e m := by
  unfold mapR at h
  split at h
  · obtain ⟨g, g', rfl⟩ := castM_some h
    subst g; subst g'; rfl
  · cases h
theorem treeR_some {rs rest : List R} {x : GTree} (h : treeR rs = some (x, rest)) : ∃ a b c, rs = a :: b :: c :: rest ∧ a = .v (.string (mk (GTree.sign x))) ∧ b = .v (.int .i64 (GTree.rule x)) ∧ Le c (.li .tree (GTree.kids x)) := by
  unfold treeR at h
  split at h
  · rename_i a b c rs
    split at h
    · rename_i s n l h1 h2 h3
      cases h
      exact ⟨a, b, c, rfl, strR_some h1, intR_some h2, listR_some h3⟩
    · cases h
  · cases h
theorem refC_some {t t' : Ty} {x : Den t} {y : Den t'} (h : refC t t' x = some y) : ∃ g : t = t', y = g ▸ x := by
  unfold refC at h
  split at h
  · rename_i g _; cases h; exact ⟨g.down, rfl⟩
  · cases h
theorem refR_some {t : Ty} {n : Nat} {f : List R → Option (Den t × List R)} {r : R} {x : Den t} (h : refR t n f r = some x) : r = .rf t x ∨ ∃ get, r = .rop n get ∧ f ((List.range n).map get) = some (x, []) := by
  unfold refR at h
  split at h
  · obtain ⟨g, rfl⟩ := refC_some h
    subst g; exact .inl rfl
  · rename_i m get
    split at h
    · rename_i hb
      have := Nat.eq_of_beq_eq_true hb
      subst this
      split at h
      · rename_i y h1; cases h; exact .inr ⟨get, rfl, h1⟩
      · cases h
    · cases h
  · cases h
theorem rop_le {n : Nat} {get : Nat → R} {rs : List R} (h : All2 Le ((List.range n).map get) rs) : Le (.rop n get) (.rop n fun j => rs.getD j z0) := by
  rintro w F u ⟨b, o, e, hf, h3⟩
  refine ⟨b, o, e, hf, fun j hj => ?_⟩
  obtain ⟨y, g1, g2⟩ := h3 j hj
  have hj' : ((List.range n).map get)[j]? = some (get j) := by simp [hj]
  obtain ⟨r, g3, g4⟩ := h.get hj'
  exact ⟨y, g1, by show Ro w F (rs.getD j z0) y; rw [List.getD_eq_getElem?_getD, g3]; exact g4 w F y g2⟩

theorem parseR_sound : ∀ {t : Ty} {rs : List R} {x : Den t} {rest : List R}, parseR t rs = some (x, rest) → ∃ rs1, rs = rs1 ++ rest ∧ All2 Le rs1 (cellsR t x)
  | .int k, rs, x, rest, h => by
    obtain ⟨r, h1, h2⟩ := headR_some h
    exact ⟨[r], h1, .cons (Le.of_eq (intR_some h2)) .nil⟩
  | .str, rs, x, rest, h => by
    obtain ⟨r, h1, h2⟩ := headR_some h
    exact ⟨[r], h1, .cons (Le.of_eq (strR_some h2)) .nil⟩
  | .bool, rs, x, rest, h => by
    obtain ⟨r, h1, h2⟩ := headR_some h
    exact ⟨[r], h1, .cons (Le.of_eq (boolR_some h2)) .nil⟩
  | .list t, rs, x, rest, h => by
    obtain ⟨r, h1, h2⟩ := headR_some h
    exact ⟨[r], h1, .cons (listR_some h2) .nil⟩
  | .pair a b, rs, x, rest, h => by
    simp only [parseR] at h
    split at h
    · rename_i y rs2 h1
      split at h
      · rename_i z rs3 h2
        cases h
        obtain ⟨p, e1, q1⟩ := parseR_sound h1
        obtain ⟨p', e2, q2⟩ := parseR_sound h2
        exact ⟨p ++ p', by rw [e1, e2, List.append_assoc], q1.append q2⟩
      · cases h
    · cases h
  | .struct t, rs, x, rest, h => parseR_sound (t := t) h
  | .unit, rs, x, rest, h => by cases h; exact ⟨[], rfl, .nil⟩
  | .tree, rs, x, rest, h => by
    obtain ⟨a, b, c, h1, h2, h3, h4⟩ := treeR_some h
    exact ⟨[a, b, c], h1, .cons (Le.of_eq h2) (.cons (Le.of_eq h3) (.cons h4 .nil))⟩
  | .map k e, rs, x, rest, h => by
    obtain ⟨r, h1, h2⟩ := headR_some h
    exact ⟨[r], h1, .cons (Le.of_eq (mapR_some h2)) .nil⟩
  | .ref t, rs, (x : Den t), rest, h => by
    obtain ⟨r, h1, h2⟩ := headR_some h
    rcases refR_some h2 with rfl | ⟨get, rfl, h3⟩
    · exact ⟨[_], h1, .cons (Le.refl _) .nil⟩
    · obtain ⟨p, e1, q1⟩ := parseR_sound (t := t) h3
      rw [List.append_nil] at e1
      subst e1
      exact ⟨[_], h1, .cons (fun w F u hu => Ro_rf.2 (rop_le q1 w F u hu)) .nil⟩

theorem asR_sound {t : Ty} {rs : List R} {x : Den t} (h : asR t rs = some x) : All2 Le rs (cellsR t x) := by
  unfold asR at h
  split at h
  · rename_i h1
    cases h
    obtain ⟨p, e, q⟩ := parseR_sound h1
    rw [e, List.append_nil]; exact q
  · cases h

/-! ### the same memory, told otherwise -/
def Shp (h g : HF) : Prop := ∀ i, ((∃ q, h i = some q) ↔ ∃ q, g i = some q) ∧ ((∃ o, h i = some (some o)) ↔ ∃ o, g i = some (some o))

theorem look_mem' {α : Type} : ∀ {l : List (Nat × α)} {i : Nat} {x : α}, look l i = some x → (i, x) ∈ l
  | [], i, x, h => by simp [look] at h
  | (k, y) :: l, i, x, h => by
    simp only [look] at h
    cases hb : Nat.beq k i
    · rw [hb] at h; exact List.mem_cons_of_mem _ (look_mem' h)
    · rw [hb] at h
      have e := Nat.eq_of_beq_eq_true hb
      simp only [cond_true, Option.some.injEq] at h
      subst e; subst h
      exact List.mem_cons_self ..

theorem Shp.symm {h g : HF} (s : Shp h g) : Shp g h := fun i => ⟨(s i).1.symm, (s i).2.symm⟩
theorem Shp.refl (h : HF) : Shp h h := fun _ => ⟨Iff.rfl, Iff.rfl⟩

section
variable {w0 w w' : World} {O0 F0 F F' : Nat → Prop} {h g h' g' : HF} {β β' : Nat → Value}

theorem Shp.repC (s : Shp h g) {c : C} {u : Value} (hc : RepC w F h β c u) : RepC w F g β c u := by
  have p : ∀ {i}, (∃ q, h i = some q) → ∃ q, g i = some q := fun {i} => (s i).1.1
  have b : ∀ {i o}, g i = some (some o) → ∃ o, h i = some (some o) := fun {i o} hi => (s i).2.2 ⟨o, hi⟩
  cases c with
  | r x => exact hc
  | own i => exact ⟨hc.1, p hc.2.1, fun o ho => by obtain ⟨o', ho'⟩ := b ho; exact hc.2.2 o' ho'⟩
  | ptr i off => exact ⟨hc.1, p hc.2.1, fun o ho => by obtain ⟨o', ho'⟩ := b ho; exact hc.2.2 o' ho'⟩
  | eptr i sz k off => exact ⟨hc.1, p hc.2.1, fun o ho => by obtain ⟨o', ho'⟩ := b ho; exact hc.2.2 o' ho'⟩
  | dsl i q => exact ⟨hc.1, p hc.2.1, fun o ho => by obtain ⟨o', ho'⟩ := b ho; exact hc.2.2 o' ho'⟩
  | dptr i q sz k off => exact ⟨hc.1, p hc.2.1, fun o ho => by obtain ⟨o', ho'⟩ := b ho; exact hc.2.2 o' ho'⟩
  | fn f l => exact ⟨hc.1, fun i hi => p (hc.2.1 i hi), fun hall => hc.2.2 fun i hi => by obtain ⟨o, ho⟩ := hall i hi; exact b ho⟩
  | junk => exact hc

theorem Shp.repD (s : Shp h g) {d : D} {u : Value} (hd : RepD w F h β d u) : RepD w F g β d u := by
  cases d with
  | one c => exact s.repC hd
  | agg cs => obtain ⟨us, e, hh⟩ := hd; exact ⟨us, e, hh.mono fun _ _ => s.repC⟩

theorem Shp.repX (s : Shp h g) {tm : Array Value} {x : T} {u : Value} (hx : RepX tm w F h β x u) : RepX tm w F g β x u := by
  cases x with
  | d x => exact s.repD hx
  | tup xs => obtain ⟨us, e, hh⟩ := hx; exact ⟨us, e, hh.mono fun _ _ => s.repD⟩
  | when t b x => exact ⟨fun e => s.repD (hx.1 e), hx.2⟩
  | nilq n => exact hx
  | und => exact hx
  | unk => trivial

theorem Shp.repO (s : Shp h g) {i : Nat} {o : Obj} (ho : RepO w F h β i o) : RepO w F g β i o := by
  cases o with
  | box t cs => obtain ⟨b, us, h1, h2, h3⟩ := ho; exact ⟨b, us, h1, h2, h3.mono fun _ _ => s.repC⟩
  | arr t sz n get => exact ho
  | lis t e l => exact ho
  | map k e m => exact ho
  | deep ts e l => exact ho

theorem Inv.told (H : Inv w0 O0 F0 w F h β) (s : Shp h g) (hg : ∀ i o o', h i = some (some o) → g i = some (some o') → RepO w F g β i o → RepO w F g β i o') : Inv w0 O0 F0 w F g β := by
  have b : ∀ {i o}, g i = some (some o) → ∃ o, h i = some (some o) := fun {i o} hi => (s i).2.2 ⟨o, hi⟩
  refine ⟨fun i o hi => ?_, fun i j o o' k hi hj => ?_, fun i o k hi => ?_, H.low, H.os, H.tape, H.output, H.size, H.kept, fun i o k hi => ?_, H.fromF, H.inF⟩
  · obtain ⟨o', ho'⟩ := b hi
    exact hg i o' o ho' hi (s.repO (H.obj i o' ho'))
  · obtain ⟨o1, h1⟩ := b hi
    obtain ⟨o2, h2⟩ := b hj
    exact H.apart i j o1 o2 k h1 h2
  · obtain ⟨o1, h1⟩ := b hi
    exact H.notF i o1 k h1
  · obtain ⟨o1, h1⟩ := b hi
    exact H.fromO i o1 k h1

theorem Shp.per (s : Shp h g) (s' : Shp h' g') (p : Per w F h β w' F' h' β') : Per w F g β w' F' g' β' := by
  refine ⟨p.blocks, p.sub, fun i q hi => ?_, fun i q o hi ho => ?_⟩
  · obtain ⟨q', hq'⟩ := (s i).1.2 ⟨q, hi⟩
    obtain ⟨q2, hq2⟩ := p.pres i q' hq'
    exact (s' i).1.1 ⟨q2, hq2⟩
  · obtain ⟨q', hq'⟩ := (s i).1.2 ⟨q, hi⟩
    obtain ⟨o2, ho2⟩ := (s' i).2.2 ⟨o, ho⟩
    obtain ⟨⟨o3, e3⟩, e4⟩ := p.back i q' o2 hq' ho2
    subst e3
    obtain ⟨o4, ho4⟩ := (s i).2.1 ⟨o3, hq'⟩
    rw [hi] at ho4
    cases ho4
    exact ⟨⟨o4, rfl⟩, e4⟩

def erF (h : HF) : HF := fun i => (h i).map fun q => q.map Obj.er

theorem erF_shp (h : HF) : Shp h (erF h) := fun i => by
  unfold erF
  cases h i with
  | none => simp
  | some q => cases q <;> simp

theorem RepO_er {i : Nat} {o : Obj} : RepO w F h β i o.er ↔ RepO w F h β i o := by
  cases o <;> exact Iff.rfl

theorem Inv.er (H : Inv w0 O0 F0 w F h β) : Inv w0 O0 F0 w F (erF h) β :=
  H.told (erF_shp h) fun i o o' hi hi' hr => by
    simp only [erF, hi, Option.map_some, Option.some.injEq] at hi'
    subst hi'
    exact RepO_er.2 hr

theorem er_sound {tm : Array Value} {x : T} {u : Value} (hx : RepX tm w F h β x u) : RepX tm w F h β x.er u := by
  unfold T.er
  split
  · exact Ro_rf.1 hx
  · exact Ro_li.1 hx
  · exact hx

/-! ### what is made -/
structure PayOk (p : Pay) (sz n : Nat) (get : Nat → Nat → R) : Prop where
  sz_eq : sz = width p.t
  n_eq : n = p.l.length
  get_le : ∀ k, k < n → ∀ j, j < sz → Le (get k j) (getL p.t p.l k j)

theorem PayOk.repO {p : Pay} {t : TypeId} {sz n : Nat} {get : Nat → Nat → R} (hp : PayOk p sz n get) {i : Nat} (ho : RepO w F h β i (.arr t sz n get)) : RepO w F h β i (.lis t p.t p.l) := by
  obtain ⟨rfl, rfl, hg⟩ := hp
  rcases ho with h1 | ⟨b, cap, cur, h1, h2, h3, h4, h5, h6, h7⟩
  · exact .inl h1
  · refine .inr ⟨b, cap, cur, h1, h2, h3, h4, h5, h6, fun k hk j hj => ?_⟩
    obtain ⟨y, g1, g2⟩ := h7 k hk j hj
    exact ⟨y, g1, hg k hk j hj _ _ _ g2⟩

theorem PayOk.ro {p : Pay} {sz n : Nat} {get : Nat → Nat → R} (hp : PayOk p sz n get) {u : Value} (ho : Ro w F (.sl sz n get) u) : Ro w F (.li p.t p.l) u := by
  obtain ⟨rfl, rfl, hg⟩ := hp
  refine Ro_li.2 ?_
  obtain ⟨a, cap, h1, h2, h3, h4⟩ := ho
  refine ⟨a, cap, h1, h2, h3, ?_⟩
  rcases h4 with h4 | ⟨b, off, g1, g2, g3⟩
  · exact .inl h4
  · refine .inr ⟨b, off, g1, g2, fun k hk j hj => ?_⟩
    obtain ⟨y, q1, q2⟩ := g3 k hk j hj
    exact ⟨y, q1, hg k hk j hj _ _ _ q2⟩

def UpsPay (p : Pay) (ups : Ups) : Prop := ∀ i t sz n get, (i, some (.arr t sz n get)) ∈ ups → PayOk p sz n get
def XPay (p : Pay) (x : T) : Prop := ∀ sz n get, x = .d (.one (.r (.sl sz n get))) → PayOk p sz n get

theorem retX_sound {p : Pay} {x : T} (hp : XPay p x) {tm : Array Value} {u : Value} (hx : RepX tm w F h β x u) : RepX tm w F h β (retX p x) u := by
  unfold retX
  split
  · exact (hp _ _ _ rfl).ro hx
  · exact hx

theorem look_ret (p : Pay) : ∀ (ups : Ups) (i : Nat), look (ups.map (retO p)) i = (look ups i).map fun q => (retO p (i, q)).2
  | [], i => rfl
  | (k, q) :: l, i => by
    have e : (retO p (k, q)).1 = k := by
      unfold retO
      split
      · rename_i heq; cases heq; rfl
      · rfl
    simp only [List.map_cons, look]
    rw [show retO p (k, q) = ((retO p (k, q)).1, (retO p (k, q)).2) from rfl, e]
    cases hb : Nat.beq k i
    · simp only [cond_false]; exact look_ret p l i
    · have := Nat.eq_of_beq_eq_true hb
      subst this
      simp

def retUps : Option Pay → Ups → Ups
  | some q, ups => ups.map (retO q)
  | none, ups => ups
def retT : Option Pay → T → T
  | some q, x => retX q x
  | none, x => x
def ret1 : Option Pay → Nat × Option Obj → Option Obj
  | some r, x => (retO r x).2
  | none, x => x.2

theorem Out.told {p : Option Pay} {h0 : HF} (s : Shp h0 h) (hs : ∀ i o o', h0 i = some (some o) → h i = some (some o') → ∀ (w : World) (F : Nat → Prop) (h : HF) (β : Nat → Value), RepO w F h β i o → RepO w F h β i o') {tm : Array Value} {ups : Ups} {x : T} {v : Value}
    (hp : ∀ q, p = some q → UpsPay q ups ∧ XPay q x) (ho : Out w0 O0 F0 w F h0 β tm ups x v w') :
    Out w0 O0 F0 w F h β tm (retUps p ups) (retT p x) v w' := by
  obtain ⟨F', β', h1, h2, h3⟩ := ho
  have key : ∀ i, upd (retUps p ups) h i = match look ups i with | some q => some (ret1 p (i, q)) | none => h i := fun i => by
    cases p with
    | none => rfl
    | some r =>
      simp only [upd, retUps, ret1, look_ret]
      cases look ups i <;> rfl
  have s' : Shp (upd ups h0) (upd (retUps p ups) h) := fun i => by
    rw [key]
    simp only [upd]
    cases look ups i with
    | none => exact s i
    | some q =>
      cases p with
      | none => exact ⟨Iff.rfl, Iff.rfl⟩
      | some r =>
        refine ⟨by simp, ?_⟩
        simp only [Option.some.injEq, ret1]
        unfold retO
        split
        · rename_i heq; cases heq; simp
        · rename_i heq; rfl
  refine ⟨F', β', h1.told s' fun i o o' hi hi' hr => ?_, s.per s' h2, ?_⟩
  · rw [key] at hi'
    simp only [upd] at hi
    cases hl : look ups i with
    | none =>
      rw [hl] at hi hi'
      exact hs i o o' hi hi' _ _ _ _ hr
    | some q =>
      rw [hl] at hi hi'
      cases p with
      | none => cases hi; cases hi'; exact hr
      | some r =>
        cases hi
        simp only [Option.some.injEq, ret1] at hi'
        unfold retO at hi'
        split at hi'
        · rename_i heq
          cases heq
          cases hi'
          exact ((hp r rfl).1 _ _ _ _ _ (look_mem' hl)).repO hr
        · rename_i heq
          cases hi'; exact hr
  · cases p with
    | none => exact s'.repX h3
    | some r => exact s'.repX (retX_sound (hp r rfl).2 h3)
end

theorem getL_lt {t : Ty} {l : List (Den t)} {k : Nat} {x : Den t} (hk : l[k]? = some x) (j : Nat) : getL t l k j = (cellsR t x).getD j z0 := by
  simp [getL, List.getD, hk]

theorem le_at {rs : List R} {t : Ty} {x : Den t} (h : All2 Le rs (cellsR t x)) {j : Nat} (hj : j < width t) : Le (rs.getD j z0) ((cellsR t x).getD j z0) := by
  have hlt : j < rs.length := by rw [h.len, cellsR_len]; exact hj
  obtain ⟨y, hy, hl⟩ := h.get (List.getElem?_eq_getElem hlt)
  simp only [List.getD, List.getElem?_eq_getElem hlt, hy, Option.getD_some]
  exact hl

theorem setR_len : ∀ {cs : List R} {off : Nat} {xs : List R}, (setR cs off xs).length = cs.length
  | _, _, [] => rfl
  | cs, off, x :: xs => by rw [setR, setR_len, List.length_set]

theorem setR_get : ∀ {cs : List R} {off : Nat} {xs : List R} {j : Nat}, j < cs.length → (setR cs off xs).getD j z0 = if off ≤ j ∧ j < off + xs.length then xs.getD (j - off) z0 else cs.getD j z0
  | cs, off, [], j, _ => by
    rw [if_neg (by simp only [List.length_nil]; omega)]; rfl
  | cs, off, x :: xs, j, hj => by
    rw [setR, setR_get (by rw [List.length_set]; exact hj)]
    by_cases h1 : off + 1 ≤ j ∧ j < off + 1 + xs.length
    · rw [if_pos h1, if_pos (by simp only [List.length_cons]; omega), show j - off = (j - (off + 1)) + 1 by omega]
      simp [List.getD]
    · rw [if_neg h1]
      by_cases h2 : j = off
      · subst h2
        rw [if_pos (by simp only [List.length_cons]; omega)]
        simp [List.getD, hj]
      · rw [if_neg (by simp only [List.length_cons]; omega)]
        simp only [List.getD, List.getElem?_set_ne (Ne.symm h2)]

end Go.Proofs.YthhmpjnmmhfngaaDoor.Ev
