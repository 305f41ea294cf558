/-
  Calls: from a contract to what the caller knows.
-/
import Derived.Test.YthhmpjnmmhfngaaDoorEvK
namespace Go.Proofs.YthhmpjnmmhfngaaDoor.Ev
open Go

def Own (h : HF) (β : Nat → Value) (b : Nat) : Prop := ∃ i o, h i = some (some o) ∧ Blk (β i) b

abbrev hOf (os : List Obj) : HF := look (startHeap 0 os)

/-- What a contract says: called with these data and objects the function returns, and leaves those. -/
def Sat (P : Program) (f : FuncId) (ds : List D) (os : List Obj) (x : T) (objs : Heap) : Prop :=
  ∀ (w : World) (F : Nat → Prop) (β : Nat → Value) (args : List Value),
    Inv w (Own (hOf os) β) F w F (hOf os) β → All2 (RepD w F (hOf os) β) ds args →
    Calls P f args.toArray w fun e w' => ∃ v F' β', e = .returned v ∧ Inv w (Own (hOf os) β) F w' F' (look objs) β' ∧
      (∀ i, i < os.length → ∃ q, look objs i = some q) ∧ (∀ i o, i < os.length → look objs i = some (some o) → β' i = β i) ∧ (∀ s b d, x ≠ .when s b d) ∧ RepX #[] w' F' (look objs) β' x v

theorem RepX.tm {tm tm' : Array Value} {w : World} {F : Nat → Prop} {h : HF} {β : Nat → Value} {x : T} {v : Value} (hx : ∀ s b d, x ≠ .when s b d) (hr : RepX tm w F h β x v) : RepX tm' w F h β x v := by
  cases x with
  | when s b d => exact absurd rfl (hx s b d)
  | _ => exact hr

theorem look_startHeap : ∀ (os : List Obj) (k i : Nat), look (startHeap k os) i = if k ≤ i then (os[i - k]?).map some else none
  | [], k, i => by simp [startHeap, look]
  | o :: os, k, i => by
    simp only [startHeap, look]
    cases hb : Nat.beq k i
    · have hne : k ≠ i := fun e => by subst e; simp at hb
      rw [cond_false, look_startHeap os (k + 1) i]
      by_cases h1 : k ≤ i
      · rw [if_pos h1, if_pos (by omega), show i - k = (i - (k + 1)) + 1 by omega]
        simp
      · rw [if_neg h1, if_neg (by omega)]
    · have := Nat.eq_of_beq_eq_true hb
      subst this
      simp

theorem hOf_eq (os : List Obj) (i : Nat) : hOf os i = (os[i]?).map some := by
  have := look_startHeap os 0 i
  simpa using this

theorem idxOf_get : ∀ {ids : List Nat} {j i : Nat}, idxOf ids j = some i → ids[i]? = some j
  | [], j, i, h => by simp [idxOf] at h
  | a :: l, j, i, h => by
    simp only [idxOf] at h
    cases hb : Nat.beq a j
    · rw [hb] at h
      simp only [cond_false, Option.map_eq_some_iff] at h
      obtain ⟨k, hk, rfl⟩ := h
      simpa using idxOf_get hk
    · rw [hb] at h
      simp only [cond_true, Option.some.injEq] at h
      subst h
      simpa using Nat.eq_of_beq_eq_true hb

theorem nodupN_iff : ∀ {l : List Nat}, nodupN l = true ↔ l.Nodup
  | [] => by simp [nodupN]
  | a :: l => by
    simp only [nodupN, Bool.and_eq_true, Bool.not_eq_true', List.nodup_cons, nodupN_iff (l := l)]
    constructor
    · rintro ⟨h1, h2⟩
      exact ⟨fun hm => (by rw [elemNat_iff.2 hm] at h1; cases h1), h2⟩
    · rintro ⟨h1, h2⟩
      refine ⟨?_, h2⟩
      cases hb : elemNat a l
      · rfl
      · exact absurd (elemNat_iff.1 hb) h1

theorem nodup_inj {l : List Nat} (hn : l.Nodup) {i j k : Nat} (hi : l[i]? = some k) (hj : l[j]? = some k) : i = j := by
  have hi' : i < l.length := by
    rcases Nat.lt_or_ge i l.length with h | h
    · exact h
    · rw [List.getElem?_eq_none h] at hi; cases hi
  exact (List.getElem?_inj hi' hn).1 (hi.trans hj.symm)

theorem mapM_rel {α γ : Type} {f : α → Option γ} : ∀ {l : List α} {m : List γ}, l.mapM f = some m → All2 (fun x y => f x = some y) l m
  | [], m, h => by simp at h; subst h; exact .nil
  | a :: l, m, h => by
    simp only [List.mapM_cons, Option.bind_eq_bind, Option.bind_eq_some_iff, Option.pure_def, Option.some.injEq] at h
    obtain ⟨b, h1, m', h2, rfl⟩ := h
    exact .cons h1 (mapM_rel h2)

/-- Data under other ids. -/
theorem ren_repC {w : World} {F : Nat → Prop} {h h' : HF} {β β' : Nat → Value} {ρ : Nat → Option Nat}
    (hr : ∀ i q j, h i = some q → ρ i = some j → (∃ q', h' j = some q') ∧ ∀ o', h' j = some (some o') → (∃ o, q = some o) ∧ β' j = β i) {c : C} {u : Value} (hc : RepC w F h β c u) : RepC w F h' β' (c.ren ρ) u := by
  cases c with
  | r x => exact hc
  | own i =>
    obtain ⟨h1, ⟨q, hq⟩, h3⟩ := hc
    simp only [C.ren]
    split
    · rename_i j hj
      obtain ⟨p1, p2⟩ := hr i q j hq hj
      refine ⟨h1, p1, fun o ho => ?_⟩
      obtain ⟨⟨o', rfl⟩, e⟩ := p2 o ho
      rw [e]; exact h3 o' hq
    · exact h1
  | ptr i off =>
    obtain ⟨h1, ⟨q, hq⟩, h3⟩ := hc
    simp only [C.ren]
    split
    · rename_i j hj
      obtain ⟨p1, p2⟩ := hr i q j hq hj
      refine ⟨h1, p1, fun o ho => ?_⟩
      obtain ⟨⟨o', rfl⟩, e⟩ := p2 o ho
      rw [e]; exact h3 o' hq
    · exact h1
  | eptr i sz k off =>
    obtain ⟨h1, ⟨q, hq⟩, h3⟩ := hc
    simp only [C.ren]
    split
    · rename_i j hj
      obtain ⟨p1, p2⟩ := hr i q j hq hj
      refine ⟨h1, p1, fun o ho => ?_⟩
      obtain ⟨⟨o', rfl⟩, e⟩ := p2 o ho
      rw [e]; exact h3 o' hq
    · exact h1
  | dsl i p =>
    obtain ⟨h1, ⟨q, hq⟩, h3⟩ := hc
    simp only [C.ren]
    split
    · rename_i j hj
      obtain ⟨p1, p2⟩ := hr i q j hq hj
      refine ⟨h1, p1, fun o ho => ?_⟩
      obtain ⟨⟨o', rfl⟩, e⟩ := p2 o ho
      rw [e]; exact h3 o' hq
    · exact h1
  | dptr i p sz k off =>
    obtain ⟨h1, ⟨q, hq⟩, h3⟩ := hc
    simp only [C.ren]
    split
    · rename_i j hj
      obtain ⟨p1, p2⟩ := hr i q j hq hj
      refine ⟨h1, p1, fun o ho => ?_⟩
      obtain ⟨⟨o', rfl⟩, e⟩ := p2 o ho
      rw [e]; exact h3 o' hq
    · exact h1
  | fn f l =>
    obtain ⟨h1, h2, h3⟩ := hc
    simp only [C.ren]
    split
    · rename_i l' hl
      have hm := mapM_rel hl
      refine ⟨h1, fun j hj => ?_, fun hall => ?_⟩
      · obtain ⟨k, hk⟩ := List.getElem?_of_mem hj
        obtain ⟨i, hi, hij⟩ := hm.getR hk
        obtain ⟨q, hq⟩ := h2 i (List.mem_of_getElem? hi)
        exact (hr i q j hq hij).1
      · have key : ∀ {l l' : List Nat}, All2 (fun x y => ρ x = some y) l l' → (∀ i ∈ l, ∃ q, h i = some q) → (∀ j ∈ l', ∃ o, h' j = some (some o)) → (∀ i ∈ l, ∃ o, h i = some (some o)) ∧ l'.map β' = l.map β := by
          intro l l' hh
          induction hh with
          | nil => intro _ _; exact ⟨fun i hi => by simp at hi, rfl⟩
          | @cons i j l l' hij _ ih =>
            intro hp hal
            obtain ⟨q, hq⟩ := hp i (List.mem_cons_self ..)
            obtain ⟨o, ho⟩ := hal j (List.mem_cons_self ..)
            obtain ⟨⟨o', rfl⟩, e⟩ := (hr i q j hq hij).2 o ho
            obtain ⟨g1, g2⟩ := ih (fun i hi => hp i (List.mem_cons_of_mem _ hi)) (fun j hj => hal j (List.mem_cons_of_mem _ hj))
            refine ⟨fun k hk => ?_, by rw [List.map_cons, List.map_cons, e, g2]⟩
            rcases List.mem_cons.1 hk with rfl | hk
            · exact ⟨o', hq⟩
            · exact g1 k hk
        obtain ⟨g1, g2⟩ := key hm h2 hall
        rw [h3 g1, g2]
    · exact h1
  | junk => exact hc

theorem ren_repD {w : World} {F : Nat → Prop} {h h' : HF} {β β' : Nat → Value} {ρ : Nat → Option Nat}
    (hr : ∀ i q j, h i = some q → ρ i = some j → (∃ q', h' j = some q') ∧ ∀ o', h' j = some (some o') → (∃ o, q = some o) ∧ β' j = β i) {d : D} {u : Value} (hd : RepD w F h β d u) : RepD w F h' β' (d.ren ρ) u := by
  cases d with
  | one c => exact ren_repC hr hd
  | agg cs => obtain ⟨us, e, hh⟩ := hd; exact ⟨us, e, All2.map_l.2 (hh.mono fun _ _ => ren_repC hr)⟩

theorem ren_repX {tm : Array Value} {w : World} {F : Nat → Prop} {h h' : HF} {β β' : Nat → Value} {ρ : Nat → Option Nat}
    (hr : ∀ i q j, h i = some q → ρ i = some j → (∃ q', h' j = some q') ∧ ∀ o', h' j = some (some o') → (∃ o, q = some o) ∧ β' j = β i) {x : T} {u : Value} (hx : RepX tm w F h β x u) : RepX tm w F h' β' (x.ren ρ) u := by
  cases x with
  | d d => exact ren_repD hr hx
  | tup xs => obtain ⟨us, e, hh⟩ := hx; exact ⟨us, e, All2.map_l.2 (hh.mono fun _ _ => ren_repD hr)⟩
  | when s b d => exact ⟨fun e => ren_repD hr (hx.1 e), hx.2⟩
  | nilq n => exact hx
  | und => exact hx
  | unk => trivial

theorem ren_repO {w : World} {F : Nat → Prop} {h h' : HF} {β β' : Nat → Value} {ρ : Nat → Option Nat}
    (hr : ∀ i q j, h i = some q → ρ i = some j → (∃ q', h' j = some q') ∧ ∀ o', h' j = some (some o') → (∃ o, q = some o) ∧ β' j = β i) {i j : Nat} (e : β' j = β i) {o : Obj} (ho : RepO w F h β i o) : RepO w F h' β' j (o.ren ρ) := by
  cases o with
  | box t cs =>
    obtain ⟨b, us, h1, h2, h3⟩ := ho
    exact ⟨b, us, e.trans h1, h2, All2.map_l.2 (h3.mono fun _ _ => ren_repC hr)⟩
  | arr t sz n get =>
    rcases ho with ⟨x, h1, h2⟩ | ⟨b, cap, cur, h1, rest⟩
    · exact .inl ⟨x, e.trans h1, h2⟩
    · exact .inr ⟨b, cap, cur, e.trans h1, rest⟩
  | lis t x l =>
    rcases ho with ⟨x, h1, h2⟩ | ⟨b, cap, cur, h1, rest⟩
    · exact .inl ⟨x, e.trans h1, h2⟩
    · exact .inr ⟨b, cap, cur, e.trans h1, rest⟩
  | map k x m =>
    obtain ⟨b, es, clock, h1, rest⟩ := ho
    exact ⟨b, es, clock, e.trans h1, rest⟩
  | deep ts x l =>
    obtain ⟨h0, h1, h2⟩ := ho
    exact ⟨h0, by rw [e]; exact h1, by rw [e]; exact h2⟩

theorem renUps_mem {ρ : Nat → Option Nat} : ∀ {objs : Heap} {ups : Ups}, renUps ρ objs = some ups → All2 (fun (p : Nat × Option Obj) (r : Nat × Option Obj) => ρ p.1 = some r.1 ∧ r.2 = p.2.map (Obj.ren ρ)) objs ups
  | [], ups, h => by simp [renUps] at h; subst h; exact .nil
  | (i, o) :: l, ups, h => by
    simp only [renUps] at h
    split at h
    · rename_i j r e1 e2
      cases h
      exact .cons ⟨e1, rfl⟩ (renUps_mem e2)
    · cases h

/-- where a renamed list is looked at -/
theorem look_ren {ρ : Nat → Option Nat} : ∀ {objs : Heap} {ups : Ups}, All2 (fun (p : Nat × Option Obj) (r : Nat × Option Obj) => ρ p.1 = some r.1 ∧ r.2 = p.2.map (Obj.ren ρ)) objs ups →
    (∀ i k j, (∃ q, look objs i = some q) → (∃ q, look objs k = some q) → ρ i = some j → ρ k = some j → i = k) →
    (∀ i q j, look objs i = some q → ρ i = some j → look ups j = some (q.map (Obj.ren ρ))) ∧ (∀ j q', look ups j = some q' → ∃ i q, look objs i = some q ∧ ρ i = some j ∧ q' = q.map (Obj.ren ρ))
  | _, _, .nil, _ => ⟨fun i q j h => by simp [look] at h, fun j q' h => by simp [look] at h⟩
  | _, _, .cons (a := p) (b := r) (l := l) (m := m) hpr hrest, hinj => by
    obtain ⟨i0, q0⟩ := p
    obtain ⟨j0, r0⟩ := r
    obtain ⟨h1, h2⟩ := hpr
    simp only at h1 h2
    have hsub : ∀ i, (∃ q, look l i = some q) → ∃ q, look ((i0, q0) :: l) i = some q := fun i ⟨q, hq⟩ => by
      simp only [look]
      cases Nat.beq i0 i
      · exact ⟨q, hq⟩
      · exact ⟨q0, rfl⟩
    obtain ⟨ihA, ihB⟩ := look_ren hrest fun i k j hi hk => hinj i k j (hsub i hi) (hsub k hk)
    have h0 : ∃ q, look ((i0, q0) :: l) i0 = some q := ⟨q0, by simp [look]⟩
    refine ⟨fun i q j hi hj => ?_, fun j q' hj => ?_⟩
    · simp only [look] at hi ⊢
      cases hb : Nat.beq i0 i
      · rw [hb] at hi
        simp only [cond_false] at hi
        have : Nat.beq j0 j = false := by
          cases hb' : Nat.beq j0 j
          · rfl
          · have e := Nat.eq_of_beq_eq_true hb'
            have := hinj i0 i j0 h0 (hsub i ⟨q, hi⟩) h1 (by rw [e]; exact hj)
            subst this; simp at hb
        rw [this]
        exact ihA i q j hi hj
      · rw [hb] at hi
        simp only [cond_true, Option.some.injEq] at hi
        have e := Nat.eq_of_beq_eq_true hb
        subst e
        rw [h1] at hj
        cases hj
        simp [h2, hi]
    · simp only [look] at hj
      cases hb : Nat.beq j0 j
      · rw [hb] at hj
        simp only [cond_false] at hj
        obtain ⟨i, q, g1, g2, g3⟩ := ihB j q' hj
        refine ⟨i, q, ?_, g2, g3⟩
        simp only [look]
        cases hb' : Nat.beq i0 i
        · exact g1
        · have e := Nat.eq_of_beq_eq_true hb'
          subst e
          rw [h1] at g2
          cases g2
          simp at hb
      · rw [hb] at hj
        simp only [cond_true, Option.some.injEq] at hj
        have e := Nat.eq_of_beq_eq_true hb
        subst e
        exact ⟨i0, q0, by simp [look], h1, by rw [← hj, h2]⟩

section
variable {P : Program} {w0 w : World} {O0 F0 F : Nat → Prop} {h : HF} {β : Nat → Value}

/-- what the callee sees -/
theorem callee_inv (H : Inv w0 O0 F0 w F h β) {ids : List Nat} {os : List Obj} (hn : ids.Nodup) (hos : All2 (fun o i => h i = some (some o)) os ids) :
    (∀ i q j, h i = some q → idxOf ids i = some j → (∃ q', hOf (os.map (Obj.ren (idxOf ids))) j = some q') ∧ ∀ o', hOf (os.map (Obj.ren (idxOf ids))) j = some (some o') → (∃ o, q = some o) ∧ (fun k => β (ids.getD k 0)) j = β i) ∧
    Inv w (Own (hOf (os.map (Obj.ren (idxOf ids)))) fun k => β (ids.getD k 0)) F w F (hOf (os.map (Obj.ren (idxOf ids)))) (fun k => β (ids.getD k 0)) := by
  have hlen := hos.len
  have hat : ∀ k o', hOf (os.map (Obj.ren (idxOf ids))) k = some (some o') → ∃ o i, os[k]? = some o ∧ ids[k]? = some i ∧ o' = o.ren (idxOf ids) ∧ h i = some (some o) ∧ ids.getD k 0 = i := fun k o' hk => by
    rw [hOf_eq, List.getElem?_map] at hk
    cases ho : os[k]? with
    | none => simp [ho] at hk
    | some o =>
      simp [ho] at hk
      obtain ⟨i, hi, hh⟩ := hos.get ho
      exact ⟨o, i, rfl, hi, hk.symm, hh, by simp [List.getD, hi]⟩
  have hr : ∀ i q j, h i = some q → idxOf ids i = some j → (∃ q', hOf (os.map (Obj.ren (idxOf ids))) j = some q') ∧ ∀ o', hOf (os.map (Obj.ren (idxOf ids))) j = some (some o') → (∃ o, q = some o) ∧ (fun k => β (ids.getD k 0)) j = β i := fun i q j hi hj => by
    have hg := idxOf_get hj
    obtain ⟨o, ho, hh⟩ := hos.getR hg
    rw [hi] at hh
    cases hh
    refine ⟨⟨some (o.ren (idxOf ids)), by rw [hOf_eq, List.getElem?_map, ho]; rfl⟩, fun o' _ => ⟨⟨o, rfl⟩, by simp [List.getD, hg]⟩⟩
  refine ⟨hr, ⟨fun k o' hk => ?_, fun k l o o' b hk hl hbk hbl => ?_, fun k o b hk hb => ?_, H.low, rfl, rfl, rfl, Nat.le_refl _, fun _ _ _ => rfl, fun k o b hk hb => .inl ⟨k, o, hk, hb⟩, fun b hb => .inl hb, fun _ hb => hb⟩⟩
  · obtain ⟨o, i, h1, h2, rfl, h4, h5⟩ := hat k o' hk
    exact ren_repO hr (by show β (ids.getD k 0) = β i; rw [h5]) (H.obj i o h4)
  · obtain ⟨o1, i, h1, h2, _, h4, h5⟩ := hat k o hk
    obtain ⟨o2, j, g1, g2, _, g4, g5⟩ := hat l o' hl
    simp only [h5] at hbk
    simp only [g5] at hbl
    have := H.apart i j o1 o2 b h4 g4 hbk hbl
    subst this
    exact nodup_inj hn h2 g2
  · obtain ⟨o1, i, h1, h2, _, h4, h5⟩ := hat k o hk
    simp only [h5] at hb
    exact H.notF i o1 b h4 hb

/-- From what the callee leaves to what the caller knows. -/
theorem caller_inv (H : Inv w0 O0 F0 w F h β) {ids : List Nat} {os : List Obj} (hn : ids.Nodup) (hl1000 : ids.length ≤ 1000) (hos : All2 (fun o i => h i = some (some o)) os ids) {t : Nat} {objs : Heap} {ups : Ups}
    (hups : renUps (backTo ids t) objs = some ups) (hnew : ∀ j q, (j, q) ∈ ups → isNew t j = true → h j = none) {w' : World} {F' : Nat → Prop} {βq : Nat → Value}
    (HC : Inv w (Own (hOf (os.map (Obj.ren (idxOf ids)))) fun k => β (ids.getD k 0)) F w' F' (look objs) βq)
    (hall : ∀ i, i < os.length → ∃ q, look objs i = some q) (hkeep : ∀ i o, i < os.length → look objs i = some (some o) → βq i = β (ids.getD i 0)) {tm : Array Value} {x : T} {v : Value} (hx : RepX tm w' F' (look objs) βq x v) :
    Out w0 O0 F0 w F h β tm ups (x.ren (backTo ids t)) v w' := by
  have hlen := hos.len
  -- ids of the callee's that are known
  have hpast : ∀ {i j}, backTo ids t i = some j → i < 1000 → ids[i]? = some j := fun {i j} hb hi => by
    have : Nat.blt i 1000 = true := by simpa using hi
    simpa [backTo, this] using hb
  have hback : ∀ {i j}, ids[i]? = some j → backTo ids t i = some j := fun {i j} hi => by
    have hlt : i < ids.length := by
      rcases Nat.lt_or_ge i ids.length with h1 | h1
      · exact h1
      · rw [List.getElem?_eq_none h1] at hi; cases hi
    have : Nat.blt i 1000 = true := by simp; omega
    simp [backTo, this, hi]
  have hfut : ∀ {i j}, backTo ids t i = some j → ¬ i < 1000 → isNew t j = true ∧ j = sid t (i - 1000) := fun {i j} hb hi => by
    have h1 : Nat.blt i 1000 = false := by
      cases hh : Nat.blt i 1000
      · rfl
      · exact absurd (by simpa using hh) hi
    simp only [backTo, h1, cond_false] at hb
    cases h2 : Nat.blt i 1064 with
    | false => simp [h2] at hb
    | true =>
      simp only [h2, cond_true, Option.some.injEq] at hb
      have h2' : i < 1064 := by simpa using h2
      exact ⟨by rw [← hb]; exact sid_new t _ (by omega), hb.symm⟩
  have halive : ∀ {i j}, ids[i]? = some j → ∃ o, os[i]? = some o ∧ h j = some (some o) := fun {i j} hi => by
    obtain ⟨o, ho, hh⟩ := hos.getR hi
    exact ⟨o, ho, hh⟩
  have hmem := renUps_mem hups
  have hmemNew : ∀ i j, (∃ q, look objs i = some q) → backTo ids t i = some j → ¬ i < 1000 → h j = none := fun i j ⟨q, hq⟩ hb hi => by
    have : ∀ {objs : Heap} {ups : Ups}, All2 (fun (p : Nat × Option Obj) (r : Nat × Option Obj) => backTo ids t p.1 = some r.1 ∧ r.2 = p.2.map (Obj.ren (backTo ids t))) objs ups → ∀ q, look objs i = some q → ∃ q', (j, q') ∈ ups := by
      intro objs ups hh
      induction hh with
      | nil => intro q hq; simp [look] at hq
      | @cons p r l m h1 _ ih =>
        intro q hq
        simp only [look] at hq
        cases hb' : Nat.beq p.1 i
        · rw [hb'] at hq
          obtain ⟨q', hq'⟩ := ih q hq
          exact ⟨q', List.mem_cons_of_mem _ hq'⟩
        · have e := Nat.eq_of_beq_eq_true hb'
          rw [e, hb] at h1
          refine ⟨r.2, ?_⟩
          have e2 : j = r.1 := Option.some.inj h1.1
          rw [e2]
          exact List.mem_cons_self ..
    obtain ⟨q', hq'⟩ := this hmem q hq
    exact hnew j q' hq' (hfut hb hi).1
  have hinj : ∀ i k j, (∃ q, look objs i = some q) → (∃ q, look objs k = some q) → backTo ids t i = some j → backTo ids t k = some j → i = k := fun i k j hi hk h1 h2 => by
    by_cases e1 : i < 1000
    · by_cases e2 : k < 1000
      · exact nodup_inj hn (hpast h1 e1) (hpast h2 e2)
      · obtain ⟨o, _, ho⟩ := halive (hpast h1 e1)
        have := hmemNew k j hk h2 e2
        rw [ho] at this; cases this
    · by_cases e2 : k < 1000
      · obtain ⟨o, _, ho⟩ := halive (hpast h2 e2)
        have := hmemNew i j hi h1 e1
        rw [ho] at this; cases this
      · have g1 := (hfut h1 e1).2
        have g2 := (hfut h2 e2).2
        simp only [sid] at g1 g2
        omega
  obtain ⟨hA, hB⟩ := look_ren hmem hinj
  -- the caller's addresses
  let βn : Nat → Value := fun j => open Classical in if hj : ∃ i, (∃ q, look objs i = some q) ∧ backTo ids t i = some j then βq (Classical.choose hj) else β j
  have hβ : ∀ {i j q}, look objs i = some q → backTo ids t i = some j → βn j = βq i := fun {i j q} hi hj => by
    have hex : ∃ i, (∃ q, look objs i = some q) ∧ backTo ids t i = some j := ⟨i, ⟨q, hi⟩, hj⟩
    have hc := Classical.choose_spec hex
    simp only [βn, dif_pos hex]
    rw [hinj _ _ _ hc.1 ⟨q, hi⟩ hc.2 hj]
  have hβ0 : ∀ {j}, look ups j = none → βn j = β j := fun {j} hj => by
    simp only [βn]
    rw [dif_neg]
    rintro ⟨i, ⟨q, hi⟩, hij⟩
    rw [hA i q j hi hij] at hj
    cases hj
  have hup : ∀ j, upd ups h j = match look ups j with | some q => some q | none => h j := fun _ => rfl
  have hr : ∀ i q j, look objs i = some q → backTo ids t i = some j → (∃ q', upd ups h j = some q') ∧ ∀ o', upd ups h j = some (some o') → (∃ o, q = some o) ∧ βn j = βq i := fun i q j hi hj => by
    have := hA i q j hi hj
    refine ⟨⟨_, by rw [hup, this]⟩, fun o' ho' => ?_⟩
    rw [hup, this] at ho'
    simp only [Option.some.injEq, Option.map_eq_some_iff] at ho'
    obtain ⟨o, rfl, _⟩ := ho'
    exact ⟨⟨o, rfl⟩, hβ hi hj⟩
  -- blocks that the callee owned are the caller's
  have hOc : ∀ b, Own (hOf (os.map (Obj.ren (idxOf ids)))) (fun k => β (ids.getD k 0)) b → ∃ i o k, h i = some (some o) ∧ Blk (β i) b ∧ ids[k]? = some i := fun b ⟨k, o', hk, hb⟩ => by
    rw [hOf_eq, List.getElem?_map] at hk
    cases ho : os[k]? with
    | none => simp [ho] at hk
    | some o =>
      obtain ⟨i, hi, hh⟩ := hos.get ho
      have e : ids.getD k 0 = i := by simp [List.getD, hi]
      simp only [e] at hb
      exact ⟨i, o, k, hh, hb, hi⟩
  have hseen : ∀ {k i}, ids[k]? = some i → ∃ q, look ups i = some q := fun {k i} hk => by
    have hlt : k < ids.length := by
      rcases Nat.lt_or_ge k ids.length with h1 | h1
      · exact h1
      · rw [List.getElem?_eq_none h1] at hk; cases hk
    obtain ⟨q, hq⟩ := hall k (by omega)
    exact ⟨_, hA k q i hq (hback hk)⟩
  have Pr : Per w F h β w' F' (upd ups h) βn := by
    refine ⟨fun b hb => HC.kept b (H.low b hb) fun ho => ?_, HC.inF, fun i q hi => ?_, fun i q o hi ho => ?_⟩
    · obtain ⟨i, o, k, h1, h2, _⟩ := hOc b ho
      exact H.notF i o b h1 h2 hb
    · rw [hup]
      cases look ups i with
      | some q' => exact ⟨q', rfl⟩
      | none => exact ⟨q, hi⟩
    · rw [hup] at ho
      cases hu : look ups i with
      | some q' =>
        rw [hu] at ho
        simp only [Option.some.injEq] at ho
        subst ho
        obtain ⟨k, q0, g1, g2, g3⟩ := hB i _ hu
        cases q0 with
        | none => cases g3
        | some o0 =>
          by_cases e1 : k < 1000
          · have hk := hpast g2 e1
            obtain ⟨o1, ho1, hh⟩ := halive hk
            rw [hi] at hh
            cases hh
            have hlt : k < os.length := by
              rcases Nat.lt_or_ge k os.length with h1 | h1
              · exact h1
              · rw [List.getElem?_eq_none h1] at ho1; cases ho1
            refine ⟨⟨o1, rfl⟩, ?_⟩
            rw [hβ g1 g2, hkeep k o0 hlt g1]
            simp [List.getD, hk]
          · have := hmemNew k i ⟨_, g1⟩ g2 e1
            rw [hi] at this; cases this
      | none =>
        rw [hu] at ho
        rw [hi] at ho
        cases ho
        exact ⟨⟨o, rfl⟩, hβ0 hu⟩
  have hold : ∀ i o, look ups i = none → h i = some (some o) → ∀ b, Blk (β i) b → b < w.heap.size ∧ ¬ Own (hOf (os.map (Obj.ren (idxOf ids)))) (fun k => β (ids.getD k 0)) b := fun i o hu hi b hb => by
    refine ⟨blk_lt (H.obj i o hi) hb, fun ho => ?_⟩
    obtain ⟨j, o', k, h1, h2, h3⟩ := hOc b ho
    have := H.apart i j o o' b hi h1 hb h2
    subst this
    obtain ⟨q, hq⟩ := hseen h3
    rw [hu] at hq; cases hq
  have hsplit : ∀ i o, upd ups h i = some (some o) → (∃ k o0, look objs k = some (some o0) ∧ backTo ids t k = some i ∧ o = o0.ren (backTo ids t) ∧ βn i = βq k) ∨ (look ups i = none ∧ h i = some (some o) ∧ βn i = β i) := fun i o hi => by
    rw [hup] at hi
    cases hu : look ups i with
    | some q' =>
      rw [hu] at hi
      simp only [Option.some.injEq] at hi
      subst hi
      obtain ⟨k, q0, g1, g2, g3⟩ := hB i _ hu
      cases q0 with
      | none => cases g3
      | some o0 => exact .inl ⟨k, o0, g1, g2, by simpa using g3, hβ g1 g2⟩
    | none => rw [hu] at hi; exact .inr ⟨rfl, hi, hβ0 hu⟩
  refine ⟨F', βn, ⟨fun i o hi => ?_, fun i j o o' b hi hj hbi hbj => ?_, fun i o b hi hb hf => ?_, HC.low, HC.os.trans H.os, HC.tape.trans H.tape, HC.output.trans H.output, Nat.le_trans H.size HC.size, fun k hk ho => ?_, fun i o b hi hb => ?_, fun b hb => ?_, fun b hb => HC.inF b (H.inF b hb)⟩, Pr, ren_repX hr hx⟩
  · rcases hsplit i o hi with ⟨k, o0, g1, g2, rfl, g4⟩ | ⟨g1, g2, g3⟩
    · exact ren_repO hr g4 (HC.obj k o0 g1)
    · exact Pr.repO (fun b hb => HC.kept b (hold i o g1 g2 b hb).1 (hold i o g1 g2 b hb).2) g3 (H.obj i o g2)
  · rcases hsplit i o hi with ⟨k, o0, g1, g2, _, g4⟩ | ⟨g1, g2, g3⟩
    · rw [g4] at hbi
      rcases hsplit j o' hj with ⟨l, o1, f1, f2, _, f4⟩ | ⟨f1, f2, f3⟩
      · rw [f4] at hbj
        have := HC.apart k l o0 o1 b g1 f1 hbi hbj
        subst this
        rw [g2] at f2
        exact Option.some.inj f2
      · rw [f3] at hbj
        obtain ⟨q1, q2⟩ := hold j o' f1 f2 b hbj
        rcases HC.fromO k o0 b g1 hbi with h1 | h1
        · exact absurd h1 q2
        · omega
    · rw [g3] at hbi
      obtain ⟨q1, q2⟩ := hold i o g1 g2 b hbi
      rcases hsplit j o' hj with ⟨l, o1, f1, f2, _, f4⟩ | ⟨f1, f2, f3⟩
      · rw [f4] at hbj
        rcases HC.fromO l o1 b f1 hbj with h1 | h1
        · exact absurd h1 q2
        · omega
      · rw [f3] at hbj
        exact H.apart i j o o' b g2 f2 hbi hbj
  · rcases hsplit i o hi with ⟨k, o0, g1, g2, _, g4⟩ | ⟨g1, g2, g3⟩
    · rw [g4] at hb
      exact HC.notF k o0 b g1 hb hf
    · rw [g3] at hb
      obtain ⟨q1, q2⟩ := hold i o g1 g2 b hb
      rcases HC.fromF b hf with h1 | h1 | h1
      · exact H.notF i o b g2 hb h1
      · exact q2 h1
      · omega
  · rw [HC.kept k (Nat.lt_of_lt_of_le hk H.size) fun hoc => ?_]
    · exact H.kept k hk ho
    · obtain ⟨i, o, _, h1, h2, _⟩ := hOc k hoc
      rcases H.fromO i o k h1 h2 with h3 | h3
      · exact ho h3
      · omega
  · rcases hsplit i o hi with ⟨k, o0, g1, g2, _, g4⟩ | ⟨g1, g2, g3⟩
    · rw [g4] at hb
      rcases HC.fromO k o0 b g1 hb with h1 | h1
      · obtain ⟨i', o', _, h1, h2, _⟩ := hOc b h1
        exact H.fromO i' o' b h1 h2
      · exact .inr (Nat.le_trans H.size h1)
    · rw [g3] at hb
      exact H.fromO i o b g2 hb
  · rcases HC.fromF b hb with h1 | h1 | h1
    · exact H.fromF b h1
    · obtain ⟨i', o', _, h1, h2, _⟩ := hOc b h1
      rcases H.fromO i' o' b h1 h2 with h3 | h3
      · exact .inr (.inl h3)
      · exact .inr (.inr h3)
    · exact .inr (.inr (Nat.le_trans H.size h1))
end
end Go.Proofs.YthhmpjnmmhfngaaDoor.Ev
