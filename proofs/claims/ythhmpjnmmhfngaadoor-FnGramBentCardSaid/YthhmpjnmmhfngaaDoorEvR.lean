/-
  A region whose order is open comes to what the text's order comes to.
-/
import Derived.Test.YthhmpjnmmhfngaaDoorEvQ
namespace Go.Proofs.YthhmpjnmmhfngaaDoor.Ev
open Go

theorem befOf_bit {acc : List Nat} {k : Nat} : ∀ {l : List Edge}, (befOf acc l).testBit k = true → ∃ e ∈ l, Region.binds .any e = true ∧ (e.on = k ∨ (acc.getD e.on 0).testBit k = true)
  | [], h => by simp [befOf] at h
  | e :: l, h => by
    simp only [befOf, Nat.testBit_or, Bool.or_eq_true] at h
    rcases h with h | h
    · cases hb : Region.binds .any e
      · rw [hb] at h; simp at h
      · rw [hb] at h
        simp only [cond_true, Nat.testBit_or, Bool.or_eq_true, Nat.testBit_two_pow] at h
        exact ⟨e, List.mem_cons_self .., hb, h.imp (fun h => of_decide_eq_true h) id⟩
    · obtain ⟨e', h1, h2⟩ := befOf_bit h
      exact ⟨e', List.mem_cons_of_mem _ h1, h2⟩

theorem befs_len : ∀ (l : List Oper) (acc : List Nat), (befs l acc).length = acc.length + l.length
  | [], acc => by simp [befs]
  | o :: l, acc => by rw [befs, befs_len l]; simp; omega

theorem befs_old : ∀ (l : List Oper) (acc : List Nat) (j : Nat), j < acc.length → (befs l acc)[j]? = acc[j]?
  | [], acc, j, _ => rfl
  | o :: l, acc, j, hj => by
    rw [befs, befs_old l _ j (by simp; omega), List.getElem?_append_left hj]

theorem befs_take : ∀ (l : List Oper) (acc : List Nat), (befs l acc).take acc.length = acc
  | [], acc => by simp [befs]
  | o :: l, acc => by
    have := befs_take l (acc ++ [befOf acc o.after.toList])
    rw [befs]
    have h2 := congrArg (List.take acc.length) this
    rw [List.take_take] at h2
    simp only [List.length_append, List.length_cons, List.length_nil] at h2
    rw [show min acc.length (acc.length + (0 + 1)) = acc.length by omega] at h2
    rw [h2]; simp

theorem befs_at : ∀ (l : List Oper) (acc : List Nat) (k : Nat) (o : Oper), l[k]? = some o → (befs l acc)[acc.length + k]? = some (befOf ((befs l acc).take (acc.length + k)) o.after.toList)
  | [], acc, k, o, h => by simp at h
  | o' :: l, acc, 0, o, h => by
    simp at h
    subst h
    rw [Nat.add_zero, befs_take, befs, befs_old _ _ _ (by simp)]
    simp
  | o' :: l, acc, k + 1, o, h => by
    simp at h
    have := befs_at l (acc ++ [befOf acc o'.after.toList]) k o h
    simp only [List.length_append, List.length_cons, List.length_nil] at this
    rw [befs, show acc.length + (k + 1) = acc.length + (0 + 1) + k by omega]
    exact this

section
variable {ops : Array Oper}

/-- what is listed draws with it what edges put ahead -/
def Down (ops : Array Oper) (listed : Array Bool) : Prop := ∀ j o, ops[j]? = some o → listed.getD j false = true → ∀ e ∈ o.after, Region.binds .any e = true → listed.getD e.on false = true

theorem reach {listed : Array Bool} (hd : Down ops listed) {k : Nat} : ∀ (i : Nat) (o : Oper), ops[i]? = some o → (∀ e ∈ o.after, Region.binds .any e = true → listed.getD e.on false = true) →
    ((befs ops.toList []).getD i 0).testBit k = true → listed.getD k false = true := by
  intro i
  induction i using Nat.strongRecOn with
  | _ i ih =>
    intro o ho he hb
    have h1 := befs_at ops.toList [] i o (by simpa using ho)
    simp only [List.length_nil, Nat.zero_add] at h1
    rw [List.getD, h1] at hb
    simp only [Option.getD_some] at hb
    obtain ⟨e, hm, hbind, hor⟩ := befOf_bit hb
    have hm' : e ∈ o.after := by simpa using hm
    rcases hor with rfl | hor
    · exact he e hm' hbind
    · by_cases hlt : e.on < i
      · have : ((befs ops.toList []).take i).getD e.on 0 = (befs ops.toList []).getD e.on 0 := by
          simp [List.getD, hlt]
        rw [this] at hor
        cases ho' : ops[e.on]? with
        | none =>
          exfalso
          have hlen := befs_len ops.toList []
          rw [List.getD, List.getElem?_eq_none (by rw [hlen]; simp at ho' ⊢; exact ho')] at hor
          simp at hor
        | some o' => exact ih e.on hlt o' ho' (fun e' he' hb' => hd e.on o' ho' (he e hm' hbind) e' he' hb') hor
      · exfalso
        have : ((befs ops.toList []).take i).getD e.on 0 = 0 := by
          simp [List.getD, List.getElem?_take, hlt]
        rw [this] at hor
        simp at hor

theorem okAfter_get {bs : List Nat} {i : Nat} {m : Marks} : ∀ {k : Nat} {xs : List Marks}, okAfter ops bs i m k xs = true → ∀ (j : Nat) (x : Marks), xs[j]? = some x → (bs.getD (k + j) 0).testBit i = true ∨ indep ops m x = true
  | k, [], _, j, x, hj => by simp at hj
  | k, y :: ys, h, j, x, hj => by
    simp only [okAfter, Bool.and_eq_true, Bool.or_eq_true] at h
    cases j with
    | zero => simp at hj; subst hj; exact h.1
    | succ j =>
      simp at hj
      have := okAfter_get h.2 j x hj
      rw [show k + (j + 1) = k + 1 + j by omega]
      exact this

theorem okOrder_get {bs : List Nat} : ∀ {i : Nat} {ms : List Marks}, okOrder ops bs i ms = true → ∀ (j k : Nat) (x y : Marks), j < k → ms[j]? = some x → ms[k]? = some y → (bs.getD (i + k) 0).testBit (i + j) = true ∨ indep ops x y = true
  | i, [], _, j, k, x, y, _, hj, _ => by simp at hj
  | i, m :: ms, h, j, k, x, y, hjk, hj, hk => by
    simp only [okOrder, Bool.and_eq_true] at h
    cases j with
    | zero =>
      simp at hj
      subst hj
      cases k with
      | zero => omega
      | succ k =>
        simp at hk
        have := okAfter_get h.1 k y hk
        rw [Nat.add_zero, show i + (k + 1) = i + 1 + k by omega]
        exact this
    | succ j =>
      cases k with
      | zero => omega
      | succ k =>
        simp at hj hk
        have := okOrder_get h.2 j k x y (by omega) hj hk
        rw [show i + (k + 1) = i + 1 + k by omega, show i + (j + 1) = i + 1 + j by omega]
        exact this

theorem edgesOk_get : ∀ {i : Nat} {l : List Oper}, edgesOk i l = true → ∀ (k : Nat) (o : Oper), l[k]? = some o → ∀ e ∈ o.after, Region.binds .any e = true → e.on < i + k
  | i, [], _, k, o, hk => by simp at hk
  | i, o' :: l, h, k, o, hk => by
    simp only [edgesOk, Bool.and_eq_true, List.all_eq_true, Bool.or_eq_true, Bool.not_eq_true'] at h
    cases k with
    | zero =>
      simp at hk
      subst hk
      intro e he hb
      rcases h.1 e (by simpa using he) with h1 | h1
      · rw [hb] at h1; cases h1
      · simpa using h1
    | succ k =>
      simp at hk
      intro e he hb
      have := edgesOk_get h.2 k o hk e he hb
      omega
end

structure It where
  i : Nat
  o : Oper
  m : Marks

section
variable {P : Program} {cx : Cx} {ops : Array Oper} {w0 : World} {O0 F0 : Nat → Prop} {m : Nat} {β0 : Nat → Value}

/-- an operation of which nothing ahead is touched comes first -/
theorem front {x : It} : ∀ {l1 l2 : List It} {E E' : EF} {h h' : HF}, RanL cx ops ((l1 ++ x :: l2).map (·.o)) E h E' h' ((l1 ++ x :: l2).map (·.m)) → (∀ y ∈ l1, indep ops y.m x.m = true) →
    RanL cx ops ((x :: (l1 ++ l2)).map (·.o)) E h E' h' ((x :: (l1 ++ l2)).map (·.m))
  | [], l2, E, E', h, h', hr, _ => hr
  | y :: l1, l2, E, E', h, h', hr, hi => by
    simp only [List.cons_append, List.map_cons] at hr ⊢
    cases hr with
    | cons r1 e1 hrest =>
      have ih := front hrest fun z hz => hi z (List.mem_cons_of_mem _ hz)
      simp only [List.map_cons] at ih
      cases ih with
      | cons r2 e2 hrest2 =>
        obtain ⟨E1', h1', s1, s2⟩ := r1.swap r2 (hi y (List.mem_cons_self ..))
        exact .cons s1 e2 (.cons s2 e1 hrest2)

theorem any_order (hm : m ≤ 1000) (hTT : TTok P cx.TT) (hΓ : EnvOk P cx.Γ) (hedges : ∀ (k : Nat) (o : Oper), ops[k]? = some o → ∀ e ∈ o.after, Region.binds .any e = true → e.on < k) {Q : Exit → Act → World → Prop} {E' : EF} {h' : HF}
    (hQ : ∀ a w F β, Inv w0 O0 F0 w F h' β → Stay m β0 h' β → ER cx E' a w F h' β → Q .normal a w) :
    ∀ (n : Nat) (L : List It) (listed : Array Bool) (E : EF) (h : HF) (a : Act) (w : World) (F : Nat → Prop) (β : Nat → Value), L.length = n → listed.size = ops.size →
      L.Pairwise (fun x y => x.i < y.i ∧ (((befs ops.toList []).getD y.i 0).testBit x.i = true ∨ indep ops x.m y.m = true)) → (∀ x ∈ L, ops[x.i]? = some x.o) →
      RanL cx ops (L.map (·.o)) E h E' h' (L.map (·.m)) → (∀ i, i < ops.size → (listed.getD i true = false ↔ ∃ x ∈ L, x.i = i)) → Down ops listed → Inv w0 O0 F0 w F h β → Stay m β0 h β → ER cx E a w F h β → wpAny P .any ops Q n listed a w := by
  intro n
  induction n with
  | zero =>
    intro L listed E h a w F β hl hsz _ _ hr hlist _ H S R
    have hL : L = [] := List.eq_nil_of_length_eq_zero hl
    subst hL
    have hready : Region.ready .any ops listed = [] := by
      cases hq : Region.ready .any ops listed with
      | nil => rfl
      | cons j js =>
        exfalso
        have hj : j ∈ Region.ready .any ops listed := by rw [hq]; exact List.mem_cons_self ..
        obtain ⟨h1, o, ho, _⟩ := mem_ready.1 hj
        have hlt : j < ops.size := (Array.getElem?_eq_some_iff.1 ho).1
        obtain ⟨x, hx, _⟩ := (hlist j hlt).1 h1
        simp at hx
    simp only [List.map_nil] at hr
    cases hr
    exact ⟨hready, hQ a w F β H S R⟩
  | succ n ih =>
    intro L listed E h a w F β hl hsz hpw hops hr hlist hdown H S R
    have hat : ∀ {i}, i < ops.size → listed.getD i true = listed.getD i false := fun {i} hi => by
      have : i < listed.size := by omega
      simp [this]
    refine ⟨fun h0 => ?_, fun i hi => ?_⟩
    · exfalso
      cases L with
      | nil => simp at hl
      | cons x L =>
        have hox := hops x (List.mem_cons_self ..)
        have hlt : x.i < ops.size := (Array.getElem?_eq_some_iff.1 hox).1
        have : x.i ∈ Region.ready .any ops listed := mem_ready.2 ⟨(hlist x.i hlt).2 ⟨x, List.mem_cons_self .., rfl⟩, x.o, hox, fun e he hb => by
          have h1 := hedges x.i x.o hox e he hb
          have hlt' : e.on < ops.size := by omega
          rw [← hat hlt']
          cases hq : listed.getD e.on true with
          | true => rfl
          | false =>
            exfalso
            obtain ⟨y, hy, hyi⟩ := (hlist e.on hlt').1 hq
            rcases List.mem_cons.1 hy with rfl | hy
            · omega
            · have := (List.pairwise_cons.1 hpw).1 y hy
              omega⟩
        rw [h0] at this
        simp at this
    · obtain ⟨h1, o, ho, hedg⟩ := mem_ready.1 hi
      have hlt : i < ops.size := (Array.getElem?_eq_some_iff.1 ho).1
      obtain ⟨x, hx, hxi⟩ := (hlist i hlt).1 h1
      subst hxi
      have hox := hops x hx
      rw [ho] at hox
      cases hox
      obtain ⟨l1, l2, rfl⟩ := List.append_of_mem hx
      have hind : ∀ y ∈ l1, indep ops y.m x.m = true := fun y hy => by
        have hp := (List.pairwise_append.1 hpw).2.2 y hy x (List.mem_cons_self ..)
        rcases hp.2 with hp | hp
        · exfalso
          have := reach hdown x.i x.o ho hedg hp
          have hylt : y.i < ops.size := by omega
          have hyun := (hlist y.i hylt).2 ⟨y, List.mem_append_left _ hy, rfl⟩
          rw [hat hylt, this] at hyun
          cases hyun
        · exact hp
      have hfr := front hr hind
      simp only [List.map_cons] at hfr
      cases hfr with
      | cons r1 e1 hrest =>
        refine r1.wp hm hTT hΓ ho H S R fun a' w' F' β' H' S' R' => ?_
        refine ih (l1 ++ l2) (listed.setIfInBounds x.i true) _ _ a' w' F' β' (by simp at hl ⊢; omega) (by simpa using hsz) ?_ (fun y hy => hops y ?_) hrest (fun j hj => ?_) ?_ H' S' R'
        · rw [List.pairwise_append] at hpw ⊢
          exact ⟨hpw.1, (List.pairwise_cons.1 hpw.2.1).2, fun y hy z hz => hpw.2.2 y hy z (List.mem_cons_of_mem _ hz)⟩
        · rcases List.mem_append.1 hy with hy | hy
          · exact List.mem_append_left _ hy
          · exact List.mem_append_right _ (List.mem_cons_of_mem _ hy)
        · by_cases e : j = x.i
          · subst e
            have hs : x.i < listed.size := by omega
            constructor
            · intro hf
              simp [hs] at hf
            · rintro ⟨y, hy, hyi⟩
              exfalso
              rw [List.pairwise_append] at hpw
              rcases List.mem_append.1 hy with hy | hy
              · have := (hpw.2.2 y hy x (List.mem_cons_self ..)).1; omega
              · have := ((List.pairwise_cons.1 hpw.2.1).1 y hy).1; omega
          · rw [getD_set_ne true (Ne.symm e), hlist j hj]
            constructor
            · rintro ⟨y, hy, hyi⟩
              refine ⟨y, ?_, hyi⟩
              rcases List.mem_append.1 hy with hy | hy
              · exact List.mem_append_left _ hy
              · rcases List.mem_cons.1 hy with rfl | hy
                · exact absurd hyi.symm e
                · exact List.mem_append_right _ hy
            · rintro ⟨y, hy, hyi⟩
              refine ⟨y, ?_, hyi⟩
              rcases List.mem_append.1 hy with hy | hy
              · exact List.mem_append_left _ hy
              · exact List.mem_append_right _ (List.mem_cons_of_mem _ hy)
        · intro j o' ho' hj e he hb
          by_cases e' : j = x.i
          · subst e'
            rw [ho] at ho'
            cases ho'
            exact getD_set_true (hedg e he hb)
          · rw [getD_set_ne false (Ne.symm e')] at hj
            exact getD_set_true (hdown j o' ho' hj e he hb)

theorem in_order (hm : m ≤ 1000) (hTT : TTok P cx.TT) (hΓ : EnvOk P cx.Γ) {Q : Exit → Act → World → Prop} {E' : EF} {h' : HF} (hQ : ∀ a w F β, Inv w0 O0 F0 w F h' β → Stay m β0 h' β → ER cx E' a w F h' β → Q .normal a w) :
    ∀ (l : List Oper) (k : Nat) (ms : List Marks) (E : EF) (h : HF) (a : Act) (w : World) (F : Nat → Prop) (β : Nat → Value), ops.toList.drop k = l → RanL cx ops l E h E' h' ms → Inv w0 O0 F0 w F h β → Stay m β0 h β → ER cx E a w F h β → wpOps P ops Q (List.range' k l.length) a w
  | [], k, ms, E, h, a, w, F, β, _, hr, H, S, R => by cases hr; exact hQ a w F β H S R
  | o :: l, k, ms, E, h, a, w, F, β, hk, hr, H, S, R => by
    cases hr with
    | cons r1 e1 hrest =>
      have ho : ops[k]? = some o := by
        have := congrArg (·[0]?) hk
        simpa [List.getElem?_drop] using this
      rw [List.length_cons, List.range'_succ, wpOps_cons]
      refine r1.wp hm hTT hΓ ho H S R fun a' w' F' β' H' S' R' => ?_
      exact in_order hm hTT hΓ hQ l (k + 1) _ _ _ a' w' F' β' (by rw [← List.drop_drop, hk]; rfl) hrest H' S' R'

theorem RanL.len {l : List Oper} {E E' : EF} {h h' : HF} {ms : List Marks} (hr : RanL cx ops l E h E' h' ms) : l.length = ms.length := by
  induction hr with
  | nil => rfl
  | cons _ _ _ ih => simp [ih]

/-- A region. -/
theorem region_wp (hm : m ≤ 1000) (hTT : TTok P cx.TT) (hΓ : EnvOk P cx.Γ) (hmix : P.follows .mixedOrders = true) {id : Nat} {draw : Bool} {Q : Exit → Act → World → Prop} {E E' : EF} {h h' : HF} {ms : List Marks} (hr : RanL cx ops ops.toList E h E' h' ms)
    (hdraw : draw = true → edgesOk 0 ops.toList = true ∧ okOrder ops (befs ops.toList []) 0 ms = true) (hQ : ∀ a w F β, Inv w0 O0 F0 w F h' β → Stay m β0 h' β → ER cx E' a w F h' β → Q .normal a w)
    {a : Act} {w : World} {F : Nat → Prop} {β : Nat → Value} (H : Inv w0 O0 F0 w F h β) (S : Stay m β0 h β) (R : ER cx E a w F h β) : (Code.region id ops draw).wp P Q a w := by
  cases draw with
  | false =>
    refine wp_region ?_
    have := in_order hm hTT hΓ hQ ops.toList 0 ms E h a w F β rfl hr H S R
    rwa [Array.length_toList, ← List.range_eq_range'] at this
  | true =>
    obtain ⟨h1, h2⟩ := hdraw rfl
    refine wp_region_any hmix ?_
    obtain ⟨H', P'⟩ := H.same (w' := { w with drawn := w.drawn + 1 }) rfl rfl rfl rfl
    have hlen := hr.len
    let L : List It := (List.range ops.size).map fun i => ⟨i, ops.getD i default, ms.getD i ⟨default, [], []⟩⟩
    have hLo : L.map (·.o) = ops.toList := by
      apply List.ext_getElem?
      intro i
      simp only [L, List.map_map, List.getElem?_map]
      by_cases hi : i < ops.size
      · rw [List.getElem?_range hi]; simp [hi]
      · rw [List.getElem?_eq_none (by simp; omega), List.getElem?_eq_none (by simp; omega)]; rfl
    have hLm : L.map (·.m) = ms := by
      apply List.ext_getElem?
      intro i
      simp only [L, List.map_map, List.getElem?_map]
      by_cases hi : i < ops.size
      · have : i < ms.length := by rw [← hlen]; simpa using hi
        rw [List.getElem?_range hi]; simp [this]
      · rw [List.getElem?_eq_none (by simp; omega), List.getElem?_eq_none (by rw [← hlen]; simp; omega)]; rfl
    refine any_order hm hTT hΓ (fun k o ho e he hb => by have := edgesOk_get h1 k o (by simpa using ho) e he hb; omega) hQ ops.size L (Array.replicate ops.size false) E h a _ F β (by simp [L]) (by simp) ?_ (fun x hx => ?_) (by rw [hLo, hLm]; exact hr) (fun i hi => ?_) (fun j o ho hj => ?_) H' S (R.per P')
    · rw [List.pairwise_map]
      refine List.Pairwise.imp_of_mem ?_ List.pairwise_lt_range
      intro i j hi hj hij
      simp only [List.mem_range] at hi hj
      refine ⟨hij, ?_⟩
      have hmi : i < ms.length := by rw [← hlen]; simpa using hi
      have hmj : j < ms.length := by rw [← hlen]; simpa using hj
      have := okOrder_get h2 i j ms[i] ms[j] hij (List.getElem?_eq_getElem hmi) (List.getElem?_eq_getElem hmj)
      simpa [hmi, hmj] using this
    · simp only [L, List.mem_map, List.mem_range] at hx
      obtain ⟨i, hi, rfl⟩ := hx
      simp [hi]
    · simp only [L, List.mem_map, List.mem_range]
      constructor
      · intro _
        exact ⟨_, ⟨i, hi, rfl⟩, rfl⟩
      · intro _
        simp [hi]
    · exfalso
      simp only [Array.getD_eq_getD_getElem?, Array.getElem?_replicate] at hj
      split at hj <;> simp at hj
end
end Go.Proofs.YthhmpjnmmhfngaaDoor.Ev
