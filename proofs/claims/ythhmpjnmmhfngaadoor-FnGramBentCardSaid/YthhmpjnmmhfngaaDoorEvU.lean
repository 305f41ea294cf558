/-
  A function does what the evaluator tells.
-/
import Derived.Test.YthhmpjnmmhfngaaDoorEvT
namespace Go.Proofs.YthhmpjnmmhfngaaDoor.Ev
open Go

section
variable {P : Program} {TT : Types} {w0 w : World} {O0 F0 F : Nat → Prop} {h : HF} {β : Nat → Value}

theorem nilCell_sound {ti : TI} {c : C} {u : Value} (hc : RepC w F h β c u) : RepC w F h β (nilCell TT ti c) u := by
  unfold nilCell
  split
  · split
    · split
      · have e := hc.1
        split
        · exact ⟨none, 0, by rw [e]; rfl, by simp, by simp [maxLen], .inl rfl⟩
        · exact ⟨none, 0, e, by omega, by simp [maxLen], .inl rfl⟩
      · exact hc
    · exact hc
  · exact hc

theorem nilCells_sound : ∀ {fs : List Field} {cs : List C} {us : List Value}, All2 (RepC w F h β) cs us → All2 (RepC w F h β) (nilCells TT fs cs) us
  | [], cs, us, hc => by unfold nilCells; exact hc
  | f :: fs, [], us, hc => by unfold nilCells; exact hc
  | f :: fs, c :: cs, us, hc => by
    cases hc with
    | cons h1 h2 =>
      unfold nilCells
      refine .cons ?_ (nilCells_sound h2)
      split
      · rename_i ti _
        cases Nat.beq ti.info.size 1
        · exact h1
        · exact nilCell_sound h1
      · exact h1

theorem nils_sound {ty : TypeId} {d : D} {u : Value} (hd : RepD w F h β d u) : RepD w F h β (d.nils TT ty) u := by
  cases d with
  | one c =>
    unfold D.nils
    dsimp only
    split
    · exact nilCell_sound (c := c) hd
    · exact hd
  | agg cs =>
    unfold D.nils
    dsimp only
    split
    · split
      · rename_i fs _
        cases (fs.toList.all fun f => match TT f.type with | some fi => Nat.beq fi.info.size 1 | none => false)
        · exact hd
        · obtain ⟨us, e, hh⟩ := hd
          exact ⟨us, e, nilCells_sound hh⟩
      · exact hd
    · exact hd

theorem nilsAll_sound : ∀ {ts : List TypeId} {ds : List D} {us : List Value}, All2 (RepD w F h β) ds us → All2 (RepD w F h β) (nilsAll TT ts ds) us
  | [], ds, us, hd => by unfold nilsAll; exact hd
  | t :: ts, [], us, hd => by unfold nilsAll; exact hd
  | t :: ts, d :: ds, us, hd => by
    cases hd with
    | cons h1 h2 =>
      unfold nilsAll
      exact .cons (nils_sound h1) (nilsAll_sound h2)

theorem mkRes_sound {ds : List D} {us : List Value} (hd : All2 (RepD w F h β) ds us) (tm : Array Value) : RepX tm w F h β (mkRes ds) (if h : us.toArray.size = 1 then us.toArray[0] else .tuple us.toArray) := by
  cases hd with
  | nil => exact ⟨#[], rfl, .nil⟩
  | cons h1 h2 =>
    cases h2 with
    | nil => exact h1
    | cons h2 h3 =>
      simp only [mkRes]
      rw [dif_neg (by simp)]
      exact ⟨_, rfl, .cons h1 (.cons h2 h3)⟩

/-- What becomes of memory at a function's end. -/
theorem leave {hp : Heap} {m : Nat} {β0 : Nat → Value} (hm : m ≤ 1000) (H : Inv w0 O0 F0 w F (look hp) β) (S : Stay m β0 (look hp) β) {tab : List (Nat × Nat)} (hok : tabOk tab = true)
    (hid : ∀ i j, (i, j) ∈ tab → j < 1000 → i = j) (hcase : ∀ i j, (i, j) ∈ tab → (∃ o, look hp i = some (some o)) ∨ (i = j ∧ j < m))
    (hall : ∀ i o, i < m → look hp i = some (some o) → (i, i) ∈ tab) :
    ∃ βq : Nat → Value, (∀ i q j, look hp i = some q → look tab i = some j → (∃ q', look (keepHeap hp (look tab) tab ++ gone hp m) j = some q') ∧ ∀ o', look (keepHeap hp (look tab) tab ++ gone hp m) j = some (some o') → (∃ o, q = some o) ∧ βq j = β i) ∧
      Inv w0 O0 F0 w F (look (keepHeap hp (look tab) tab ++ gone hp m)) βq ∧ (∀ i, i < m → ∃ q, look (keepHeap hp (look tab) tab ++ gone hp m) i = some q) ∧
      ∀ i o, i < m → look (keepHeap hp (look tab) tab ++ gone hp m) i = some (some o) → βq i = β0 i := by
  obtain ⟨hk, hv⟩ := nodups hok
  have goneN : ∀ {n j : Nat} {q : Option Obj}, look (gone hp n) j = some q → q = none := fun {n j q} hq => by
    have := look_mem hq
    clear hq
    induction n with
    | zero => simp [gone] at this
    | succ n ih =>
      simp only [gone, List.mem_append] at this
      rcases this with h1 | h1
      · split at h1
        · simp at h1
        · simp at h1; exact h1.2
      · exact ih h1
  have goneO : ∀ {n j : Nat}, j < n → (∀ o, look hp j ≠ some (some o)) → ∃ q, look (gone hp n) j = some q := fun {n j} hj hno => by
    induction n with
    | zero => omega
    | succ n ih =>
      simp only [gone, look_append]
      rcases Nat.lt_or_ge j n with h1 | h1
      · obtain ⟨q, hq⟩ := ih h1
        split
        · exact ⟨_, rfl⟩
        · exact ⟨q, hq⟩
      · have : j = n := by omega
        subst this
        split
        · exact ⟨_, rfl⟩
        · rename_i hn
          split at hn
          · rename_i o ho
            exact absurd (live_some.1 ho) (hno o)
          · simp [look] at hn
  have K1 : ∀ j o', look (keepHeap hp (look tab) tab ++ gone hp m) j = some (some o') → ∃ i o, look tab i = some j ∧ look hp i = some (some o) ∧ o' = o.ren (look tab) := fun j o' hj => by
    rw [look_append] at hj
    split at hj
    · rename_i q hq
      cases hj
      obtain ⟨i, o, g1, g2, g3⟩ := keepHeap_mem (look_mem hq)
      exact ⟨i, o, mem_look hk g1, live_some.1 g2, Option.some.inj g3⟩
    · have := goneN hj
      cases this
  have K2 : ∀ i j q, look hp i = some q → look tab i = some j → ∃ q', look (keepHeap hp (look tab) tab ++ gone hp m) j = some q' := fun i j q hi hij => by
    rw [look_append]
    cases hkh : look (keepHeap hp (look tab) tab) j with
    | some q' => exact ⟨q', rfl⟩
    | none =>
      have no : ∀ o, look hp i ≠ some (some o) := fun o ho => by
        obtain ⟨q', hq'⟩ := keepHeap_of (ρ := look tab) (look_mem hij) (live_some.2 ho)
        rw [hkh] at hq'; cases hq'
      rcases hcase i j (look_mem hij) with ⟨o, ho⟩ | ⟨rfl, hlt⟩
      · exact absurd ho (no o)
      · exact goneO hlt no
  obtain ⟨βq, q1, q2, q3⟩ := rename_inv (ρ := look tab) (hq := look (keepHeap hp (look tab) tab ++ gone hp m)) H K1 K2 (fun i i' j => tab_inj hv)
  refine ⟨βq, q2, q3, fun i hi => ?_, fun i o hi ho => ?_⟩
  · by_cases hex : ∃ o, look hp i = some (some o)
    · obtain ⟨o, ho⟩ := hex
      exact K2 i i _ ho (mem_look hk (hall i o hi ho))
    · rw [look_append]
      cases look (keepHeap hp (look tab) tab) i with
      | some q' => exact ⟨q', rfl⟩
      | none => exact goneO hi fun o ho => hex ⟨o, ho⟩
  · obtain ⟨k, o', g1, g2, _⟩ := K1 i o ho
    have := hid k i (look_mem g1) (by omega)
    subst this
    rw [q1 _ _ g1]
    exact S _ o' hi g2

theorem ren_all {ρ : Nat → Option Nat} {h' : HF} {β' : Nat → Value} (hr : ∀ i q j, h i = some q → ρ i = some j → (∃ q', h' j = some q') ∧ ∀ o', h' j = some (some o') → (∃ o, q = some o) ∧ β' j = β i) :
    ∀ {ds : List D} {us : List Value}, All2 (RepD w F h β) ds us → All2 (RepD w F h' β') (ds.map (D.ren ρ)) us := fun hd =>
  All2.map_l.2 (hd.mono fun _ _ => ren_repD hr)
end

section
variable {P : Program} {cx : Cx} {m : Nat} {β0 : Nat → Value} {w0 w : World} {O0 F0 F : Nat → Prop} {β : Nat → Value} {st : St} {a : Act}

theorem liveHH {hp : Heap} : ∀ i ob, live hp i = some ob → look hp i = some (some ob) := fun _ _ e => live_some.1 e

def runRes (tmps : Array Value) : ResultVar → Sem Value
  | .tmp t => pure (tmps.getD t undef)
  | .cell a t => do loadVar t (← asAddr (tmps.getD a undef))

theorem resOf_sound (hTT : TTok P cx.TT) (R : Rel cx m β0 w0 O0 F0 st a w F β) {rv : ResultVar} {d : D} (hd : resOf st rv cx.TT = some d) : ∃ v, (runRes a.tmps rv).run P w = .ok v w ∧ RepD w F (look st.heap) β d v := by
  cases rv with
  | tmp t =>
    simp only [resOf] at hd
    split at hd
    · rename_i x hx
      cases hd
      exact ⟨_, rfl, (R.env.rep t _ hx).2⟩
    · cases hd
  | cell ad ty =>
    simp only [resOf] at hd
    split at hd
    · rename_i c ti hc hti
      simp only [Option.bind_eq_some_iff] at hd
      obtain ⟨cs, hcs, hd⟩ := hd
      have hx := (R.env.rep ad _ hc).2
      obtain ⟨b, off, us, hu, hl, hat, hrc⟩ := cellsAt_sound R.inv liveHH hx hcs
      obtain ⟨v, hv, hr⟩ := load_sound hTT hti hrc hl hat hd
      refine ⟨v, ?_, hr⟩
      simp only [runRes, hu, asAddr, Sem.run_bind, Sem.run_pure, Result.andThen_ok, hv]
    · cases hd

theorem resAll_sound (hTT : TTok P cx.TT) (R : Rel cx m β0 w0 O0 F0 st a w F β) : ∀ {rvs : List ResultVar} {ds : List D}, resAll cx.TT st rvs = some ds →
    ∃ vs, (rvs.mapM (runRes a.tmps)).run P w = .ok vs w ∧ All2 (RepD w F (look st.heap) β) ds vs
  | [], ds, hd => by simp [resAll] at hd; subst hd; exact ⟨[], rfl, .nil⟩
  | rv :: rvs, ds, hd => by
    simp only [resAll] at hd
    split at hd
    · rename_i d ds' h1 h2
      cases hd
      obtain ⟨v, hv, hr⟩ := resOf_sound hTT R h1
      obtain ⟨vs, hvs, hrs⟩ := resAll_sound hTT R h2
      exact ⟨v :: vs, by simp only [List.mapM_cons, Sem.run_bind, hv, hvs, Result.andThen_ok, Sem.run_pure], .cons hr hrs⟩
    · cases hd

theorem toR_all {h : HF} {hh : Nat → Option Obj} (H : Inv w0 O0 F0 w F h β) (hhh : ∀ i ob, hh i = some ob → h i = some (some ob)) {F' : Nat → Prop} (hF : ∀ b, F b → F' b) {l : List Nat}
    (hb : ∀ i ∈ closure hh 3 l, ∀ o b, h i = some (some o) → Blk (β i) b → F' b) (h' : HF) (β' : Nat → Value) : ∀ {ds rs : List D} {us : List Value}, All2 (RepD w F h β) ds us → allSome (ds.map (D.toR hh)) = some rs → (∀ i ∈ ds.flatMap D.refs, i ∈ l) → All2 (RepD w F' h' β') rs us
  | [], rs, us, hd, hr, _ => by cases hd; simp [allSome] at hr; subst hr; exact .nil
  | d :: ds, rs, us, hd, hr, hl => by
    cases hd with
    | cons h1 h2 =>
      simp only [List.map_cons] at hr
      cases hd : d.toR hh with
      | none => rw [hd] at hr; simp [allSome] at hr
      | some d' =>
        rw [hd] at hr
        simp only [allSome, Option.map_eq_some_iff] at hr
        obtain ⟨rs', h3, rfl⟩ := hr
        exact .cons (toR_D H hhh hF hb h1 hd (fun i hi => hl i (by simp only [List.flatMap_cons, List.mem_append]; exact .inl hi)) h' β')
          (toR_all H hhh hF hb h' β' h2 h3 fun i hi => hl i (by simp only [List.flatMap_cons, List.mem_append]; exact .inr hi))

theorem mem_sameIds {m i j : Nat} : (i, j) ∈ sameIds m ↔ i = j ∧ i < m := by
  simp only [sameIds, List.mem_map, List.mem_range, Prod.mk.injEq]
  constructor
  · rintro ⟨k, h1, rfl, rfl⟩; exact ⟨rfl, h1⟩
  · rintro ⟨rfl, h1⟩; exact ⟨i, h1, rfl, rfl⟩

theorem sameIds_ok (m : Nat) : tabOk (sameIds m) = true := by
  simp only [tabOk, Bool.and_eq_true, nodupN_iff, sameIds, List.map_map]
  have : ∀ {f : Nat → Nat}, (∀ i, f i = i) → ((List.range m).map f).Nodup := fun {f} hf => by
    have e : f = id := funext hf
    rw [e, List.map_id]; exact List.nodup_range
  exact ⟨this fun _ => rfl, this fun _ => rfl⟩

theorem refs_all {h : HF} {ds : List D} {us : List Value} (hd : All2 (RepD w F h β) ds us) : ∀ i ∈ ds.flatMap D.refs, ∃ q, h i = some q := by
  induction hd with
  | nil => intro i hi; simp at hi
  | cons h1 _ ih =>
    intro i hi
    simp only [List.flatMap_cons, List.mem_append] at hi
    rcases hi with hi | hi
    · exact RepD.pres h1 i hi
    · exact ih i hi

theorem Per.all {h h' : HF} {β β' : Nat → Value} (Pr : Per w F h β w F h' β') {cs : List C} {us : List Value} (hc : All2 (RepC w F h β) cs us) : All2 (RepC w F h' β') cs us := hc.mono fun _ _ => Pr.repC

theorem ownCell_sound (hm : m ≤ 1000) {ty : TypeId} {c c' : C} {hp hp' : Heap} {k : Nat} (hc : ownCell cx.TT ty c hp k = some (c', hp')) {β : Nat → Value} (H : Inv w0 O0 F0 w F (look hp) β) (S : Stay m β0 (look hp) β) {u : Value} (hr : RepC w F (look hp) β c u) :
    ∃ β', Inv w0 O0 F0 w F (look hp') β' ∧ Stay m β0 (look hp') β' ∧ Per w F (look hp) β w F (look hp') β' ∧ RepC w F (look hp') β' c' u := by
  unfold ownCell at hc
  split at hc
  · split at hc
    · rename_i e _
      split at hc
      · split at hc
        · rename_i t _
          split at hc
          · rename_i hmis
            cases hc
            have hno : look hp (600000 + k) = none := by
              unfold missing at hmis
              split at hmis
              · rename_i hn; exact hn
              · cases hmis
            have hval : u = .slice none 0 0 := hr.1
            have eh : ∀ (q : Option Obj), look ((600000 + k, q) :: hp) = setH (look hp) (600000 + k) q := fun q => by
              funext j
              simp only [look, setH]
              by_cases ej : j = 600000 + k
              · subst ej; simp
              · rw [if_neg ej]
                cases hb : Nat.beq (600000 + k) j
                · rfl
                · exact absurd (Nat.eq_of_beq_eq_true hb).symm ej
            have T := H.turn (w' := w) (F' := F) (600000 + k) (some (.lis e t [])) (.slice none 0 0) rfl rfl rfl (Nat.le_refl _) (fun _ => False) (fun _ h => h.elim) (fun _ _ _ => rfl) (fun _ h => h) (fun _ h => .inl h)
              (fun q0 _ h0 => by rw [hno] at h0; cases h0) (fun _ ob hob => by cases hob; exact ⟨.inl ⟨none, by simp [setB], rfl⟩, fun b hb => by simp [blk] at hb⟩)
            refine ⟨setB β (600000 + k) (.slice none 0 0), by rw [eh]; exact T.1, fun i o hi ho => ?_, by rw [eh]; exact T.2, ?_⟩
            · rw [eh] at ho
              have hne : i ≠ 600000 + k := by omega
              simp only [setH, if_neg hne] at ho
              simp only [setB, if_neg hne]
              exact S i o hi ho
            · rw [eh, hval]
              exact ⟨rfl, ⟨_, by simp [setH]; rfl⟩, fun ob _ => by simp [setB]⟩
          · cases hc
        · cases hc
      · cases hc
    · cases hc
  · cases hc

theorem ownCells_sound (hm : m ≤ 1000) : ∀ {ts : List TypeId} {cs : List C} {hp : Heap} {k : Nat} {β : Nat → Value}, Inv w0 O0 F0 w F (look hp) β → Stay m β0 (look hp) β → ∀ {us : List Value}, All2 (RepC w F (look hp) β) cs us →
    ∃ β', Inv w0 O0 F0 w F (look (ownCells cx.TT ts cs hp k).2) β' ∧ Stay m β0 (look (ownCells cx.TT ts cs hp k).2) β' ∧ Per w F (look hp) β w F (look (ownCells cx.TT ts cs hp k).2) β' ∧ All2 (RepC w F (look (ownCells cx.TT ts cs hp k).2) β') (ownCells cx.TT ts cs hp k).1 us
  | [], cs, hp, k, β, H, S, us, hc => by unfold ownCells; exact ⟨β, H, S, Per.refl _ _ _ _, hc⟩
  | t :: ts, [], hp, k, β, H, S, us, hc => by unfold ownCells; exact ⟨β, H, S, Per.refl _ _ _ _, hc⟩
  | t :: ts, c :: cs, hp, k, β, H, S, us, hc => by
    cases hc with
    | cons h1 h2 =>
      simp only [ownCells]
      split
      · rename_i c' hp' ho
        obtain ⟨β1, H1, S1, P1, r1⟩ := ownCell_sound hm ho H S h1
        obtain ⟨β2, H2, S2, P2, r2⟩ := ownCells_sound hm (ts := ts) (k := k + 1) H1 S1 (P1.all h2)
        exact ⟨β2, H2, S2, P1.trans P2, .cons (P2.repC r1) r2⟩
      · obtain ⟨β2, H2, S2, P2, r2⟩ := ownCells_sound hm (ts := ts) (k := k + 1) H S h2
        exact ⟨β2, H2, S2, P2, .cons (P2.repC h1) r2⟩

theorem ownRes_sound (hm : m ≤ 1000) : ∀ {ts : List TypeId} {ds : List D} {hp : Heap} {k : Nat} {β : Nat → Value}, Inv w0 O0 F0 w F (look hp) β → Stay m β0 (look hp) β → ∀ {us : List Value}, All2 (RepD w F (look hp) β) ds us →
    ∃ β', Inv w0 O0 F0 w F (look (ownRes cx.TT ts ds hp k).2) β' ∧ Stay m β0 (look (ownRes cx.TT ts ds hp k).2) β' ∧ Per w F (look hp) β w F (look (ownRes cx.TT ts ds hp k).2) β' ∧ All2 (RepD w F (look (ownRes cx.TT ts ds hp k).2) β') (ownRes cx.TT ts ds hp k).1 us
  | [], ds, hp, k, β, H, S, us, hc => by unfold ownRes; exact ⟨β, H, S, Per.refl _ _ _ _, hc⟩
  | t :: ts, [], hp, k, β, H, S, us, hc => by unfold ownRes; exact ⟨β, H, S, Per.refl _ _ _ _, hc⟩
  | t :: ts, .one c :: ds, hp, k, β, H, S, us, hc => by
    cases hc with
    | cons h1 h2 =>
      obtain ⟨β1, H1, S1, P1, r1⟩ := ownCells_sound hm (cx := cx) (ts := cellTys cx.TT t) (cs := [c]) (k := k * 64) H S (.cons h1 .nil)
      simp only [ownRes]
      split
      · rename_i c' hp' ho
        rw [ho] at H1 S1 P1 r1
        cases r1 with
        | cons r1 _ =>
          obtain ⟨β2, H2, S2, P2, r2⟩ := ownRes_sound hm (ts := ts) (k := k + 1) H1 S1 (h2.mono fun _ _ => P1.repD)
          exact ⟨β2, H2, S2, P1.trans P2, .cons (P2.repD (d := .one c') r1) r2⟩
      · exact ⟨β, H, S, Per.refl _ _ _ _, .cons h1 h2⟩
  | t :: ts, .agg cs :: ds, hp, k, β, H, S, us, hc => by
    cases hc with
    | @cons _ u _ _ h1 h2 =>
      obtain ⟨us1, e1, h1⟩ := h1
      obtain ⟨β1, H1, S1, P1, r1⟩ := ownCells_sound hm (cx := cx) (ts := cellTys cx.TT t) (cs := cs) (k := k * 64) H S h1
      simp only [ownRes]
      obtain ⟨β2, H2, S2, P2, r2⟩ := ownRes_sound hm (ts := ts) (k := k + 1) H1 S1 (h2.mono fun _ _ => P1.repD)
      exact ⟨β2, H2, S2, P1.trans P2, .cons (P2.repD (d := .agg _) ⟨us1, e1, r1⟩) r2⟩

theorem fin_sound (hm : m ≤ 1000) (hTT : TTok P cx.TT) (R : Rel cx m β0 w0 O0 F0 st a w F β) {fn : Func} {ro : Bool} {x : T} {objs : Heap} (hf : fin cx.TT fn ro m st = some (x, objs)) :
    ∃ v F' β', (results fn a.tmps).run P w = .ok v w ∧ Inv w0 O0 F0 w F' (look objs) β' ∧ (∀ i, i < m → ∃ q, look objs i = some q) ∧ (∀ i o, i < m → look objs i = some (some o) → β' i = β0 i) ∧
      RepX #[] w F' (look objs) β' x v ∧ ∀ s b d, x ≠ .when s b d := by
  unfold fin at hf
  split at hf
  · cases hf
  · rename_i ds hds
    obtain ⟨vs, hvs, hr⟩ := resAll_sound hTT R hds
    have hres : (results fn a.tmps).run P w = .ok (if h : vs.toArray.size = 1 then vs.toArray[0] else .tuple vs.toArray) w := by
      have e : (fn.results.mapM (runRes a.tmps)).run P w = .ok vs.toArray w := by
        rw [Array.mapM_eq_mapM_toList]
        simp only [Sem.run_map, hvs, Result.andThen_ok]
      have e2 : results fn a.tmps = (do let vs ← fn.results.mapM (runRes a.tmps); pure (if h : vs.size = 1 then vs[0] else .tuple vs)) := by
        unfold results
        congr 1
      rw [e2]
      simp only [Sem.run_bind, e, Result.andThen_ok, Sem.run_pure]
    have mkw : ∀ l : List D, ∀ s b d, mkRes l ≠ .when s b d := fun l s b d e => by
      unfold mkRes at e
      split at e <;> cases e
    split at hf
    · split at hf
      · rename_i rs hrs
        cases hf
        obtain ⟨F', H', Pr, hb⟩ := R.inv.freezes (closure (live st.heap) 3 (addNew [] (ds.flatMap D.refs))) (closure_pres R.inv liveHH 3 _ fun i hi => by
          rcases mem_addNew.1 hi with hi | hi
          · simp at hi
          · exact refs_all hr i hi)
        rw [← look_upd] at H' Pr
        have S' : Stay m β0 (look (dropIds (closure (live st.heap) 3 (addNew [] (ds.flatMap D.refs))) ++ st.heap)) β := fun i o hi ho => by
          rw [look_upd] at ho
          simp only [upd, look_dropIds] at ho
          split at ho
          · rename_i q hq
            split at hq
            · cases hq; cases ho
            · cases hq
          · exact R.stay i o hi ho
        obtain ⟨βq, q1, q2, q3, q4⟩ := leave hm H' S' (sameIds_ok m) (fun i j hij _ => (mem_sameIds.1 hij).1) (fun i j hij => by
          obtain ⟨e, h2⟩ := mem_sameIds.1 hij
          exact .inr ⟨e, by omega⟩) (fun i o hi _ => mem_sameIds.2 ⟨rfl, hi⟩)
        refine ⟨_, F', βq, hres, q2, q3, q4, ?_, mkw _⟩
        exact mkRes_sound (nilsAll_sound (toR_all R.inv liveHH Pr.sub hb _ _ hr hrs fun i hi => mem_addNew.2 (.inr hi))) _
      · cases hf
    · dsimp only at hf
      split at hf
      · rename_i hok
        cases hf
        obtain ⟨β1, H1, S1, _, hr1⟩ := ownRes_sound hm (cx := cx) (ts := fn.resultTypes.toList) (k := 0) R.inv R.stay hr
        obtain ⟨βq, q1, q2, q3, q4⟩ := leave hm H1 S1 hok (fun i j hij hj => ((backIds_mem hij).2.2 hj)) (fun i j hij => .inl (liveOnly_mem (backIds_mem hij).1))
          (fun i o hi ho => backIds_of (liveOnly_of (closure_self _ _ _ _ (mem_addNew.2 (.inr (List.mem_append_right _ (List.mem_range.2 hi))))) ho) (by omega))
        refine ⟨_, F, βq, hres, q2, q3, q4, ?_, mkw _⟩
        exact mkRes_sound (nilsAll_sound (ren_all q1 hr1)) _
      · cases hf

theorem look_startEnv : ∀ {ds : List D} {k t : Nat} {x : T}, look (startEnv k ds) t = some x → ∃ d, k ≤ t ∧ ds[t - k]? = some d ∧ x = .d d
  | [], k, t, x, hx => by simp [startEnv, look] at hx
  | d :: ds, k, t, x, hx => by
    simp only [startEnv, look] at hx
    cases hb : Nat.beq k t
    · rw [hb] at hx
      obtain ⟨d', h1, h2, h3⟩ := look_startEnv hx
      refine ⟨d', by omega, ?_, h3⟩
      rw [show t - k = (t - (k + 1)) + 1 by omega]
      simpa using h2
    · rw [hb] at hx
      have e := Nat.eq_of_beq_eq_true hb
      subst e
      simp only [cond_true, Option.some.injEq] at hx
      exact ⟨d, Nat.le_refl _, by simp, hx.symm⟩

/-- ████ A FUNCTION DOES WHAT THE EVALUATOR TELLS. ████ -/
theorem fn_sound {f : FuncId} {fn : Func} (hf : P.funcs[f]? = some fn) (hsz : fn.ntmps = cx.size) (hTT : TTok P cx.TT) (hΓ : EnvOk P cx.Γ) (hmix : P.follows .mixedOrders = true) (hL : ∀ c, fn.body = some c → LoopsOk cx c)
    {ro : Bool} {ds : List D} {os : List Obj} {x : T} {objs : Heap} (he : evFn cx fn ro ds os = some (x, objs)) : Sat P f ds os x objs := by
  unfold evFn at he
  split at he
  · rename_i c hc
    split at he
    · rename_i hle
      simp only [Bool.and_eq_true, Nat.ble_eq] at hle
      obtain ⟨hle1, hle2⟩ := hle
      intro w F β args H hds
      refine calls_of_wp hf hc ?_
      have hlen := hds.len
      have hRel : Rel cx os.length β w (Own (hOf os) β) F ⟨startEnv 0 ds, startHeap 0 os⟩ { tmps := args.toArray ++ Array.replicate (fn.ntmps - args.toArray.size) undef, defers := [] } w F β := by
        refine ⟨H, ⟨by simp; omega, rfl, fun t y hy => ?_⟩, fun t s b d hy => ?_, fun i o _ _ => rfl⟩
        · obtain ⟨d, _, h2, rfl⟩ := look_startEnv hy
          obtain ⟨v, hv, hr⟩ := hds.get h2
          have hlt : t < ds.length := by
            rcases Nat.lt_or_ge t ds.length with h1 | h1
            · exact h1
            · rw [Nat.sub_zero, List.getElem?_eq_none h1] at h2; cases h2
          refine ⟨by omega, ?_⟩
          have : (args.toArray ++ Array.replicate (fn.ntmps - args.toArray.size) undef).getD t undef = v := by
            rw [Nat.sub_zero] at hv
            rw [Array.getD_eq_getD_getElem?, Array.getElem?_append_left (by simp; omega)]
            simp [hv]
          rw [this]
          exact hr
        · obtain ⟨d', _, _, e⟩ := look_startEnv hy
          cases e
      refine wp_mono (evC_sound hle2 hTT hΓ hmix c (hL c hc) _ _ _ _ _ _ _ he hRel) ?_
      intro e a' w' hpost
      have hfin : ∀ st F' β', Rel cx os.length β w (Own (hOf os) β) F st a' w' F' β' → fin cx.TT fn ro os.length st = some (x, objs) →
          a'.defers = [] ∧ ∃ v, (results fn a'.tmps).run P w' = .ok v w' ∧ ∃ v' F' β', Ending.returned v = .returned v' ∧ Inv w (Own (hOf os) β) F w' F' (look objs) β' ∧
            (∀ i, i < os.length → ∃ q, look objs i = some q) ∧ (∀ i o, i < os.length → look objs i = some (some o) → β' i = β i) ∧ (∀ s b d, x ≠ .when s b d) ∧ RepX #[] w' F' (look objs) β' x v' := by
        intro st F' β' R' hf'
        obtain ⟨v, F2, β2, g1, g2, g3, g4, g5, g6⟩ := fin_sound hle2 hTT R' hf'
        exact ⟨R'.env.defers, v, g1, v, F2, β2, rfl, g2, g3, g4, g6, g5⟩
      cases e with
      | normal => obtain ⟨st, F', β', R', h2⟩ := hpost; exact hfin st F' β' R' h2
      | exit i => obtain ⟨st, F', β', R', h2⟩ := hpost; cases h2
      | ret => obtain ⟨st, F', β', R', h2⟩ := hpost; exact hfin st F' β' R' h2
      | goto l => exact hpost.elim
      | panic c => exact hpost.elim
      | outgrown => exact hpost.elim
    · cases he
  · cases he
end
end Go.Proofs.YthhmpjnmmhfngaaDoor.Ev
