/-
  Code does what the evaluator tells.
-/
import Derived.Test.YthhmpjnmmhfngaaDoorEvS
namespace Go.Proofs.YthhmpjnmmhfngaaDoor.Ev
open Go

/-- what is told of the loops of a text -/
def LoopsOk (cx : Cx) (c : Code) : Prop := ∀ id b g, (id, b) ∈ loopsOf c → cx.loops id = some g → ∀ st K r, g st K = some r → ∃ N, iter (evC cx b) (headAt cx id) N st K = some r

section
variable {P : Program} {cx : Cx} {m : Nat} {β0 : Nat → Value} {w0 : World} {O0 F0 : Nat → Prop}

/-- what a piece of code leaves, by the way that it is left -/
def PostK (cx : Cx) (m : Nat) (β0 : Nat → Value) (w0 : World) (O0 F0 : Nat → Prop) (K : Cont) (r : Fin) : Exit → Act → World → Prop
  | .normal, a, w => ∃ st F β, Rel cx m β0 w0 O0 F0 st a w F β ∧ K .normal st = some r
  | .exit i, a, w => ∃ st F β, Rel cx m β0 w0 O0 F0 st a w F β ∧ K (.exit i) st = some r
  | .ret, a, w => ∃ st F β, Rel cx m β0 w0 O0 F0 st a w F β ∧ K .ret st = some r
  | _, _, _ => False

theorem PostK.seq {K K' : Cont} {r : Fin} {next : Act → World → Prop} (hn : ∀ st F β a w, Rel cx m β0 w0 O0 F0 st a w F β → K' .normal st = some r → next a w)
    (hK : ∀ e st, e ≠ .normal → K' e st = K e st) : ∀ e a w, PostK cx m β0 w0 O0 F0 K' r e a w → Exit.then next (PostK cx m β0 w0 O0 F0 K r) e a w := by
  intro e a w h
  cases e with
  | normal => obtain ⟨st, F, β, h1, h2⟩ := h; exact hn st F β a w h1 h2
  | exit i => obtain ⟨st, F, β, h1, h2⟩ := h; exact ⟨st, F, β, h1, by rw [← hK _ _ (by simp)]; exact h2⟩
  | ret => obtain ⟨st, F, β, h1, h2⟩ := h; exact ⟨st, F, β, h1, by rw [← hK _ _ (by simp)]; exact h2⟩
  | goto l => exact h.elim
  | panic c => exact h.elim
  | outgrown => exact h.elim

theorem region_sound (hm : m ≤ 1000) (hTT : TTok P cx.TT) (hΓ : EnvOk P cx.Γ) (hmix : P.follows .mixedOrders = true) {id : Nat} {ops : Array Oper} {draw : Bool} {st : St} {K : St → Option Fin} {r : Fin} (he : region cx id ops draw st K = some r)
    {a : Act} {w : World} {F : Nat → Prop} {β : Nat → Value} (R : Rel cx m β0 w0 O0 F0 st a w F β) {Q : Exit → Act → World → Prop} (hQ : ∀ st' a' w' F' β', Rel cx m β0 w0 O0 F0 st' a' w' F' β' → K st' = some r → Q .normal a' w') : (Code.region id ops draw).wp P Q a w := by
  have tailS : ∀ {ms : List Marks} {x : Option Fin}, region.tail ops draw ms x = some r → (draw = true → edgesOk 0 ops.toList = true ∧ okOrder ops (befs ops.toList []) 0 ms = true) ∧ x = some r := fun {ms x} h => by
    unfold region.tail at h
    split at h
    · exact ⟨fun e => (by cases e), h⟩
    · split at h
      · rename_i hck
        simp only [Bool.and_eq_true] at hck
        exact ⟨fun _ => hck, h⟩
      · cases h
  have gnone : ∀ {l : List Oper}, guarded l = false → ∀ o ∈ l, o.guard = none := by
    intro l
    induction l with
    | nil => intro _ o ho; simp at ho
    | cons o' l ih =>
      intro hg o ho
      simp only [guarded] at hg
      split at hg
      · cases hg
      · rename_i hn
        rcases List.mem_cons.1 ho with rfl | ho
        · exact hn
        · exact ih hg o ho
  unfold region at he
  split at he
  · rename_i hg
    obtain ⟨st', ms, h1, h2, h3⟩ := steps_some he (fun _ => R.clean) (fun _ => gnone hg)
    obtain ⟨g1, g2⟩ := tailS h2
    exact region_wp hm hTT hΓ hmix h1 g1 (fun a' w' F' β' H' S' R' => hQ st' a' w' F' β' ⟨H', R', h3 rfl, S'⟩ g2) R.inv R.stay R.env
  · obtain ⟨st', ms, h1, h2, _⟩ := steps_some he (fun e => by cases e) (fun e => by cases e)
    obtain ⟨g1, g2⟩ := tailS h2
    refine region_wp hm hTT hΓ hmix h1 g1 (fun a' w' F' β' H' S' R' => hQ ⟨dropWhen st'.env, st'.heap⟩ a' w' F' β' ⟨H', ⟨R'.size, R'.defers, fun t x hx => ?_⟩, fun t s b d hx => ?_, S'⟩ g2) R.inv R.stay R.env
    · rcases dropWhen_look hx with rfl | ⟨hx, _⟩
      · have : ∃ y, look st'.env t = some y := by
          have : ∀ {env : List (Nat × T)}, look (dropWhen env) t = some .unk → ∃ y, look env t = some y := by
            intro env
            induction env with
            | nil => intro h; simp [dropWhen, look] at h
            | cons p l ih =>
              obtain ⟨k, y⟩ := p
              intro h
              simp only [look]
              cases hb : Nat.beq k t
              · refine ih ?_
                cases y <;> simpa [dropWhen, look, hb] using h
              · exact ⟨y, rfl⟩
          exact this hx
        obtain ⟨y, hy⟩ := this
        exact ⟨(R'.rep t y hy).1, trivial⟩
      · exact R'.rep t x hx
    · rcases dropWhen_look hx with e | ⟨_, hx⟩
      · cases e
      · exact hx s b d rfl

theorem evC_sound (hm : m ≤ 1000) (hTT : TTok P cx.TT) (hΓ : EnvOk P cx.Γ) (hmix : P.follows .mixedOrders = true) (c : Code) : LoopsOk cx c → ∀ (st : St) (K : Cont) (r : Fin) (a : Act) (w : World) (F : Nat → Prop) (β : Nat → Value),
    evC cx c st K = some r → Rel cx m β0 w0 O0 F0 st a w F β → c.wp P (PostK cx m β0 w0 O0 F0 K r) a w := by
  induction c with
  | skip => intro _ st K r a w F β he R; exact wp_skip ⟨st, F, β, R, he⟩
  | region id ops draw => intro _ st K r a w F β he R; exact region_sound hm hTT hΓ hmix he R fun st' a' w' F' β' R' h => ⟨st', F', β', R', h⟩
  | seq x y ihx ihy =>
    intro hL st K r a w F β he R
    have hLx : LoopsOk cx x := fun id b g hm => hL id b g (List.mem_append_left _ hm)
    have hLy : LoopsOk cx y := fun id b g hm => hL id b g (List.mem_append_right _ hm)
    refine wp_seq (wp_mono (ihx hLx st _ r a w F β he R) ?_)
    refine PostK.seq (fun st' F' β' a' w' R' h => ihy hLy st' K r a' w' F' β' h R') fun e st' hne => ?_
    cases e <;> first | rfl | exact absurd rfl hne
  | cond x y z ihy ihz =>
    intro hL st K r a w F β he R
    have hLy : LoopsOk cx y := fun id b g hm => hL id b g (List.mem_append_left _ hm)
    have hLz : LoopsOk cx z := fun id b g hm => hL id b g (List.mem_append_right _ hm)
    simp only [evC] at he
    split at he
    · rename_i n hn
      simp only [Option.bind_eq_some_iff] at hn
      obtain ⟨v, hv, hb⟩ := hn
      rw [evOpd_eq] at hv
      have hr := evOpd_sound R.env hv
      have e : v = .nilq n := by
        unfold nilD at hb
        split at hb
        · cases hb; rfl
        · cases hb
      subst e
      obtain ⟨t, ht, hz⟩ := hr
      refine wp_cond ht ?_
      cases hq : Nat.blt 0 n
      · rw [hq] at he
        replace he : both (evC cx y st K) (evC cx z st K) = some r := he
        unfold both at he
        split at he
        · rename_i hyz
          cases t
          · exact ihz hLz st K r a w F β (by rw [← hyz]; exact he) R
          · exact ihy hLy st K r a w F β he R
        · cases he
      · rw [hq] at he
        have := hz (by simpa using hq)
        subst this
        exact ihz hLz st K r a w F β he R
    split at he
    · rename_i t ht
      simp only [Option.bind_eq_some_iff] at ht
      obtain ⟨v, hv, hb⟩ := ht
      rw [evOpd_eq] at hv
      have hr := evOpd_sound R.env hv
      have hval : a.eval x = .bool t := by
        unfold boolD at hb
        split at hb
        · cases hb; exact hr.1
        · cases hb
      refine wp_cond hval ?_
      unfold branch at he
      cases t
      · exact ihz hLz st K r a w F β he R
      · exact ihy hLy st K r a w F β he R
    · cases he
  | block id c ih =>
    intro hL st K r a w F β he R
    refine wp_block (wp_mono (ih hL st _ r a w F β he R) ?_)
    intro e a' w' h
    cases e with
    | normal => obtain ⟨st', F', β', h1, h2⟩ := h; exact ⟨st', F', β', h1, h2⟩
    | exit i =>
      obtain ⟨st', F', β', h1, h2⟩ := h
      simp only [Exit.inBlock]
      cases hb : Nat.beq i id
      · have : i ≠ id := fun e => by subst e; simp at hb
        simp only [hb, cond_false] at h2
        rw [if_neg this]
        exact ⟨st', F', β', h1, h2⟩
      · have := Nat.eq_of_beq_eq_true hb
        simp only [hb, cond_true] at h2
        rw [if_pos this]
        exact ⟨st', F', β', h1, h2⟩
    | ret => obtain ⟨st', F', β', h1, h2⟩ := h; exact ⟨st', F', β', h1, h2⟩
    | goto l => exact h.elim
    | panic c => exact h.elim
    | outgrown => exact h.elim
  | loop c ih =>
    intro hL st K r a w F β he R
    have hLc : LoopsOk cx c := fun id b g hm => hL id b g (List.mem_cons_of_mem _ hm)
    simp only [evC] at he
    split at he
    · rename_i g hg
      obtain ⟨N, hN⟩ := hL _ c g (List.mem_cons_self ..) hg _ K r he
      obtain ⟨β1, R1⟩ := headAt_rel hm R ((firstRegion c).getD 0)
      refine wp_loop_rounds N ?_
      have key : ∀ (N : Nat) (st : St) (a : Act) (w : World) (F : Nat → Prop) (β : Nat → Value), iter (evC cx c) (headAt cx ((firstRegion c).getD 0)) N st K = some r → Rel cx m β0 w0 O0 F0 st a w F β →
          Code.rounds P c (PostK cx m β0 w0 O0 F0 K r) N a w := by
        intro N
        induction N with
        | zero => intro st a w F β h _; cases h
        | succ N ihN =>
          intro st a w F β h R
          simp only [iter] at h
          refine wp_mono (ih hLc st _ r a w F β h R) ?_
          refine PostK.seq (fun st' F' β' a' w' R' h => ?_) fun e st' hne => ?_
          · obtain ⟨β2, R2⟩ := headAt_rel hm R' ((firstRegion c).getD 0)
            exact ihN _ a' w' F' β2 h R2
          · cases e <;> first | rfl | exact absurd rfl hne
      exact key N _ a w F β1 hN R1
    · cases he
  | exit id =>
    intro _ st K r a w F β he R
    obtain ⟨β1, R1⟩ := pruneAt_rel hm R cx.ends id
    exact wp_exit ⟨_, F, β1, R1, he⟩
  | ret =>
    intro _ st K r a w F β he R
    obtain ⟨β1, R1⟩ := pruneAt_rel hm R cx.ends 1000000
    exact wp_ret ⟨_, F, β1, R1, he⟩
  | rangeFunc f ps x y _ _ => intro _ st K r a w F β he; cases he
  | scope c _ => intro _ st K r a w F β he; cases he
  | label l => intro _ st K r a w F β he; cases he
  | goto l => intro _ st K r a w F β he; cases he
  | refuse s => intro _ st K r a w F β he; cases he
end
end Go.Proofs.YthhmpjnmmhfngaaDoor.Ev
