/-
  All operations together.
-/
import Derived.Test.YthhmpjnmmhfngaaDoorEvM
namespace Go.Proofs.YthhmpjnmmhfngaaDoor.Ev
open Go

section
variable {P : Program} {TT : Types} {w0 w : World} {O0 F0 F : Nat → Prop} {h : HF} {β : Nat → Value} {a : Act} {o : Oper} {K : Act → World → Prop} {Q : Exit → Act → World → Prop} {x : T} {v : Value}

theorem isThere_ptr {hh : Nat → Option Obj} (hhh : ∀ i ob, hh i = some ob → h i = some (some ob)) {c : C} {u : Value} (hi : isThere hh c = true) (hc : RepC w F h β c u) :
    (∃ b off, u = .pointer (some ⟨b, off, none⟩)) ∨ ∃ f, c = .fn f [] ∧ u = .func (.func f) #[] #[] := by
  unfold isThere at hi
  split at hi
  · split at hi
    · rename_i hb
      obtain ⟨b, _, e⟩ := hc.2.2 _ (hhh _ _ hb)
      exact .inl ⟨b, _, e⟩
    · cases hi
  · split at hi
    · rename_i hb
      obtain ⟨b, n, cap, _, _, e⟩ := hc.2.2 _ (hhh _ _ hb)
      exact .inl ⟨b, _, e⟩
    · cases hi
  · obtain ⟨b, off, e, _⟩ := hc
    exact .inl ⟨b, off, e⟩
  · obtain ⟨b, off, e, _⟩ := hc
    exact .inl ⟨b, off, by simpa using e⟩
  · exact .inr ⟨_, rfl, by simpa using hc.2.2 (fun i hi => by simp at hi)⟩
  · cases hi

theorem pickOpt_sound {fl : Option Operand} {xs xs' : List T} {n : Option Int} {us : List Value} (hp : pickOpt fl xs = some (n, xs')) (hx : All2 (RepX a.tmps w F h β) xs ((fl.toList.map a.eval) ++ us)) :
    OptInt (fl.map a.eval) n ∧ All2 (RepX a.tmps w F h β) xs' us := by
  unfold pickOpt at hp
  split at hp
  · cases hp; exact ⟨trivial, hx⟩
  · simp only [Option.map_eq_some_iff] at hp
    obtain ⟨m, h1, h2⟩ := hp
    cases h2
    cases hx with
    | cons g1 g2 =>
      obtain ⟨k, hk⟩ := intD_sound h1 g1
      refine ⟨?_, g2⟩
      unfold intD at h1
      split at h1
      · cases h1
        obtain ⟨e, _⟩ := g1
        simp only [Option.map_some, OptInt, e]
      · cases h1
  · cases hp

theorem intD_val0 {tm : Array Value} {y : T} {n : Int} {u : Value} (hn : intD y = some n) (hy : RepX tm w F h β y u) : ∃ k, u = .int k n := intD_sound hn hy

theorem new_of {t k : Nat} {ups : Ups} {q : Option Obj} (hnew : ∀ j q, (j, q) ∈ ups → isNew t j = true → h j = none) (hk : k < 64) (hm : (sid t k, q) ∈ ups) : h (sid t k) = none := hnew _ q hm (sid_new t k hk)

theorem ownAt_some {h : Nat → Option Obj} {e : TypeId} {lo : Option Int} {c : C} {i : Nat} (he : ownAt h e lo c = some i) : lo = none ∧ c = .own i ∧ ∃ sz n get, h i = some (.arr e sz n get) := by
  unfold ownAt at he
  split at he
  · split at he
    · rename_i hi
      split at he
      · rename_i hb
        cases he
        have hb := Nat.eq_of_beq_eq_true hb
        subst hb
        exact ⟨rfl, rfl, _, _, _, hi⟩
      · cases he
    · cases he
  · cases he

/-- a slice of the call's own, cut at its far end, is the call's own still -/
theorem op_slice_own (H : Inv w0 O0 F0 w F h β) (ht : TTok P TT) {ty e : TypeId} {ti ei : TI} {X : Operand} {hi : Option Operand} (ho : o.op = .slice ty X none hi none)
    (hti : TT ty = some ti) (hd : ti.desc = .slice e) (hei : TT e = some ei) {i n : Nat} {get : Nat → Nat → R} (hi0 : h i = some (some (.arr e ei.info.size n get))) (hx : RepC w F h β (.own i) (a.eval X)) {hi' : Option Int}
    (hh' : OptInt (hi.map a.eval) hi') (hr : inr 0 (hi'.getD (n : Int)) n = true) {s : Nat} (hs0 : h s = none) (g : Nat → Nat → R) (hg : ∀ k, k < (hi'.getD (n : Int)).toNat → g k = get k)
    (hK : ∀ v w', Out w0 O0 F0 w F h β a.tmps [(i, none), (s, some (.arr e ei.info.size (hi'.getD (n : Int)).toNat g))] (.d (.one (.own s))) v w' → K (a.put o.dst v) w') : o.wp P a w K Q := by
  have hxv := hx.2.2 _ hi0
  obtain ⟨H1, P1⟩ := H.kill i
  rw [setB_self] at H1 P1
  have hs1 : setH h i none s = none := by
    simp only [setH]; split
    · rename_i e; subst e; rw [hs0] at hi0; cases hi0
    · exact hs0
  obtain ⟨h0, h1, h2⟩ := inr_iff.1 hr
  have main : ∀ (ad : Option Addr) (cap : Nat), β i = .slice ad n cap → n ≤ cap →
      (∀ b β', β' s = sliced ad 0 (hi'.getD (n : Int)).toNat cap ei.info.size → RepO w F (setH (setH h i none) s b) β' s (.arr e ei.info.size (hi'.getD (n : Int)).toNat g)) →
      (∀ b, blk (sliced ad 0 (hi'.getD (n : Int)).toNat cap ei.info.size) = some b → Blk (β i) b) → o.wp P a w K Q := by
    intro ad cap hb hnc hrep hblk
    have T := H1.turn (w' := w) (F' := F) s (some (.arr e ei.info.size (hi'.getD (n : Int)).toNat g)) (sliced ad 0 (hi'.getD (n : Int)).toNat cap ei.info.size) rfl rfl rfl (Nat.le_refl _) (fun b => Blk (β i) b)
      (fun b hb => ⟨H.notF i _ b hi0 hb, fun j o' _ hj hb' => by
        simp only [setH] at hj
        split at hj
        · cases hj
        · rename_i hne; exact hne (H.apart j i o' _ b hj hi0 hb' hb), H.fromO i _ b hi0 hb⟩)
      (fun _ _ _ => rfl) (fun _ hf => hf) (fun _ hf => .inl hf) (fun q0 _ h0 => by rw [hs1] at h0; cases h0)
      (fun _ ob hob => by
        cases hob
        exact ⟨hrep _ _ (by simp [setB]), fun b hb => .inl (hblk b (Blk_slice.1 hb))⟩)
    have hcomm : upd [(i, none), (s, some (.arr e ei.info.size (hi'.getD (n : Int)).toNat g))] h = setH (setH h i none) s (some (.arr e ei.info.size (hi'.getD (n : Int)).toNat g)) := by
      rw [upd_cons, upd_cons, upd_nil]
      exact setH_comm h (fun e => by subst e; rw [hs0] at hi0; cases hi0) _ _
    refine wp_val (v := sliced ad 0 (hi'.getD (n : Int)).toNat cap ei.info.size) (w' := w) ?_ (hK _ _ ⟨F, _, by rw [hcomm]; exact T.1, by rw [hcomm]; exact P1.trans T.2, ?_⟩)
    · have := run_slice_sl (w := w) ht hti hd hei (lo := none) (li := none) trivial hh' (ad := ad) (cap := cap) (by exact hr) hnc
      simp only [execOp, ho, hxv, hb, Option.map_none, Sem.run_bind, this, Result.andThen_ok, Sem.run_pure]
      rfl
    · exact ⟨rfl, ⟨some (.arr e ei.info.size (hi'.getD (n : Int)).toNat g), by rw [hcomm]; simp [setH]⟩, fun ob _ => by simp [setB]⟩
  rcases H.obj _ _ hi0 with ⟨ad, r1, rfl⟩ | ⟨b, cap, cur, r1, r2, r3, r4, r5, r6, r7⟩
  · have hm : (hi'.getD ((0 : Nat) : Int)).toNat = 0 := by omega
    refine main ad 0 r1 (Nat.le_refl _) (fun b' β' hb' => .inl ⟨ad, by rw [hb', hm]; simp [sliced], hm⟩) fun b hb => ?_
    rw [hm] at hb
    cases ad <;> simp [sliced, blk] at hb
  · have hsl : sliced (some ⟨b, 0, none⟩) 0 (hi'.getD (n : Int)).toNat cap ei.info.size = .slice (some ⟨b, 0, none⟩) (hi'.getD (n : Int)).toNat cap := by
      simp [sliced, Addr.add_lit, Nat.ne_of_gt r2]
    refine main _ cap r1 r4 (fun b' β' hb' => .inr ⟨b, cap, cur, by rw [hb', hsl], r2, r3, by omega, r5, r6, fun k hk j hj => ?_⟩) fun b' hb => ?_
    · rw [hg k hk]
      exact r7 k (by omega) j hj
    · rw [hsl] at hb; rw [r1]; simpa [blk] using hb

theorem evSlice_sound (H : Inv w0 O0 F0 w F h β) (ht : TTok P TT) {hh : Nat → Option Obj} (hhh : ∀ i ob, hh i = some ob → h i = some (some ob)) {ty : TypeId} {X : Operand} {lo hi mx : Option Operand} (ho : o.op = .slice ty X lo hi mx) {d : D} {li hi' mi : Option Int}
    {c : Option Bool} {ups : Ups} (he : evSlice TT d ty li hi' mi hh (o.dst.getD 0) = some (c, x, ups)) (hc : c = none ∨ c = some true) (hx : RepX a.tmps w F h β (.d d) (a.eval X)) (hl : OptInt (lo.map a.eval) li) (hr : OptInt (hi.map a.eval) hi') (hm : OptInt (mx.map a.eval) mi)
    (hnew : ∀ j q, (j, q) ∈ ups → isNew (o.dst.getD 0) j = true → h j = none) (hK : ∀ v w', Out w0 O0 F0 w F h β a.tmps ups x v w' → K (a.put o.dst v) w') : o.wp P a w K Q := by
  have hmx : mi = none → mx = none := fun e => by
    subst e
    cases mx with
    | none => rfl
    | some Z => simp only [Option.map_some] at hm; cases hz : a.eval Z <;> rw [hz] at hm <;> exact hm.elim
  unfold evSlice at he
  split at he
  · rename_i s
    split at he
    · cases he
    · dsimp only at he
      split at he
      · cases he
      · rename_i ti hti
        split at he
        · cases he
        · rename_i hs
          cases he
          have hmx := hmx rfl
          subst hmx
          simp only [reduceCtorEq, Option.some.injEq, false_or] at hc
          exact op_slice_str H ht ho hti hs hx.1 hx.2 hl hr hc hK
  · split at he
    · cases he
    · rename_i e ei ez hb
      simp only [Option.bind_eq_some_iff] at hb
      obtain ⟨ti, hti, hb⟩ := hb
      split at hb
      · rename_i e' hd
        simp only [Option.map_eq_some_iff, Prod.mk.injEq] at hb
        obtain ⟨ei', hei, rfl, rfl, rfl⟩ := hb
        split at he
        · cases he
        · rename_i ids n get hsl
          rcases tri_some he with ⟨rfl, rfl, rfl, he⟩ | ⟨rfl, he'⟩
          · cases he
            cases lo with
            | some L => simp only [Option.map_some] at hl; cases hz : a.eval L <;> rw [hz] at hl <;> exact hl.elim
            | none =>
              cases hi with
              | none => exact hr.elim
              | some Y =>
                cases mx with
                | none => exact hm.elim
                | some Z =>
                  simp only [Option.map_some] at hr hm
                  cases hy : a.eval Y <;> rw [hy] at hr <;> first | exact hr.elim | skip
                  cases hz : a.eval Z <;> rw [hz] at hm <;> first | exact hm.elim | skip
                  have e1 : _ = (0 : Int) := hr
                  have e2 : _ = (0 : Int) := hm
                  subst e1
                  subst e2
                  exact op_slice_zero H ht hhh ho hti hd hei hsl hx hy hz (new_of hnew (by omega) (List.mem_singleton_self _)) _ hK
          · have hmx := hmx rfl
            subst hmx
            split at he'
            · rename_i i hown
              cases he'
              simp only [reduceCtorEq, Option.some.injEq, false_or] at hc
              obtain ⟨rfl, rfl, sz, n', get', hi0⟩ := ownAt_some hown
              cases lo with
              | some L => simp only [Option.map_some] at hl; cases hz : a.eval L <;> rw [hz] at hl <;> exact hl.elim
              | none =>
                have : sz = ei'.info.size ∧ n' = n ∧ get' = get := by
                  simp only [sliceIn, hi0] at hsl
                  split at hsl
                  · rename_i hb
                    cases hsl
                    exact ⟨(Nat.eq_of_beq_eq_true hb), rfl, rfl⟩
                  · cases hsl
                obtain ⟨rfl, rfl, rfl⟩ := this
                exact op_slice_own H ht ho hti hd hei (hhh _ _ hi0) hx hr hc (new_of hnew (by omega) (List.mem_cons_of_mem _ (List.mem_singleton_self _))) _ (fun k hk => by simp only [arrSub, if_pos hk, Nat.zero_add]) hK
            · cases he'
              simp only [reduceCtorEq, Option.some.injEq, false_or] at hc
              exact op_slice_sl H ht hhh ho hti hd hei hsl hx hl hr hc hK
      · cases hb
  · cases he

theorem evBuiltin_sound (H : Inv w0 O0 F0 w F h β) (ht : TTok P TT) {hh : Nat → Option Obj} (hhh : ∀ i ob, hh i = some ob → h i = some (some ob)) {b : Builtin} {args : Array Operand} {ats : Array TypeId} (ho : o.op = .call { callee := .builtin b, args := args, argTypes := ats })
    {xs : List T} {c : Option Bool} {ups : Ups} (he : evBuiltin TT b ats (o.dst.getD 0) xs hh = some (c, x, ups)) (hc : c = none ∨ c = some true) (hx : All2 (RepX a.tmps w F h β) xs (args.toList.map a.eval))
    (hnew : ∀ j q, (j, q) ∈ ups → isNew (o.dst.getD 0) j = true → h j = none) (hK : ∀ v w', Out w0 O0 F0 w F h β a.tmps ups x v w' → K (a.put o.dst v) w') : o.wp P a w K Q := by
  unfold evBuiltin at he
  split at he
  · -- len
    split at he
    · rename_i ti hb
      simp only [Option.map_eq_some_iff, Prod.mk.injEq] at he
      obtain ⟨n, h1, rfl, rfl, rfl⟩ := he
      simp only [Option.bind_eq_some_iff] at hb
      obtain ⟨t, h2, hti⟩ := hb
      obtain ⟨args⟩ := args
      cases args with
      | nil => cases hx
      | cons X l =>
        cases l with
        | cons Y l => cases hx with | cons g1 g2 => cases g2
        | nil =>
          cases hx with
          | cons g1 g2 =>
            obtain ⟨ats⟩ := ats
            cases ats with
            | nil => simp at h2
            | cons t' l' =>
              simp at h2
              subst h2
              exact op_len' H ht hhh ho hti h1 g1 hK
    · cases he
  · -- append
    split at he
    · cases he
    · rename_i st hats
      split at hats
      · rename_i t1 t2 e
        have hte : t1 = t2 ∧ st = t1 := by
          cases hb : Nat.beq t1 t2
          · rw [hb] at hats; cases hats
          · rw [hb] at hats
            simp only [cond_true, Option.some.injEq] at hats
            exact ⟨Nat.eq_of_beq_eq_true hb, hats.symm⟩
        obtain ⟨rfl, rfl⟩ := hte
        have hats' : ats = #[st, st] := by apply Array.ext'; rw [e]
        subst hats'
        split at he
        · cases he
        · rename_i ti hti
          split at he
          · rename_i et hd
            split at he
            · rename_i ei hei
              obtain ⟨args⟩ := args
              cases args with
              | nil => cases hx
              | cons X l =>
                cases l with
                | nil => cases hx with | cons g1 g2 => cases g2
                | cons Y l =>
                  cases l with
                  | cons Z l => cases hx with | cons g1 g2 => cases g2 with | cons g2 g3 => cases g3
                  | nil =>
                    cases hx with
                    | cons g1 g2 =>
                      cases g2 with
                      | cons g2 g3 =>
                        unfold evAppend at he
                        split at he
                        · rename_i zs ids m get' hz hsl
                          split at he
                          · rename_i hck
                            simp only [Bool.and_eq_true] at hck
                            obtain ⟨⟨k1, k2⟩, k3⟩ := hck
                            have k1 := Nat.eq_of_beq_eq_true k1
                            have k2 : 0 < ei.info.size := by simpa using k2
                            have k3 : 0 < ei.info.bytes := by simpa using k3
                            split at he
                            · cases he
                              simp only [reduceCtorEq, Option.some.injEq, false_or] at hc
                              exact op_append (n := 0) (get := fun _ _ => z0) H ht hhh ho hti hd hei hz k1 k2 k3 (.inl ⟨rfl, rfl, rfl⟩) hsl g1 g2 (by rw [Nat.zero_add]; exact hc) (new_of hnew (by omega) (List.mem_singleton_self _)) (g := get') (fun i => by simp) (by simpa using hK)
                            · rename_i i
                              split at he
                              · rename_i at_ sz n get hi
                                split at he
                                · rename_i hck2
                                  cases he
                                  simp only [Bool.and_eq_true] at hck2
                                  have e1 := Nat.eq_of_beq_eq_true hck2.1
                                  have e2 := Nat.eq_of_beq_eq_true hck2.2
                                  subst e1
                                  subst e2
                                  simp only [reduceCtorEq, Option.some.injEq, false_or] at hc
                                  exact op_append H ht hhh ho hti hd hei hz k1 k2 k3 (.inr ⟨i, rfl, hhh _ _ hi, rfl⟩) hsl g1 g2 hc (new_of hnew (by omega) (List.mem_cons_of_mem _ (List.mem_singleton_self _))) (g := arrApp n get get') (fun _ => rfl) hK
                                · cases he
                              · cases he
                            · cases he
                          · cases he
                        · cases he
            · cases he
          · cases he
      · cases hats
  · -- min
    rename_i k n l
    simp only [Option.map_eq_some_iff, Prod.mk.injEq] at he
    obtain ⟨r, h1, rfl, rfl, rfl⟩ := he
    obtain ⟨args⟩ := args
    cases args with
    | nil => cases hx
    | cons X l' =>
      cases hx with
      | cons g1 g2 => exact op_min (mx := false) H ho g1.1 g1.2 h1 g2 hK
  · rename_i k n l
    simp only [Option.map_eq_some_iff, Prod.mk.injEq] at he
    obtain ⟨r, h1, rfl, rfl, rfl⟩ := he
    obtain ⟨args⟩ := args
    cases args with
    | nil => cases hx
    | cons X l' =>
      cases hx with
      | cons g1 g2 => exact op_min (mx := true) H ho g1.1 g1.2 h1 g2 hK
  · cases he
end
end Go.Proofs.YthhmpjnmmhfngaaDoor.Ev
