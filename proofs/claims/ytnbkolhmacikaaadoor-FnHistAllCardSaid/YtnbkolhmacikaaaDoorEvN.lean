/-
  All operations together.
-/
import Derived.Test.YtnbkolhmacikaaaDoorEvM
namespace Go.Proofs.YtnbkolhmacikaaaDoor.Ev
open Go

section
variable {P : Program} {TT : Types} {w0 w : World} {O0 F0 F : Nat → Prop} {h : HF} {β : Nat → Value} {a : Act} {o : Oper} {K : Act → World → Prop} {Q : Exit → Act → World → Prop} {x : T} {v : Value}

theorem isThere_ptr {hh : Nat → Option Obj} (hhh : ∀ i ob, hh i = some ob → h i = some (some ob)) {c : C} {u : Value} (hi : isThere hh c = true) (hc : RepC w F h β c u) :
    (∃ b off, u = .pointer (some ⟨b, off, none⟩)) ∨ ∃ f, c = .fn f [] ∧ u = .func (.func f) #[] #[] := by
  unfold isThere at hi
  split at hi
  · split at hi
    · rename_i hb
      obtain ⟨b, _, e⟩ := hc.2.2 _ (hhh _ _ hb)
      exact .inl ⟨b, _, e⟩
    · cases hi
  · split at hi
    · rename_i hb
      obtain ⟨b, n, cap, _, _, e⟩ := hc.2.2 _ (hhh _ _ hb)
      exact .inl ⟨b, _, e⟩
    · cases hi
  · obtain ⟨b, off, e, _⟩ := hc
    exact .inl ⟨b, off, e⟩
  · exact .inr ⟨_, rfl, by simpa using hc.2.2 (fun i hi => by simp at hi)⟩
  · cases hi

theorem pickOpt_sound {fl : Option Operand} {xs xs' : List T} {n : Option Int} {us : List Value} (hp : pickOpt fl xs = some (n, xs')) (hx : All2 (RepX a.tmps w F h β) xs ((fl.toList.map a.eval) ++ us)) :
    OptInt (fl.map a.eval) n ∧ All2 (RepX a.tmps w F h β) xs' us := by
  unfold pickOpt at hp
  split at hp
  · cases hp; exact ⟨trivial, hx⟩
  · simp only [Option.map_eq_some_iff] at hp
    obtain ⟨m, h1, h2⟩ := hp
    cases h2
    cases hx with
    | cons g1 g2 =>
      obtain ⟨k, hk⟩ := intD_sound h1 g1
      refine ⟨?_, g2⟩
      unfold intD at h1
      split at h1
      · cases h1
        obtain ⟨e, _⟩ := g1
        simp only [Option.map_some, OptInt, e]
      · cases h1
  · cases hp

theorem intD_val0 {tm : Array Value} {y : T} {n : Int} {u : Value} (hn : intD y = some n) (hy : RepX tm w F h β y u) : ∃ k, u = .int k n := intD_sound hn hy

theorem new_of {t k : Nat} {ups : Ups} {q : Option Obj} (hnew : ∀ j q, (j, q) ∈ ups → isNew t j = true → h j = none) (hk : k < 64) (hm : (sid t k, q) ∈ ups) : h (sid t k) = none := hnew _ q hm (sid_new t k hk)

theorem evSlice_sound (H : Inv w0 O0 F0 w F h β) (ht : TTok P TT) {hh : Nat → Option Obj} (hhh : ∀ i ob, hh i = some ob → h i = some (some ob)) {ty : TypeId} {X : Operand} {lo hi mx : Option Operand} (ho : o.op = .slice ty X lo hi mx) {d : D} {li hi' mi : Option Int}
    {c : Option Bool} {ups : Ups} (he : evSlice TT d ty li hi' mi hh (o.dst.getD 0) = some (c, x, ups)) (hc : c = none ∨ c = some true) (hx : RepX a.tmps w F h β (.d d) (a.eval X)) (hl : OptInt (lo.map a.eval) li) (hr : OptInt (hi.map a.eval) hi') (hm : OptInt (mx.map a.eval) mi)
    (hnew : ∀ j q, (j, q) ∈ ups → isNew (o.dst.getD 0) j = true → h j = none) (hK : ∀ v w', Out w0 O0 F0 w F h β a.tmps ups x v w' → K (a.put o.dst v) w') : o.wp P a w K Q := by
  have hmx : mi = none → mx = none := fun e => by
    subst e
    cases mx with
    | none => rfl
    | some Z => simp only [Option.map_some] at hm; cases hz : a.eval Z <;> rw [hz] at hm <;> exact hm.elim
  unfold evSlice at he
  split at he
  · rename_i s
    split at he
    · cases he
    · dsimp only at he
      split at he
      · cases he
      · rename_i ti hti
        split at he
        · cases he
        · rename_i hs
          cases he
          have hmx := hmx rfl
          subst hmx
          simp only [reduceCtorEq, Option.some.injEq, false_or] at hc
          exact op_slice_str H ht ho hti hs hx.1 hx.2 hl hr hc hK
  · split at he
    · cases he
    · rename_i e ei ez hb
      simp only [Option.bind_eq_some_iff] at hb
      obtain ⟨ti, hti, hb⟩ := hb
      split at hb
      · rename_i e' hd
        simp only [Option.map_eq_some_iff, Prod.mk.injEq] at hb
        obtain ⟨ei', hei, rfl, rfl, rfl⟩ := hb
        split at he
        · cases he
        · rename_i ids n get hsl
          rcases tri_some he with ⟨rfl, rfl, rfl, he⟩ | ⟨rfl, he⟩
          · cases he
            cases lo with
            | some L => simp only [Option.map_some] at hl; cases hz : a.eval L <;> rw [hz] at hl <;> exact hl.elim
            | none =>
              cases hi with
              | none => exact hr.elim
              | some Y =>
                cases mx with
                | none => exact hm.elim
                | some Z =>
                  simp only [Option.map_some] at hr hm
                  cases hy : a.eval Y <;> rw [hy] at hr <;> first | exact hr.elim | skip
                  cases hz : a.eval Z <;> rw [hz] at hm <;> first | exact hm.elim | skip
                  have e1 : _ = (0 : Int) := hr
                  have e2 : _ = (0 : Int) := hm
                  subst e1
                  subst e2
                  exact op_slice_zero H ht hhh ho hti hd hei hsl hx hy hz (new_of hnew (by omega) (List.mem_singleton_self _)) _ hK
          · cases he
            have hmx := hmx rfl
            subst hmx
            simp only [reduceCtorEq, Option.some.injEq, false_or] at hc
            exact op_slice_sl H ht hhh ho hti hd hei hsl hx hl hr hc hK
      · cases hb
  · cases he

theorem evBuiltin_sound (H : Inv w0 O0 F0 w F h β) (ht : TTok P TT) {hh : Nat → Option Obj} (hhh : ∀ i ob, hh i = some ob → h i = some (some ob)) {b : Builtin} {args : Array Operand} {ats : Array TypeId} (ho : o.op = .call { callee := .builtin b, args := args, argTypes := ats })
    {xs : List T} {c : Option Bool} {ups : Ups} (he : evBuiltin TT b ats (o.dst.getD 0) xs hh = some (c, x, ups)) (hc : c = none ∨ c = some true) (hx : All2 (RepX a.tmps w F h β) xs (args.toList.map a.eval))
    (hnew : ∀ j q, (j, q) ∈ ups → isNew (o.dst.getD 0) j = true → h j = none) (hK : ∀ v w', Out w0 O0 F0 w F h β a.tmps ups x v w' → K (a.put o.dst v) w') : o.wp P a w K Q := by
  unfold evBuiltin at he
  split at he
  · -- len
    split at he
    · rename_i ti hb
      simp only [Option.map_eq_some_iff, Prod.mk.injEq] at he
      obtain ⟨n, h1, rfl, rfl, rfl⟩ := he
      simp only [Option.bind_eq_some_iff] at hb
      obtain ⟨t, h2, hti⟩ := hb
      obtain ⟨args⟩ := args
      cases args with
      | nil => cases hx
      | cons X l =>
        cases l with
        | cons Y l => cases hx with | cons g1 g2 => cases g2
        | nil =>
          cases hx with
          | cons g1 g2 =>
            obtain ⟨ats⟩ := ats
            cases ats with
            | nil => simp at h2
            | cons t' l' =>
              simp at h2
              subst h2
              exact op_len' H ht hhh ho hti h1 g1 hK
    · cases he
  · -- append
    split at he
    · cases he
    · rename_i st hats
      split at hats
      · rename_i t1 t2 e
        have hte : t1 = t2 ∧ st = t1 := by
          cases hb : Nat.beq t1 t2
          · rw [hb] at hats; cases hats
          · rw [hb] at hats
            simp only [cond_true, Option.some.injEq] at hats
            exact ⟨Nat.eq_of_beq_eq_true hb, hats.symm⟩
        obtain ⟨rfl, rfl⟩ := hte
        have hats' : ats = #[st, st] := by apply Array.ext'; rw [e]
        subst hats'
        split at he
        · cases he
        · rename_i ti hti
          split at he
          · rename_i et hd
            split at he
            · rename_i ei hei
              obtain ⟨args⟩ := args
              cases args with
              | nil => cases hx
              | cons X l =>
                cases l with
                | nil => cases hx with | cons g1 g2 => cases g2
                | cons Y l =>
                  cases l with
                  | cons Z l => cases hx with | cons g1 g2 => cases g2 with | cons g2 g3 => cases g3
                  | nil =>
                    cases hx with
                    | cons g1 g2 =>
                      cases g2 with
                      | cons g2 g3 =>
                        unfold evAppend at he
                        split at he
                        · rename_i zs ids m get' hz hsl
                          split at he
                          · rename_i hck
                            simp only [Bool.and_eq_true] at hck
                            obtain ⟨⟨k1, k2⟩, k3⟩ := hck
                            have k1 := Nat.eq_of_beq_eq_true k1
                            have k2 : 0 < ei.info.size := by simpa using k2
                            have k3 : 0 < ei.info.bytes := by simpa using k3
                            split at he
                            · cases he
                              simp only [reduceCtorEq, Option.some.injEq, false_or] at hc
                              exact op_append (n := 0) (get := fun _ _ => z0) H ht hhh ho hti hd hei hz k1 k2 k3 (.inl ⟨rfl, rfl, rfl⟩) hsl g1 g2 (by rw [Nat.zero_add]; exact hc) (new_of hnew (by omega) (List.mem_singleton_self _)) (g := get') (fun i => by simp) (by simpa using hK)
                            · rename_i i
                              split at he
                              · rename_i at_ sz n get hi
                                split at he
                                · rename_i hck2
                                  cases he
                                  simp only [Bool.and_eq_true] at hck2
                                  have e1 := Nat.eq_of_beq_eq_true hck2.1
                                  have e2 := Nat.eq_of_beq_eq_true hck2.2
                                  subst e1
                                  subst e2
                                  simp only [reduceCtorEq, Option.some.injEq, false_or] at hc
                                  exact op_append H ht hhh ho hti hd hei hz k1 k2 k3 (.inr ⟨i, rfl, hhh _ _ hi, rfl⟩) hsl g1 g2 hc (new_of hnew (by omega) (List.mem_cons_of_mem _ (List.mem_singleton_self _))) (g := arrApp n get get') (fun _ => rfl) hK
                                · cases he
                              · cases he
                            · cases he
                          · cases he
                        · cases he
            · cases he
          · cases he
      · cases hats
  · -- min
    rename_i k n l
    simp only [Option.map_eq_some_iff, Prod.mk.injEq] at he
    obtain ⟨r, h1, rfl, rfl, rfl⟩ := he
    obtain ⟨args⟩ := args
    cases args with
    | nil => cases hx
    | cons X l' =>
      cases hx with
      | cons g1 g2 => exact op_min (mx := false) H ho g1.1 g1.2 h1 g2 hK
  · rename_i k n l
    simp only [Option.map_eq_some_iff, Prod.mk.injEq] at he
    obtain ⟨r, h1, rfl, rfl, rfl⟩ := he
    obtain ⟨args⟩ := args
    cases args with
    | nil => cases hx
    | cons X l' =>
      cases hx with
      | cons g1 g2 => exact op_min (mx := true) H ho g1.1 g1.2 h1 g2 hK
  · cases he
end
end Go.Proofs.YtnbkolhmacikaaaDoor.Ev
