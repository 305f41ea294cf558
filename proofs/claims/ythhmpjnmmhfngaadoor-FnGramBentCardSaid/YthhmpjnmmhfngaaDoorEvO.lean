/-
  All operations together: the theorem.
-/
import Derived.Test.YthhmpjnmmhfngaaDoorEvN
namespace Go.Proofs.YthhmpjnmmhfngaaDoor.Ev
open Go

section
variable {P : Program} {TT : Types} {w0 w : World} {O0 F0 F : Nat → Prop} {h : HF} {β : Nat → Value} {a : Act} {o : Oper} {K : Act → World → Prop} {Q : Exit → Act → World → Prop} {x : T} {v : Value}

theorem evOp_sound (H : Inv w0 O0 F0 w F h β) (ht : TTok P TT) {Γ : Env} (hΓ : EnvOk P Γ) {hh : Nat → Option Obj} (hhh : ∀ i ob, hh i = some ob → h i = some (some ob)) {xs : List T} {c : Option Bool} {ups : Ups}
    (he : evOp TT Γ o xs hh = some (c, x, ups)) (hc : c = none ∨ c = some true) (hx : All2 (RepX a.tmps w F h β) xs (o.op.operands.toList.map a.eval)) (hnew : ∀ j q, (j, q) ∈ ups → isNew (o.dst.getD 0) j = true → h j = none)
    (hK : ∀ v w', Out w0 O0 F0 w F h β a.tmps ups x v w' → K (a.put o.dst v) w') : o.wp P a w K Q := by
  unfold evOp at he
  dsimp only at he
  split at he
  case h_1 | h_2 =>
    rename_i ho; cases he; rw [ho] at hx
    cases hx with | cons h1 h2 => exact op_move H (.inl ho) h1 hK
  case h_3 | h_4 =>
    rename_i ho; cases he; rw [ho] at hx
    cases hx with | cons h1 h2 => exact op_move H (.inr ho) h1 hK
  case h_5 =>
    rename_i ho; rw [ho] at hx
    cases hx with | cons h1 h2 => cases h2 with | cons h2 h3 => cases h3 with | cons h3 h4 =>
    split at he
    · rename_i p q e1 e2
      cases he
      exact op_pick H ho h1.1 h2 h3 e1 e2 hK
    · cases he
  case h_6 =>
    rename_i ho; rw [ho] at hx
    cases hx with | cons h1 h2 =>
    split at he
    · split at he
      · cases he
        exact op_box H ho h1 (new_of hnew (by omega) (List.mem_singleton_self _)) hK
      · cases he
    · cases he
  case h_7 =>
    rename_i ho
    split at he
    · rename_i ti hti
      split at he
      · rename_i cs hz
        cases he
        exact op_alloc H ht ho hti hz (new_of hnew (by omega) (List.mem_singleton_self _)) hK
      · cases he
    · cases he
  case h_8 =>
    rename_i ty ps ho; rw [ho] at hx
    split at he
    · rename_i ti hti
      split at he
      · rename_i fs z e1 e2
        split at he
        · rename_i cs e3 e4
          cases he
          refine op_build H ht ho hti e1 e2 e3 e4 ?_ hK
          simpa [Op.operands, List.map_map, Function.comp_def] using hx
        · cases he
      · cases he
    · cases he
  case h_9 =>
    rename_i ty n ps ho; rw [ho] at hx
    split at he
    · rename_i ti hti
      split at he
      · rename_i e hd
        split at he
        · rename_i ei hei
          split at he
          · rename_i z hz
            split at he
            · rename_i zr hzr
              split at he
              · rename_i rows hck hb
                cases he
                simp only [Bool.and_eq_true] at hck
                obtain ⟨⟨k1, k2⟩, k3⟩ := hck
                have k1 : n * ei.info.size ≤ 16777216 := Nat.le_of_ble_eq_true k1
                have k2 := Nat.eq_of_beq_eq_true k2
                have k3 : 0 < ei.info.size := by simpa using k3
                refine op_buildSlice H ht hhh ho hti hd hei hz hzr k2 k3 k1 hb ?_ (new_of hnew (by omega) (List.mem_cons_self ..)) hK
                simpa [Op.operands, List.map_map, Function.comp_def] using hx
              · cases he
            · cases he
          · cases he
        · cases he
      · cases he
    · cases he
  case h_10 =>
    rename_i ho; rw [ho] at hx
    cases hx with | cons h1 h2 =>
    split at he
    · rename_i ti hti
      split at he
      · rename_i cs hcs
        simp only [Option.map_eq_some_iff, Prod.mk.injEq] at he
        obtain ⟨d, hd, rfl, rfl, rfl⟩ := he
        exact op_load H ht hhh ho hti hcs hd h1 hK
      · cases he
    · cases he
  case h_11 =>
    rename_i ho; rw [ho] at hx
    cases hx with | cons h1 h2 => cases h2 with | cons h2 h3 =>
    split at he
    · rename_i ti hti
      simp only [Option.map_eq_some_iff, Prod.mk.injEq] at he
      obtain ⟨u, hu, rfl, rfl, rfl⟩ := he
      unfold evStore at hu
      split at hu
      · cases hu
      · rename_i hn
        have hn := Nat.eq_of_beq_eq_true hn
        split at hu
        · split at hu
          · rename_i hi
            split at hu
            · rename_i hle
              cases hu
              exact op_store_box H ht ho hti (hhh _ _ hi) h1 h2 hn (by simpa using hle) hK
            · cases hu
          · cases hu
        · split at hu
          · rename_i hi
            split at hu
            · rename_i rs e1 e2 e3
              cases hu
              simp only [Bool.and_eq_true] at e2
              have e4 := Nat.eq_of_beq_eq_true e2.2
              subst e4
              have e5 : _ ≤ _ := Nat.le_of_ble_eq_true e2.1
              have hni : _ ∉ _ := fun hm => by rw [elemNat_iff.2 hm] at e3; cases e3
              refine op_store_arr H ht hhh ho hti (hhh _ _ hi) h1 h2 hn e1 e5 hni ?_
              split at hK
              · rename_i r
                have : ∀ get k off, arrSetAll get k off [r] = arrSet get k off r := fun get k off => by funext i j; exact arrSet_one get k off r i j
                rw [this]
                exact hK
              · exact hK
            · cases hu
          · cases hu
        · cases hu
    · cases he
  case h_12 =>
    rename_i ho; rw [ho] at hx
    cases hx with | cons h1 h2 =>
    split at he
    · rename_i hi
      cases he
      refine op_nilCheck H ho ?_ h1 hK
      rcases isThere_ptr hhh hi h1 with ⟨b, off, e⟩ | ⟨f, _, e⟩
      · exact .inl ⟨_, e⟩
      · exact .inr ⟨f, _, e⟩
    · cases he
  case h_13 =>
    rename_i ho; rw [ho] at hx
    cases hx with | cons h1 h2 => cases h2 with | cons h2 h3 =>
    split at he
    · rename_i hb
      split at hb
      · rename_i ti hti
        split at he
        · cases he; exact op_boolEq H ht ho hti hb h1.1 h2.1 (.inl ⟨rfl, rfl⟩) hK
        · cases he; exact op_boolEq H ht ho hti hb h1.1 h2.1 (.inr ⟨rfl, rfl⟩) hK
        · cases he
      · cases hb
    · cases he
  case h_14 =>
    rename_i ho; rw [ho] at hx
    cases hx with | cons h1 h2 => cases h2 with | cons h2 h3 =>
    simp only [Option.map_eq_some_iff, Prod.mk.injEq] at he
    obtain ⟨⟨c', r⟩, e1, rfl, rfl, rfl⟩ := he
    exact op_binOp H ho e1 hc h1.2 h1.1 h2.1 hK
  case h_15 =>
    rename_i ho; rw [ho] at hx
    cases hx with | cons h1 h2 => cases h2 with | cons h2 h3 =>
    split at he
    · rename_i ti hti
      split at he
      · rename_i fs hfs
        split at he
        · rename_i ts e1 e2
          split at he
          · rename_i b hb
            split at he
            · cases he; exact op_structEq H ht ho hti hfs e2 e1 hb h1 h2 (.inl ⟨rfl, rfl⟩) hK
            · cases he; exact op_structEq H ht ho hti hfs e2 e1 hb h1 h2 (.inr ⟨rfl, rfl⟩) hK
            · cases he
          · cases he
        · cases he
      · cases he
    · cases he
  case h_16 =>
    rename_i ho; rw [ho] at hx
    cases hx with | cons h1 h2 =>
    simp only [Option.map_eq_some_iff, Prod.mk.injEq] at he
    obtain ⟨r, e1, rfl, rfl, rfl⟩ := he
    exact op_unOp H ho e1 h1.1 hK
  case h_17 =>
    rename_i ho; rw [ho] at hx
    cases hx with | cons h1 h2 =>
    split at he
    · rename_i si di hsi hdi
      simp only [Option.map_eq_some_iff, Prod.mk.injEq] at he
      obtain ⟨⟨b, c'⟩, e1, rfl, rfl, rfl⟩ := he
      exact op_convert H ht hhh ho hsi hdi e1 hc h1 hK
    · cases he
  case h_18 =>
    rename_i f first cap ho; rw [ho] at hx
    split at he
    · rename_i ds hds
      split at he
      · rename_i ids e1 e2
        cases he
        have e2 := Nat.eq_of_beq_eq_true e2
        have hl := hx.len
        simp only [Op.operands, Array.toList_append, List.map_append, List.length_append, List.length_map, Array.length_toList] at hl
        have hf : first = #[] := by
          apply Array.eq_empty_of_size_eq_zero; omega
        subst hf
        refine op_makeFunc H ho ?_ hK
        have hds' := dsOf_sound hds hx
        have hm := allSome_map e1
        simp only [Op.operands, Array.toList_append, List.nil_append] at hds'
        refine All2.of_get (hm.len.trans hds'.len) fun j i hj => ?_
        obtain ⟨d, hd, hdi⟩ := hm.get hj
        obtain ⟨u, hu, hr⟩ := hds'.get hd
        refine ⟨u, by simpa using hu, ?_⟩
        split at hdi
        · cases hdi; exact hr
        · cases hdi
      · cases he
    · cases he
  case h_19 =>
    rename_i ho; rw [ho] at hx
    cases hx with | cons h1 h2 => cases h2 with | cons h2 h3 =>
    split at he
    · rename_i ti n' c' hti e1 e2
      split at he
      · rename_i e hd
        split at he
        · rename_i ei hei
          split at he
          · rename_i z hz
            split at he
            · rename_i zr hzr
              split at he
              · rename_i hck
                cases he
                simp only [Bool.and_eq_true] at hck
                have k2 := Nat.eq_of_beq_eq_true hck.1
                have k3 : 0 < ei.info.size := by simpa using hck.2
                simp only [reduceCtorEq, Option.some.injEq, false_or] at hc
                obtain ⟨kn, hkn⟩ : ∃ k, a.eval _ = .int k n' := by
                  unfold intD at e1; split at e1
                  · cases e1; exact ⟨_, h1.1⟩
                  · cases e1
                obtain ⟨kc, hkc⟩ : ∃ k, a.eval _ = .int k c' := by
                  unfold intD at e2; split at e2
                  · cases e2; exact ⟨_, h2.1⟩
                  · cases e2
                exact op_makeSlice H ht ho hti hd hei hz hzr k2 k3 hkn hkc hc (new_of hnew (by omega) (List.mem_singleton_self _)) ti.ez hK
              · cases he
            · cases he
          · cases he
        · cases he
      · cases he
    · cases he
  case h_20 =>
    rename_i X lo hi mx d xs ho; rw [ho] at hx
    have hx' : All2 (RepX a.tmps w F h β) (.d d :: xs) (a.eval X :: (lo.toList.map a.eval ++ (hi.toList.map a.eval ++ (mx.toList.map a.eval ++ [])))) := by simpa [Op.operands] using hx
    cases hx' with | cons h1 h2 =>
    split at he
    · rename_i lo' xs1 e1
      obtain ⟨p1, q1⟩ := pickOpt_sound e1 h2
      split at he
      · rename_i hi' xs2 e2
        obtain ⟨p2, q2⟩ := pickOpt_sound e2 q1
        split at he
        · rename_i mx' e3
          obtain ⟨p3, _⟩ := pickOpt_sound e3 q2
          exact evSlice_sound H ht hhh ho he hc h1 p1 p2 p3 hnew hK
        · cases he
      · cases he
    · cases he
  case h_21 =>
    rename_i s X k c' ho; rw [ho] at hx
    cases hx with | cons h1 h2 =>
    split at he
    · rename_i ti hti
      split at he
      · rename_i f hf
        simp only [Option.bind_eq_some_iff] at hf
        obtain ⟨fs, hfs, hf⟩ := hf
        have aux : ∀ fi, TT f.type = some fi → 0 < fi.info.size → ∀ {b off : Nat}, a.eval X = .pointer (some ⟨b, off, none⟩) → ∀ {c2 : C}, RepC w F h β c2 (.pointer (some ⟨b, off + f.offset, none⟩)) →
            (∀ v w', Out w0 O0 F0 w F h β a.tmps [] (.d (.one c2)) v w' → K (a.put o.dst v) w') → o.wp P a w K Q := fun fi hfi hp b off hu c2 hr hK => op_fieldAddr H ht ho hti hfs hf hfi hp hu hr hK
        have aux2 : ∀ {b : Bool}, ((match TT f.type with | some fi => Nat.blt 0 fi.info.size | none => false) && b) = true → ∃ fi, TT f.type = some fi ∧ 0 < fi.info.size ∧ b = true := fun {b} hb => by
          simp only [Bool.and_eq_true] at hb
          obtain ⟨g1, g2⟩ := hb
          split at g1
          · rename_i fi hfi; exact ⟨fi, hfi, by simpa using g1, g2⟩
          · cases g1
        split at he
        · rename_i i off hck
          cases he
          obtain ⟨fi, hfi, hp, hth⟩ := aux2 hck
          simp only [isThere] at hth
          split at hth
          · rename_i hb
            obtain ⟨b, e1, e2⟩ := h1.2.2 _ (hhh _ _ hb)
            exact aux fi hfi hp e2 (c2 := .ptr i (off + f.offset)) ⟨rfl, h1.2.1, fun ob _ => ⟨b, e1, rfl⟩⟩ hK
          · cases hth
        · rename_i i sz n off hck
          cases he
          obtain ⟨fi, hfi, hp, hth⟩ := aux2 hck
          simp only [isThere] at hth
          split at hth
          · rename_i ob hb
            obtain ⟨b, n', cap, e1, e2, e3⟩ := h1.2.2 _ (hhh _ _ hb)
            exact aux fi hfi hp e3 (c2 := .eptr i sz n (off + f.offset)) ⟨rfl, h1.2.1, fun ob _ => ⟨b, n', cap, e1, e2, by rw [Nat.add_assoc]⟩⟩ hK
          · cases hth
        · rename_i m get hck
          obtain ⟨fi, hfi, hp, hth⟩ := aux2 hck
          split at he
          · rename_i hle
            cases he
            obtain ⟨b, off, e, hf', hc'⟩ := h1
            refine aux fi hfi hp e (c2 := .r (.rop (m - f.offset) fun j => get (f.offset + j))) ⟨b, off + f.offset, rfl, hf', fun j hj => ?_⟩ hK
            obtain ⟨y, hy, hr⟩ := hc' (f.offset + j) (by omega)
            exact ⟨y, by rw [Nat.add_assoc]; exact hy, hr⟩
          · cases he
        · cases he
      · cases he
    · cases he
  case h_22 =>
    rename_i s X k cs ho; rw [ho] at hx
    cases hx with | cons h1 h2 =>
    split at he
    · rename_i ti hti
      split at he
      · rename_i f hf
        simp only [Option.bind_eq_some_iff] at hf
        obtain ⟨fs, hfs, hf⟩ := hf
        split at he
        · rename_i fi hfi
          split at he
          · simp only [Option.map_eq_some_iff, Prod.mk.injEq] at he
            obtain ⟨d, hd, rfl, rfl, rfl⟩ := he
            exact op_field H ht ho hti hfs hf hfi hd h1 hK
          · cases he
        · cases he
      · cases he
    · cases he
  case h_23 =>
    rename_i ty X Y c' i ho; rw [ho] at hx
    cases hx with | cons h1 h2 => cases h2 with | cons h2 h3 =>
    split at he
    · rename_i es i' e1 e2
      simp only [Option.bind_eq_some_iff] at e1
      obtain ⟨ti, hti, e1⟩ := e1
      split at e1
      · rename_i e hd
        simp only [Option.map_eq_some_iff] at e1
        obtain ⟨ei, hei, rfl⟩ := e1
        obtain ⟨k, hk⟩ : ∃ k, a.eval Y = .int k i' := by
          unfold intD at e2; split at e2
          · cases e2; exact ⟨_, h2.1⟩
          · cases e2
        split at he
        · split at he
          · rename_i hsz
            cases he
            have hsz := Nat.eq_of_beq_eq_true hsz
            simp only [reduceCtorEq, Option.some.injEq, false_or] at hc
            exact op_indexAddr_ro H ht ho hti hd hei hsz h1 hk hc hK
          · cases he
        · split at he
          · rename_i hid
            split at he
            · rename_i hsz
              cases he
              have hsz := Nat.eq_of_beq_eq_true hsz
              simp only [reduceCtorEq, Option.some.injEq, false_or] at hc
              exact op_indexAddr_own H ht ho hti hd hei hsz (hhh _ _ hid) h1 hk hc hK
            · cases he
          · cases he
        · cases he
      · cases e1
    · rename_i i' _ e2
      obtain ⟨k, hk⟩ : ∃ k, a.eval Y = .int k i' := by
        unfold intD at e2; split at e2
        · cases e2; exact ⟨_, h2.1⟩
        · cases e2
      exact op_arr H ht hhh ho he hc h1 hk hK
    · cases he
  case h_24 =>
    rename_i ty X Y s i ho; rw [ho] at hx
    cases hx with | cons h1 h2 => cases h2 with | cons h2 h3 =>
    split at he
    · rename_i i' e1 e2
      cases he
      split at e1
      · rename_i ti hti
        obtain ⟨k, hk⟩ : ∃ k, a.eval Y = .int k i' := by
          unfold intD at e2; split at e2
          · cases e2; exact ⟨_, h2.1⟩
          · cases e2
        simp only [reduceCtorEq, Option.some.injEq, false_or] at hc
        exact op_index H ht ho hti e1 h1.1 hk hc hK
      · cases e1
    · cases he
  case h_25 =>
    rename_i X k xs ho; rw [ho] at hx
    cases hx with | cons h1 h2 =>
    split at he
    · rename_i d hd
      cases he
      exact op_extract H ho hd h1 hK
    · cases he
  case h_26 =>
    rename_i call ho; rw [ho] at hx
    obtain ⟨callee, args, ats⟩ := call
    dsimp only at he
    split at he
    · exact evBuiltin_sound H ht hhh ho he hc (by simpa [Op.operands, Call.operands] using hx) hnew hK
    · rename_i fo f caps xs''
      have hx' : All2 (RepX a.tmps w F h β) (.d (.one (.fn f caps)) :: xs'') (a.eval fo :: args.toList.map a.eval) := by simpa [Op.operands, Call.operands] using hx
      cases hx' with | cons h1 h2 =>
      split at he
      · rename_i con ds hcon hds hbx
        exact op_call H hΓ hhh ho hcon hds hbx h1 h2 he hc hnew hK
      · cases he
    · cases he
  case h_27 => cases he
end
end Go.Proofs.YthhmpjnmmhfngaaDoor.Ev
