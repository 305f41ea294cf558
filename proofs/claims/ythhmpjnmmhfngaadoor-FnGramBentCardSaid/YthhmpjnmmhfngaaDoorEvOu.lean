/-
  Typed lists: what each operation makes.
-/
import Derived.Test.YthhmpjnmmhfngaaDoorEvOz
namespace Go.Proofs.YthhmpjnmmhfngaaDoor.Ev
open Go

theorem elemTy_some {TT : Types} {ty : TypeId} {ei : TI} {t : Ty} (h : elemTy TT ty = some (ei, t)) : ∃ ti e, TT ty = some ti ∧ ti.desc = .slice e ∧ TT e = some ei ∧ ei.ty = some t ∧ width t = ei.info.size := by
  unfold elemTy at h
  split at h
  · rename_i ti hti
    split at h
    · rename_i e hd
      split at h
      · rename_i ei' hei
        split at h
        · rename_i t' ht
          split at h
          · rename_i hw
            cases h
            exact ⟨ti, e, hti, hd, hei, ht, Nat.eq_of_beq_eq_true hw⟩
          · cases h
        · cases h
      · cases h
    · cases h
  · cases h

theorem allDen_some {t : Ty} : ∀ {rows : List (List R)} {l : List (Den t)}, allDen t rows = some l → All2 (fun rs x => asR t rs = some x) rows l
  | [], l, h => by cases h; exact .nil
  | rs :: rows, l, h => by
    simp only [allDen] at h
    split at h
    · rename_i x xs h1 h2
      cases h
      exact .cons h1 (allDen_some h2)
    · cases h

theorem sliceRows_len {hh : Nat → Option Obj} {sz : Nat} : ∀ {ps : List (Nat × Operand)} {xs : List T} {rows rows' : List (List R)}, sliceRows hh sz rows ps xs = some rows' → rows'.length = rows.length
  | [], [], rows, rows', h => by cases h; rfl
  | [], x :: xs, rows, rows', h => by cases h
  | (i, Y) :: ps, [], rows, rows', h => by cases h
  | (i, Y) :: ps, x :: xs, rows, rows', h => by
    cases x <;> simp only [sliceRows] at h <;> try cases h
    split at h
    · split at h
      · have := sliceRows_len h
        rw [this, List.length_set]
      · cases h
    · cases h

theorem payOf_in {h : Nat → Option Obj} {e : Ty} {c : C} {l : List (Den e)} (hp : payOf h e c = some l) {c' : C} (hc : T.er (.d (.one c)) = .d (.one c')) {sz : Nat} {ez : List R} {ids : List Nat} {n : Nat} {get : Nat → Nat → R}
    (hs : sliceIn (fun i => (h i).map Obj.er) sz ez c' = some (ids, n, get)) : n = l.length ∧ ∀ k, k < n → ∀ j, get k j = getL e l k j := by
  unfold payOf at hp
  split at hp
  · obtain ⟨g, rfl⟩ := castL_some hp
    subst g
    simp only [T.er] at hc
    cases hc
    simp only [sliceIn] at hs
    split at hs
    · cases hs; exact ⟨rfl, fun _ _ _ => rfl⟩
    · cases hs
  · cases hp
    simp only [T.er] at hc
    cases hc
    simp only [sliceIn] at hs
    cases hs
    exact ⟨rfl, fun k hk => by omega⟩
  · rename_i i
    simp only [T.er] at hc
    cases hc
    split at hp
    · rename_i t' t l' hi
      obtain ⟨g, rfl⟩ := castL_some hp
      subst g
      simp only [sliceIn, hi, Option.map_some, Obj.er] at hs
      split at hs
      · cases hs; exact ⟨rfl, fun _ _ _ => rfl⟩
      · cases hs
    · cases hp
  · cases hp

theorem allR_len' {hh : Nat → Option Obj} : ∀ {cs : List C} {rs : List R}, allR hh cs = some rs → rs.length = cs.length := fun h => allR_len h

/-- read only forms, with lists as their cells and with lists as lists -/
theorem toR_le {h : Nat → Option Obj} {c : C} {r r' : R} (h1 : toR (fun i => (h i).map Obj.er) c = some r) (h2 : toR h c = some r') : Le r r' := by
  unfold toR at h1 h2
  split at h1
  · cases h1; cases h2; exact Le.refl _
  · rename_i i
    dsimp only at h1 h2
    cases hi : h i with
    | none => rw [hi] at h2; cases h2
    | some o =>
      rw [hi] at h1 h2
      dsimp only [Option.map_some, Obj.er] at h1 h2
      cases o with
      | box t cs => cases h2
      | arr t sz n get => cases h1; cases h2; exact Le.refl _
      | lis t e l => cases h1; cases h2; exact fun w F u hu => Ro_li.2 hu
      | map k e m => cases h1; cases h2; exact Le.refl _
      | deep ts e l => cases h2
  · rename_i i
    dsimp only at h1 h2
    cases hi : h i with
    | none => rw [hi] at h2; cases h2
    | some o =>
      rw [hi] at h1 h2
      dsimp only [Option.map_some, Obj.er] at h1 h2
      cases o with
      | deep ts e l => cases h1; cases h2; exact Le.refl _
      | _ => cases h2
  · cases h1

theorem allR_le {h : Nat → Option Obj} : ∀ {cs : List C} {rs rs' : List R}, allR (fun i => (h i).map Obj.er) cs = some rs → allR h cs = some rs' → All2 Le rs rs'
  | [], rs, rs', h1, h2 => by cases h1; cases h2; exact .nil
  | c :: cs, rs, rs', h1, h2 => by
    simp only [allR] at h1 h2
    split at h1
    · rename_i a b e1 e2
      split at h2
      · rename_i a' b' g1 g2
        cases h1; cases h2
        exact .cons (toR_le e1 g1) (allR_le e2 g2)
      · cases h2
    · cases h1

theorem pickOpt_er {lo : Option Operand} {xs xs' : List T} {n : Option Int} (h : pickOpt lo xs = some (n, xs')) : pickOpt lo (xs.map T.er) = some (n, xs'.map T.er) := by
  cases lo with
  | none => cases h; rfl
  | some q =>
    cases xs with
    | nil => cases h
    | cons x xs =>
      simp only [pickOpt, Option.map_eq_some_iff, Prod.mk.injEq] at h
      obtain ⟨m, hm, rfl, rfl⟩ := h
      simp only [List.map_cons, pickOpt]
      have : intD x.er = some m := by
        unfold intD at hm
        split at hm
        · cases hm; rfl
        · cases hm
      rw [this]; rfl

section
variable {TT : Types} {Γ : Env} {o : Oper} {xs : List T} {h : Nat → Option Obj} {c : Option Bool} {x : T} {ups : Ups} {p : Pay}

theorem pay_build {ty : TypeId} {n : Nat} {ps : Array (Nat × Operand)} (ho : o.op = .buildSlice ty n ps) (he : evOp TT Γ o xs h = some (c, x, ups)) (hp : payOp TT o xs h = some p) : UpsPay p ups ∧ XPay p x := by
  simp only [payOp, ho] at hp
  split at hp
  · rename_i ei t het
    obtain ⟨ti, e, h1, h2, h3, h4, h5⟩ := elemTy_some het
    split at hp
    · rename_i z hz
      split at hp
      · rename_i zr hzr
        split at hp
        · rename_i rows hrows
          split at hp
          · rename_i l hl
            cases hp
            simp only [evOp, ho, h1, h2, h3, hz, hzr, hrows] at he
            split at he
            · rename_i rows' hck hr
              cases he
              cases hr
              have hlen := sliceRows_len hrows
              rw [repl_len] at hlen
              have hall := allDen_some hl
              refine ⟨fun i t' sz n' get hm => ?_, fun sz n get e => by cases e⟩
              rcases List.mem_cons.1 hm with hm | hm
              · cases hm
                refine ⟨h5.symm, by rw [← hlen]; exact hall.len, fun k hk j hj => ?_⟩
                obtain ⟨y, hy, ha⟩ := hall.get (List.getElem?_eq_getElem (show k < rows.length by omega))
                have hA := asR_sound ha
                rw [getL_lt hy]
                have hj' : j < width t := by rw [h5]; exact hj
                have hjl : j < rows[k].length := by rw [hA.len, cellsR_len]; exact hj'
                rw [rowsGet_eq ei.desc ti.ez (List.getElem?_eq_getElem (show k < rows.length by omega)) (List.getElem?_eq_getElem hjl)]
                have := le_at hA hj'
                simp only [List.getD, List.getElem?_eq_getElem hjl, Option.getD_some] at this
                exact this
              · simp [dropIds] at hm
            · cases he
          · cases hp
        · cases hp
      · cases hp
    · cases hp
  · cases hp

theorem pay_make {ty : TypeId} {A B : Operand} {n m : T} (ho : o.op = .makeSlice ty A B) (he : evOp TT Γ o [n, m] h = some (c, x, ups)) (hp : payOp TT o [n, m] h = some p) : UpsPay p ups ∧ XPay p x := by
  simp only [payOp, ho] at hp
  split at hp
  · rename_i ei t n' het hn
    obtain ⟨ti, e, h1, h2, h3, h4, h5⟩ := elemTy_some het
    split at hp
    · rename_i z hz
      split at hp
      · rename_i zr hzr
        split at hp
        · rename_i x0 hx0
          cases hp
          cases hm : intD m with
          | none => simp only [evOp, ho, h1, hn, hm] at he; cases he
          | some m' =>
            simp only [evOp, ho, h1, h2, h3, hz, hzr, hn, hm] at he
            split at he
            · cases he
              refine ⟨fun i t' sz n' get hm => ?_, fun sz n get e => by cases e⟩
              simp only [List.mem_singleton, Prod.mk.injEq, Option.some.injEq, Obj.arr.injEq] at hm
              obtain ⟨_, _, rfl, rfl, rfl⟩ := hm
              refine ⟨h5.symm, by simp, fun k hk j hj => ?_⟩
              rw [if_pos hk, getL_lt (x := x0) (by simp [hk])]
              exact le_at (asR_sound hx0) (by rw [h5]; exact hj)
            · cases he
        · cases hp
      · cases hp
    · cases hp
  · cases hp
theorem pay_slice {ty : TypeId} {X : Operand} {lo hi mx : Option Operand} {cc : C} {xs : List T} (ho : o.op = .slice ty X lo hi mx) (he : evOp TT Γ o ((T.d (.one cc) :: xs).map T.er) (fun i => (h i).map Obj.er) = some (c, x, ups)) (hc : c = none ∨ c = some true)
    (hp : payOp TT o (.d (.one cc) :: xs) h = some p) : UpsPay p ups ∧ XPay p x := by
  simp only [payOp, ho] at hp
  · split at hp
    · rename_i ei t het
      obtain ⟨ti, e, h1, h2, h3, h4, h5⟩ := elemTy_some het
      split at hp
      · rename_i l lo' xs1 hl hlo
        split at hp
        · rename_i hi' xs2 hhi
          split at hp
          · rename_i mx' hmx
            -- the operation
            have hin : ∀ {cc' : C}, T.er (.d (.one cc)) = .d (.one cc') → ∀ {r}, evSlice TT (.one cc') ty lo' hi' mx' (fun i => (h i).map Obj.er) (o.dst.getD 0) = some r →
                ∃ ids n get, sliceIn (fun i => (h i).map Obj.er) ei.info.size ti.ez cc' = some (ids, n, get) ∧ tri lo' hi' mx' (none, .d (.one (.own (sid (o.dst.getD 0) 0))), [(sid (o.dst.getD 0) 0, some (.arr e ei.info.size 0 fun _ => ezAt ti.ez))])
                  (fun lo hi => match ownAt (fun i => (h i).map Obj.er) e lo cc' with
                    | some i => (some (inr 0 (hi.getD (n : Int)) n), .d (.one (.own (sid (o.dst.getD 0) 0))), [(i, none), (sid (o.dst.getD 0) 0, some (.arr e ei.info.size (hi.getD (n : Int)).toNat (arrSub get 0 (hi.getD (n : Int)).toNat ti.ez)))])
                    | none => (some (inr (lo.getD 0) (hi.getD (n : Int)) n), .d (.one (.r (.sl ei.info.size ((hi.getD (n : Int)).toNat - (lo.getD 0).toNat) (arrSub get (lo.getD 0).toNat ((hi.getD (n : Int)).toNat - (lo.getD 0).toNat) ti.ez)))), dropIds ids)) = some r := by
              intro cc' hcc r hr
              have hns : ∀ s, cc' ≠ .r (.v (.string s)) := by
                intro s e1
                subst e1
                have : cc = .r (.v (.string s)) := by
                  cases cc with
                  | r q => cases q <;> simp_all [T.er]
                  | _ => simp [T.er] at hcc
                subst this
                simp [payOf] at hl
              unfold evSlice at hr
              split at hr
              · rename_i s heq; cases heq; exact absurd rfl (hns s)
              · rename_i q _ heq
                cases heq
                simp only [h1, h2, h3, Option.bind_some, Option.map_some] at hr
                split at hr
                · cases hr
                · rename_i ids n get hs
                  exact ⟨ids, n, get, hs, hr⟩
              · rename_i hh; exact absurd rfl (hh _)
            have hop : ∃ cc', T.er (.d (.one cc)) = .d (.one cc') := by
              unfold T.er
              split <;> exact ⟨_, rfl⟩
            obtain ⟨cc', hcc⟩ := hop
            simp only [evOp, ho, List.map_cons, hcc, pickOpt_er hlo, pickOpt_er hhi, pickOpt_er hmx, List.map_nil] at he
            obtain ⟨ids, n, get, hs, hr⟩ := hin hcc he
            obtain ⟨g1, g2⟩ := payOf_in hl hcc hs
            have hp' : tri lo' hi' mx' (⟨t, []⟩ : Pay) (fun lo hi => ⟨t, (l.drop (lo.getD 0).toNat).take ((hi.getD (l.length : Int)).toNat - (lo.getD 0).toNat)⟩) = some p := hp
            rcases tri_some hp' with ⟨_, _, e1, rfl⟩ | ⟨e1, rfl⟩
            · rcases tri_some hr with ⟨_, _, _, hr⟩ | ⟨e2, _⟩
              · cases hr
                refine ⟨fun i t' sz n' get' hm => ?_, fun sz n get e => by cases e⟩
                simp only [List.mem_singleton, Prod.mk.injEq, Option.some.injEq, Obj.arr.injEq] at hm
                obtain ⟨_, _, rfl, rfl, rfl⟩ := hm
                exact ⟨h5.symm, rfl, fun k hk => by omega⟩
              · rw [e1] at e2; cases e2
            · rcases tri_some hr with ⟨_, _, e2, _⟩ | ⟨_, hr⟩
              · rw [e1] at e2; cases e2
              · split at hr
                · rename_i i0 hown
                  cases hr
                  obtain ⟨hlo0, _⟩ := ownAt_some hown
                  subst hlo0
                  refine ⟨fun i t' sz n' get' hm => ?_, fun sz n get e => by cases e⟩
                  simp only [List.mem_cons, Prod.mk.injEq, reduceCtorEq, and_false, false_or, List.not_mem_nil, or_false, Option.some.injEq, Obj.arr.injEq] at hm
                  obtain ⟨_, _, rfl, rfl, rfl⟩ := hm
                  have hb : inr 0 (hi'.getD (n : Int)) n = true := by
                    rcases hc with hc | hc
                    · cases hc
                    · exact Option.some.inj hc
                  simp only [inr, decide_eq_true_eq] at hb
                  obtain ⟨b1, b2, b3⟩ := hb
                  subst g1
                  refine ⟨h5.symm, ?_, fun k hk j hj => ?_⟩
                  · simp only [Option.getD_none, List.length_take, List.length_drop]; omega
                  · simp only [arrSub, if_pos hk]
                    rw [g2 _ (by omega)]
                    refine Le.of_eq ?_
                    have hk' : k < (hi'.getD (l.length : Int)).toNat - 0 := by omega
                    simp only [getL, List.getD, List.getElem?_take, List.getElem?_drop, Option.getD_none, Int.toNat_zero, if_pos hk']
                cases hr
                refine ⟨fun i t' sz n' get' hm => by simp [dropIds] at hm, fun sz n' get' e => ?_⟩
                cases e
                have hb : inr (lo'.getD 0) (hi'.getD (n : Int)) n = true := by
                  rcases hc with hc | hc
                  · cases hc
                  · exact Option.some.inj hc
                simp only [inr, decide_eq_true_eq] at hb
                obtain ⟨b1, b2, b3⟩ := hb
                subst g1
                refine ⟨h5.symm, ?_, fun k hk j hj => ?_⟩
                · simp only [List.length_take, List.length_drop]; omega
                · simp only [arrSub, if_pos hk]
                  rw [g2 _ (by omega)]
                  refine Le.of_eq ?_
                  simp only [getL, List.getD, List.getElem?_take, List.getElem?_drop, if_pos hk]
          · cases hp
        · cases hp
      · cases hp
    · cases hp
theorem pay_store {ty : TypeId} {A B : Operand} {i s k off : Nat} {d : D} (ho : o.op = .store ty A B) (he : evOp TT Γ o [.d (.one (.eptr i s k off)), .d d] (fun i => (h i).map Obj.er) = some (c, x, ups))
    (hp : payOp TT o [.d (.one (.eptr i s k off)), .d d] h = some p) : UpsPay p ups ∧ XPay p x := by
  simp only [payOp, ho] at hp
  split at hp
  · rename_i t' t l rs hi hrs
    split at hp
    · rename_i y hy
      cases hp
      simp only [evOp, ho] at he
      split at he
      · rename_i ti hti
        simp only [Option.map_eq_some_iff] at he
        obtain ⟨u, hu, he⟩ := he
        cases he
        refine ⟨fun i' t2 sz n get hm => ?_, fun sz n get e => by cases e⟩
        unfold evStore at hu
        split at hu
        · cases hu
        · simp only [hi, Option.map_some, Obj.er] at hu
          split at hu
          · rename_i rs' hrs' hsz hel
            cases hu
            rcases List.mem_cons.1 hm with hm | hm
            · cases hm
              refine ⟨rfl, by simp, fun k' hk' j hj => ?_⟩
              have hle := allR_le hrs' hrs
              have hcell : ∀ j, j < width t → Le ((setR (cellsR t (l.getD k (dflt t))) off rs).getD j z0) ((cellsR t y).getD j z0) := fun j hj => le_at (asR_sound hy) hj
              suffices hL : Le (arrSetAll (getL t l) k off rs' k' j) (getL t (l.set k y) k' j) by
                clear hrs' hle hm
                rcases rs' with _ | ⟨r0, _ | ⟨r1, rest⟩⟩
                · exact hL
                · rw [arrSet_one] at hL; exact hL
                · exact hL
              by_cases hk : k' = k
              · subst hk
                have hlk : l[k']? = some l[k'] := List.getElem?_eq_getElem hk'
                rw [getL_lt (l := l.set k' y) (x := y) (by simp [hk'])]
                refine fun w F u hu => hcell j hj w F u ?_
                rw [setR_get (by rw [cellsR_len]; exact hj)]
                simp only [arrSetAll, true_and] at hu
                rw [← hle.len]
                by_cases h2 : off ≤ j ∧ j < off + rs'.length
                · rw [if_pos h2] at hu ⊢
                  have hlt : j - off < rs'.length := by omega
                  obtain ⟨r2, e1, e2⟩ := hle.get (List.getElem?_eq_getElem hlt)
                  simp only [List.getD, e1, Option.getD_some, List.getElem?_eq_getElem hlt] at hu ⊢
                  exact e2 w F u hu
                · rw [if_neg h2] at hu ⊢
                  exact hu
              · refine Le.of_eq ?_
                simp only [arrSetAll, hk, false_and, if_false, getL, List.getD, List.getElem?_set_ne (Ne.symm hk)]
            · simp [dropIds] at hm
          · cases hu
      · cases he
    · cases hp
  · cases hp

theorem pay_append {cl : Call} {a b : C} (ho : o.op = .call cl) (hcl : cl.callee = .builtin .append) (he : evOp TT Γ o ([T.d (.one a), T.d (.one b)].map T.er) (fun i => (h i).map Obj.er) = some (c, x, ups))
    (hp : payOp TT o [.d (.one a), .d (.one b)] h = some p) : UpsPay p ups ∧ XPay p x := by
  simp only [payOp, ho, hcl] at hp
  split at hp
  · rename_i ei t _ het
    split at hp
    · rename_i l m hl hm
      cases hp
      have hop : ∀ cc, ∃ cc', T.er (.d (.one cc)) = .d (.one cc') := fun cc => by
        unfold T.er
        split <;> exact ⟨_, rfl⟩
      obtain ⟨a', ha⟩ := hop a
      obtain ⟨b', hb⟩ := hop b
      simp only [Option.bind_eq_some_iff] at het
      obtain ⟨ty, hty, het⟩ := het
      obtain ⟨ti, e, h1, h2, h3, h4, h5⟩ := elemTy_some het
      simp only [evOp, ho, hcl, List.map_cons, List.map_nil, ha, hb, evBuiltin] at he
      have hst : ∀ {st}, (match cl.argTypes.toList with | [t1, t2] => (bif Nat.beq t1 t2 then some t1 else none) | _ => none) = some st → st = ty := by
        intro st hst
        split at hst
        · rename_i t1 t2 hl2
          cases hbq : Nat.beq t1 t2 with
          | false => rw [hbq] at hst; cases hst
          | true =>
            rw [hbq] at hst
            cases hst
            have : cl.argTypes[0]? = some st := by rw [← Array.getElem?_toList, hl2]; rfl
            rw [this] at hty
            exact Option.some.inj hty
        · cases hst
      split at he
      · cases he
      · rename_i st hs
        have := hst hs
        subst this
        simp only [h1, h2, h3] at he
        unfold evAppend at he
        split at he
        · rename_i zs q m' get' hz hin
          obtain ⟨g1, g2⟩ := payOf_in hm hb hin
          split at he
          · split at he
            · have hnil : l = [] := by
                have : a = .r (.v (.slice none 0 0)) := by
                  cases a with
                  | r q => cases q <;> simp_all [T.er]
                  | _ => simp [T.er] at ha
                subst this
                simp [payOf] at hl
                exact hl
              cases he
              refine ⟨fun i t' sz n' gg hm' => ?_, fun sz n get e => by cases e⟩
              simp only [List.mem_singleton, Prod.mk.injEq, Option.some.injEq, Obj.arr.injEq] at hm'
              obtain ⟨_, _, rfl, rfl, rfl⟩ := hm'
              subst hnil
              exact ⟨h5.symm, by simpa using g1, fun k hk j hj => Le.of_eq (by rw [g2 k hk j]; rfl)⟩
            · rename_i i
              split at he
              · rename_i at_ sz n get hi
                split at he
                · cases he
                  have hin2 : sliceIn (fun i => (h i).map Obj.er) sz ti.ez (.own i) = some ([i], n, get) := by
                    simp only [sliceIn, hi, Nat.beq_refl]
                  obtain ⟨f1, f2⟩ := payOf_in hl ha hin2
                  refine ⟨fun i' t' sz' n' gg hm' => ?_, fun sz n get e => by cases e⟩
                  rcases List.mem_cons.1 hm' with hm' | hm'
                  · cases hm'
                  · simp only [List.mem_singleton, Prod.mk.injEq, Option.some.injEq, Obj.arr.injEq] at hm'
                    obtain ⟨_, _, rfl, rfl, rfl⟩ := hm'
                    refine ⟨h5.symm, by simp only [List.length_append]; omega, fun k hk j hj => Le.of_eq ?_⟩
                    simp only [arrApp]
                    by_cases hkn : k < n
                    · rw [if_pos hkn, f2 k hkn j]
                      simp only [getL, List.getD, List.getElem?_append_left (show k < l.length by omega)]
                    · rw [if_neg hkn, g2 (k - n) (by omega) j]
                      simp only [getL, List.getD, List.getElem?_append_right (show l.length ≤ k by omega), f1]
                · cases he
              · cases he
            · cases he
          · cases he
        · cases he
    · cases hp
  · cases hp
theorem bytes_li {l : List Int} : areBytes (List.length l) (getL (.int .u8) l) = true ∧ bytesOf (List.length l) (getL (.int .u8) l) = byteL l := by
  constructor
  · simp only [areBytes, List.all_eq_true, List.mem_range]
    intro i hi
    rfl
  · simp only [bytesOf, byteL]
    refine List.ext_getElem (by simp) fun i h1 h2 => ?_
    have hi : i < l.length := by simpa using h1
    simp only [List.getElem_map, List.getElem_range]
    have : getL (.int .u8) l i 0 = .v (.int .u8 l[i]) := by
      rw [getL_lt (t := .int .u8) (l := l) (x := l[i]) (List.getElem?_eq_getElem hi)]; rfl
    rw [this]; rfl

theorem pay_bytes {l : List (Den (.int .u8))} (hb : bytesPay o xs h = some l) (he : evOp TT Γ o (xs.map T.er) (fun i => (h i).map Obj.er) = some (c, x, ups)) :
    x = .d (.one (.r (.v (.string (mk (byteL l)))))) ∧ c = some true := by
  unfold bytesPay at hb
  split at hb
  · rename_i A B C t l' ho
    obtain ⟨g, rfl⟩ := castL_some hb
    subst g
    simp only [evOp, ho, List.map_cons, List.map_nil, T.er] at he
    split at he
    · simp only [evConv, Option.map_eq_some_iff] at he
      obtain ⟨⟨b, cc⟩, h1, h2⟩ := he
      split at h1
      · simp only [sliceIn] at h1
        split at h1
        · rename_i heq
          split at heq
          · cases heq
            cases h1
            cases h2
            exact ⟨congrArg (fun z => T.d (.one (.r (.v (.string (mk z)))))) (bytes_li (l := l')).2, congrArg some (bytes_li (l := l')).1⟩
          · cases heq
        · cases h1
      · cases h1
    · cases he
  · rename_i A B C i ho
    split at hb
    · rename_i t' t l' hi
      obtain ⟨g, rfl⟩ := castL_some hb
      subst g
      simp only [evOp, ho, List.map_cons, List.map_nil, T.er] at he
      split at he
      · simp only [evConv, Option.map_eq_some_iff] at he
        obtain ⟨⟨b, cc⟩, h1, h2⟩ := he
        split at h1
        · simp only [sliceIn, hi, Option.map_some, Obj.er] at h1
          split at h1
          · rename_i heq
            split at heq
            · cases heq
              cases h1
              cases h2
              exact ⟨congrArg (fun z => T.d (.one (.r (.v (.string (mk z)))))) (bytes_li (l := l')).2, congrArg some (bytes_li (l := l')).1⟩
            · cases heq
          · cases h1
        · cases h1
      · cases he
    · cases hb
  · cases hb

theorem pay_ok (he : evOp TT Γ o (bif erasesX o then xs.map T.er else xs) (bif erases o then fun i => (h i).map Obj.er else h) = some (c, x, ups)) (hc : c = none ∨ c = some true) (hp : payOp TT o xs h = some p) : UpsPay p ups ∧ XPay p x := by
  have hp0 := hp
  unfold payOp at hp
  split at hp
  · rename_i ho
    simp only [erases, erasesX, ho, cond_false] at he
    exact pay_build ho he hp0
  · rename_i ho
    simp only [erases, erasesX, ho, cond_false] at he
    exact pay_make ho he hp0
  · rename_i ho
    simp only [erases, erasesX, ho, cond_true] at he
    exact pay_slice ho he hc hp0
  · rename_i ho
    simp only [erases, erasesX, ho, cond_true, cond_false] at he
    exact pay_store ho he hp0
  · rename_i cl a b ho
    split at hp
    · rename_i hcl het
      simp only [erases, erasesX, ho, hcl, cond_true] at he
      exact pay_append ho hcl he hp0
    · cases hp
  · cases hp
end

section
variable {P : Program} {TT : Types} {w0 w : World} {O0 F0 F : Nat → Prop} {h : HF} {β : Nat → Value} {a : Act} {o : Oper} {K : Act → World → Prop} {Q : Exit → Act → World → Prop} {x : T} {v : Value}

theorem isNew_look {ups : Ups} {p : Option Pay} {j : Nat} {q : Option Obj} (hm : (j, q) ∈ ups) : ∃ q', (j, q') ∈ retUps p ups := by
  cases p with
  | none => exact ⟨q, hm⟩
  | some r =>
    refine ⟨(retO r (j, q)).2, List.mem_map.2 ⟨(j, q), hm, ?_⟩⟩
    unfold retO
    split
    · rename_i heq; cases heq; rfl
    · rfl

/-- ████ ONE OPERATION, TOLD BY LISTS. ████ -/
theorem evOpT_sound (H : Inv w0 O0 F0 w F h β) (ht : TTok P TT) {Γ : Env} (hΓ : EnvOk P Γ) {hh : Nat → Option Obj} (hhh : ∀ i ob, hh i = some ob → h i = some (some ob)) {xs : List T} {c : Option Bool} {ups : Ups}
    (he : evOpT TT Γ o xs hh = some (c, x, ups)) (hc : c = none ∨ c = some true) (hx : All2 (RepX a.tmps w F h β) xs (o.op.operands.toList.map a.eval)) (hnew : ∀ j q, (j, q) ∈ ups → isNew (o.dst.getD 0) j = true → h j = none)
    (hK : ∀ v w', Out w0 O0 F0 w F h β a.tmps ups x v w' → K (a.put o.dst v) w') : o.wp P a w K Q := by
  have hxx : All2 (RepX a.tmps w F h β) (bif erasesX o then xs.map T.er else xs) (o.op.operands.toList.map a.eval) := by
    cases erasesX o
    · exact hx
    · exact All2.map_l.2 (hx.mono fun _ _ => er_sound)
  have main : ∀ {c' : Option Bool} {x' : T} {ups' : Ups}, evOp TT Γ o (bif erasesX o then xs.map T.er else xs) (bif erases o then fun i => (hh i).map Obj.er else hh) = some (c', x', ups') → (c' = none ∨ c' = some true) →
      (∀ j q, (j, q) ∈ ups' → isNew (o.dst.getD 0) j = true → h j = none) → ∀ (p : Option Pay), (∀ q, p = some q → UpsPay q ups' ∧ XPay q x') → (∀ v w', Out w0 O0 F0 w F h β a.tmps (retUps p ups') (retT p x') v w' → K (a.put o.dst v) w') → o.wp P a w K Q := by
    intro c' x' ups' he' hc' hnew' p hp hK'
    cases hb : erases o
    · rw [hb] at he'
      exact evOp_sound H ht hΓ hhh he' hc' hxx hnew' fun v w' hout => hK' v w' (Out.told (p := p) (Shp.refl h) (fun i o1 o2 h1 h2 => by rw [h1] at h2; cases h2; exact fun _ _ _ _ hr => hr) hp hout)
    · rw [hb] at he'
      have hxe : All2 (RepX a.tmps w F (erF h) β) (bif erasesX o then xs.map T.er else xs) (o.op.operands.toList.map a.eval) := hxx.mono fun _ _ => (erF_shp h).repX
      refine evOp_sound H.er ht hΓ (hh := fun i => (hh i).map Obj.er) (fun i ob hi => ?_) he' hc' hxe (fun j q hj hn => by simp [erF, hnew' j q hj hn]) fun v w' hout =>
        hK' v w' (Out.told (p := p) (erF_shp h).symm (fun i o1 o2 h1 h2 => ?_) hp hout)
      · simp only [Option.map_eq_some_iff] at hi
        obtain ⟨o1, h1, rfl⟩ := hi
        simp [erF, hhh i o1 h1]
      · simp only [erF, h2, Option.map_some, Option.some.injEq] at h1
        subst h1
        exact fun _ _ _ _ hr => RepO_er.1 hr
  unfold evOpT at he
  split at he
  · rename_i x' hn
    cases he
    unfold nilOp at hn
    split at hn
    · rename_i ty X Y ty2 c' ho
      rw [ho] at hx
      cases hx with | cons h1 h2 => cases h2 with | cons h2 h3 =>
      split at hn
      · rename_i hs
        have hY : a.eval Y = .slice none 0 0 := h2.1
        split at hn
        · rename_i l
          cases hn
          obtain ⟨ad, cap, e, _, _, hh⟩ := h1
          refine op_nilEq (x := .nilq l.length) H ht ho hs (List.cons.inj e).1 hY ⟨_, rfl, fun hp => ?_⟩ hK
          rcases hh with hh | ⟨b, o, rfl, _, _⟩
          · omega
          · rfl
        · rename_i n _
          cases hn
          obtain ⟨ad, cap, e, _, _, hh⟩ := h1
          refine op_nilEq (x := .nilq n) H ht ho hs e hY ⟨_, rfl, fun hp => ?_⟩ hK
          rcases hh with hh | ⟨b, o, rfl, _, _⟩
          · omega
          · rfl
        · cases hn
          exact op_nilEq (x := .d (.one (.r (.v (.bool true))))) H ht ho hs h1.1 hY ⟨rfl, rfl⟩ hK
        · cases hn
      · cases hn
    · cases hn
  rename_i hnn
  clear hnn
  split at he
  · rename_i r hr
    cases he
    exact xOp_sound H ht hhh hr hc hx hnew hK
  rename_i hxn
  clear hxn
  split at he
  · rename_i c' x' ups' he'
    split at he
    · rename_i l hl
      cases he
      have hers : erases o = true ∧ erasesX o = true := by
        unfold bytesPay at hl
        split at hl
        · rename_i ho; simp [erases, erasesX, ho]
        · rename_i ho; simp [erases, erasesX, ho]
        · cases hl
      have he2 := he'
      rw [hers.1, hers.2] at he2
      obtain ⟨hx', hc'⟩ := pay_bytes hl he2
      exact main he' (.inr hc') hnew none (fun q e => by cases e) (by rw [hx']; exact hK)
    · split at he
      · rename_i p hp
        cases he
        refine main he' hc (fun j q hj hn => ?_) (some p) (fun q e => by cases e; exact pay_ok he' hc hp) hK
        obtain ⟨q', hq'⟩ := isNew_look (p := some p) hj
        exact hnew j q' hq' hn
      · cases he
        exact main he' hc hnew none (fun q e => by cases e) hK
  · cases he
end
end Go.Proofs.YthhmpjnmmhfngaaDoor.Ev
