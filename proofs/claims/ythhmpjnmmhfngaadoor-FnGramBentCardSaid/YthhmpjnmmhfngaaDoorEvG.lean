/-
  Slices of slices and strings, conversions, the least and the greatest.
-/
import Derived.Test.YthhmpjnmmhfngaaDoorEvF
import Derived.Laws.BytesString
namespace Go.Proofs.YthhmpjnmmhfngaaDoor.Ev
open Go

section
variable {P : Program} {TT : Types} {w0 w : World} {O0 F0 F : Nat → Prop} {h : HF} {β : Nat → Value} {a : Act} {o : Oper} {K : Act → World → Prop} {Q : Exit → Act → World → Prop} {x : T} {v : Value}

/-- What a slice holds, as read only data of a world in which its object is read only. -/
theorem sliceIn_sound (H : Inv w0 O0 F0 w F h β) {hh : Nat → Option Obj} (hhh : ∀ i ob, hh i = some ob → h i = some (some ob)) {sz : Nat} {ez : List R} {c : C} {ids : List Nat} {n : Nat} {get : Nat → Nat → R} {u : Value}
    (hs : sliceIn hh sz ez c = some (ids, n, get)) (hc : RepC w F h β c u) (F' : Nat → Prop) (hF : ∀ b, F b → F' b) (hids : ∀ i ∈ ids, ∀ o b, h i = some (some o) → Blk (β i) b → F' b) :
    Ro w F' (.sl sz n get) u := by
  unfold sliceIn at hs
  split at hs
  · split at hs
    · rename_i e
      cases hs
      have e := Nat.eq_of_beq_eq_true e
      subst e
      exact Ro.mono (fun _ _ => rfl) hF hc
    · cases hs
  · cases hs; obtain ⟨rfl, _⟩ := hc; exact ⟨none, 0, rfl, by omega, by simp [maxLen], .inl rfl⟩
  · split at hs
    · rename_i hi
      split at hs
      · rename_i e
        cases hs
        have e := Nat.eq_of_beq_eq_true e
        subst e
        have hi' := hhh _ _ hi
        rw [hc.2.2 _ hi']
        exact ro_of_arr (H.obj _ _ hi') hF fun b hb => hids _ (List.mem_singleton_self _) _ b hi' hb
      · cases hs
    · cases hs
  · cases hs

theorem sliceIn_pres {hh : Nat → Option Obj} {sz : Nat} {ez : List R} {c : C} {ids : List Nat} {n : Nat} {get : Nat → Nat → R} (hs : sliceIn hh sz ez c = some (ids, n, get)) : ∀ i ∈ ids, ∃ ob, hh i = some ob := by
  unfold sliceIn at hs
  split at hs
  · split at hs <;> cases hs; simp
  · cases hs; simp
  · split at hs
    · rename_i hi
      split at hs <;> cases hs
      intro i hi'
      simp at hi'
      subst hi'
      exact ⟨_, hi⟩
    · cases hs
  · cases hs

/-- an optional bound of a slice expression -/
def OptInt : Option Value → Option Int → Prop
  | none, none => True
  | some (.int _ n), some m => n = m
  | _, _ => False

theorem inr_iff {l r : Int} {n : Nat} : inr l r n = true ↔ 0 ≤ l ∧ l ≤ r ∧ r ≤ (n : Int) := by simp [inr]

theorem run_bounds {isS : Bool} {n cap : Nat} {lo hi : Option Value} {li hi' : Option Int} (hl : OptInt lo li) (hh : OptInt hi hi') (hr : inr (li.getD 0) (hi'.getD (n : Int)) n = true) (hn : n ≤ cap) :
    (Instr.sliceBounds isS n cap lo hi none).run P w = .ok ((li.getD 0).toNat, (hi'.getD (n : Int)).toNat, cap) w := by
  obtain ⟨h0, h1, h2⟩ := inr_iff.1 hr
  have e : (((hi'.getD (n : Int)).toNat : Nat) : Int) = hi'.getD (n : Int) := Int.toNat_of_nonneg (by omega)
  have step : ∀ (z : Option Value), OptInt z li → (match z with | some v => Instr.sliceBound v (hi'.getD (n : Int)).toNat .sliceB | none => pure 0 : Sem Nat).run P w = .ok (li.getD 0).toNat w := by
    intro z hz
    cases z with
    | none => cases li with
      | none => rfl
      | some m => exact hz.elim
    | some v => cases li with
      | none => cases v <;> exact hz.elim
      | some m =>
        cases v <;> first | exact hz.elim | skip
        rename_i k q
        have : q = m := hz
        subst this
        simp only [Option.getD_some] at *
        exact run_sliceBound w k q _ _ h0 (by omega)
  cases hi with
  | none =>
    cases hi' with
    | some m => exact hh.elim
    | none =>
      simp only [Option.getD_none, Int.toNat_natCast] at *
      simp only [Instr.sliceBounds, Sem.run_bind, Sem.run_pure, Result.andThen_ok, Option.isSome_none, Bool.false_eq_true, if_false]
      have st := step lo hl
      cases lo with
      | none => simp only [Sem.run_pure, Result.ok.injEq, and_true] at st; simp [← st]
      | some v => simp only [] at st; simp [st]
  | some v =>
    cases hi' with
    | none => cases v <;> exact hh.elim
    | some m =>
      cases v <;> first | exact hh.elim | skip
      rename_i k q
      have : q = m := hh
      subst this
      simp only [Option.getD_some] at *
      have hb : ∀ code, (Instr.sliceBound (.int k q) cap code).run P w = .ok q.toNat w := fun code => run_sliceBound w k q _ _ (by omega) (by omega)
      simp only [Instr.sliceBounds, Sem.run_bind, Sem.run_pure, Result.andThen_ok, Option.isSome_none, Bool.false_eq_true, if_false, hb]
      have st := step lo hl
      cases lo with
      | none => simp only [Sem.run_pure, Result.ok.injEq, and_true] at st; simp [← st]
      | some v => simp only [] at st; simp [st]

theorem op_slice_str (H : Inv w0 O0 F0 w F h β) (ht : TTok P TT) {ty : TypeId} {ti : TI} {X : Operand} {lo hi : Option Operand} (ho : o.op = .slice ty X lo hi none) (hti : TT ty = some ti) (hs : isStr ti.desc = true) {s : ByteArray} {li hi' : Option Int}
    (hX : a.eval X = .string s) (hpl : plain (.string s) = true) (hl : OptInt (lo.map a.eval) li) (hh : OptInt (hi.map a.eval) hi') (hr : inr (li.getD 0) (hi'.getD (s.data.toList.length : Int)) s.data.toList.length = true)
    (hK : ∀ v w', Out w0 O0 F0 w F h β a.tmps [] (.d (.one (.r (.v (.string (mk ((s.data.toList.drop (li.getD 0).toNat).take ((hi'.getD (s.data.toList.length : Int)).toNat - (li.getD 0).toNat)))))))) v w' → K (a.put o.dst v) w') :
    o.wp P a w K Q := by
  have hd : ti.desc = .string := by unfold isStr at hs; split at hs <;> first | assumption | cases hs
  refine op_quiet H (v := .string _) ?_ (rep_v (by
    simp only [plain, Nat.ble_eq] at hpl ⊢
    show (List.take _ (List.drop _ s.data.toList)).length ≤ _
    simp only [List.length_take, List.length_drop]; omega)) hK
  have hb := run_bounds (P := P) (w := w) (isS := false) hl hh hr (Nat.le_refl _)
  rw [← size_list] at hb
  have e : s.extract (li.getD 0).toNat (hi'.getD (s.size : Int)).toNat = mk ((s.data.toList.drop (li.getD 0).toNat).take ((hi'.getD (s.data.toList.length : Int)).toNat - (li.getD 0).toNat)) := by
    rw [← size_list]
    apply ByteArray.ext
    apply Array.ext'
    simp [ByteArray.data_extract, List.extract_eq_take_drop]
  rw [← e]
  simp only [execOp, ho, hX, Option.map_none, Instr.sliceAt, Sem.run_bind, ht.run_under hti, hd, Result.andThen_ok, Instr.slice, Option.isSome_none, Bool.false_eq_true, if_false, Sem.run_pure, hb]

theorem ro_sub {F' : Nat → Prop} {sz n : Nat} {get : Nat → Nat → R} {ad : Option Addr} {cap : Nat} {ez : List R} {l r : Nat} (hu : Ro w F' (.sl sz n get) (.slice ad n cap)) (h1 : l ≤ r) (h2 : r ≤ n) :
    Ro w F' (.sl sz (r - l) (arrSub get l (r - l) ez)) (sliced ad l r cap sz) := by
  obtain ⟨ad', cap', e, hnc, hcm, hh⟩ := hu
  cases e
  refine ⟨_, cap - l, rfl, by omega, by omega, ?_⟩
  rcases hh with hh | ⟨b, off, rfl, hf, hh⟩
  · exact .inl (by omega)
  · by_cases hlr : r - l = 0
    · exact .inl hlr
    · refine .inr ⟨b, off + l * sz, ?_, hf, fun i hi j hj => ?_⟩
      · rw [if_neg (by omega)]; simp [Addr.add_lit]
      · obtain ⟨y, hy, hr⟩ := hh (l + i) (by omega) j hj
        refine ⟨y, ?_, ?_⟩
        · rw [← hy]; congr 2; rw [Nat.add_mul]; omega
        · simp only [arrSub, hi, if_true]; exact hr

theorem run_slice_sl (ht : TTok P TT) {ty e : TypeId} {ti ei : TI} (hti : TT ty = some ti) (hd : ti.desc = .slice e) (hei : TT e = some ei) {ad : Option Addr} {n cap : Nat} {lo hi : Option Value} {li hi' : Option Int}
    (hl : OptInt lo li) (hh : OptInt hi hi') (hr : inr (li.getD 0) (hi'.getD (n : Int)) n = true) (hn : n ≤ cap) :
    (Instr.sliceAt ty (.slice ad n cap) lo hi none).run P w = .ok (sliced ad (li.getD 0).toNat (hi'.getD (n : Int)).toNat cap ei.info.size) w := by
  have hb := run_bounds (P := P) (w := w) (isS := true) hl hh hr hn
  simp only [Instr.sliceAt, Sem.run_bind, ht.run_under hti, hd, Result.andThen_ok, Instr.slice, hb, ht.run_size hei, Sem.run_pure, sliced]

theorem op_slice_sl (H : Inv w0 O0 F0 w F h β) (ht : TTok P TT) {hh : Nat → Option Obj} (hhh : ∀ i ob, hh i = some ob → h i = some (some ob)) {ty e : TypeId} {ti ei : TI} {X : Operand} {lo hi : Option Operand} (ho : o.op = .slice ty X lo hi none)
    (hti : TT ty = some ti) (hd : ti.desc = .slice e) (hei : TT e = some ei) {c : C} {ids : List Nat} {n : Nat} {get : Nat → Nat → R} (hs : sliceIn hh ei.info.size ti.ez c = some (ids, n, get)) (hx : RepC w F h β c (a.eval X)) {li hi' : Option Int}
    (hl : OptInt (lo.map a.eval) li) (hh' : OptInt (hi.map a.eval) hi') (hr : inr (li.getD 0) (hi'.getD (n : Int)) n = true)
    (hK : ∀ v w', Out w0 O0 F0 w F h β a.tmps (dropIds ids) (.d (.one (.r (.sl ei.info.size ((hi'.getD (n : Int)).toNat - (li.getD 0).toNat) (arrSub get (li.getD 0).toNat ((hi'.getD (n : Int)).toNat - (li.getD 0).toNat) ti.ez))))) v w' → K (a.put o.dst v) w') :
    o.wp P a w K Q := by
  obtain ⟨F1, H1, P1, hb1⟩ := H.freezes ids fun i hi => by obtain ⟨ob, hob⟩ := sliceIn_pres hs i hi; exact ⟨_, hhh _ _ hob⟩
  have hro := sliceIn_sound H hhh hs hx F1 P1.sub hb1
  have hro' := hro
  obtain ⟨ad, cap, hu, hnc, _, _⟩ := hro'
  obtain ⟨h0, h1, h2⟩ := inr_iff.1 hr
  rw [hu] at hro
  refine wp_val (v := sliced ad (li.getD 0).toNat (hi'.getD (n : Int)).toNat cap ei.info.size) (w' := w) ?_ (hK _ _ ⟨F1, β, H1, P1, ?_⟩)
  · simp only [execOp, ho, hu, Option.map_none, Sem.run_bind, run_slice_sl (w := w) ht hti hd hei hl hh' hr hnc, Result.andThen_ok, Sem.run_pure]
  · exact ro_sub hro (by omega) (by omega)

/-- 's[:0:0]' -/
theorem op_slice_zero (H : Inv w0 O0 F0 w F h β) (ht : TTok P TT) {hh : Nat → Option Obj} (hhh : ∀ i ob, hh i = some ob → h i = some (some ob)) {ty e : TypeId} {ti ei : TI} {X Y Z : Operand} (ho : o.op = .slice ty X none (some Y) (some Z))
    (hti : TT ty = some ti) (hd : ti.desc = .slice e) (hei : TT e = some ei) {c : C} {ids : List Nat} {n : Nat} {get : Nat → Nat → R} (hs : sliceIn hh ei.info.size ti.ez c = some (ids, n, get)) (hx : RepC w F h β c (a.eval X)) {ky kz : IntKind}
    (hY : a.eval Y = .int ky 0) (hZ : a.eval Z = .int kz 0) {s : Nat} (hs0 : h s = none) (g : Nat → Nat → R)
    (hK : ∀ v w', Out w0 O0 F0 w F h β a.tmps [(s, some (.arr e ei.info.size 0 g))] (.d (.one (.own s))) v w' → K (a.put o.dst v) w') : o.wp P a w K Q := by
  have hro := sliceIn_sound H hhh hs hx (fun b => F b ∨ ∃ i o, i ∈ ids ∧ h i = some (some o) ∧ Blk (β i) b) (fun _ hb => .inl hb) (fun i hi o b h1 h2 => .inr ⟨i, o, hi, h1, h2⟩)
  obtain ⟨ad, cap, hu, hnc, _, _⟩ := hro
  have T := H.turn (w' := w) (F' := F) s (some (.arr e ei.info.size 0 g)) (.slice ad 0 0) rfl rfl rfl (Nat.le_refl _) (fun _ => False) (fun _ h => h.elim) (fun _ _ _ => rfl) (fun _ h => h) (fun _ h => .inl h)
    (fun q0 _ h0 => by rw [hs0] at h0; cases h0) (fun _ ob hob => by cases hob; exact ⟨.inl ⟨ad, by simp [setB], rfl⟩, fun b hb => by cases ad <;> simp [blk] at hb⟩)
  refine wp_val (v := .slice ad 0 0) (w' := w) ?_ (hK _ _ ⟨F, _, by rw [upd_cons]; exact T.1, by rw [upd_cons]; exact T.2, ?_⟩)
  · have hb : ∀ code (k : IntKind) (m : Nat), (Instr.sliceBound (.int k 0) m code).run P w = .ok 0 w := fun code k m => run_sliceBound w k 0 _ _ (by omega) (by omega)
    simp [execOp, ho, hu, hY, hZ, Instr.sliceAt, ht.run_under hti, hd, Instr.slice, Instr.sliceBounds, hb, ht.run_size hei]
  · exact ⟨rfl, ⟨some (.arr e ei.info.size 0 g), by simp [upd, look]⟩, fun ob _ => by simp [setB]⟩

/-! ### conversions -/
theorem plain_enc (n : Int) : plain (.string (Utf8.encode n)) = true := by
  have h : ∀ c : Nat, Nat.ble (Array.toList (ByteArray.data (if c < 128 then ⟨#[UInt8.ofNat c]⟩ else if c < 2048 then ⟨#[UInt8.ofNat (192 + c / 64), UInt8.ofNat (128 + c % 64)]⟩ else
      if c < 65536 then ⟨#[UInt8.ofNat (224 + c / 4096), UInt8.ofNat (128 + c / 64 % 64), UInt8.ofNat (128 + c % 64)]⟩ else
      ⟨#[UInt8.ofNat (240 + c / 262144), UInt8.ofNat (128 + c / 4096 % 64), UInt8.ofNat (128 + c / 64 % 64), UInt8.ofNat (128 + c % 64)]⟩))).length 9223372036854775807 = true := fun c => by
    split
    · rfl
    · split
      · rfl
      · split <;> rfl
  exact h (if Utf8.valid n then n.toNat else Utf8.runeError)

theorem bytes_fold (l : List Int) : ∀ (s : ByteArray), l.foldl (fun r n => r.push (UInt8.ofNat n.toNat)) s = mk (s.data.toList ++ l.map fun n => UInt8.ofNat n.toNat) := by
  induction l with
  | nil => intro s; obtain ⟨⟨s⟩⟩ := s; simp
  | cons n l ih =>
    intro s
    rw [List.foldl_cons, ih]
    obtain ⟨⟨s⟩⟩ := s
    simp [ByteArray.push]

theorem op_convert (H : Inv w0 O0 F0 w F h β) (ht : TTok P TT) {hh : Nat → Option Obj} (hhh : ∀ i ob, hh i = some ob → h i = some (some ob)) {s d : TypeId} {si di : TI} {X : Operand} (ho : o.op = .convert s d X) (hsi : TT s = some si) (hdi : TT d = some di)
    {c c' : C} {cond : Option Bool} (he : evConv (isBytes TT si.desc) di.desc si.ez hh c = some (cond, c')) (hc : cond = none ∨ cond = some true) (hx : RepC w F h β c (a.eval X))
    (hK : ∀ v w', Out w0 O0 F0 w F h β a.tmps [] (.d (.one c')) v w' → K (a.put o.dst v) w') : o.wp P a w K Q := by
  have hus : (P.underlying s).isSome = true := by rw [ht.under s si hsi]; rfl
  have hud := ht.under d di hdi
  unfold evConv at he
  split at he
  · rename_i k n
    obtain ⟨hu, _⟩ := hx
    split at he
    · rename_i k' hd
      cases he
      refine op_quiet H (v := .int k' (k'.wrap n)) ?_ (rep_v (plain_wrap _ _)) hK
      simp only [execOp, ho, hu, convert, Sem.run_bind, run_underlying (ht.under s si hsi), run_underlying hud, hd, Conv.intToInt, Result.andThen_ok, Sem.run_pure]
    · rename_i hd
      cases he
      refine op_quiet H (v := .string (Utf8.encode n)) ?_ (rep_v (plain_enc n)) hK
      simp only [execOp, ho, hu, convert, Sem.run_bind, run_underlying (ht.under s si hsi), run_underlying hud, hd, Conv.intToString, Result.andThen_ok, Sem.run_pure]
    · cases he
  · rename_i x
    obtain ⟨hu, hpl⟩ := hx
    split at he
    · rename_i hd
      cases he
      refine op_quiet H (v := .string x) ?_ (rep_v hpl) hK
      simp only [execOp, ho, hu, convert, Sem.run_bind, run_underlying (ht.under s si hsi), run_underlying hud, hd, Result.andThen_ok, Sem.run_pure]
    · cases he
  · split at he
    · rename_i hby hd
      split at he
      · rename_i ids n get hsl
        cases he
        simp only [reduceCtorEq, Option.some.injEq, false_or] at hc
        unfold isBytes at hby
        split at hby
        · rename_i e hse
          split at hby
          · rename_i ei hei
            split at hby
            · rename_i he8
              have hro := sliceIn_sound H hhh hsl hx (fun b => F b ∨ ∃ i o, i ∈ ids ∧ h i = some (some o) ∧ Blk (β i) b) (fun _ hb => .inl hb) (fun i hi o b h1 h2 => .inr ⟨i, o, hi, h1, h2⟩)
              obtain ⟨ad, cap, hu, hnc, hcm, hcells⟩ := hro
              refine op_quiet H (v := .string (mk (bytesOf n get))) ?_ (rep_v (by
                simp only [plain, Nat.ble_eq]
                show (bytesOf n get).length ≤ _
                simp only [bytesOf, List.length_map, List.length_range]
                simp only [maxLen] at hcm; omega)) hK
              have hconv := run_convert_bytes_string (P := P) w s d e ad n cap (by rw [ht.under s si hsi, hse]) (by rw [ht.under e ei hei, he8]) (by rw [hud, hd])
              simp only [execOp, ho, hu, Sem.run_bind, hconv]
              rcases hcells with rfl | ⟨b, off, rfl, _, hcells⟩
              · cases ad with
                | none => rfl
                | some ad =>
                  rw [run_bytesToString w ad 0 cap [] (by simp [loadCells, loadCellsFrom])]
                  rfl
              · have hall : ∀ i, i < n → w.cell? ⟨b, off + i, none⟩ = some (.int .u8 (match get i 0 with | .v (.int .u8 q) => q | _ => 0)) := fun i hi => by
                  obtain ⟨y, hy, hr⟩ := hcells i hi 0 (by omega)
                  simp only [areBytes, List.all_eq_true, List.mem_range] at hc
                  have := hc i hi
                  unfold isByte at this
                  split at this
                  · rename_i q hq
                    rw [hq] at hr ⊢
                    obtain ⟨rfl, _⟩ := hr
                    simpa using hy
                  · cases this
                have hl := run_loadCells (P := P) w ⟨b, off, none⟩ n (fun i => .int .u8 (match get i 0 with | .v (.int .u8 q) => q | _ => 0)) fun i hi => by rw [Addr.add_lit]; exact hall i hi
                rw [run_bytesToString w ⟨b, off, none⟩ n cap ((List.range n).map fun i => match get i 0 with | .v (.int .u8 q) => q | _ => 0) (by rw [hl]; simp [Function.comp_def])]
                rw [bytes_fold]
                simp only [Result.andThen_ok, Sem.run_pure]
                congr 4
                simp only [bytesOf, List.map_map, ByteArray.empty, ByteArray.emptyWithCapacity]
                apply List.map_congr_left
                intro i hi
                simp only [List.mem_range] at hi
                simp only [areBytes, List.all_eq_true, List.mem_range] at hc
                have := hc i hi
                unfold isByte at this
                split at this
                · rename_i q hq
                  simp [byteOf, hq]
                · cases this
            · cases hby
          · cases hby
        · cases hby
      · cases he
    · cases he
end
end Go.Proofs.YthhmpjnmmhfngaaDoor.Ev
