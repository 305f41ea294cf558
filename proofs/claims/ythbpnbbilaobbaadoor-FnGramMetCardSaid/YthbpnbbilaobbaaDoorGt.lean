/-
  The signs that are met.
-/
import Derived.Test.YthbpnbbilaobbaaDoorGs
import Derived.Lib.Bytealg
namespace Go.Proofs.YthbpnbbilaobbaaDoor.Ev
open Go
theorem conT_val {P : Program} {f : FuncId} {ts : List Ty} {G : Fn ts (Option Bool × T)} (he : EachF ts G fun ds r => (r.1 = none ∨ r.1 = some true) → SatX P f ds [] r.2 []) : ConVal P f (conT ts G) := by
  intro ds os c x objs hc hok
  simp only [conT] at hc
  split at hc
  · split at hc
    · rename_i c' r hap
      cases hc
      intro w F β args H hds
      obtain ⟨ds', h1, h2⟩ := each_of he hap hds
      exact h1 hok w F β args H h2
    · cases hc
  · cases hc
theorem ixB_plain (s : Str) (c : UInt8) (hs : List.length s ≤ 9223372036854775807) : plain (.int .i64 (Lib.indexByte s c)) = true := by
  have h1 := Lib.indexByte_ge s c
  have h2 : ∀ t : Str, Lib.indexByte t c ≤ (t.length : Int) := fun t => by
    induction t with
    | nil => exact (by decide : (-1 : Int) ≤ 0)
    | cons b l ih =>
      unfold Lib.indexByte
      simp only [List.length_cons]
      split
      · omega
      · split <;> omega
  have := h2 s
  exact plain_i64 (by omega) (by omega)
noncomputable def c_internal_bytealg_IndexByteString : Con := conT [.str, TU8] fun (s : Str) (c : Int) => (none, .d (ofD TI64 (Lib.indexByte s c.toNat.toUInt8)))
theorem sx_IndexByteString (s : Str) (c : Int) (hs : List.length s ≤ 9223372036854775807) : SatX Tryd.prog 247 [ofD .str s, ofD TU8 c] [] (vI (Lib.indexByte s c.toNat.toUInt8)) [] := by
  intro w F β args H hds
  cases hds with | cons h1 h2 => cases h2 with | cons h2 h3 =>
  cases h3
  obtain ⟨e1, _⟩ := h1
  obtain ⟨e2, _⟩ := h2
  subst e1; subst e2
  exact .inr ⟨.int .i64 (Lib.indexByte s c.toNat.toUInt8), w, (run_callFunc_extern Tryd.func247 (by kernel_rfl) (by kernel_rfl) (by kernel_rfl) (e := Extern.BytealgIndexByte.indexByte) (by kernel_rfl) _ w).trans
      (congrArg (fun r => Result.andThen r fun v w' => Result.ok (Next.value v) w') (Lib.run_indexByteString (mk s) c w)), _, F, β, rfl, H,
    fun i hi => absurd hi (Nat.not_lt_zero i), fun i o hi => absurd hi (Nat.not_lt_zero i), fun _ _ _ hh => (nomatch hh), rep_v (ixB_plain s _ hs)⟩
theorem k_internal_bytealg_IndexByteString : ConVal Tryd.prog 247 c_internal_bytealg_IndexByteString := conT_val fun s hs c _ _ => sx_IndexByteString s c hs
noncomputable def Γ78 : List (Nat × Con) := (247, c_internal_bytealg_IndexByteString) :: Γ77
theorem Γ78ok : EnvOk Tryd.prog (look Γ78) := .consV k_internal_bytealg_IndexByteString Γ77ok

theorem y_internal_stringslite_IndexByte (s : Str) (c : Int) : evFn (cxOf Γ78 Tryd.f231.ntmps [] [] [] []) Tryd.f231 true [ofD .str s, ofD TU8 c] [] = (
some ((vI (Lib.indexByte s c.toNat.toUInt8)), [])) := by kernel_rfl
theorem s_internal_stringslite_IndexByte (s : Str) (_hs : Fit .str s) (c : Int) (_hc : Fit TU8 c) : Sat Tryd.prog 231 [ofD .str s, ofD TU8 c] [] (.d (ofD TI64 (Lib.indexByte s c.toNat.toUInt8))) [] :=
  fn_sound (cx := cxOf Γ78 Tryd.f231.ntmps [] [] [] []) Tryd.func231 rfl ttOk Γ78ok mixed (fun _ _ => LoopsOk.no fun _ => rfl) (ro := true) (by
    rw [y_internal_stringslite_IndexByte]; rfl)
noncomputable def c_internal_stringslite_IndexByte : Con := conT [.str, TU8] fun (s : Str) (c : Int) => (none, .d (ofD TI64 (Lib.indexByte s c.toNat.toUInt8)))
theorem k_internal_stringslite_IndexByte : ConOk Tryd.prog 231 c_internal_stringslite_IndexByte := conT_ok Tryd.call231 fun s hs c hc _ => s_internal_stringslite_IndexByte s hs c hc
noncomputable def Γ79 : List (Nat × Con) := (231, c_internal_stringslite_IndexByte) :: Γ78
theorem Γ79ok : EnvOk Tryd.prog (look Γ79) := .cons k_internal_stringslite_IndexByte Γ78ok

theorem y_internal_stringslite_Index (s : Str) (t : Str) : evFn (cxOf Γ79 Tryd.f212.ntmps [(15, [0, 1, 5, 6, 7, 8, 9, 10])] [(1, []), (2, [0, 1, 5, 6, 7, 8, 9, 10]), (0, [0, 1, 5]), (1000000, [4])] [] []) Tryd.f212 true [ofD .str s, ofD .str t] [] = (
branch (bif decide ((t.length : Int) = 0) then true else decide (t = s)) ( some ((vI 0), [])) (
 branch (decide ((t.length : Int) = 1)) (
  need (inb 0 t.length) <| some ((vI (Lib.indexByte s (byteAt t 0).toNat.toUInt8)), [])) (
  need (decide ((s.length : Int) ≤ (t.length : Int))) <| some ((vI (Int.neg 1)), [])))) := by kernel_rfl
theorem byte_one (c : UInt8) : (byteAt [c] 0).toNat.toUInt8 = c := byteL_nat c
noncomputable def cx_slIndex : Cx := cxOf Γ79 Tryd.f212.ntmps [(15, [0, 1, 5, 6, 7, 8, 9, 10])] [(1, []), (2, [0, 1, 5, 6, 7, 8, 9, 10]), (0, [0, 1, 5]), (1000000, [4])] [] []
theorem s_internal_stringslite_Index (s : Str) (_hs : Fit .str s) (t : Str) (_ht : Fit .str t) (hpre : (Nat.beq (List.length t) 1) = true) : Sat Tryd.prog 212 [ofD .str s, ofD .str t] [] (.d (ofD TI64 (Lib.indexByte s (List.getD t 0 0)))) [] :=
  fn_sound (cx := cx_slIndex) Tryd.func212 rfl ttOk Γ79ok mixed (fun _ _ => LoopsOk.no fun _ => rfl) (ro := true) (by
    obtain ⟨c, rfl⟩ : ∃ c, t = [c] := List.length_eq_one_iff.1 (Nat.eq_of_beq_eq_true hpre)
    have y := y_internal_stringslite_Index s [c]
    have e0 : decide (((([c] : Str).length : Nat) : Int) = 0) = false := decide_eq_false (by simp)
    have e1 : decide (((([c] : Str).length : Nat) : Int) = 1) = true := decide_eq_true (by simp)
    have e2 : inb 0 ([c] : Str).length = true := inb_ok (by omega) (by simp)
    rw [byte_one, e0, e1, e2] at y
    by_cases h : ([c] : Str) = s
    · subst h
      have e4 : Lib.indexByte [c] c = 0 := by unfold Lib.indexByte; simp
      refine y.trans ?_
      show branch (decide (([c] : Str) = [c])) _ _ = some (vI (Lib.indexByte [c] c), [])
      rw [decide_eq_true (rfl : ([c] : Str) = [c]), e4]; rfl
    · refine y.trans ?_
      rw [decide_eq_false h]; rfl)
noncomputable def c_internal_stringslite_Index : Con := conT [.str, .str] fun (s : Str) (t : Str) => (some (Nat.beq (List.length t) 1), .d (ofD TI64 (Lib.indexByte s (List.getD t 0 0))))
theorem k_internal_stringslite_Index : ConOk Tryd.prog 212 c_internal_stringslite_Index := conT_ok Tryd.call212 fun s hs t ht hqq => s_internal_stringslite_Index s hs t ht (pre_of hqq)
noncomputable def Γ80 : List (Nat × Con) := (212, c_internal_stringslite_Index) :: Γ79
theorem Γ80ok : EnvOk Tryd.prog (look Γ80) := .cons k_internal_stringslite_Index Γ79ok

theorem y_strings_Index (s : Str) (t : Str) : evFn (cxOf Γ80 Tryd.f190.ntmps [] [] [] []) Tryd.f190 true [ofD .str s, ofD .str t] [] = (
need (t.length.beq 1) <| some ((vI (Lib.indexByte s (List.getD t 0 (UInt8.ofNat 0)))), [])) := by kernel_rfl
theorem s_strings_Index (s : Str) (_hs : Fit .str s) (t : Str) (_ht : Fit .str t) (hpre : (Nat.beq (List.length t) 1) = true) : Sat Tryd.prog 190 [ofD .str s, ofD .str t] [] (.d (ofD TI64 (Lib.indexByte s (List.getD t 0 0)))) [] :=
  fn_sound (cx := cxOf Γ80 Tryd.f190.ntmps [] [] [] []) Tryd.func190 rfl ttOk Γ80ok mixed (fun _ _ => LoopsOk.no fun _ => rfl) (ro := true) (by
    rw [y_strings_Index, hpre]; rfl)
noncomputable def c_strings_Index : Con := conT [.str, .str] fun (s : Str) (t : Str) => (some (Nat.beq (List.length t) 1), .d (ofD TI64 (Lib.indexByte s (List.getD t 0 0))))
theorem k_strings_Index : ConOk Tryd.prog 190 c_strings_Index := conT_ok Tryd.call190 fun s hs t ht hqq => s_strings_Index s hs t ht (pre_of hqq)
noncomputable def Γ81 : List (Nat × Con) := (190, c_strings_Index) :: Γ80
theorem Γ81ok : EnvOk Tryd.prog (look Γ81) := .cons k_strings_Index Γ80ok

theorem y_strings_Contains (s : Str) (t : Str) : evFn (cxOf Γ81 Tryd.f178.ntmps [] [] [] []) Tryd.f178 true [ofD .str s, ofD .str t] [] = (
need (t.length.beq 1) <| some ((vB (decide (0 ≤ Lib.indexByte s (List.getD t 0 (UInt8.ofNat 0))))), [])) := by kernel_rfl
theorem ixB_in (c : UInt8) : ∀ s : Str, decide (0 ≤ Lib.indexByte s c) = inS s (c.toNat : Int)
  | [] => rfl
  | b :: l => by
    have ih := ixB_in c l
    have hge := Lib.indexByte_ge l c
    show decide (0 ≤ Lib.indexByte (b :: l) c) = (decide ((b.toNat : Int) = (c.toNat : Int)) || inS l (c.toNat : Int))
    unfold Lib.indexByte
    by_cases hb : b = c
    · subst hb
      simp
    · have h1 : (b == c) = false := beq_eq_false_iff_ne.2 hb
      have h2 : decide ((b.toNat : Int) = (c.toNat : Int)) = false := decide_eq_false fun hh => hb (UInt8.toNat_inj.1 (by omega))
      rw [h1, h2, ← ih]
      simp only [Bool.false_eq_true, if_false, Bool.false_or]
      by_cases h3 : Lib.indexByte l c = -1
      · rw [h3]; rfl
      · have h4 : (Lib.indexByte l c == -1) = false := beq_eq_false_iff_ne.2 h3
        rw [h4]
        simp only [Bool.false_eq_true, if_false]
        rw [decide_eq_decide]
        omega
theorem s_strings_Contains (s : Str) (_hs : Fit .str s) (t : Str) (_ht : Fit .str t) (hpre : (Nat.beq (List.length t) 1) = true) : Sat Tryd.prog 178 [ofD .str s, ofD .str t] [] (.d (ofD .bool (inS s (((List.getD t 0 0).toNat : Nat) : Int)))) [] :=
  fn_sound (cx := cxOf Γ81 Tryd.f178.ntmps [] [] [] []) Tryd.func178 rfl ttOk Γ81ok mixed (fun _ _ => LoopsOk.no fun _ => rfl) (ro := true) (by
    rw [y_strings_Contains, hpre, ← ixB_in]; rfl)
noncomputable def c_strings_Contains : Con := conT [.str, .str] fun (s : Str) (t : Str) => (some (Nat.beq (List.length t) 1), .d (ofD .bool (inS s (((List.getD t 0 0).toNat : Nat) : Int))))
theorem k_strings_Contains : ConOk Tryd.prog 178 c_strings_Contains := conT_ok Tryd.call178 fun s hs t ht hqq => s_strings_Contains s hs t ht (pre_of hqq)
noncomputable def Γ82 : List (Nat × Con) := (178, c_strings_Contains) :: Γ81
theorem Γ82ok : EnvOk Tryd.prog (look Γ82) := .cons k_strings_Contains Γ81ok

theorem y_impl_metOf_1 (s : Str) (r : Rule) : evFn (cxOf Γ82 Tryd.f177.ntmps [] [] [] []) Tryd.f177 true [ofD .str s, ofD TRu r] [] = (
need ((List.length r.fst).beq 1) <|
branch (!inS s ((List.getD r.fst 0 (UInt8.ofNat 0)).toNat : Int)) ( some ((vS []), [])) (
 need ((List.length r.snd).blt 50 && (holdF 40).isSome) <| some ((vS (setS (pB 40) r.snd)), []))) := by kernel_rfl
/-- what a rule adds to the signs that are met -/
def metV (s : Str) (r : Rule) : Str := bif inS s ((r.1.getD 0 0).toNat : Int) then setS bigc r.2 else []
theorem s_impl_metOf_1 (s : Str) (_hs : Fit .str s) (r : Rule) (_hr : Fit TRu r) (hpre : (Nat.beq (List.length r.1) 1 && Nat.blt (List.length r.2) 50) = true) : Sat Tryd.prog 177 [ofD .str s, ofD TRu r] [] (.d (ofD .str (metV s r))) [] :=
  fn_sound (cx := cxOf Γ82 Tryd.f177.ntmps [] [] [] []) Tryd.func177 rfl ttOk Γ82ok mixed (fun _ _ => LoopsOk.no fun _ => rfl) (ro := true) (by
    obtain ⟨h1, h2⟩ := andd.1 hpre
    have h3 : ((List.length r.2).blt 50 && (holdF 40).isSome) = true := andd.2 ⟨h2, rfl⟩
    rw [y_impl_metOf_1, h1, h3]
    unfold metV
    show branch (!inS s ((List.getD r.1 0 0).toNat : Int)) _ _ = _
    cases inS s ((List.getD r.1 0 0).toNat : Int) <;> rfl)
noncomputable def c_impl_metOf_1 : Con := conT [.str, TRu] fun (s : Str) (r : Rule) => (some (Nat.beq (List.length r.1) 1 && Nat.blt (List.length r.2) 50), .d (ofD .str (metV s r)))
theorem k_impl_metOf_1 : ConOk Tryd.prog 177 c_impl_metOf_1 := conT_ok Tryd.call177 fun s hs r hr hqq => s_impl_metOf_1 s hs r hr (pre_of hqq)
noncomputable def Γ83 : List (Nat × Con) := (177, c_impl_metOf_1) :: Γ82
theorem Γ83ok : EnvOk Tryd.prog (look Γ83) := .cons k_impl_metOf_1 Γ82ok

/-- the signs of both -/
def unionV (a b : Str) : Str := setS (fun _ => true) (a ++ b)
theorem y_impl_union (a : Str) (b : Str) : evFn (cxOf Γ83 Tryd.f208.ntmps [] [] [] []) Tryd.f208 true [ofD .str a, ofD .str b] [] = (
need (decide ((List.length a + List.length b) ≤ 9223372036854775807)) <|
need ((List.append a b).length.blt 50 && (holdF 229).isSome) <| some ((vS (setS (pB 229) (List.append a b))), [])) := by kernel_rfl
theorem s_impl_union (a : Str) (_ha : Fit .str a) (b : Str) (_hb : Fit .str b) (hpre : (Nat.blt (List.length a + List.length b) 50) = true) : Sat Tryd.prog 208 [ofD .str a, ofD .str b] [] (.d (ofD .str (unionV a b))) [] :=
  fn_sound (cx := cxOf Γ83 Tryd.f208.ntmps [] [] [] []) Tryd.func208 rfl ttOk Γ83ok mixed (fun _ _ => LoopsOk.no fun _ => rfl) (ro := true) (by
    have h1 := ble_iff.1 hpre
    have k1 : decide (List.length a + List.length b ≤ 9223372036854775807) = true := dec_iff.2 (by omega)
    have k2 : ((List.append a b).length.blt 50 && (holdF 229).isSome) = true := andd.2 ⟨ble_iff.2 (by rw [List.append_eq, List.length_append]; exact h1), rfl⟩
    rw [y_impl_union, k1, k2]; rfl)
noncomputable def c_impl_union : Con := conT [.str, .str] fun (a : Str) (b : Str) => (some (Nat.blt (List.length a + List.length b) 50), .d (ofD .str (unionV a b)))
theorem k_impl_union : ConOk Tryd.prog 208 c_impl_union := conT_ok Tryd.call208 fun a ha b hb hqq => s_impl_union a ha b hb (pre_of hqq)
noncomputable def Γ84 : List (Nat × Con) := (208, c_impl_union) :: Γ83
theorem Γ84ok : EnvOk Tryd.prog (look Γ84) := .cons k_impl_union Γ83ok

theorem unionV_mem {a b : Str} {c : UInt8} : c ∈ unionV a b ↔ c ∈ a ∨ c ∈ b := by
  unfold unionV
  rw [setS_mem, List.mem_append]
  simp
theorem unionV_asc {a b : Str} : Asc (unionV a b) := setS_asc
theorem metV_mem {s : Str} {r : Rule} {c : UInt8} : c ∈ metV s r ↔ inS s ((r.1.getD 0 0).toNat : Int) = true ∧ c ∈ r.2 ∧ bigc c = true := by
  unfold metV
  cases inS s ((r.1.getD 0 0).toNat : Int)
  · simp
  · rw [cond_true, setS_mem]; simp
theorem metV_len {s : Str} {r : Rule} : (metV s r).length ≤ r.2.length := by
  unfold metV
  cases inS s ((r.1.getD 0 0).toNat : Int)
  · exact Nat.zero_le _
  · exact setS_len
theorem big_five {s : Str} (ha : Asc s) (hb : ∀ c ∈ s, bigc c = true) : s.length ≤ 5 := by
  have hnd : s.Nodup := ha.imp fun hh e => by subst e; omega
  refine hnd.length_le_of_subset (l₂ := [65, 66, 67, 68, 69]) fun c hc => ?_
  have := hb c hc
  unfold bigc at this
  rw [andd, ble_iff, ble_iff] at this
  have h : c.toNat = 65 ∨ c.toNat = 66 ∨ c.toNat = 67 ∨ c.toNat = 68 ∨ c.toNat = 69 := by omega
  have e : ∀ {n : Nat} (d : UInt8), d.toNat = n → c.toNat = n → c = d := fun d h1 h2 => UInt8.toNat_inj.1 (h2.trans h1.symm)
  rcases h with h | h | h | h | h
  · rw [e 65 rfl h]; decide
  · rw [e 66 rfl h]; decide
  · rw [e 67 rfl h]; decide
  · rw [e 68 rfl h]; decide
  · rw [e 69 rfl h]; decide
theorem asc_grow {s t : Str} (hs : Asc s) (ht : Asc t) (h : ∀ c ∈ s, c ∈ t) (hne : t ≠ s) : s.length < t.length := by
  rcases Nat.lt_or_ge s.length t.length with h1 | h1
  · exact h1
  · exfalso
    refine hne (asc_ext ht hs fun c => ⟨fun hc => ?_, h c⟩)
    by_cases hcs : c ∈ s
    · exact hcs
    · exfalso
      have hnd : (c :: s).Nodup := List.nodup_cons.2 ⟨hcs, hs.imp fun hh e => by subst e; omega⟩
      have := hnd.length_le_of_subset (l₂ := t) fun x hx => by
        rcases List.mem_cons.1 hx with rfl | hx
        · exact hc
        · exact h x hx
      simp only [List.length_cons] at this
      omega
/-- one way through the rules -/
def growF (o : Str) (l : List Rule) : Str := l.foldl (fun o r => unionV o (metV o r)) o
def growN (g : Gram) : Nat → Str → Str
  | 0, s => s
  | n + 1, s => bif decide (growF s g.2 = s) then s else growN g n (growF s g.2)
theorem growF_sub : ∀ {l : List Rule} {o : Str}, ∀ c ∈ o, c ∈ growF o l
  | [], _, _, h => h
  | r :: l, o, c, h => growF_sub (l := l) (o := unionV o (metV o r)) c (unionV_mem.2 (.inl h))
theorem growF_asc : ∀ {l : List Rule} {o : Str}, Asc o → Asc (growF o l)
  | [], _, h => h
  | r :: l, o, _ => growF_asc (l := l) (o := unionV o (metV o r)) unionV_asc
theorem growF_inv {p : UInt8 → Prop} : ∀ {l : List Rule} {o : Str}, (∀ c ∈ o, p c) → (∀ o r c, r ∈ l → (∀ c ∈ o, p c) → c ∈ metV o r → p c) → ∀ c ∈ growF o l, p c
  | [], _, h, _, c, hc => h c hc
  | r :: l, o, h, h2, c, hc => growF_inv (l := l) (o := unionV o (metV o r)) (fun c hc => by
      rcases unionV_mem.1 hc with hc | hc
      · exact h c hc
      · exact h2 o r c List.mem_cons_self h hc) (fun o r c hr => h2 o r c (List.mem_cons_of_mem _ hr)) c hc
theorem growF_big {l : List Rule} {o : Str} (h : ∀ c ∈ o, bigc c = true) : ∀ c ∈ growF o l, bigc c = true := growF_inv h fun _ _ _ _ _ hc => (metV_mem.1 hc).2.2
/-- all right big signs of a rule whose left sign is there are there -/
theorem growF_step : ∀ {l : List Rule} {o : Str} {r : Rule} {c : UInt8}, r ∈ l → inS o ((r.1.getD 0 0).toNat : Int) = true → c ∈ r.2 → bigc c = true → c ∈ growF o l
  | r0 :: l, o, r, c, hr, h1, h2, h3 => by
    show c ∈ growF (unionV o (metV o r0)) l
    rcases List.mem_cons.1 hr with rfl | hr
    · exact growF_sub c (unionV_mem.2 (.inr (metV_mem.2 ⟨h1, h2, h3⟩)))
    · exact growF_step hr (inS_mem.2 (unionV_mem.2 (.inl (inS_mem.1 h1)))) h2 h3
/-- met from the start -/
inductive Met (g : Gram) : UInt8 → Prop
  | start {c : UInt8} (h : c ∈ g.1) : Met g c
  | step {r : Rule} {c : UInt8} (hr : r ∈ g.2) (h1 : Met g (r.1.getD 0 0)) (h2 : c ∈ r.2) (h3 : bigc c = true) : Met g c
def closedR (s : Str) (r : Rule) : Prop := (r.1.getD 0 0) ∈ s → ∀ c ∈ r.2, bigc c = true → c ∈ s
theorem met_in {g : Gram} {s : Str} (h1 : ∀ c ∈ g.1, c ∈ s) (h2 : ∀ r ∈ g.2, closedR s r) {c : UInt8} (h : Met g c) : c ∈ s := by
  induction h with
  | start h => exact h1 _ h
  | step hr _ g2 g3 ih => exact h2 _ hr ih _ g2 g3
structure MetOk (g : Gram) (s : Str) : Prop where
  asc : Asc s
  big : ∀ c ∈ s, bigc c = true
  start : ∀ c ∈ g.1, c ∈ s
  met : ∀ c ∈ s, Met g c
theorem MetOk.grow {g : Gram} {s : Str} (h : MetOk g s) : MetOk g (growF s g.2) where
  asc := growF_asc h.asc
  big := growF_big h.big
  start := fun c hc => growF_sub c (h.start c hc)
  met := growF_inv h.met fun o r c hr ho hc => by
    obtain ⟨h1, h2, h3⟩ := metV_mem.1 hc
    exact .step hr (ho _ (inS_mem.1 h1)) h2 h3
theorem growN_fix {g : Gram} : ∀ {n : Nat} {s : Str}, MetOk g s → 5 < n + s.length → MetOk g (growN g n s) ∧ growF (growN g n s) g.2 = growN g n s
  | 0, s, h, hn => by have := big_five h.asc h.big; omega
  | n + 1, s, h, hn => by
    unfold growN
    by_cases e : growF s g.2 = s
    · rw [decide_eq_true e]; exact ⟨h, e⟩
    · rw [decide_eq_false e]
      have := asc_grow h.asc h.grow.asc growF_sub e
      exact growN_fix (n := n) h.grow (by omega)
theorem fix_mem {g : Gram} {s : Str} (h : MetOk g s) (hf : growF s g.2 = s) {c : UInt8} : c ∈ s ↔ Met g c :=
  ⟨h.met c, fun hc => met_in h.start (fun r hr h1 c hc hb => by
    have := growF_step (l := g.2) (o := s) hr (inS_mem.2 h1) hc hb
    rw [hf] at this
    exact this) hc⟩
/-- the signs that are met -/
def metG (g : Gram) : Str := growN g 5 g.1
theorem start_ok {g : Gram} (h : bigS g.1 = true) : MetOk g g.1 := by
  obtain ⟨c, h1, h2⟩ := bigS_one h
  exact ⟨by rw [h1]; exact List.pairwise_singleton _ _, fun d hd => by rw [h1] at hd; rw [List.mem_singleton.1 hd]; exact h2, fun _ hc => hc, fun _ hc => .start hc⟩
theorem metG_ok {g : Gram} (h : bigS g.1 = true) : MetOk g (metG g) ∧ growF (metG g) g.2 = metG g := growN_fix (start_ok h) (by
  obtain ⟨c, h1, _⟩ := bigS_one h
  rw [h1, List.length_singleton]; omega)
theorem metG_mem {g : Gram} (h : bigS g.1 = true) {c : UInt8} : c ∈ metG g ↔ Met g c := fix_mem (metG_ok h).1 (metG_ok h).2
theorem growN_met {g : Gram} (h : bigS g.1 = true) {n : Nat} {s : Str} (hs : MetOk g s) (hn : 5 < n + s.length) : growN g n s = metG g := by
  obtain ⟨h1, h2⟩ := growN_fix hs hn
  exact asc_ext h1.asc (metG_ok h).1.asc fun c => (fix_mem h1 h2).trans (metG_mem h).symm
/-- a rule of one left sign, with few on the right -/
def okR0 (r : Rule) : Bool := Nat.beq (List.length r.1) 1 && Nat.ble (List.length r.2) 20
abbrev gH (g : Gram) : Heap := [(500000, some (boxD 25 TG g))]
theorem okR_G {g : Gram} (h : okG g = true) : List.all g.2 okR0 = true := List.all_eq_true.2 fun r hr => by
  obtain ⟨_, _, h3⟩ := okG_iff h
  obtain ⟨g1, g2⟩ := h3 r hr
  obtain ⟨c, g1, _⟩ := bigS_one g1
  have := (areS_iff g2).2
  exact andd.2 ⟨by rw [g1]; rfl, ble_iff.2 (by omega)⟩
theorem growF_at {o : Str} {l : List Rule} {i : Int} (h0 : 0 ≤ i) (h1 : i < (l.length : Int)) : growF o (l.drop i.toNat) = growF (unionV o (metV o (l.getD i.toNat d0))) (l.drop (i + 1).toNat) := by
  have hn : i.toNat < l.length := by omega
  rw [List.drop_eq_getElem_cons hn, show (i + 1).toNat = i.toNat + 1 by omega, getD_at hn]; rfl
theorem union_big {o : Str} {r : Rule} (h : List.all o bigc = true) : List.all (unionV o (metV o r)) bigc = true := List.all_eq_true.2 fun c hc => by
  rcases unionV_mem.1 hc with hc | hc
  · exact List.all_eq_true.1 h c hc
  · exact (metV_mem.1 hc).2.2
/-- what is met so far -/
def metB (g : Gram) (s : Str) : Bool := okG g && (List.all s bigc && (decide (Asc s) && (List.all s (fun c => inS (metG g) (c.toNat : Int)) && List.all g.1 fun c => inS s (c.toNat : Int))))
theorem okG_big {g : Gram} (h : okG g = true) : bigS g.1 = true := (okG_iff h).1
theorem metB_iff {g : Gram} {s : Str} : metB g s = true ↔ okG g = true ∧ MetOk g s := by
  unfold metB
  rw [andd, andd, andd, andd, dec_iff, List.all_eq_true, List.all_eq_true, List.all_eq_true]
  constructor
  · rintro ⟨h1, h2, h3, h4, h5⟩
    exact ⟨h1, h3, h2, fun c hc => inS_mem.1 (h5 c hc), fun c hc => (metG_mem (okG_big h1)).1 (inS_mem.1 (h4 c hc))⟩
  · rintro ⟨h1, h2⟩
    exact ⟨h1, h2.big, h2.asc, fun c hc => inS_mem.2 ((metG_mem (okG_big h1)).2 (h2.met c hc)), fun c hc => inS_mem.2 (h2.start c hc)⟩
noncomputable def cb_grown : Cx := cxOf Γ84 Tryd.f176.ntmps [(3, [1, 2, 3, 7, 12, 13, 14]), (1, [1, 2, 3])] [(0, [6]), (1, [1, 2, 3]), (2, [1, 2, 3, 7]), (3, [1, 2, 3, 7, 12, 13, 14]), (1000000, [6])] [] []
theorem x_impl_grown_1 (g : Gram) (s o : Str) (l : List Rule) (n i : Int) (R : St → Option Fin) (K : Cont) : evC (cb_grown.withLoops (look [])) (loopOf Tryd.f176 1) ⟨[(1, vS s), (2, .d (.one (.fn 177 []))), (3, .d (.one (.ptr 500000 0))), (7, vS o), (12, .d (ofD TRL l)), (13, vI n), (14, vI i)], [(500000, some (boxD 25 TG g))]⟩ (onward (headAt (cb_grown.withLoops (look [])) 3) R K) = (
branch (decide (i < n)) (
 need (inb i l.length) <|
 need ((List.length (l.getD i.toNat d0).fst).beq 1 && (List.length (l.getD i.toNat d0).snd).blt 50) <|
 need ((List.length o + List.length (metV o (l.getD i.toNat d0))).blt 50) <| R (.mk [(1, (vS s)), (2, (.d (.one (.fn 177 [])))), (3, (.d (.one (.ptr 500000 0)))), (7, (vS (unionV o (metV o (l.getD i.toNat d0))))), (12, (.d (.one (.r (.li TRu (l)))))), (13, (vI n)), (14, (vI (W64 (i + 1))))] [(500000, (.some (.box 25 [(.r (.v (Value.string (mk g.fst)))), (.r (.li TRu (g.snd)))])))])) ( K (.exit 2) (.mk [(1, (vS s)), (2, (.d (.one (.fn 177 [])))), (3, (.d (.one (.ptr 500000 0)))), (7, (vS o))] [(500000, (.some (.box 25 [(.r (.v (Value.string (mk g.fst)))), (.r (.li TRu (g.snd)))])))]))) := by kernel_rfl
noncomputable def cx0_grA : Cx := (cb_grown).withLoops (look [])
def sh_grA : Sh := ([(1, .d .str), (2, .fn 177 []), (3, .ptr 500000 0), (7, .d .str), (12, .d TRL), (13, .d TI64), (14, .d TI64)], [(500000, .box 25 TG)])
def pre_grA (_s : Str) (o : Str) (l : List Rule) (n : Int) (i : Int) (_g : Gram) : Bool := decide (0 ≤ i) && (decide (n = (List.length l : Int)) && (Nat.ble (List.length l) big && (List.all l okR0 && (List.all o bigc && decide (Asc o)))))
noncomputable def res_grA (s : Str) (o : Str) (l : List Rule) (_n : Int) (i : Int) (g : Gram) (K : Cont) : Option Fin := K (.exit 2) ⟨[(1, vS s), (2, .d (.one (.fn 177 []))), (3, .d (.one (.ptr 500000 0))), (7, vS (growF o (l.drop i.toNat)))], gH g⟩
def mu_grA (_s : Str) (_o : Str) (l : List Rule) (_n : Int) (i : Int) (_g : Gram) : Nat := List.length l - i.toNat
theorem r_grA (s : Str) (o : Str) (l : List Rule) (n : Int) (i : Int) (g : Gram) (K : Cont) (hI : pre_grA s o l n i g = true) : (∀ R : St → Option Fin, evC cx0_grA (loopOf Tryd.f176 1) ⟨[(1, .d (ofD .str s)), (2, .d (.one (.fn 177 []))), (3, .d (.one (.ptr 500000 0))), (7, .d (ofD .str o)), (12, .d (ofD TRL l)), (13, .d (ofD TI64 n)), (14, .d (ofD TI64 i))], [(500000, some (boxD 25 TG g))]⟩ (onward (headAt cx0_grA 3) R K) = res_grA s o l n i g K) ∨
    (∃ (s' : Str) (o' : Str) (l' : List Rule) (n' : Int) (i' : Int) (g' : Gram), pre_grA s' o' l' n' i' g' = true ∧ mu_grA s' o' l' n' i' g' < mu_grA s o l n i g ∧ res_grA s' o' l' n' i' g' K = res_grA s o l n i g K ∧ ∀ R : St → Option Fin, evC cx0_grA (loopOf Tryd.f176 1) ⟨[(1, .d (ofD .str s)), (2, .d (.one (.fn 177 []))), (3, .d (.one (.ptr 500000 0))), (7, .d (ofD .str o)), (12, .d (ofD TRL l)), (13, .d (ofD TI64 n)), (14, .d (ofD TI64 i))], [(500000, some (boxD 25 TG g))]⟩ (onward (headAt cx0_grA 3) R K) = R ⟨[(1, .d (ofD .str s')), (2, .d (.one (.fn 177 []))), (3, .d (.one (.ptr 500000 0))), (7, .d (ofD .str o')), (12, .d (ofD TRL l')), (13, .d (ofD TI64 n')), (14, .d (ofD TI64 i'))], [(500000, some (boxD 25 TG g'))]⟩) := by
  have hx := fun R => x_impl_grown_1 g s o l n i R K
  simp only [pre_grA, andd, dec_iff, ble_iff] at hI
  obtain ⟨h0, rfl, h1, h2, h3, h4⟩ := hI
  by_cases hi : i < (l.length : Int)
  · have hg := growF_at (o := o) h0 hi
    have hn : i.toNat < l.length := by omega
    have hr : okR0 (l.getD i.toNat d0) = true := List.all_eq_true.1 h2 _ (by rw [getD_at hn]; exact List.getElem_mem hn)
    unfold okR0 at hr
    obtain ⟨r1, r2⟩ := andd.1 hr
    have r2 := ble_iff.1 r2
    have ho := big_five h4 fun c hc => List.all_eq_true.1 h3 c hc
    have hm := metV_len (s := o) (r := l.getD i.toNat d0)
    have k1 : ((List.length (l.getD i.toNat d0).1).beq 1 && (List.length (l.getD i.toNat d0).2).blt 50) = true := andd.2 ⟨r1, ble_iff.2 (by omega)⟩
    have k2 : (List.length o + List.length (metV o (l.getD i.toNat d0))).blt 50 = true := ble_iff.2 (by omega)
    simp only [hi, decide_true, inb_ok h0 hi, branch_true, W1 h0 hi h1, k1, k2] at hx
    right
    refine ⟨s, unionV o (metV o (l.getD i.toNat d0)), l, (l.length : Int), i + 1, g, ?_, ?_, ?_, fun R => hx R⟩
    · simp only [pre_grA, andd, dec_iff, ble_iff]
      exact ⟨by omega, trivial, h1, h2, union_big h3, unionV_asc⟩
    · simp only [mu_grA]; omega
    · simp only [res_grA, hg]
  · left
    intro R
    refine (hx R).trans ?_
    simp only [hi, decide_false, branch_false, res_grA]
    rw [List.drop_eq_nil_of_le (by omega)]; rfl
noncomputable def g_grA : St → Cont → Option Fin := gP sh_grA (fun v => match v with | ((s, o, l, n, i, ()), (g, ())) => pre_grA s o l n i g) (fun v K => match v with | ((s, o, l, n, i, ()), (g, ())) => res_grA s o l n i g K)
noncomputable def L_grA : List (Nat × (St → Cont → Option Fin)) := (3, g_grA) :: []
noncomputable def cx_grA : Cx := (cb_grown).withLoops (look L_grA)
theorem l_grA {L : List (Nat × (St → Cont → Option Fin))} (n : Nat) (h1 : L.drop n = []) (h2 : idsFree (L.take n) (loopOf Tryd.f176 1) = true) : ∀ st K r, g_grA st K = some r → ∃ N, iter (evC ((cb_grown).withLoops (look L)) (loopOf Tryd.f176 1)) (headAt ((cb_grown).withLoops (look L)) 3) N st K = some r :=
  with_drop h1 h2 (gP_ok (fun v => match v with | ((s, o, l, n, i, ()), (g, ())) => mu_grA s o l n i g) fun v K hI => by
    obtain ⟨⟨(s : Str), (o : Str), (l : List Rule), (n : Int), (i : Int), ⟨⟩⟩, ⟨(g : Gram), ⟨⟩⟩⟩ := v
    rcases r_grA s o l n i g K hI with h1 | ⟨s', o', l', n', i', g', h1, h2, h3, h4⟩
    · exact .inl h1
    · exact .inr ⟨((s', o', l', n', i', ()), (g', ())), h1, h2, h3, h4⟩)
theorem x_impl_grown (g : Gram) (s : Str) (R : St → Option Fin) (K : Cont) : evC (cb_grown.withLoops (look L_grA)) (loopOf Tryd.f176 0) ⟨[(1, vS s), (2, .d (.one (.fn 177 []))), (3, .d (.one (.ptr 500000 0)))], [(500000, some (boxD 25 TG g))]⟩ (onward (headAt (cb_grown.withLoops (look L_grA)) 1) R K) = (
need (pre_grA s s g.snd ((List.length g.snd : Int)) 0 g) <|
branch (decide ((growF s g.snd) = s)) ( K (.ret) (.mk [(6, (vS s))] [])) ( R (.mk [(1, (vS (growF s g.snd))), (2, (.d (.one (.fn 177 [])))), (3, (.d (.one (.ptr 500000 0))))] [(500000, (.some (.box 25 [(.r (.v (Value.string (mk g.fst)))), (.r (.li TRu (g.snd)))])))]))) := by kernel_rfl
noncomputable def cx0_grB : Cx := (cb_grown).withLoops (look L_grA)
def sh_grB : Sh := ([(1, .d .str), (2, .fn 177 []), (3, .ptr 500000 0)], [(500000, .box 25 TG)])
def pre_grB (s : Str) (g : Gram) : Bool := metB g s
noncomputable def res_grB (_s : Str) (g : Gram) (K : Cont) : Option Fin := K .ret ⟨[(6, vS (metG g))], []⟩
def mu_grB (s : Str) (_g : Gram) : Nat := 6 - List.length s
theorem r_grB (s : Str) (g : Gram) (K : Cont) (hI : pre_grB s g = true) : (∀ R : St → Option Fin, evC cx0_grB (loopOf Tryd.f176 0) ⟨[(1, .d (ofD .str s)), (2, .d (.one (.fn 177 []))), (3, .d (.one (.ptr 500000 0)))], [(500000, some (boxD 25 TG g))]⟩ (onward (headAt cx0_grB 1) R K) = res_grB s g K) ∨
    (∃ (s' : Str) (g' : Gram), pre_grB s' g' = true ∧ mu_grB s' g' < mu_grB s g ∧ res_grB s' g' K = res_grB s g K ∧ ∀ R : St → Option Fin, evC cx0_grB (loopOf Tryd.f176 0) ⟨[(1, .d (ofD .str s)), (2, .d (.one (.fn 177 []))), (3, .d (.one (.ptr 500000 0)))], [(500000, some (boxD 25 TG g))]⟩ (onward (headAt cx0_grB 1) R K) = R ⟨[(1, .d (ofD .str s')), (2, .d (.one (.fn 177 []))), (3, .d (.one (.ptr 500000 0)))], [(500000, some (boxD 25 TG g'))]⟩) := by
  have hx := fun R => x_impl_grown g s R K
  obtain ⟨h1, h2⟩ := metB_iff.1 hI
  have h3 := okG_big h1
  have k1 : pre_grA s s g.2 (List.length g.2 : Int) 0 g = true := by
    simp only [pre_grA, andd, dec_iff, ble_iff]
    refine ⟨by omega, trivial, ?_, okR_G h1, List.all_eq_true.2 h2.big, h2.asc⟩
    have : List.length g.2 ≤ 8 := (okG_iff h1).2.1
    unfold big; omega
  rw [k1] at hx
  by_cases e : growF s g.2 = s
  · left
    intro R
    refine (hx R).trans ?_
    have hm : growN g 6 s = metG g := growN_met h3 h2 (by omega)
    have hs : growN g 6 s = s := by
      show (bif decide (growF s g.2 = s) then s else growN g 5 (growF s g.2)) = s
      rw [decide_eq_true e]; rfl
    rw [decide_eq_true e]
    show K .ret ⟨[(6, vS s)], []⟩ = K .ret ⟨[(6, vS (metG g))], []⟩
    rw [← hm, hs]
  · right
    refine ⟨growF s g.2, g, metB_iff.2 ⟨h1, h2.grow⟩, ?_, rfl, fun R => (hx R).trans ?_⟩
    · have h5 := asc_grow h2.asc h2.grow.asc growF_sub e
      have h6 := big_five h2.grow.asc h2.grow.big
      simp only [mu_grB]; omega
    · rw [decide_eq_false e]; rfl
noncomputable def g_grB : St → Cont → Option Fin := gP sh_grB (fun v => match v with | ((s, ()), (g, ())) => pre_grB s g) (fun v K => match v with | ((s, ()), (g, ())) => res_grB s g K)
noncomputable def L_grB : List (Nat × (St → Cont → Option Fin)) := (1, g_grB) :: L_grA
noncomputable def cx_grB : Cx := (cb_grown).withLoops (look L_grB)
theorem l_grB {L : List (Nat × (St → Cont → Option Fin))} (n : Nat) (h1 : L.drop n = L_grA) (h2 : idsFree (L.take n) (loopOf Tryd.f176 0) = true) : ∀ st K r, g_grB st K = some r → ∃ N, iter (evC ((cb_grown).withLoops (look L)) (loopOf Tryd.f176 0)) (headAt ((cb_grown).withLoops (look L)) 1) N st K = some r :=
  with_drop h1 h2 (gP_ok (fun v => match v with | ((s, ()), (g, ())) => mu_grB s g) fun v K hI => by
    obtain ⟨⟨(s : Str), ⟨⟩⟩, ⟨(g : Gram), ⟨⟩⟩⟩ := v
    rcases r_grB s g K hI with h1 | ⟨s', g', h1, h2, h3, h4⟩
    · exact .inl h1
    · exact .inr ⟨((s', ()), (g', ())), h1, h2, h3, h4⟩)
theorem y_impl_grown (g : Gram) (s : Str) : evFn cx_grB Tryd.f176 true [ofD TG g, ofD .str s, .one (.fn 177 [])] [] = (
need (pre_grB s g) <| some ((vS (metG g)), [])) := by kernel_rfl
theorem s_impl_grown (g : Gram) (s : Str) (h : metB g s = true) : Sat Tryd.prog 176 [ofD TG g, ofD .str s, .one (.fn 177 [])] [] (.d (ofD .str (metG g))) [] :=
  fn_sound (cx := cx_grB) Tryd.func176 rfl ttOk Γ84ok mixed (fun c hc => LoopsOk.all (l := [(1, loopOf Tryd.f176 0), (3, loopOf Tryd.f176 1)]) (by cases hc; kernel_rfl) ⟨atLoop rfl (l_grB 1 rfl (by kernel_rfl)), atLoop rfl (l_grA 2 rfl (by kernel_rfl)), trivial⟩) (ro := true) (by
    rw [y_impl_grown, show pre_grB s g = true from h]; rfl)
noncomputable def c_impl_grown : Con := ⟨false, fun ds os => match ds, os with
  | [d, .one (.r (.v (.string s))), .one (.fn f [])], [] => match asD TG d, Nat.beq f 177 with
    | some g, true => some (some (metB g s.data.toList), .d (ofD .str (metG g)), [])
    | _, _ => none
  | _, _ => none⟩
theorem k_impl_grown : ConOk Tryd.prog 176 c_impl_grown := by
  refine ⟨Tryd.call176, fun ds os c x objs hc hok => ?_⟩
  unfold c_impl_grown at hc
  dsimp only at hc
  split at hc
  · rename_i d s f
    split at hc
    · rename_i g e1 e2
      cases hc
      have e2 := Nat.eq_of_beq_eq_true e2
      subst e2
      intro w F β args H hds
      cases hds with | cons h1 h2 =>
      exact s_impl_grown g s.data.toList (pre_of hok) w F β _ H (.cons (asD_sound e1 h1 _ β) h2)
    · cases hc
  · cases hc
noncomputable def Γ85 : List (Nat × Con) := (176, c_impl_grown) :: Γ84
theorem Γ85ok : EnvOk Tryd.prog (look Γ85) := .cons k_impl_grown Γ84ok

theorem y_impl_metOf (g : Gram) : evFn (cxOf Γ85 Tryd.f129.ntmps [] [] [] []) Tryd.f129 true [ofD TG g] [] = (
need (metB g g.fst) <| some ((vS (metG g)), [])) := by kernel_rfl
theorem s_impl_metOf (g : Gram) (_hg : Fit TG g) (hpre : (okG g) = true) : Sat Tryd.prog 129 [ofD TG g] [] (.d (ofD .str (metG g))) [] :=
  fn_sound (cx := cxOf Γ85 Tryd.f129.ntmps [] [] [] []) Tryd.func129 rfl ttOk Γ85ok mixed (fun _ _ => LoopsOk.no fun _ => rfl) (ro := true) (by
    have h1 : metB g g.1 = true := metB_iff.2 ⟨hpre, start_ok (okG_big hpre)⟩
    rw [y_impl_metOf, h1]; rfl)
noncomputable def c_impl_metOf : Con := conT [TG] fun (g : Gram) => (some (okG g), .d (ofD .str (metG g)))
theorem k_impl_metOf : ConOk Tryd.prog 129 c_impl_metOf := conT_ok Tryd.call129 fun g hg hqq => s_impl_metOf g hg (pre_of hqq)
noncomputable def Γ86 : List (Nat × Con) := (129, c_impl_metOf) :: Γ85
theorem Γ86ok : EnvOk Tryd.prog (look Γ86) := .cons k_impl_metOf Γ85ok

theorem y_impl_GramMet (g : Gram) : evFn (cxOf Γ86 Tryd.f56.ntmps [] [] [] []) Tryd.f56 true [ofD TG g] [] = (
branch (!okG g) ( some ((vS []), [])) (
 need (okG g) <| some ((vS (metG g)), []))) := by kernel_rfl
theorem s_impl_GramMet (g : Gram) (_hg : Fit TG g) : Sat Tryd.prog 56 [ofD TG g] [] (.d (ofD .str (bif okG g then metG g else []))) [] :=
  fn_sound (cx := cxOf Γ86 Tryd.f56.ntmps [] [] [] []) Tryd.func56 rfl ttOk Γ86ok mixed (fun _ _ => LoopsOk.no fun _ => rfl) (ro := true) (by
    rw [y_impl_GramMet]
    cases okG g <;> rfl)
noncomputable def c_impl_GramMet : Con := conT [TG] fun (g : Gram) => (none, .d (ofD .str (bif okG g then metG g else [])))
theorem k_impl_GramMet : ConOk Tryd.prog 56 c_impl_GramMet := conT_ok Tryd.call56 fun g hg _ => s_impl_GramMet g hg
noncomputable def Γ87 : List (Nat × Con) := (56, c_impl_GramMet) :: Γ86
theorem Γ87ok : EnvOk Tryd.prog (look Γ87) := .cons k_impl_GramMet Γ86ok

noncomputable def cb_l2Bigs : Cx := cxOf Γ87 Tryd.f180.ntmps [(2, [0, 1, 5])] [(0, [0]), (1, [0, 1, 5]), (1000000, [4])] [] []
theorem x_spec_l2Bigs (o a : Str) (i : Int) (R : St → Option Fin) (K : Cont) : evC (cb_l2Bigs.withLoops (look [])) (loopOf Tryd.f180 0) ⟨[(0, vS o), (1, vS a), (5, vI i)], []⟩ (onward (headAt (cb_l2Bigs.withLoops (look [])) 2) R K) = (
branch (decide (i < (a.length : Int))) (
 need (inb i a.length) <|
 branch (bigI (byteAt a i)) (
  need (inb i a.length) <|
  need (o.length.ble 1000000) <| R (.mk [(0, (vS (addS (UInt8.ofNat (byteAt a i).toNat) o))), (1, (vS a)), (5, (vI (W64 (i + 1))))] [])) ( R (.mk [(0, (vS o)), (1, (vS a)), (5, (vI (W64 (i + 1))))] []))) ( K (.exit 0) (.mk [(0, (vS o))] []))) := by kernel_rfl
noncomputable def cx0_l2Bigs : Cx := (cb_l2Bigs).withLoops (look [])
def sh_l2Bigs : Sh := ([(0, .d .str), (1, .d .str), (5, .d TI64)], [])
def pre_l2Bigs (o : Str) (a : Str) (i : Int) : Bool := decide (0 ≤ i) && (Nat.ble (List.length a) 999000 && decide ((List.length o : Int) ≤ i + 100))
noncomputable def res_l2Bigs (o : Str) (a : Str) (i : Int) (K : Cont) : Option Fin := K (.exit 0) ⟨[(0, vS (putS bigc o (a.drop i.toNat)))], []⟩
def mu_l2Bigs (_o : Str) (a : Str) (i : Int) : Nat := List.length a - i.toNat
theorem r_l2Bigs (o : Str) (a : Str) (i : Int) (K : Cont) (hI : pre_l2Bigs o a i = true) : (∀ R : St → Option Fin, evC cx0_l2Bigs (loopOf Tryd.f180 0) ⟨[(0, .d (ofD .str o)), (1, .d (ofD .str a)), (5, .d (ofD TI64 i))], []⟩ (onward (headAt cx0_l2Bigs 2) R K) = res_l2Bigs o a i K) ∨
    (∃ (o' : Str) (a' : Str) (i' : Int), pre_l2Bigs o' a' i' = true ∧ mu_l2Bigs o' a' i' < mu_l2Bigs o a i ∧ res_l2Bigs o' a' i' K = res_l2Bigs o a i K ∧ ∀ R : St → Option Fin, evC cx0_l2Bigs (loopOf Tryd.f180 0) ⟨[(0, .d (ofD .str o)), (1, .d (ofD .str a)), (5, .d (ofD TI64 i))], []⟩ (onward (headAt cx0_l2Bigs 2) R K) = R ⟨[(0, .d (ofD .str o')), (1, .d (ofD .str a')), (5, .d (ofD TI64 i'))], []⟩) := by
  have hx := fun R => x_spec_l2Bigs o a i R K
  simp only [pre_l2Bigs, andd, dec_iff, ble_iff] at hI
  obtain ⟨h0, h1, h2⟩ := hI
  by_cases hi : i < (a.length : Int)
  · have hg := put_at (p := bigc) (o := o) h0 hi
    have hby : byteAt a i = ((a.getD i.toNat 0).toNat : Int) := rfl
    have hu : UInt8.ofNat (byteAt a i).toNat = a.getD i.toNat 0 := by rw [hby]; exact byteL_nat _
    have hc0 : bigI (byteAt a i) = bigc (a.getD i.toNat 0) := by rw [hby, bigI_nat]
    by_cases ho : List.length o ≤ 1000000
    · have hol : List.length o ≤ 1000000 := ho
      have hol : (List.length o).ble 1000000 = true := ble_iff.2 ho
      simp only [hi, decide_true, inb_ok h0 hi, branch_true, W1 h0 hi (show a.length ≤ big by unfold big; omega), hc0, hu, hol] at hx
      right
      cases hc : bigc (a.getD i.toNat 0)
      · rw [hc] at hg
        refine ⟨o, a, i + 1, ?_, ?_, ?_, fun R => (hx R).trans ?_⟩
        · simp only [pre_l2Bigs, andd, dec_iff, ble_iff]; exact ⟨by omega, h1, by omega⟩
        · simp only [mu_l2Bigs]; omega
        · simp only [res_l2Bigs, hg]; rfl
        · rw [hc]; rfl
      · rw [hc] at hg
        refine ⟨addS (a.getD i.toNat 0) o, a, i + 1, ?_, ?_, ?_, fun R => (hx R).trans ?_⟩
        · simp only [pre_l2Bigs, andd, dec_iff, ble_iff]
          have := addS_len (c := a.getD i.toNat 0) (s := o)
          exact ⟨by omega, h1, by omega⟩
        · simp only [mu_l2Bigs]; omega
        · simp only [res_l2Bigs, hg]; rfl
        · rw [hc]; rfl
    · omega
  · left
    intro R
    refine (hx R).trans ?_
    simp only [hi, decide_false, branch_false, res_l2Bigs]
    rw [List.drop_eq_nil_of_le (by omega)]; rfl
noncomputable def g_l2Bigs : St → Cont → Option Fin := gP sh_l2Bigs (fun v => match v with | ((o, a, i, ()), ()) => pre_l2Bigs o a i) (fun v K => match v with | ((o, a, i, ()), ()) => res_l2Bigs o a i K)
noncomputable def L_l2Bigs : List (Nat × (St → Cont → Option Fin)) := (2, g_l2Bigs) :: []
noncomputable def cx_l2Bigs : Cx := (cb_l2Bigs).withLoops (look L_l2Bigs)
theorem l_l2Bigs {L : List (Nat × (St → Cont → Option Fin))} (n : Nat) (h1 : L.drop n = []) (h2 : idsFree (L.take n) (loopOf Tryd.f180 0) = true) : ∀ st K r, g_l2Bigs st K = some r → ∃ N, iter (evC ((cb_l2Bigs).withLoops (look L)) (loopOf Tryd.f180 0)) (headAt ((cb_l2Bigs).withLoops (look L)) 2) N st K = some r :=
  with_drop h1 h2 (gP_ok (fun v => match v with | ((o, a, i, ()), ()) => mu_l2Bigs o a i) fun v K hI => by
    obtain ⟨⟨(o : Str), (a : Str), (i : Int), ⟨⟩⟩, ⟨⟩⟩ := v
    rcases r_l2Bigs o a i K hI with h1 | ⟨o', a', i', h1, h2, h3, h4⟩
    · exact .inl h1
    · exact .inr ⟨((o', a', i', ()), ()), h1, h2, h3, h4⟩)
theorem y_spec_l2Bigs (o : Str) (a : Str) : evFn cx_l2Bigs Tryd.f180 true [ofD .str o, ofD .str a] [] = (
need (pre_l2Bigs o a 0) <| some ((vS (putS bigc o a)), [])) := by kernel_rfl
theorem s_spec_l2Bigs (o : Str) (_ho : Fit .str o) (a : Str) (_ha : Fit .str a) (hpre : (Nat.ble (List.length o) 100 && Nat.ble (List.length a) 999000) = true) : Sat Tryd.prog 180 [ofD .str o, ofD .str a] [] (.d (ofD .str (putS bigc o a))) [] :=
  fn_sound (cx := cx_l2Bigs) Tryd.func180 rfl ttOk Γ87ok mixed (fun c hc => LoopsOk.all (l := [(2, loopOf Tryd.f180 0)]) (by cases hc; kernel_rfl) ⟨atLoop rfl (l_l2Bigs 1 rfl (by kernel_rfl)), trivial⟩) (ro := true) (by
    obtain ⟨h1, h2⟩ := andd.1 hpre
    have h1 := ble_iff.1 h1
    have h2 := ble_iff.1 h2
    have h : pre_l2Bigs o a 0 = true := andd.2 ⟨rfl, andd.2 ⟨ble_iff.2 (by omega), decide_eq_true (by omega)⟩⟩
    rw [y_spec_l2Bigs, h]; rfl)
noncomputable def c_spec_l2Bigs : Con := conT [.str, .str] fun (o : Str) (a : Str) => (some (Nat.ble (List.length o) 100 && Nat.ble (List.length a) 999000), .d (ofD .str (putS bigc o a)))
theorem k_spec_l2Bigs : ConOk Tryd.prog 180 c_spec_l2Bigs := conT_ok Tryd.call180 fun o ho a ha hqq => s_spec_l2Bigs o ho a ha (pre_of hqq)
def closedB (s : Str) (r : Rule) : Bool := bif inS s (((r.1.getD 0 0).toNat : Nat) : Int) then r.2.all fun c => bif bigc c then inS s (c.toNat : Int) else true else true
theorem closedB_iff {s : Str} {r : Rule} : closedB s r = true ↔ closedR s r := by
  unfold closedB closedR
  cases h : inS s (((r.1.getD 0 0).toNat : Nat) : Int)
  · constructor
    · intro _ h1
      rw [inS_mem.2 h1] at h; cases h
    · intro _; rfl
  · have h0 := inS_mem.1 h
    rw [cond_true, List.all_eq_true]
    constructor
    · intro h1 _ c hc hb
      have := h1 c hc
      rw [hb] at this
      exact inS_mem.1 this
    · intro h1 c hc
      cases hb : bigc c
      · rfl
      · exact inS_mem.2 (h1 h0 c hc hb)
theorem all_take {l : List Rule} {p : Rule → Bool} {i : Nat} (h : i < l.length) : (l.take (i + 1)).all p = ((l.take i).all p && p (l.getD i d0)) := by
  rw [List.take_succ_eq_append_getElem h, List.all_append, getD_at h, List.all_cons, List.all_nil, Bool.and_true]
noncomputable def Γ88 : List (Nat × Con) := (180, c_spec_l2Bigs) :: Γ87
theorem Γ88ok : EnvOk Tryd.prog (look Γ88) := .cons k_spec_l2Bigs Γ87ok

noncomputable def cb_l2Met : Cx := cxOf Γ88 Tryd.f130.ntmps [(3, [1, 3, 4])] [(0, [3]), (1, [1, 3, 4]), (1000000, [2])] [] []
theorem x_spec_l2Met (g : Gram) (s : Str) (i : Int) (R : St → Option Fin) (K : Cont) : evC (cb_l2Met.withLoops (look [])) (loopOf Tryd.f130 0) ⟨[(1, .d (.one (.ptr 500000 0))), (3, vS s), (4, vI i)], [(500000, some (boxD 25 TG g))]⟩ (onward (headAt (cb_l2Met.withLoops (look [])) 3) R K) = (
branch (decide (i < (List.length g.snd : Int))) (
 need (inb i (List.length g.snd)) <|
 need (inb 0 (List.length (List.getD g.snd i.toNat d0).fst)) <|
 branch (inS s (byteAt (List.getD g.snd i.toNat d0).fst 0)) (
  need (inb i (List.length g.snd)) <|
  need (s.length.ble 100 && (List.length (List.getD g.snd i.toNat d0).snd).ble 999000) <|
  branch (!decide ((putS bigc s (List.getD g.snd i.toNat d0).snd) = s)) ( R (.mk [(1, (.d (.one (.ptr 500000 0)))), (3, (vS (putS bigc s (List.getD g.snd i.toNat d0).snd))), (4, (vI (W64 (Int.neg 1 + 1))))] [(500000, (.some (.box 25 [(.r (.v (Value.string (mk g.fst)))), (.r (.li TRu (g.snd)))])))])) ( R (.mk [(1, (.d (.one (.ptr 500000 0)))), (3, (vS s)), (4, (vI (W64 (i + 1))))] [(500000, (.some (.box 25 [(.r (.v (Value.string (mk g.fst)))), (.r (.li TRu (g.snd)))])))]))) ( R (.mk [(1, (.d (.one (.ptr 500000 0)))), (3, (vS s)), (4, (vI (W64 (i + 1))))] [(500000, (.some (.box 25 [(.r (.v (Value.string (mk g.fst)))), (.r (.li TRu (g.snd)))])))]))) ( K (.exit 0) (.mk [(3, (vS s))] []))) := by kernel_rfl
noncomputable def cx0_l2Met : Cx := (cb_l2Met).withLoops (look [])
def sh_l2Met : Sh := ([(1, .ptr 500000 0), (3, .d .str), (4, .d TI64)], [(500000, .box 25 TG)])
def pre_l2Met (s : Str) (i : Int) (g : Gram) : Bool := decide (0 ≤ i) && (metB g s && List.all (List.take i.toNat g.2) (closedB s))
noncomputable def res_l2Met (_s : Str) (_i : Int) (g : Gram) (K : Cont) : Option Fin := K (.exit 0) ⟨[(3, vS (metG g))], []⟩
def mu_l2Met (s : Str) (i : Int) (_g : Gram) : Nat := (6 - List.length s) * 100 + (10 - i.toNat)
theorem r_l2Met (s : Str) (i : Int) (g : Gram) (K : Cont) (hI : pre_l2Met s i g = true) : (∀ R : St → Option Fin, evC cx0_l2Met (loopOf Tryd.f130 0) ⟨[(1, .d (.one (.ptr 500000 0))), (3, .d (ofD .str s)), (4, .d (ofD TI64 i))], [(500000, some (boxD 25 TG g))]⟩ (onward (headAt cx0_l2Met 3) R K) = res_l2Met s i g K) ∨
    (∃ (s' : Str) (i' : Int) (g' : Gram), pre_l2Met s' i' g' = true ∧ mu_l2Met s' i' g' < mu_l2Met s i g ∧ res_l2Met s' i' g' K = res_l2Met s i g K ∧ ∀ R : St → Option Fin, evC cx0_l2Met (loopOf Tryd.f130 0) ⟨[(1, .d (.one (.ptr 500000 0))), (3, .d (ofD .str s)), (4, .d (ofD TI64 i))], [(500000, some (boxD 25 TG g))]⟩ (onward (headAt cx0_l2Met 3) R K) = R ⟨[(1, .d (.one (.ptr 500000 0))), (3, .d (ofD .str s')), (4, .d (ofD TI64 i'))], [(500000, some (boxD 25 TG g'))]⟩) := by
  have hx := fun R => x_spec_l2Met g s i R K
  simp only [pre_l2Met, andd, dec_iff] at hI
  obtain ⟨h0, hm, hc⟩ := hI
  obtain ⟨h1, h2⟩ := metB_iff.1 hm
  have hlen : List.length g.2 ≤ 8 := (okG_iff h1).2.1
  have h5 := big_five h2.asc h2.big
  by_cases hi : i < (List.length g.2 : Int)
  · have hn : i.toNat < List.length g.2 := by omega
    have hr : List.getD g.2 i.toNat d0 ∈ g.2 := by rw [getD_at hn]; exact List.getElem_mem hn
    have w1 : W64 (i + 1) = i + 1 := wrap_small (by omega) (by omega)
    have ht := all_take (p := closedB s) hn
    rw [hc, Bool.true_and] at ht
    obtain ⟨g1, g2⟩ := (okG_iff h1).2.2 _ hr
    obtain ⟨c0, g1, _⟩ := bigS_one g1
    have g2 := (areS_iff g2).2
    have k1 : inb 0 (List.length (List.getD g.2 i.toNat d0).1) = true := by rw [g1]; rfl
    have k2 : ((List.length s).ble 100 && (List.length (List.getD g.2 i.toNat d0).2).ble 999000) = true := andd.2 ⟨ble_iff.2 (by omega), ble_iff.2 (by omega)⟩
    simp only [hi, decide_true, inb_ok h0 hi, k1, k2, branch_true, w1] at hx
    right
    have stay : closedB s (List.getD g.2 i.toNat d0) = true → pre_l2Met s (i + 1) g = true := fun hcl => by
      simp only [pre_l2Met, andd, dec_iff]
      exact ⟨by omega, hm, by rw [show (i + 1).toNat = i.toNat + 1 by omega, ht]; exact hcl⟩
    cases hin : inS s (byteAt (List.getD g.2 i.toNat d0).1 0)
    · refine ⟨s, i + 1, g, stay ?_, by simp only [mu_l2Met]; omega, rfl, fun R => (hx R).trans (by rw [hin]; rfl)⟩
      unfold closedB
      rw [show inS s ((((List.getD g.2 i.toNat d0).1.getD 0 0).toNat : Nat) : Int) = false from hin]; rfl
    · have hin' : (List.getD g.2 i.toNat d0).1.getD 0 0 ∈ s := inS_mem.1 hin
      by_cases e : putS bigc s (List.getD g.2 i.toNat d0).2 = s
      · refine ⟨s, i + 1, g, stay (closedB_iff.2 fun _ c hc1 hb => ?_), by simp only [mu_l2Met]; omega, rfl, fun R => (hx R).trans (by rw [hin, decide_eq_true e]; rfl)⟩
        rw [← e, putS_mem]
        exact .inr ⟨hc1, hb⟩
      · have hok : MetOk g (putS bigc s (List.getD g.2 i.toNat d0).2) := ⟨putS_asc h2.asc, fun c hc1 => by
            rcases putS_mem.1 hc1 with h | h
            · exact h2.big c h
            · exact h.2, fun c hc1 => putS_mem.2 (.inl (h2.start c hc1)), fun c hc1 => by
            rcases putS_mem.1 hc1 with h | h
            · exact h2.met c h
            · exact .step hr (h2.met _ hin') h.1 h.2⟩
        have hgr := asc_grow h2.asc hok.asc (fun c hc1 => putS_mem.2 (.inl hc1)) e
        have h6 := big_five hok.asc hok.big
        refine ⟨putS bigc s (List.getD g.2 i.toNat d0).2, 0, g, ?_, ?_, rfl, fun R => (hx R).trans (by rw [hin, decide_eq_false e]; rfl)⟩
        · simp only [pre_l2Met, andd, dec_iff]
          exact ⟨by omega, metB_iff.2 ⟨h1, hok⟩, rfl⟩
        · simp only [mu_l2Met]; omega
  · left
    intro R
    refine (hx R).trans ?_
    have ht : List.take i.toNat g.2 = g.2 := List.take_of_length_le (by omega)
    rw [ht] at hc
    have he : s = metG g := asc_ext h2.asc (metG_ok (okG_big h1)).1.asc fun c => ⟨fun hcs => (metG_mem (okG_big h1)).2 (h2.met c hcs), fun hcs => met_in h2.start (fun r hr => closedB_iff.1 (List.all_eq_true.1 hc r hr)) ((metG_mem (okG_big h1)).1 hcs)⟩
    simp only [hi, decide_false, branch_false, res_l2Met]
    rw [he]
noncomputable def g_l2Met : St → Cont → Option Fin := gP sh_l2Met (fun v => match v with | ((s, i, ()), (g, ())) => pre_l2Met s i g) (fun v K => match v with | ((s, i, ()), (g, ())) => res_l2Met s i g K)
noncomputable def L_l2Met : List (Nat × (St → Cont → Option Fin)) := (3, g_l2Met) :: []
noncomputable def cx_l2Met : Cx := (cb_l2Met).withLoops (look L_l2Met)
theorem l_l2Met {L : List (Nat × (St → Cont → Option Fin))} (n : Nat) (h1 : L.drop n = []) (h2 : idsFree (L.take n) (loopOf Tryd.f130 0) = true) : ∀ st K r, g_l2Met st K = some r → ∃ N, iter (evC ((cb_l2Met).withLoops (look L)) (loopOf Tryd.f130 0)) (headAt ((cb_l2Met).withLoops (look L)) 3) N st K = some r :=
  with_drop h1 h2 (gP_ok (fun v => match v with | ((s, i, ()), (g, ())) => mu_l2Met s i g) fun v K hI => by
    obtain ⟨⟨(s : Str), (i : Int), ⟨⟩⟩, ⟨(g : Gram), ⟨⟩⟩⟩ := v
    rcases r_l2Met s i g K hI with h1 | ⟨s', i', g', h1, h2, h3, h4⟩
    · exact .inl h1
    · exact .inr ⟨((s', i', ()), (g', ())), h1, h2, h3, h4⟩)
theorem y_spec_l2Met (g : Gram) : evFn cx_l2Met Tryd.f130 true [ofD TG g] [] = (
need (pre_l2Met g.fst 0 g) <| some ((vS (metG g)), [])) := by kernel_rfl
theorem s_spec_l2Met (g : Gram) (_hg : Fit TG g) (hpre : (okG g) = true) : Sat Tryd.prog 130 [ofD TG g] [] (.d (ofD .str (metG g))) [] :=
  fn_sound (cx := cx_l2Met) Tryd.func130 rfl ttOk Γ88ok mixed (fun c hc => LoopsOk.all (l := [(3, loopOf Tryd.f130 0)]) (by cases hc; kernel_rfl) ⟨atLoop rfl (l_l2Met 1 rfl (by kernel_rfl)), trivial⟩) (ro := true) (by
    have h : pre_l2Met g.1 0 g = true := by
      simp only [pre_l2Met, andd, dec_iff]
      exact ⟨by omega, metB_iff.2 ⟨hpre, start_ok (okG_big hpre)⟩, rfl⟩
    rw [y_spec_l2Met, h]; rfl)
noncomputable def c_spec_l2Met : Con := conT [TG] fun (g : Gram) => (some (okG g), .d (ofD .str (metG g)))
theorem k_spec_l2Met : ConOk Tryd.prog 130 c_spec_l2Met := conT_ok Tryd.call130 fun g hg hqq => s_spec_l2Met g hg (pre_of hqq)
noncomputable def Γ89 : List (Nat × Con) := (130, c_spec_l2Met) :: Γ88
theorem Γ89ok : EnvOk Tryd.prog (look Γ89) := .cons k_spec_l2Met Γ88ok

theorem y_spec_GramMet (g : Gram) : evFn (cxOf Γ89 Tryd.f57.ntmps [] [] [] []) Tryd.f57 true [ofD TG g] [] = (
branch (!okG g) ( some ((vS []), [])) (
 need (okG g) <| some ((vS (metG g)), []))) := by kernel_rfl
theorem s_spec_GramMet (g : Gram) (_hg : Fit TG g) : Sat Tryd.prog 57 [ofD TG g] [] (.d (ofD .str (bif okG g then metG g else []))) [] :=
  fn_sound (cx := cxOf Γ89 Tryd.f57.ntmps [] [] [] []) Tryd.func57 rfl ttOk Γ89ok mixed (fun _ _ => LoopsOk.no fun _ => rfl) (ro := true) (by
    rw [y_spec_GramMet]
    cases okG g <;> rfl)
noncomputable def c_spec_GramMet : Con := conT [TG] fun (g : Gram) => (none, .d (ofD .str (bif okG g then metG g else [])))
theorem k_spec_GramMet : ConOk Tryd.prog 57 c_spec_GramMet := conT_ok Tryd.call57 fun g hg _ => s_spec_GramMet g hg
def mtP (g : Gram) (s : Str) : Bool := okG g && List.all g.2 (closedB s)
noncomputable def Γ90 : List (Nat × Con) := (57, c_spec_GramMet) :: Γ89
theorem Γ90ok : EnvOk Tryd.prog (look Γ90) := .cons k_spec_GramMet Γ89ok

noncomputable def cb_lMet : Cx := (cxOf Γ90 Tryd.f9.ntmps [(11, [3, 4, 5, 6]), (8, [3, 4, 5])] [(0, [3, 4]), (1, [3, 4, 5]), (2, [3, 4, 5]), (3, [3, 4, 5, 6]), (1000000, [2])] [] []).parted [14]
theorem x_laws_FnGramMet_1 (g : Gram) (s : Str) (k j : Int) (R : St → Option Fin) (K : Cont) : evC (cb_lMet.withLoops (look [])) (loopOf Tryd.f9 1) ⟨[(3, .d (.one (.ptr 500000 0))), (4, vS s), (5, vI k), (6, vI j)], [(500000, some (boxD 25 TG g))]⟩ (onward (headAt (cb_lMet.withLoops (look [])) 11) R K) = (
need (inb k (List.length g.snd)) <|
branch (decide (j < (List.length (List.getD g.snd k.toNat d0).snd : Int))) (
 need (inb k (List.length g.snd)) <|
 need (inb j (List.length (List.getD g.snd k.toNat d0).snd)) <|
 need (inb k (List.length g.snd)) <|
 need (inb 0 (List.length (List.getD g.snd k.toNat d0).fst)) <|
 branch (decide (inS s (byteAt (List.getD g.snd k.toNat d0).fst 0) = true)) (
  branch (decide ((bif true then bigS (byteL [byteAt (List.getD g.snd k.toNat d0).snd j]) else false) = true)) (
   branch (bif true then !inS s (byteAt (List.getD g.snd k.toNat d0).snd j) else false) ( K (.ret) (.mk [(2, (vB false))] [])) ( R (.mk [(3, (.d (.one (.ptr 500000 0)))), (4, (vS s)), (5, (vI k)), (6, (vI (W64 (j + 1))))] [(500000, (.some (.box 25 [(.r (.v (Value.string (mk g.fst)))), (.r (.li TRu (g.snd)))])))]))) ( R (.mk [(3, (.d (.one (.ptr 500000 0)))), (4, (vS s)), (5, (vI k)), (6, (vI (W64 (j + 1))))] [(500000, (.some (.box 25 [(.r (.v (Value.string (mk g.fst)))), (.r (.li TRu (g.snd)))])))]))) ( R (.mk [(3, (.d (.one (.ptr 500000 0)))), (4, (vS s)), (5, (vI k)), (6, (vI (W64 (j + 1))))] [(500000, (.some (.box 25 [(.r (.v (Value.string (mk g.fst)))), (.r (.li TRu (g.snd)))])))]))) ( K (.exit 2) (.mk [(3, (.d (.one (.ptr 500000 0)))), (4, (vS s)), (5, (vI k))] [(500000, (.some (.box 25 [(.r (.v (Value.string (mk g.fst)))), (.r (.li TRu (g.snd)))])))]))) := by kernel_rfl
noncomputable def cx0_mtA : Cx := (cb_lMet).withLoops (look [])
def sh_mtA : Sh := ([(3, .ptr 500000 0), (4, .d .str), (5, .d TI64), (6, .d TI64)], [(500000, .box 25 TG)])
def pre_mtA (s : Str) (k : Int) (j : Int) (g : Gram) : Bool := decide (0 ≤ k) && (decide (k < (List.length g.2 : Int)) && (decide (0 ≤ j) && mtP g s))
noncomputable def res_mtA (s : Str) (k : Int) (_j : Int) (g : Gram) (K : Cont) : Option Fin := K (.exit 2) ⟨[(3, .d (.one (.ptr 500000 0))), (4, vS s), (5, vI k)], gH g⟩
def mu_mtA (_s : Str) (k : Int) (j : Int) (g : Gram) : Nat := (List.getD g.2 k.toNat d0).2.length - j.toNat
theorem r_mtA (s : Str) (k : Int) (j : Int) (g : Gram) (K : Cont) (hI : pre_mtA s k j g = true) : (∀ R : St → Option Fin, evC cx0_mtA (loopOf Tryd.f9 1) ⟨[(3, .d (.one (.ptr 500000 0))), (4, .d (ofD .str s)), (5, .d (ofD TI64 k)), (6, .d (ofD TI64 j))], [(500000, some (boxD 25 TG g))]⟩ (onward (headAt cx0_mtA 11) R K) = res_mtA s k j g K) ∨
    (∃ (s' : Str) (k' : Int) (j' : Int) (g' : Gram), pre_mtA s' k' j' g' = true ∧ mu_mtA s' k' j' g' < mu_mtA s k j g ∧ res_mtA s' k' j' g' K = res_mtA s k j g K ∧ ∀ R : St → Option Fin, evC cx0_mtA (loopOf Tryd.f9 1) ⟨[(3, .d (.one (.ptr 500000 0))), (4, .d (ofD .str s)), (5, .d (ofD TI64 k)), (6, .d (ofD TI64 j))], [(500000, some (boxD 25 TG g))]⟩ (onward (headAt cx0_mtA 11) R K) = R ⟨[(3, .d (.one (.ptr 500000 0))), (4, .d (ofD .str s')), (5, .d (ofD TI64 k')), (6, .d (ofD TI64 j'))], [(500000, some (boxD 25 TG g'))]⟩) := by
  have hx := fun R => x_laws_FnGramMet_1 g s k j R K
  simp only [pre_mtA, andd, dec_iff] at hI
  obtain ⟨h0, h1, h2, h3⟩ := hI
  have hp := h3
  obtain ⟨h3, h4⟩ := andd.1 h3
  have hk : k.toNat < List.length g.2 := by omega
  have hr : List.getD g.2 k.toNat d0 ∈ g.2 := by rw [getD_at hk]; exact List.getElem_mem hk
  obtain ⟨g1, g2⟩ := (okG_iff h3).2.2 _ hr
  obtain ⟨c0, g1, _⟩ := bigS_one g1
  have g2 := (areS_iff g2).2
  have hcl := closedB_iff.1 (List.all_eq_true.1 h4 _ hr)
  have k1 : inb 0 (List.length (List.getD g.2 k.toNat d0).1) = true := by rw [g1]; rfl
  by_cases hj : j < (List.length (List.getD g.2 k.toNat d0).2 : Int)
  · simp only [hj, decide_true, inb_ok h0 h1, inb_ok h2 hj, k1, branch_true, W1 h2 hj (show List.length (List.getD g.2 k.toNat d0).2 ≤ big by unfold big; omega)] at hx
    have go : pre_mtA s k (j + 1) g = true := by simp only [pre_mtA, andd, dec_iff]; exact ⟨h0, h1, by omega, hp⟩
    have hm : mu_mtA s k (j + 1) g < mu_mtA s k j g := by simp only [mu_mtA]; omega
    right
    refine ⟨s, k, j + 1, g, go, hm, rfl, fun R => (hx R).trans ?_⟩
    cases hin : inS s (byteAt (List.getD g.2 k.toNat d0).1 0)
    · rfl
    · cases hb : bigS (byteL [byteAt (List.getD g.2 k.toNat d0).2 j])
      · rfl
      · have hb' : bigc ((List.getD g.2 k.toNat d0).2.getD j.toNat 0) = true := by
          have e : byteL [byteAt (List.getD g.2 k.toNat d0).2 j] = [(List.getD g.2 k.toNat d0).2.getD j.toNat 0] := congrArg (fun c => [c]) (byteL_nat _)
          rw [e] at hb; exact hb
        have hin2 : inS s (byteAt (List.getD g.2 k.toNat d0).2 j) = true := inS_mem.2 (hcl (inS_mem.1 hin) _ (getD_in (show j.toNat < (List.getD g.2 k.toNat d0).2.length by omega)) hb')
        rw [hin2]; rfl
  · left
    intro R
    refine (hx R).trans ?_
    simp only [hj, decide_false, branch_false, inb_ok h0 h1]; rfl
noncomputable def g_mtA : St → Cont → Option Fin := gP sh_mtA (fun v => match v with | ((s, k, j, ()), (g, ())) => pre_mtA s k j g) (fun v K => match v with | ((s, k, j, ()), (g, ())) => res_mtA s k j g K)
noncomputable def L_mtA : List (Nat × (St → Cont → Option Fin)) := (11, g_mtA) :: []
noncomputable def cx_mtA : Cx := (cb_lMet).withLoops (look L_mtA)
theorem l_mtA {L : List (Nat × (St → Cont → Option Fin))} (n : Nat) (h1 : L.drop n = []) (h2 : idsFree (L.take n) (loopOf Tryd.f9 1) = true) : ∀ st K r, g_mtA st K = some r → ∃ N, iter (evC ((cb_lMet).withLoops (look L)) (loopOf Tryd.f9 1)) (headAt ((cb_lMet).withLoops (look L)) 11) N st K = some r :=
  with_drop h1 h2 (gP_ok (fun v => match v with | ((s, k, j, ()), (g, ())) => mu_mtA s k j g) fun v K hI => by
    obtain ⟨⟨(s : Str), (k : Int), (j : Int), ⟨⟩⟩, ⟨(g : Gram), ⟨⟩⟩⟩ := v
    rcases r_mtA s k j g K hI with h1 | ⟨s', k', j', g', h1, h2, h3, h4⟩
    · exact .inl h1
    · exact .inr ⟨((s', k', j', ()), (g', ())), h1, h2, h3, h4⟩)
theorem x_laws_FnGramMet (g : Gram) (s : Str) (k : Int) (R : St → Option Fin) (K : Cont) : evC (cb_lMet.withLoops (look L_mtA)) (loopOf Tryd.f9 0) ⟨[(3, .d (.one (.ptr 500000 0))), (4, vS s), (5, vI k)], [(500000, some (boxD 25 TG g))]⟩ (onward (headAt (cb_lMet.withLoops (look L_mtA)) 8) R K) = (
branch (decide (k < (List.length g.snd : Int))) (
 need (pre_mtA s k 0 g) <| R (.mk [(3, (.d (.one (.ptr 500000 0)))), (4, (vS s)), (5, (vI (W64 (k + 1))))] [(500000, (.some (.box 25 [(.r (.v (Value.string (mk g.fst)))), (.r (.li TRu (g.snd)))])))])) ( K (.exit 0) (.mk [(3, (.d (.one (.ptr 500000 0)))), (4, (vS s))] [(500000, (.some (.box 25 [(.r (.v (Value.string (mk g.fst)))), (.r (.li TRu (g.snd)))])))]))) := by kernel_rfl
noncomputable def cx0_mtB : Cx := (cb_lMet).withLoops (look L_mtA)
def sh_mtB : Sh := ([(3, .ptr 500000 0), (4, .d .str), (5, .d TI64)], [(500000, .box 25 TG)])
def pre_mtB (s : Str) (k : Int) (g : Gram) : Bool := decide (0 ≤ k) && mtP g s
noncomputable def res_mtB (s : Str) (_k : Int) (g : Gram) (K : Cont) : Option Fin := K (.exit 0) ⟨[(3, .d (.one (.ptr 500000 0))), (4, vS s)], gH g⟩
def mu_mtB (_s : Str) (k : Int) (g : Gram) : Nat := List.length g.2 - k.toNat
theorem r_mtB (s : Str) (k : Int) (g : Gram) (K : Cont) (hI : pre_mtB s k g = true) : (∀ R : St → Option Fin, evC cx0_mtB (loopOf Tryd.f9 0) ⟨[(3, .d (.one (.ptr 500000 0))), (4, .d (ofD .str s)), (5, .d (ofD TI64 k))], [(500000, some (boxD 25 TG g))]⟩ (onward (headAt cx0_mtB 8) R K) = res_mtB s k g K) ∨
    (∃ (s' : Str) (k' : Int) (g' : Gram), pre_mtB s' k' g' = true ∧ mu_mtB s' k' g' < mu_mtB s k g ∧ res_mtB s' k' g' K = res_mtB s k g K ∧ ∀ R : St → Option Fin, evC cx0_mtB (loopOf Tryd.f9 0) ⟨[(3, .d (.one (.ptr 500000 0))), (4, .d (ofD .str s)), (5, .d (ofD TI64 k))], [(500000, some (boxD 25 TG g))]⟩ (onward (headAt cx0_mtB 8) R K) = R ⟨[(3, .d (.one (.ptr 500000 0))), (4, .d (ofD .str s')), (5, .d (ofD TI64 k'))], [(500000, some (boxD 25 TG g'))]⟩) := by
  have hx := fun R => x_laws_FnGramMet g s k R K
  simp only [pre_mtB, andd, dec_iff] at hI
  obtain ⟨h0, h3⟩ := hI
  have hp := h3
  obtain ⟨h3, h4⟩ := andd.1 h3
  have hlen : List.length g.2 ≤ 8 := (okG_iff h3).2.1
  by_cases hk : k < (List.length g.2 : Int)
  · have hq : pre_mtA s k 0 g = true := by simp only [pre_mtA, andd, dec_iff]; exact ⟨h0, hk, by omega, hp⟩
    simp only [hk, decide_true, branch_true, W1 h0 hk (show List.length g.2 ≤ big by unfold big; omega), hq] at hx
    right
    refine ⟨s, k + 1, g, ?_, ?_, rfl, fun R => hx R⟩
    · simp only [pre_mtB, andd, dec_iff]; exact ⟨by omega, hp⟩
    · simp only [mu_mtB]; omega
  · left
    intro R
    refine (hx R).trans ?_
    simp only [hk, decide_false, branch_false]; rfl
noncomputable def g_mtB : St → Cont → Option Fin := gP sh_mtB (fun v => match v with | ((s, k, ()), (g, ())) => pre_mtB s k g) (fun v K => match v with | ((s, k, ()), (g, ())) => res_mtB s k g K)
noncomputable def L_mtB : List (Nat × (St → Cont → Option Fin)) := (8, g_mtB) :: L_mtA
noncomputable def cx_mtB : Cx := (cb_lMet).withLoops (look L_mtB)
theorem l_mtB {L : List (Nat × (St → Cont → Option Fin))} (n : Nat) (h1 : L.drop n = L_mtA) (h2 : idsFree (L.take n) (loopOf Tryd.f9 0) = true) : ∀ st K r, g_mtB st K = some r → ∃ N, iter (evC ((cb_lMet).withLoops (look L)) (loopOf Tryd.f9 0)) (headAt ((cb_lMet).withLoops (look L)) 8) N st K = some r :=
  with_drop h1 h2 (gP_ok (fun v => match v with | ((s, k, ()), (g, ())) => mu_mtB s k g) fun v K hI => by
    obtain ⟨⟨(s : Str), (k : Int), ⟨⟩⟩, ⟨(g : Gram), ⟨⟩⟩⟩ := v
    rcases r_mtB s k g K hI with h1 | ⟨s', k', g', h1, h2, h3, h4⟩
    · exact .inl h1
    · exact .inr ⟨((s', k', ()), (g', ())), h1, h2, h3, h4⟩)
theorem y_laws_FnGramMet (l : List Int) : evFn cx_mtB Tryd.f9 true [ofD TB l] [] = (
branch (decide (1048576 < (l.length : Int))) ( some ((vB true), [])) (
 branch (bif !decide ((bif okG (F_spec_DrawGramMet l) then metG (F_spec_DrawGramMet l) else []) = (bif okG (F_spec_DrawGramMet l) then metG (F_spec_DrawGramMet l) else [])) then true else !okG (F_spec_DrawGramMet l)) ( some ((vB (decide ((bif okG (F_spec_DrawGramMet l) then metG (F_spec_DrawGramMet l) else []) = (bif okG (F_spec_DrawGramMet l) then metG (F_spec_DrawGramMet l) else [])))), [])) (
  need (pre_mtB (bif okG (F_spec_DrawGramMet l) then metG (F_spec_DrawGramMet l) else []) 0 (F_spec_DrawGramMet l)) <|
  need (inb 0 (List.length (F_spec_DrawGramMet l).fst)) <| some ((vB (inS (bif okG (F_spec_DrawGramMet l) then metG (F_spec_DrawGramMet l) else []) (byteAt (F_spec_DrawGramMet l).fst 0))), [])))) := by kernel_rfl
theorem metG_closed {g : Gram} (h : okG g = true) : List.all g.2 (closedB (metG g)) = true := List.all_eq_true.2 fun r hr => closedB_iff.2 fun h1 c hc hb => by
  have hf := (metG_ok (okG_big h)).2
  have := growF_step (l := g.2) (o := metG g) hr (inS_mem.2 h1) hc hb
  rw [hf] at this
  exact this
theorem s_laws_FnGramMet (l : List Int) (_hl : Fit TB l) : Sat Tryd.prog 9 [ofD TB l] [] (.d (ofD .bool true)) [] :=
  fn_sound (cx := cx_mtB) Tryd.func9 rfl ttOk Γ90ok mixed (fun c hc => LoopsOk.all (l := [(8, loopOf Tryd.f9 0), (11, loopOf Tryd.f9 1)]) (by cases hc; kernel_rfl) ⟨atLoop rfl (l_mtB 1 rfl (by kernel_rfl)), atLoop rfl (l_mtA 2 rfl (by kernel_rfl)), trivial⟩) (ro := true) (by
    rw [y_laws_FnGramMet]
    generalize F_spec_DrawGramMet l = g
    cases decide (1048576 < (l.length : Int))
    · cases h : okG g
      · simp only [cond_false, decide_true]; rfl
      · obtain ⟨c, e1, _⟩ := bigS_one (okG_big h)
        have p1 : pre_mtB (metG g) 0 g = true := andd.2 ⟨rfl, andd.2 ⟨h, metG_closed h⟩⟩
        have p2 : inb 0 (List.length g.1) = true := by rw [e1]; rfl
        have p3 : inS (metG g) (byteAt g.1 0) = true := by
          refine inS_mem.2 ((metG_ok (okG_big h)).1.start _ ?_)
          rw [e1]; exact List.mem_cons_self
        simp only [cond_true, p1, p2, p3, decide_true]
        rfl
    · rfl)
noncomputable def c_laws_FnGramMet : Con := conT [TB] fun (_l : List Int) => (none, .d (ofD .bool true))
theorem k_laws_FnGramMet : ConOk Tryd.prog 9 c_laws_FnGramMet := conT_ok Tryd.call9 fun l hl _ => s_laws_FnGramMet l hl
end Go.Proofs.YthbpnbbilaobbaaDoor.Ev
