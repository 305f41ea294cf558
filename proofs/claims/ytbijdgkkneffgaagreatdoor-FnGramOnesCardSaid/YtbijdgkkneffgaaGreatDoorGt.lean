/-
  The signs that are met.
-/
import Derived.Test.YtbijdgkkneffgaaGreatDoorGr
import Derived.Lib.Bytealg
namespace Go.Proofs.YtbijdgkkneffgaaGreatDoor.Ev
open Go
theorem conT_val {P : Program} {f : FuncId} {ts : List Ty} {G : Fn ts (Option Bool × T)} (he : EachF ts G fun ds r => (r.1 = none ∨ r.1 = some true) → SatX P f ds [] r.2 []) : ConVal P f (conT ts G) := by
 intro ds os c x objs hc hok
 simp only [conT] at hc
 split at hc
 ·split at hc
  ·rename_i c' r hap
   cases hc
   intro w F β args H hds
   obtain ⟨ds', h1, h2⟩ := each_of he hap hds
   exact h1 hok w F β args H h2
  ·cases hc
 ·cases hc
theorem ixB_plain (s : Str) (c : UInt8) (hs : List.length s ≤ 9223372036854775807) : plain (.int .i64 (Lib.indexByte s c)) = true := by
 have h1 := Lib.indexByte_ge s c
 have h2 : ∀ t : Str, Lib.indexByte t c ≤ (t.length : Int) := fun t => by
  induction t with
  | nil => exact (by decide : (-1 : Int) ≤ 0)
  | cons b l ih =>
   unfold Lib.indexByte
   simp only [List.length_cons]
   split
   ·omega
   ·split <;> omega
 have := h2 s
 exact plain_i64 (by omega) (by omega)
noncomputable def c_internal_bytealg_IndexByteString : Con := conT [.str, TU8] fun (s : Str) (c : Int) => (none, .d (ofD TI64 (Lib.indexByte s c.toNat.toUInt8)))
theorem sx_IndexByteString (s : Str) (c : Int) (hs : List.length s ≤ 9223372036854775807) : SatX Tryz.prog 136 [ofD .str s, ofD TU8 c] [] (vI (Lib.indexByte s c.toNat.toUInt8)) [] := by
 intro w F β args H hds
 cases hds with | cons h1 h2 => cases h2 with | cons h2 h3 =>
 cases h3
 obtain ⟨e1, _⟩ := h1
 obtain ⟨e2, _⟩ := h2
 subst e1; subst e2
 exact .inr ⟨.int .i64 (Lib.indexByte s c.toNat.toUInt8), w, (run_callFunc_extern Tryz.func136 (by kernel_rfl) (by kernel_rfl) (by kernel_rfl) (e := Extern.BytealgIndexByte.indexByte) (by kernel_rfl) _ w).trans
   (congrArg (fun r => Result.andThen r fun v w' => Result.ok (Next.value v) w') (Lib.run_indexByteString (mk s) c w)), _, F, β, rfl, H,
  fun i hi => absurd hi (Nat.not_lt_zero i), fun i o hi => absurd hi (Nat.not_lt_zero i), fun _ _ _ hh => (nomatch hh), rep_v (ixB_plain s _ hs)⟩
theorem k_internal_bytealg_IndexByteString : ConVal Tryz.prog 136 c_internal_bytealg_IndexByteString := conT_val fun s hs c _ _ => sx_IndexByteString s c hs
noncomputable def Γ62 : List (Nat × Con) := (136, c_internal_bytealg_IndexByteString) :: Γ61
theorem Γ62ok : EnvOk Tryz.prog (look Γ62) := .consV k_internal_bytealg_IndexByteString Γ61ok
theorem y_internal_stringslite_IndexByte (s : Str) (c : Int) : evFn (cxOf Γ62 Tryz.f117.ntmps [] [] [] []) Tryz.f117 true [ofD .str s, ofD TU8 c] [] = (
some ((vI (Lib.indexByte s c.toNat.toUInt8)), [])) := by kernel_rfl
theorem s_internal_stringslite_IndexByte (s : Str) (_hs : Fit .str s) (c : Int) (_hc : Fit TU8 c) : Sat Tryz.prog 117 [ofD .str s, ofD TU8 c] [] (.d (ofD TI64 (Lib.indexByte s c.toNat.toUInt8))) [] :=
 fn_sound (cx := cxOf Γ62 Tryz.f117.ntmps [] [] [] []) Tryz.func117 rfl ttOk Γ62ok mixed (fun _ _ => LoopsOk.no fun _ => rfl) (ro := true) (by
  rw [y_internal_stringslite_IndexByte]; rfl)
noncomputable def c_internal_stringslite_IndexByte : Con := conT [.str, TU8] fun (s : Str) (c : Int) => (none, .d (ofD TI64 (Lib.indexByte s c.toNat.toUInt8)))
theorem k_internal_stringslite_IndexByte : ConOk Tryz.prog 117 c_internal_stringslite_IndexByte := conT_ok Tryz.call117 fun s hs c hc _ => s_internal_stringslite_IndexByte s hs c hc
noncomputable def Γ63 : List (Nat × Con) := (117, c_internal_stringslite_IndexByte) :: Γ62
theorem Γ63ok : EnvOk Tryz.prog (look Γ63) := .cons k_internal_stringslite_IndexByte Γ62ok
theorem y_internal_stringslite_Index (s : Str) (t : Str) : evFn (cxOf Γ63 Tryz.f100.ntmps [(15, [0, 1, 5, 6, 7, 8, 9, 10])] [(1, []), (2, [0, 1, 5, 6, 7, 8, 9, 10]), (0, [0, 1, 5]), (1000000, [4])] [] []) Tryz.f100 true [ofD .str s, ofD .str t] [] = (
branch (bif decide ((t.length : Int) = 0) then true else decide (t = s)) ( some ((vI 0), [])) (
 branch (decide ((t.length : Int) = 1)) (
 need (inb 0 t.length) <| some ((vI (Lib.indexByte s (byteAt t 0).toNat.toUInt8)), [])) (
 need (decide ((s.length : Int) ≤ (t.length : Int))) <| some ((vI (Int.neg 1)), [])))) := by kernel_rfl
theorem byte_one (c : UInt8) : (byteAt [c] 0).toNat.toUInt8 = c := byteL_nat c
noncomputable def cx_slIndex : Cx := cxOf Γ63 Tryz.f100.ntmps [(15, [0, 1, 5, 6, 7, 8, 9, 10])] [(1, []), (2, [0, 1, 5, 6, 7, 8, 9, 10]), (0, [0, 1, 5]), (1000000, [4])] [] []
theorem s_internal_stringslite_Index (s : Str) (_hs : Fit .str s) (t : Str) (_ht : Fit .str t) (hpre : (Nat.beq (List.length t) 1) = true) : Sat Tryz.prog 100 [ofD .str s, ofD .str t] [] (.d (ofD TI64 (Lib.indexByte s (List.getD t 0 0)))) [] :=
 fn_sound (cx := cx_slIndex) Tryz.func100 rfl ttOk Γ63ok mixed (fun _ _ => LoopsOk.no fun _ => rfl) (ro := true) (by
  obtain ⟨c, rfl⟩ : ∃ c, t = [c] := List.length_eq_one_iff.1 (Nat.eq_of_beq_eq_true hpre)
  have y := y_internal_stringslite_Index s [c]
  have e0 : decide (((([c] : Str).length : Nat) : Int) = 0) = false := decide_eq_false (by simp)
  have e1 : decide (((([c] : Str).length : Nat) : Int) = 1) = true := decide_eq_true (by simp)
  have e2 : inb 0 ([c] : Str).length = true := inb_ok (by omega) (by simp)
  rw [byte_one, e0, e1, e2] at y
  by_cases h : ([c] : Str) = s
  ·subst h
   have e4 : Lib.indexByte [c] c = 0 := by unfold Lib.indexByte; simp
   refine y.trans ?_
   show branch (decide (([c] : Str) = [c])) _ _ = some (vI (Lib.indexByte [c] c), [])
   rw [decide_eq_true (rfl : ([c] : Str) = [c]), e4]; rfl
  ·refine y.trans ?_
   rw [decide_eq_false h]; rfl)
noncomputable def c_internal_stringslite_Index : Con := conT [.str, .str] fun (s : Str) (t : Str) => (some (Nat.beq (List.length t) 1), .d (ofD TI64 (Lib.indexByte s (List.getD t 0 0))))
theorem k_internal_stringslite_Index : ConOk Tryz.prog 100 c_internal_stringslite_Index := conT_ok Tryz.call100 fun s hs t ht hqq => s_internal_stringslite_Index s hs t ht (pre_of hqq)
noncomputable def Γ64 : List (Nat × Con) := (100, c_internal_stringslite_Index) :: Γ63
theorem Γ64ok : EnvOk Tryz.prog (look Γ64) := .cons k_internal_stringslite_Index Γ63ok
theorem y_strings_Index (s : Str) (t : Str) : evFn (cxOf Γ64 Tryz.f83.ntmps [] [] [] []) Tryz.f83 true [ofD .str s, ofD .str t] [] = (
need (t.length.beq 1) <| some ((vI (Lib.indexByte s (List.getD t 0 (UInt8.ofNat 0)))), [])) := by kernel_rfl
theorem s_strings_Index (s : Str) (_hs : Fit .str s) (t : Str) (_ht : Fit .str t) (hpre : (Nat.beq (List.length t) 1) = true) : Sat Tryz.prog 83 [ofD .str s, ofD .str t] [] (.d (ofD TI64 (Lib.indexByte s (List.getD t 0 0)))) [] :=
 fn_sound (cx := cxOf Γ64 Tryz.f83.ntmps [] [] [] []) Tryz.func83 rfl ttOk Γ64ok mixed (fun _ _ => LoopsOk.no fun _ => rfl) (ro := true) (by
  rw [y_strings_Index, hpre]; rfl)
noncomputable def c_strings_Index : Con := conT [.str, .str] fun (s : Str) (t : Str) => (some (Nat.beq (List.length t) 1), .d (ofD TI64 (Lib.indexByte s (List.getD t 0 0))))
theorem k_strings_Index : ConOk Tryz.prog 83 c_strings_Index := conT_ok Tryz.call83 fun s hs t ht hqq => s_strings_Index s hs t ht (pre_of hqq)
noncomputable def Γ65 : List (Nat × Con) := (83, c_strings_Index) :: Γ64
theorem Γ65ok : EnvOk Tryz.prog (look Γ65) := .cons k_strings_Index Γ64ok
theorem y_strings_Contains (s : Str) (t : Str) : evFn (cxOf Γ65 Tryz.f52.ntmps [] [] [] []) Tryz.f52 true [ofD .str s, ofD .str t] [] = (
need (t.length.beq 1) <| some ((vB (decide (0 ≤ Lib.indexByte s (List.getD t 0 (UInt8.ofNat 0))))), [])) := by kernel_rfl
theorem ixB_in (c : UInt8) : ∀ s : Str, decide (0 ≤ Lib.indexByte s c) = inS s (c.toNat : Int)
 | [] => rfl
 | b :: l => by
  have ih := ixB_in c l
  have hge := Lib.indexByte_ge l c
  show decide (0 ≤ Lib.indexByte (b :: l) c) = (decide ((b.toNat : Int) = (c.toNat : Int)) || inS l (c.toNat : Int))
  unfold Lib.indexByte
  by_cases hb : b = c
  ·subst hb
   simp
  ·have h1 : (b == c) = false := beq_eq_false_iff_ne.2 hb
   have h2 : decide ((b.toNat : Int) = (c.toNat : Int)) = false := decide_eq_false fun hh => hb (UInt8.toNat_inj.1 (by omega))
   rw [h1, h2, ← ih]
   simp only [Bool.false_eq_true, if_false, Bool.false_or]
   by_cases h3 : Lib.indexByte l c = -1
   ·rw [h3]; rfl
   ·have h4 : (Lib.indexByte l c == -1) = false := beq_eq_false_iff_ne.2 h3
    rw [h4]
    simp only [Bool.false_eq_true, if_false]
    rw [decide_eq_decide]
    omega
theorem s_strings_Contains (s : Str) (_hs : Fit .str s) (t : Str) (_ht : Fit .str t) (hpre : (Nat.beq (List.length t) 1) = true) : Sat Tryz.prog 52 [ofD .str s, ofD .str t] [] (.d (ofD .bool (inS s (((List.getD t 0 0).toNat : Nat) : Int)))) [] :=
 fn_sound (cx := cxOf Γ65 Tryz.f52.ntmps [] [] [] []) Tryz.func52 rfl ttOk Γ65ok mixed (fun _ _ => LoopsOk.no fun _ => rfl) (ro := true) (by
  rw [y_strings_Contains, hpre, ← ixB_in]; rfl)
noncomputable def c_strings_Contains : Con := conT [.str, .str] fun (s : Str) (t : Str) => (some (Nat.beq (List.length t) 1), .d (ofD .bool (inS s (((List.getD t 0 0).toNat : Nat) : Int))))
theorem k_strings_Contains : ConOk Tryz.prog 52 c_strings_Contains := conT_ok Tryz.call52 fun s hs t ht hqq => s_strings_Contains s hs t ht (pre_of hqq)
noncomputable def Γ66 : List (Nat × Con) := (52, c_strings_Contains) :: Γ65
theorem Γ66ok : EnvOk Tryz.prog (look Γ66) := .cons k_strings_Contains Γ65ok
def metV (s : Str) (r : Rule) : Str := bif inS s ((r.1.getD 0 0).toNat : Int) then setS bigc r.2 else []
def unionV (a b : Str) : Str := setS (fun _ => true) (a ++ b)
theorem y_impl_union (a : Str) (b : Str) : evFn (cxOf Γ66 Tryz.f42.ntmps [] [] [] []) Tryz.f42 true [ofD .str a, ofD .str b] [] = (
need (decide ((List.length a + List.length b) ≤ 9223372036854775807)) <|
need ((List.append a b).length.blt 50 && (holdF 78).isSome) <| some ((vS (setS (pB 78) (List.append a b))), [])) := by kernel_rfl
theorem s_impl_union (a : Str) (_ha : Fit .str a) (b : Str) (_hb : Fit .str b) (hpre : (Nat.blt (List.length a + List.length b) 50) = true) : Sat Tryz.prog 42 [ofD .str a, ofD .str b] [] (.d (ofD .str (unionV a b))) [] :=
 fn_sound (cx := cxOf Γ66 Tryz.f42.ntmps [] [] [] []) Tryz.func42 rfl ttOk Γ66ok mixed (fun _ _ => LoopsOk.no fun _ => rfl) (ro := true) (by
  have h1 := ble_iff.1 hpre
  have k1 : decide (List.length a + List.length b ≤ 9223372036854775807) = true := dec_iff.2 (by omega)
  have k2 : ((List.append a b).length.blt 50 && (holdF 78).isSome) = true := andd.2 ⟨ble_iff.2 (by rw [List.append_eq, List.length_append]; exact h1), rfl⟩
  rw [y_impl_union, k1, k2]; rfl)
noncomputable def c_impl_union : Con := conT [.str, .str] fun (a : Str) (b : Str) => (some (Nat.blt (List.length a + List.length b) 50), .d (ofD .str (unionV a b)))
theorem k_impl_union : ConOk Tryz.prog 42 c_impl_union := conT_ok Tryz.call42 fun a ha b hb hqq => s_impl_union a ha b hb (pre_of hqq)
noncomputable def Γ67 : List (Nat × Con) := (42, c_impl_union) :: Γ66
theorem Γ67ok : EnvOk Tryz.prog (look Γ67) := .cons k_impl_union Γ66ok
theorem unionV_mem {a b : Str} {c : UInt8} : c ∈ unionV a b ↔ c ∈ a ∨ c ∈ b := by
 unfold unionV
 rw [setS_mem, List.mem_append]
 simp
theorem unionV_asc {a b : Str} : Asc (unionV a b) := setS_asc
theorem metV_mem {s : Str} {r : Rule} {c : UInt8} : c ∈ metV s r ↔ inS s ((r.1.getD 0 0).toNat : Int) = true ∧ c ∈ r.2 ∧ bigc c = true := by
 unfold metV
 cases inS s ((r.1.getD 0 0).toNat : Int)
 ·simp
 ·rw [cond_true, setS_mem]; simp
theorem metV_len {s : Str} {r : Rule} : (metV s r).length ≤ r.2.length := by
 unfold metV
 cases inS s ((r.1.getD 0 0).toNat : Int)
 ·exact Nat.zero_le _
 ·exact setS_len
theorem big_five {s : Str} (ha : Asc s) (hb : ∀ c ∈ s, bigc c = true) : s.length ≤ 5 := by
 have hnd : s.Nodup := ha.imp fun hh e => by subst e; omega
 refine hnd.length_le_of_subset (l₂ := [65, 66, 67, 68, 69]) fun c hc => ?_
 have := hb c hc
 unfold bigc at this
 rw [andd, ble_iff, ble_iff] at this
 have h : c.toNat = 65 ∨ c.toNat = 66 ∨ c.toNat = 67 ∨ c.toNat = 68 ∨ c.toNat = 69 := by omega
 have e : ∀ {n : Nat} (d : UInt8), d.toNat = n → c.toNat = n → c = d := fun d h1 h2 => UInt8.toNat_inj.1 (h2.trans h1.symm)
 rcases h with h | h | h | h | h
 ·rw [e 65 rfl h]; decide
 ·rw [e 66 rfl h]; decide
 ·rw [e 67 rfl h]; decide
 ·rw [e 68 rfl h]; decide
 ·rw [e 69 rfl h]; decide
theorem asc_grow {s t : Str} (hs : Asc s) (ht : Asc t) (h : ∀ c ∈ s, c ∈ t) (hne : t ≠ s) : s.length < t.length := by
 rcases Nat.lt_or_ge s.length t.length with h1 | h1
 ·exact h1
 ·exfalso
  refine hne (asc_ext ht hs fun c => ⟨fun hc => ?_, h c⟩)
  by_cases hcs : c ∈ s
  ·exact hcs
  ·exfalso
   have hnd : (c :: s).Nodup := List.nodup_cons.2 ⟨hcs, hs.imp fun hh e => by subst e; omega⟩
   have := hnd.length_le_of_subset (l₂ := t) fun x hx => by
    rcases List.mem_cons.1 hx with rfl | hx
    ·exact hc
    ·exact h x hx
   simp only [List.length_cons] at this
   omega
def growF (o : Str) (l : List Rule) : Str := l.foldl (fun o r => unionV o (metV o r)) o
def growN (g : Gram) : Nat → Str → Str
 | 0, s => s
 | n + 1, s => bif decide (growF s g.2 = s) then s else growN g n (growF s g.2)
theorem growF_sub : ∀ {l : List Rule} {o : Str}, ∀ c ∈ o, c ∈ growF o l
 | [], _, _, h => h
 | r :: l, o, c, h => growF_sub (l := l) (o := unionV o (metV o r)) c (unionV_mem.2 (.inl h))
theorem growF_asc : ∀ {l : List Rule} {o : Str}, Asc o → Asc (growF o l)
 | [], _, h => h
 | r :: l, o, _ => growF_asc (l := l) (o := unionV o (metV o r)) unionV_asc
theorem growF_inv {p : UInt8 → Prop} : ∀ {l : List Rule} {o : Str}, (∀ c ∈ o, p c) → (∀ o r c, r ∈ l → (∀ c ∈ o, p c) → c ∈ metV o r → p c) → ∀ c ∈ growF o l, p c
 | [], _, h, _, c, hc => h c hc
 | r :: l, o, h, h2, c, hc => growF_inv (l := l) (o := unionV o (metV o r)) (fun c hc => by
   rcases unionV_mem.1 hc with hc | hc
   ·exact h c hc
   ·exact h2 o r c List.mem_cons_self h hc) (fun o r c hr => h2 o r c (List.mem_cons_of_mem _ hr)) c hc
theorem growF_big {l : List Rule} {o : Str} (h : ∀ c ∈ o, bigc c = true) : ∀ c ∈ growF o l, bigc c = true := growF_inv h fun _ _ _ _ _ hc => (metV_mem.1 hc).2.2
theorem growF_step : ∀ {l : List Rule} {o : Str} {r : Rule} {c : UInt8}, r ∈ l → inS o ((r.1.getD 0 0).toNat : Int) = true → c ∈ r.2 → bigc c = true → c ∈ growF o l
 | r0 :: l, o, r, c, hr, h1, h2, h3 => by
  show c ∈ growF (unionV o (metV o r0)) l
  rcases List.mem_cons.1 hr with rfl | hr
  ·exact growF_sub c (unionV_mem.2 (.inr (metV_mem.2 ⟨h1, h2, h3⟩)))
  ·exact growF_step hr (inS_mem.2 (unionV_mem.2 (.inl (inS_mem.1 h1)))) h2 h3
inductive Met (g : Gram) : UInt8 → Prop
 | start {c : UInt8} (h : c ∈ g.1) : Met g c
 | step {r : Rule} {c : UInt8} (hr : r ∈ g.2) (h1 : Met g (r.1.getD 0 0)) (h2 : c ∈ r.2) (h3 : bigc c = true) : Met g c
def closedR (s : Str) (r : Rule) : Prop := (r.1.getD 0 0) ∈ s → ∀ c ∈ r.2, bigc c = true → c ∈ s
theorem met_in {g : Gram} {s : Str} (h1 : ∀ c ∈ g.1, c ∈ s) (h2 : ∀ r ∈ g.2, closedR s r) {c : UInt8} (h : Met g c) : c ∈ s := by
 induction h with
 | start h => exact h1 _ h
 | step hr _ g2 g3 ih => exact h2 _ hr ih _ g2 g3
structure MetOk (g : Gram) (s : Str) : Prop where
 asc : Asc s
 big : ∀ c ∈ s, bigc c = true
 start : ∀ c ∈ g.1, c ∈ s
 met : ∀ c ∈ s, Met g c
theorem MetOk.grow {g : Gram} {s : Str} (h : MetOk g s) : MetOk g (growF s g.2) where
 asc := growF_asc h.asc
 big := growF_big h.big
 start := fun c hc => growF_sub c (h.start c hc)
 met := growF_inv h.met fun o r c hr ho hc => by
  obtain ⟨h1, h2, h3⟩ := metV_mem.1 hc
  exact .step hr (ho _ (inS_mem.1 h1)) h2 h3
theorem growN_fix {g : Gram} : ∀ {n : Nat} {s : Str}, MetOk g s → 5 < n + s.length → MetOk g (growN g n s) ∧ growF (growN g n s) g.2 = growN g n s
 | 0, s, h, hn => by have := big_five h.asc h.big; omega
 | n + 1, s, h, hn => by
  unfold growN
  by_cases e : growF s g.2 = s
  ·rw [decide_eq_true e]; exact ⟨h, e⟩
  ·rw [decide_eq_false e]
   have := asc_grow h.asc h.grow.asc growF_sub e
   exact growN_fix (n := n) h.grow (by omega)
theorem fix_mem {g : Gram} {s : Str} (h : MetOk g s) (hf : growF s g.2 = s) {c : UInt8} : c ∈ s ↔ Met g c :=
 ⟨h.met c, fun hc => met_in h.start (fun r hr h1 c hc hb => by
  have := growF_step (l := g.2) (o := s) hr (inS_mem.2 h1) hc hb
  rw [hf] at this
  exact this) hc⟩
def metG (g : Gram) : Str := growN g 5 g.1
theorem start_ok {g : Gram} (h : bigS g.1 = true) : MetOk g g.1 := by
 obtain ⟨c, h1, h2⟩ := bigS_one h
 exact ⟨by rw [h1]; exact List.pairwise_singleton _ _, fun d hd => by rw [h1] at hd; rw [List.mem_singleton.1 hd]; exact h2, fun _ hc => hc, fun _ hc => .start hc⟩
theorem metG_ok {g : Gram} (h : bigS g.1 = true) : MetOk g (metG g) ∧ growF (metG g) g.2 = metG g := growN_fix (start_ok h) (by
 obtain ⟨c, h1, _⟩ := bigS_one h
 rw [h1, List.length_singleton]; omega)
theorem metG_mem {g : Gram} (h : bigS g.1 = true) {c : UInt8} : c ∈ metG g ↔ Met g c := fix_mem (metG_ok h).1 (metG_ok h).2
theorem growN_met {g : Gram} (h : bigS g.1 = true) {n : Nat} {s : Str} (hs : MetOk g s) (hn : 5 < n + s.length) : growN g n s = metG g := by
 obtain ⟨h1, h2⟩ := growN_fix hs hn
 exact asc_ext h1.asc (metG_ok h).1.asc fun c => (fix_mem h1 h2).trans (metG_mem h).symm
def okR0 (r : Rule) : Bool := Nat.beq (List.length r.1) 1 && Nat.ble (List.length r.2) 20
abbrev gH (g : Gram) : Heap := [(500000, some (boxD 25 TG g))]
theorem okR_G {g : Gram} (h : okG g = true) : List.all g.2 okR0 = true := List.all_eq_true.2 fun r hr => by
 obtain ⟨_, _, h3⟩ := okG_iff h
 obtain ⟨g1, g2⟩ := h3 r hr
 obtain ⟨c, g1, _⟩ := bigS_one g1
 have := (areS_iff g2).2
 exact andd.2 ⟨by rw [g1]; rfl, ble_iff.2 (by omega)⟩
theorem growF_at {o : Str} {l : List Rule} {i : Int} (h0 : 0 ≤ i) (h1 : i < (l.length : Int)) : growF o (l.drop i.toNat) = growF (unionV o (metV o (l.getD i.toNat d0))) (l.drop (i + 1).toNat) := by
 have hn : i.toNat < l.length := by omega
 rw [List.drop_eq_getElem_cons hn, show (i + 1).toNat = i.toNat + 1 by omega, getD_at hn]; rfl
theorem union_big {o : Str} {r : Rule} (h : List.all o bigc = true) : List.all (unionV o (metV o r)) bigc = true := List.all_eq_true.2 fun c hc => by
 rcases unionV_mem.1 hc with hc | hc
 ·exact List.all_eq_true.1 h c hc
 ·exact (metV_mem.1 hc).2.2
def metB (g : Gram) (s : Str) : Bool := okG g && (List.all s bigc && (decide (Asc s) && (List.all s (fun c => inS (metG g) (c.toNat : Int)) && List.all g.1 fun c => inS s (c.toNat : Int))))
theorem metB_iff {g : Gram} {s : Str} : metB g s = true ↔ okG g = true ∧ MetOk g s := by
 unfold metB
 rw [andd, andd, andd, andd, dec_iff, List.all_eq_true, List.all_eq_true, List.all_eq_true]
 constructor
 ·rintro ⟨h1, h2, h3, h4, h5⟩
  exact ⟨h1, h3, h2, fun c hc => inS_mem.1 (h5 c hc), fun c hc => (metG_mem (okG_big h1)).1 (inS_mem.1 (h4 c hc))⟩
 ·rintro ⟨h1, h2⟩
  exact ⟨h1, h2.big, h2.asc, fun c hc => inS_mem.2 ((metG_mem (okG_big h1)).2 (h2.met c hc)), fun c hc => inS_mem.2 (h2.start c hc)⟩
end Go.Proofs.YtbijdgkkneffgaaGreatDoor.Ev
