/-
  Operations that turn no memory do what the evaluator tells.
-/
import Derived.Test.YthhmpjnmmhfngaaDoorEvB
import Derived.Laws.StructEq
import Derived.Laws.Slices
import Derived.Laws.Strings
import Derived.Laws.Concat
namespace Go.Proofs.YthhmpjnmmhfngaaDoor.Ev
open Go

theorem look_append {α : Type} (a b : List (Nat × α)) (i : Nat) : look (a ++ b) i = match look a i with | some x => some x | none => look b i := by
  induction a with
  | nil => rfl
  | cons p l ih =>
    obtain ⟨k, x⟩ := p
    simp only [List.cons_append, look]
    cases Nat.beq k i
    · exact ih
    · rfl

/-- the values of a temporary -/
def RepX (tm : Array Value) (w : World) (F : Nat → Prop) (h : HF) (β : Nat → Value) : T → Value → Prop
  | .d x, u => RepD w F h β x u
  | .tup xs, u => ∃ us : Array Value, u = .tuple us ∧ All2 (RepD w F h β) xs us.toList
  | .when s b x, u => (tm[s]? = some (.bool b) → RepD w F h β x u) ∧ (tm[s]? ≠ some (.bool b) → u = undef)
  | .nilq n, u => ∃ b, u = .bool b ∧ (0 < n → b = false)
  | .und, u => u = undef
  | .unk, _ => True

theorem Per.repX {tm : Array Value} {w w' : World} {F F' : Nat → Prop} {h h' : HF} {β β' : Nat → Value} (a : Per w F h β w' F' h' β') {t : T} {u : Value}
    (ht : RepX tm w F h β t u) : RepX tm w' F' h' β' t u := by
  cases t with
  | d x => exact a.repD ht
  | tup xs => obtain ⟨us, rfl, hh⟩ := ht; exact ⟨us, rfl, hh.mono fun _ _ => a.repD⟩
  | when s b x => exact ⟨fun e => a.repD (ht.1 e), ht.2⟩
  | nilq n => exact ht
  | und => exact ht
  | unk => trivial

/-- the table of types tells the program's -/
structure TTok (P : Program) (TT : Types) : Prop where
  info : ∀ t ti, TT t = some ti → P.info? t = some ti.info
  under : ∀ t ti, TT t = some ti → P.underlying t = some ti.desc
  held : ∀ t ti fs, TT t = some ti → ti.desc = .struct fs → P.stoodInHeld t = false ∧ P.eqGuardType P.depth t = false

theorem wp_val {P : Program} {o : Oper} {a : Act} {w w' : World} {K : Act → World → Prop} {Q : Exit → Act → World → Prop} {v : Value}
    (h : (execOp a.eval o).run P w = .ok (.value v) w') (hk : K (a.put o.dst v) w') : o.wp P a w K Q := by
  unfold Oper.wp; rw [h]; exact hk

theorem wp_skp {P : Program} {o : Oper} {a : Act} {w w' : World} {K : Act → World → Prop} {Q : Exit → Act → World → Prop}
    (h : (execOp a.eval o).run P w = .ok .skip w') (hk : K (a.put o.dst undef) w') : o.wp P a w K Q := by
  unfold Oper.wp; rw [h]; exact hk

section
variable {P : Program} {TT : Types} (ht : TTok P TT) {t : TypeId} {ti : TI}
include ht
theorem TTok.run_info (h : TT t = some ti) (w : World) : (typeInfo t).run P w = .ok ti.info w := by
  simp [typeInfo, ht.info t ti h]
theorem TTok.run_size (h : TT t = some ti) (w : World) : (sizeOf t).run P w = .ok ti.info.size w := by
  simp [sizeOf, ht.run_info h]
theorem TTok.run_under (h : TT t = some ti) (w : World) : (underlying t).run P w = .ok ti.desc w := run_underlying (ht.under t ti h) w
end

def aggDesc : TypeDesc → Bool
  | .struct _ | .array _ _ => true
  | _ => false

theorem TTok.run_agg {P : Program} {TT : Types} (ht : TTok P TT) {t : TypeId} {ti : TI} (h : TT t = some ti) (w : World) : (isAgg t).run P w = .ok (aggDesc ti.desc) w := by
  simp only [isAgg, Sem.run_bind, ht.run_under h, Result.andThen_ok]
  cases ti.desc <;> rfl

theorem mkOf_agg {ti : TI} (h : aggDesc ti.desc = true) (cs : List C) : D.mkOf ti cs = some (.agg cs) := by
  unfold D.mkOf
  split
  · rfl
  · rfl
  · rename_i h1 h2
    unfold aggDesc at h
    split at h
    · exact absurd (by assumption) (h1 _)
    · exact absurd (by assumption) (h2 _ _)
    · cases h

theorem mkOf_one {ti : TI} (h : aggDesc ti.desc = false) {cs : List C} {d : D} (hd : D.mkOf ti cs = some d) : ∃ c, cs = [c] ∧ d = .one c := by
  unfold D.mkOf at hd
  split at hd
  · rename_i e; simp [aggDesc, e] at h
  · rename_i e; simp [aggDesc, e] at h
  · split at hd
    · cases hd; exact ⟨_, rfl, rfl⟩
    · cases hd

theorem inb_iff {i : Int} {n : Nat} : inb i n = true ↔ 0 ≤ i ∧ i < (n : Int) := by simp [inb]

section quiet
variable {P : Program} {TT : Types} {w : World} {F : Nat → Prop} {h : HF} {β : Nat → Value} {a : Act} {o : Oper}

theorem run_seq_eq (x y : ByteArray) : (x.toList == y.toList) = seq x y := by
  rw [ByteArray.toList_eq, ByteArray.toList_eq, Bool.eq_iff_iff, beq_iff_eq, seq, decide_eq_true_iff]

theorem mk_append (x y : ByteArray) : x ++ y = mk (x.data.toList ++ y.data.toList) := by
  obtain ⟨⟨x⟩⟩ := x
  obtain ⟨⟨y⟩⟩ := y
  apply ByteArray.ext
  simp

theorem size_list (x : ByteArray) : x.size = x.data.toList.length := by
  obtain ⟨⟨x⟩⟩ := x
  rfl

theorem wrap_wrap (k : IntKind) (n : Int) : k.wrap (k.wrap n) = k.wrap n := by
  cases k <;> simp only [IntKind.wrap, IntKind.bits, IntKind.signed] <;> simp <;> omega

theorem tmod_bound (x y : Int) : (0 ≤ x → 0 ≤ x.tmod y ∧ x.tmod y ≤ x) ∧ (x ≤ 0 → x ≤ x.tmod y ∧ x.tmod y ≤ 0) := by
  have pos : ∀ x : Int, 0 ≤ x → 0 ≤ x.tmod y ∧ x.tmod y ≤ x := fun x hx => by
    refine ⟨Int.tmod_nonneg _ hx, ?_⟩
    have h1 : (x.tmod y).natAbs ≤ x.natAbs := by rw [Int.natAbs_tmod]; exact Nat.mod_le _ _
    have h2 := Int.tmod_nonneg y hx
    omega
  refine ⟨pos x, fun hx => ?_⟩
  have := pos (-x) (by omega)
  rw [Int.neg_tmod] at this
  omega

theorem wrap_rem {k : IntKind} {x : Int} (y : Int) (h : k.wrap x = x) : k.wrap (x.tmod y) = x.tmod y := by
  have b := tmod_bound x y
  rcases Int.le_total 0 x with hx | hx
  · obtain ⟨b1, b2⟩ := b.1 hx
    cases k <;> simp only [IntKind.wrap, IntKind.bits, IntKind.signed] at h ⊢ <;> simp at h ⊢ <;> omega
  · obtain ⟨b1, b2⟩ := b.2 hx
    cases k <;> simp only [IntKind.wrap, IntKind.bits, IntKind.signed] at h ⊢ <;> simp at h ⊢ <;> omega

theorem plain_wrap (k : IntKind) (n : Int) : plain (.int k (k.wrap n)) = true := by simp [plain, wrap_wrap]
theorem plain_u8 (b : UInt8) : plain (.int .u8 (b.toNat : Int)) = true := by
  have := b.toNat_lt
  refine decide_eq_true ?_
  rw [IntKind.wrap_u8]; omega
theorem plain_i64 {n : Int} (h1 : -9223372036854775808 ≤ n) (h2 : n ≤ 9223372036854775807) : plain (.int .i64 n) = true := by
  simp only [plain, decide_eq_true_eq]
  rw [IntKind.wrap_i64]; omega

theorem evBin_sound {op : BinOp} {x y : Value} {c : Option Bool} {v : Value} (he : evBin op x y = some (c, v)) (hc : c = none ∨ c = some true) (hpx : plain x = true) (ty : TypeId) (X Y : Operand) :
    (do eqGuard op ty X Y x y; binOp op ty x y : Sem Value).run P w = .ok v w ∧ plain v = true := by
  unfold evBin at he
  split at he
  · rename_i k n k' m
    split at he
    · cases he
    · rename_i hk
      have hk : k = k' := by simpa using hk
      subst hk
      rw [Sem.run_bind, show eqGuard op ty X Y (.int k n) (.int k m) = pure () by cases op <;> rfl]
      simp only [Sem.run_pure, Result.andThen_ok]
      cases op <;> simp only [] at he <;> cases he
      case h_2.add.refl => exact ⟨by simp [binOp, Op.intArith], plain_wrap _ _⟩
      case h_2.sub.refl => exact ⟨by simp [binOp, Op.intArith], plain_wrap _ _⟩
      case h_2.mul.refl => exact ⟨by simp [binOp, Op.intArith], plain_wrap _ _⟩
      case h_2.quo.refl => simp at hc; exact ⟨by simp [binOp, Op.intDiv, hc], plain_wrap _ _⟩
      case h_2.rem.refl => simp at hc; exact ⟨by simp [binOp, Op.intDiv, hc], by simp only [plain, decide_eq_true_eq] at hpx ⊢; exact wrap_rem _ hpx⟩
      case h_2.and.refl => exact ⟨by simp [binOp, Op.intBits], plain_wrap _ _⟩
      case h_2.or.refl => exact ⟨by simp [binOp, Op.intBits], plain_wrap _ _⟩
      case h_2.xor.refl => exact ⟨by simp [binOp, Op.intBits], plain_wrap _ _⟩
      case h_2.eql.refl => exact ⟨by simp [binOp, Op.intCmp]; rfl, rfl⟩
      case h_2.neq.refl => exact ⟨by simp [binOp, Op.intCmp]; rfl, rfl⟩
      case h_2.lss.refl => exact ⟨by simp [binOp, Op.intCmp], rfl⟩
      case h_2.leq.refl => exact ⟨by simp [binOp, Op.intCmp], rfl⟩
      case h_2.gtr.refl => exact ⟨by simp [binOp, Op.intCmp], rfl⟩
      case h_2.geq.refl => exact ⟨by simp [binOp, Op.intCmp], rfl⟩
  · rename_i x y
    rw [Sem.run_bind, show eqGuard op ty X Y (.string x) (.string y) = pure () by cases op <;> rfl]
    simp only [Sem.run_pure, Result.andThen_ok]
    cases op <;> simp only [] at he <;> cases he <;> simp only [binOp, Op.stringOp, run_seq_eq] <;> (try simp only [ByteArray.toList_eq])
    case h_2.add.refl =>
      have hc' : ¬ (((x.size + y.size : Nat) : Int) > IntKind.i64.max) := by
        simp only [reduceCtorEq, Option.some.injEq, decide_eq_true_eq, false_or] at hc; rw [size_list, size_list, IntKind.max_i64]; omega
      rw [if_neg hc', mk_append]
      refine ⟨rfl, ?_⟩
      simp only [reduceCtorEq, Option.some.injEq, decide_eq_true_eq, false_or] at hc
      simpa [plain] using hc
    all_goals exact ⟨rfl, rfl⟩
  · cases he
end quiet
end Go.Proofs.YthhmpjnmmhfngaaDoor.Ev
