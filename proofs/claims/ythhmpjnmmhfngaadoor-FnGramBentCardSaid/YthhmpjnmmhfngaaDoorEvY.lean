/-
  What a call is handed, as typed data.
-/
import Derived.Test.YthhmpjnmmhfngaaDoorEvV
import Derived.ProofKit
import Derived.OpenShut
import Derived.ShutString
import Derived.ChangeOld
import Derived.Below
import Derived.SizedLaws
namespace Go.Proofs.YthhmpjnmmhfngaaDoor.Ev
open Go

mutual
/-- the type by this number is of this form -/
def labB (P : Program) : Nat → Ty → TypeId → Bool
  | 0, _, _ => false
  | n + 1, ty, t => match ty, P.underlying t with
    | .int k, some (.int k') => decide (k = k')
    | .str, some .string => true
    | .bool, some .bool => true
    | .list e, some (.slice et) => Nat.beq (P.cellsOf et) (width e) && Nat.blt 0 (width e) && labB P n e et
    | .struct s, some (.struct fs) => Nat.beq (P.cellsOf t) (width s) && labF P n s fs.toList 0
    | _, _ => false
def labF (P : Program) : Nat → Ty → List Field → Nat → Bool
  | 0, _, _, _ => false
  | n + 1, .pair a b, f :: fs, off => Nat.beq f.offset off && Nat.beq (P.cellsOf f.type) (width a) && labB P n a f.type && labF P n b fs (off + width a)
  | n + 1, x, [f], off => Nat.beq f.offset off && Nat.beq (P.cellsOf f.type) (width x) && labB P n x f.type
  | _, _, _, _ => false
end

section
variable {H : Type} {enc : TypeId × Value → H} {P : Program} {w : World} {base : Nat} {spare : Nat → Bool} {held : Bool}

theorem den_list {α : Type} (d : α) {n : Nat} {p : Nat → α → Prop} (hp : ∀ j, j < n → ∃ y, p j y) : ∃ l : List α, l.length = n ∧ ∀ j, j < n → p j (l.getD j d) := by
  induction n with
  | zero => exact ⟨[], rfl, fun j hj => by omega⟩
  | succ n ih =>
    obtain ⟨l, hl, hu⟩ := ih fun j hj => hp j (by omega)
    obtain ⟨y, hy⟩ := hp n (by omega)
    refine ⟨l ++ [y], by simp [hl], fun j hj => ?_⟩
    rcases Nat.lt_or_ge j n with h1 | h1
    · have := hu j h1
      simp only [List.getD, List.getElem?_append_left (show j < l.length by omega)] at this ⊢
      exact this
    · have : j = n := by omega
      subst this
      simp only [List.getD, List.getElem?_append_right (show l.length ≤ j by omega), hl, Nat.sub_self, List.getElem?_cons_zero, Option.getD_some]
      exact hy

theorem open_typed : ∀ (n : Nat),
    (∀ (ty : Ty) (t : TypeId) (fuel : Nat) (cs : List Value) (x : DataW H × List MemPlace), labB P n ty t = true → DataW.trod enc P w base spare held fuel t cs = some x → ∃ d : Den ty, RoL w (fun b => b < w.heap.size) ty d cs) ∧
    (∀ (ty : Ty) (fs : List Field) (off fuel : Nat) (cs : List Value), labF P n ty fs off = true → cs.length = off + width ty → (∀ f ∈ fs, ∃ x, DataW.trod enc P w base spare held fuel f.type ((cs.drop f.offset).take (P.cellsOf f.type)) = some x) →
      ∃ d : Den ty, RoL w (fun b => b < w.heap.size) ty d (cs.drop off))
  | 0 => ⟨fun ty t fuel cs x h => by simp [labB] at h, fun ty fs off fuel cs h => by simp [labF] at h⟩
  | n + 1 => by
    obtain ⟨ihB, ihF⟩ := open_typed n
    constructor
    · intro ty t fuel cs x hl ht
      simp only [labB] at hl
      split at hl
      · rename_i k k' hu
        have := of_decide_eq_true hl
        subst this
        obtain ⟨m, rfl, _, hwf⟩ := DataW.trod_int hu ht
        refine ⟨m, rfl, ?_⟩
        simp only [Lit.wf, Bool.and_eq_true, decide_eq_true_eq] at hwf
        simp only [plain, decide_eq_true_eq]
        obtain ⟨h1, h2⟩ := hwf
        cases k <;> simp only [IntKind.wrap, IntKind.bits, IntKind.signed, IntKind.min, IntKind.max] at * <;> simp at * <;> omega
      · rename_i hu
        obtain ⟨s, rfl, _, hs⟩ := DataW.trod_string hu ht
        refine ⟨s.data.toList, rfl, ?_⟩
        simp only [plain, Nat.ble_eq]
        have : s.data.toList.length = s.size := by rw [size_list]
        show s.data.toList.length ≤ _
        rw [this]; simpa [maxLen] using hs
      · rename_i hu
        obtain ⟨b, rfl, _⟩ := DataW.trod_bool hu ht
        exact ⟨b, rfl⟩
      · rename_i e et hu
        simp only [Bool.and_eq_true, Nat.blt_eq] at hl
        obtain ⟨⟨h1, h2⟩, h3⟩ := hl
        have h1 := Nat.eq_of_beq_eq_true h1
        rcases DataW.trod_slice hu ht with ⟨rfl, _⟩ | ⟨a, len, cap, elems, rest, m, _, rfl, _, hb, hlc, hcm, hlen, hel, _, _⟩
        · exact ⟨([] : List (Den e)), none, 0, rfl, by simp, by simp [maxLen], .inl rfl⟩
        · have each : ∀ i, i < len → ∃ d : Den e, ∃ ys, RoL w (fun b => b < w.heap.size) e d ys ∧ ∀ j, j < width e → ∃ y, ys[j]? = some y ∧ w.cell? ((a.add (i * width e)).add j) = some y := fun i hi => by
            have hx := hel i hi
            rw [List.getElem?_eq_getElem (show i < elems.length by omega), Option.bind_eq_some_iff] at hx
            obtain ⟨cs', hcs, hx⟩ := hx
            obtain ⟨d, hd⟩ := ihB e et m cs' _ h3 hx
            obtain ⟨_, g1, g2⟩ := World.cells?_some hcs
            refine ⟨d, cs', hd, fun j hj => ?_⟩
            rw [h1] at g1 g2
            have hjl : j < cs'.length := by omega
            refine ⟨cs'[j], List.getElem?_eq_getElem hjl, ?_⟩
            rw [g2 j hj, List.getElem?_eq_getElem hjl]
          obtain ⟨l, hl2, hd⟩ := den_list (dflt e) each
          refine ⟨l, some a, cap, by rw [hl2], by rw [hl2]; exact hlc, hcm, ?_⟩
          rcases Nat.eq_zero_or_pos len with h0 | h0
          · left; rw [hl2, h0]
          · right
            obtain ⟨ys, _, q2⟩ := hd 0 h0
            obtain ⟨y, _, q3⟩ := q2 0 h2
            have hsp : a.spot = none := by
              simp only [Nat.zero_mul, Addr.add, if_true] at q3
              unfold World.cell? at q3
              split at q3
              · split at q3
                · cases q3
                · rename_i hs; simpa using hs
              · cases q3
            have ha : a = ⟨a.block, a.off, none⟩ := by cases a; simp at hsp; simp [hsp]
            have hblk : a.block < w.heap.size := by
              simp only [Nat.zero_mul, Addr.add, if_true] at q3
              unfold World.cell? at q3
              split at q3
              · rename_i hh; exact (Array.getElem?_eq_some_iff.1 hh).1
              · cases q3
            refine ⟨a.block, a.off, by rw [← ha], hblk, fun i hi => ?_⟩
            rw [hl2] at hi
            obtain ⟨ys, q1, q2⟩ := hd i hi
            refine ⟨ys, q1, fun j hj => ?_⟩
            obtain ⟨y, q3, q4⟩ := q2 j hj
            refine ⟨y, q3, ?_⟩
            rw [ha, Addr.add_lit, Addr.add_lit, Nat.add_assoc] at q4
            exact q4
      · rename_i s fs hu
        simp only [Bool.and_eq_true] at hl
        obtain ⟨h1, h2⟩ := hl
        have h1 := Nat.eq_of_beq_eq_true h1
        obtain ⟨xs, m, _, _, g1, g2, g3⟩ := DataW.trod_struct hu ht
        obtain ⟨d, hd⟩ := ihF s fs.toList 0 m cs h2 (by rw [g1, h1]; omega) fun f hf => by
          obtain ⟨i, hi⟩ := List.getElem?_of_mem hf
          have hi' : fs[i]? = some f := by simpa using hi
          have hlt : i < xs.length := by
            rw [g2]
            have := (Array.getElem?_eq_some_iff.1 hi').1
            exact this
          exact ⟨xs[i], by rw [g3 i f hi', List.getElem?_eq_getElem hlt]⟩
        exact ⟨d, by rw [List.drop_zero] at hd; exact hd⟩
      · cases hl
    · intro ty fs off fuel cs hl hlen hall
      unfold labF at hl
      split at hl
      · simp at hl
      · rename_i off _ _ _ _ n' a b f fs heq
        cases heq
        simp only [Bool.and_eq_true] at hl
        obtain ⟨⟨⟨h1, h2⟩, h3⟩, h4⟩ := hl
        have h1 := Nat.eq_of_beq_eq_true h1
        have h2 := Nat.eq_of_beq_eq_true h2
        obtain ⟨x, hx⟩ := hall f (List.mem_cons_self ..)
        rw [h1, h2] at hx
        obtain ⟨d1, hd1⟩ := ihB a f.type fuel _ x h3 hx
        simp only [width] at hlen
        obtain ⟨d2, hd2⟩ := ihF b fs (off + width a) fuel cs h4 (by omega) fun f' hf => hall f' (List.mem_cons_of_mem _ hf)
        refine ⟨(d1, d2), _, _, ?_, hd1, hd2⟩
        rw [← List.drop_drop, List.take_append_drop]
      · rename_i ty off _ _ _ n' f heq _
        cases heq
        simp only [Bool.and_eq_true] at hl
        obtain ⟨⟨h1, h2⟩, h3⟩ := hl
        have h1 := Nat.eq_of_beq_eq_true h1
        have h2 := Nat.eq_of_beq_eq_true h2
        obtain ⟨x, hx⟩ := hall f (List.mem_cons_self ..)
        rw [h1, h2] at hx
        obtain ⟨d1, hd1⟩ := ihB _ f.type fuel _ x h3 hx
        refine ⟨d1, ?_⟩
        rw [List.take_of_length_le (by simp; omega)] at hd1
        exact hd1
      · cases hl
end
end Go.Proofs.YthhmpjnmmhfngaaDoor.Ev
