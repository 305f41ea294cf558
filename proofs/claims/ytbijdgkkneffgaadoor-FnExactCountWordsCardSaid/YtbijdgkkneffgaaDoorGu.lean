/-
  Draws of trees.
-/
import Derived.Test.YtbijdgkkneffgaaDoorGr
namespace Go.Proofs.YtbijdgkkneffgaaDoor.Ev
open Go
def forL (s : Str) : List Rule → Nat → List Int
 | [], _ => []
 | r :: l, k => bif decide (r.1 = s) then (k : Int) :: forL s l (k + 1) else forL s l (k + 1)
theorem forL_at {s : Str} {l : List Rule} {i : Int} (h0 : 0 ≤ i) (h1 : i < (l.length : Int)) : forL s (l.drop i.toNat) i.toNat = bif decide ((l.getD i.toNat d0).1 = s) then i :: forL s (l.drop (i + 1).toNat) (i + 1).toNat else forL s (l.drop (i + 1).toNat) (i + 1).toNat := by
 have hn : i.toNat < l.length := by omega
 rw [List.drop_eq_getElem_cons hn, show (i + 1).toNat = i.toNat + 1 by omega, getD_at hn]
 show (bif decide (l[i.toNat].1 = s) then (i.toNat : Int) :: _ else _) = _
 rw [Int.toNat_of_nonneg h0]
theorem forL_mem {s : Str} {a : Int} : ∀ {l : List Rule} {k : Nat}, a ∈ forL s l k → (k : Int) ≤ a ∧ a < (k : Int) + (l.length : Int) ∧ (l.getD (a.toNat - k) d0).1 = s
 | [], _, h => by cases h
 | r :: l, k, h => by
  unfold forL at h
  by_cases e : r.1 = s
  ·rw [decide_eq_true e] at h
   rcases List.mem_cons.1 h with rfl | h
   ·refine ⟨Int.le_refl _, by simp only [List.length_cons]; omega, ?_⟩
    rw [show ((k : Int)).toNat - k = 0 by omega]; exact e
   ·obtain ⟨h1, h2, h3⟩ := forL_mem (l := l) (k := k + 1) h
    refine ⟨by omega, by simp only [List.length_cons]; omega, ?_⟩
    rw [show a.toNat - k = a.toNat - (k + 1) + 1 by omega]; exact h3
  ·rw [decide_eq_false e] at h
   obtain ⟨h1, h2, h3⟩ := forL_mem (l := l) (k := k + 1) h
   refine ⟨by omega, by simp only [List.length_cons]; omega, ?_⟩
   rw [show a.toNat - k = a.toNat - (k + 1) + 1 by omega]; exact h3
theorem forL_len {s : Str} : ∀ {l : List Rule} {k : Nat}, (forL s l k).length ≤ l.length
 | [], _ => Nat.le_refl _
 | r :: l, k => by
  unfold forL
  have := forL_len (s := s) (l := l) (k := k + 1)
  cases decide (r.1 = s)
  ·simp only [cond_false, List.length_cons]; omega
  ·simp only [cond_true, List.length_cons]; omega
end Go.Proofs.YtbijdgkkneffgaaDoor.Ev
