/-
  Library: strings.Trim at the cutset "abcd".
-/
import Derived.Test.YtnbkolhmacikaaaLp
namespace Go.Proofs.Ytnbkolhmacikaaa.Ev
open Go

def isB : R → Bool
  | .v (.bool _) => true
  | _ => false
def theB : R → Bool
  | .v (.bool b) => b
  | _ => false
def boolsB (get : Nat → R) : Bool := (List.range 256).all fun i => isB (get i)
def ropB (p : Nat → Bool) : R := .rop 256 fun i => .v (.bool (p i))
abbrev arg1 (r : R) : D := .one (.r r)

theorem bools_at {get : Nat → R} (h : boolsB get = true) {i : Nat} (hi : i < 256) : get i = .v (.bool (theB (get i))) := by
  have h1 := List.all_eq_true.1 h i (List.mem_range.2 hi)
  generalize get i = r at h1 ⊢
  unfold isB at h1
  split at h1
  · rfl
  · cases h1

theorem rop_bools {w : World} {F : Nat → Prop} {h : HF} {β : Nat → Value} {m : Nat} {get : Nat → R} {u : Value} (hb : (Nat.beq m 256 && boolsB get) = true) (hr : RepD w F h β (arg1 (.rop m get)) u) : RepD w F h β (arg1 (ropB fun i => theB (get i))) u := by
  simp only [Bool.and_eq_true] at hb
  have := Nat.eq_of_beq_eq_true hb.1
  subst this
  obtain ⟨b, off, h1, h2, h3⟩ := hr
  refine ⟨b, off, h1, h2, fun j hj => ?_⟩
  obtain ⟨y, g1, g2⟩ := h3 j hj
  exact ⟨y, g1, by rw [bools_at hb.2 hj] at g2; exact g2⟩

abbrev W64 (n : Int) : Int := IntKind.i64.wrap n

def hasB (get : Nat → R) (c : UInt8) : Bool := theB (get c.toNat)
def trimR (p : UInt8 → Bool) (s : List UInt8) : List UInt8 := (s.reverse.dropWhile p).reverse
def trimL (p : UInt8 → Bool) (s : List UInt8) : List UInt8 := s.dropWhile p

def g_trim (f : (UInt8 → Bool) → List UInt8 → List UInt8) (st : St) (K : Cont) : Option Fin := match st with
  | ⟨[(0, x0), (1, .d (.one (.r (.rop m get))))], []⟩ => match exS x0 with
    | some s => need (Nat.ble s.length 9223372036854775807) (need (Nat.beq m 256 && boolsB get) (K (.exit 0) ⟨[(0, vS (f (hasB get) s))], []⟩))
    | none => none
  | _ => none

theorem trim_loop {f : (UInt8 → Bool) → List UInt8 → List UInt8} {F : St → Cont → Option Fin} {head : St → St}
    (h : ∀ (N : Nat) (s : List UInt8) (get : Nat → R) (K : Cont) (r : Fin), s.length < N → s.length ≤ 9223372036854775807 → boolsB get = true → K (.exit 0) ⟨[(0, vS (f (hasB get) s))], []⟩ = some r → iter F head N ⟨[(0, vS s), (1, .d (arg1 (.rop 256 get)))], []⟩ K = some r) :
    ∀ st K r, g_trim f st K = some r → ∃ N, iter F head N st K = some r := by
  intro st K r hg
  unfold g_trim at hg
  split at hg
  · split at hg
    · rename_i s hs
      rw [need_some, need_some, Nat.ble_eq, Bool.and_eq_true] at hg
      obtain ⟨h0, ⟨h1, h2⟩, h3⟩ := hg
      have := Nat.eq_of_beq_eq_true h1
      subst this
      rw [exS_some hs]
      exact ⟨_, h _ s _ K r (Nat.lt_succ_self _) h0 h2 h3⟩
    · cases hg
  · cases hg

theorem byteAt_0 (c : UInt8) (s : List UInt8) : (byteAt (c :: s) 0).toNat = c.toNat := rfl

def cutA : Str := [97, 98, 99, 100]
def cutB : Str := [65, 66, 67, 68, 69, 97, 98, 99, 100]
def isCut (s : Str) : Bool := decide (s = cutA) || decide (s = cutB)
def setOf (l : Str) (i : Nat) : Bool := l.any fun c => Nat.beq c.toNat i
def cells256 (l : Str) : List C := (List.range 256).map fun i => .r (.v (.bool (setOf l i)))
def inCut (l : Str) (c : UInt8) : Bool := setOf l c.toNat
def trim (cut s : Str) : Str := trimL (inCut cut) (trimR (inCut cut) s)
theorem isCut_iff {s : Str} (h : isCut s = true) : s = cutA ∨ s = cutB := by
  unfold isCut at h
  rw [Bool.or_eq_true, decide_eq_true_eq, decide_eq_true_eq] at h
  exact h

theorem dropWhile_nil {p : UInt8 → Bool} : ∀ {s : Str}, s.dropWhile p = [] ↔ s.all p = true
  | [] => by simp
  | c :: s => by
    rw [List.dropWhile_cons, List.all_cons]
    cases h : p c
    · simp
    · simp [dropWhile_nil (s := s)]
theorem trim_nil {cut s : Str} : trim cut s = [] ↔ s.all (inCut cut) = true := by
  unfold trim trimL trimR
  rw [dropWhile_nil, List.all_reverse]
  constructor
  · intro h
    have h1 : ∀ (l : Str), (l.dropWhile (inCut cut)).all (inCut cut) = true → l.all (inCut cut) = true := by
      intro l
      induction l with
      | nil => intro _; rfl
      | cons c l ih =>
        intro hl
        rw [List.dropWhile_cons] at hl
        cases hc : inCut cut c
        · rw [hc] at hl; exact hl
        · rw [hc] at hl; rw [List.all_cons, hc, ih hl]; rfl
    have := h1 _ h
    rwa [List.all_reverse] at this
  · intro h
    have : s.reverse.dropWhile (inCut cut) = [] := dropWhile_nil.2 (by rw [List.all_reverse]; exact h)
    rw [this]; rfl
theorem inCut_A (c : UInt8) : inCut cutA c = (Nat.ble 97 c.toNat && Nat.ble c.toNat 100) := by
  have : ∀ n : _root_.Fin 256, setOf cutA n.val = (Nat.ble 97 n.val && Nat.ble n.val 100) := by decide +kernel
  exact this ⟨c.toNat, c.toNat_lt⟩
theorem inCut_B (c : UInt8) : inCut cutB c = ((Nat.ble 65 c.toNat && Nat.ble c.toNat 69) || (Nat.ble 97 c.toNat && Nat.ble c.toNat 100)) := by
  have : ∀ n : _root_.Fin 256, setOf cutB n.val = ((Nat.ble 65 n.val && Nat.ble n.val 69) || (Nat.ble 97 n.val && Nat.ble n.val 100)) := by decide +kernel
  exact this ⟨c.toNat, c.toNat_lt⟩
end Go.Proofs.Ytnbkolhmacikaaa.Ev
