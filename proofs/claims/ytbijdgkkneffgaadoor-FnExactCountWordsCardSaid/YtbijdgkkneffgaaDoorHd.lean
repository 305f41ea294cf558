/-
  Words, of both sides.
-/
import Derived.Test.YtbijdgkkneffgaaDoorHb
namespace Go.Proofs.YtbijdgkkneffgaaDoor.Ev
open Go
def succS : Str → UInt8 → Option UInt8
 | [], _ => none
 | y :: l, x => bif decide (y = x) then l.head? else succS l x
theorem succS_at {x : UInt8} {suf : Str} : ∀ {pre : Str}, x ∉ pre → succS (pre ++ x :: suf) x = suf.head?
 | [], _ => by
  show (bif decide (x = x) then suf.head? else _) = _
  rw [decide_eq_true rfl]; rfl
 | y :: pre, h => by
  show (bif decide (y = x) then _ else succS (pre ++ x :: suf) x) = _
  have hne : ¬ y = x := fun e => h (by rw [e]; exact List.mem_cons_self)
  rw [decide_eq_false hne, cond_false]
  exact succS_at fun e => h (List.mem_cons_of_mem _ e)
def nextR (c : Str) : Str → Str
 | [] => [c.headD 0]
 | x :: r => match succS c x with
  | some y => y :: r
  | none => c.headD 0 :: nextR c r
def nextW (c t : Str) : Str := (nextR c t.reverse).reverse
theorem nextW_nil {c : Str} : nextW c [] = [c.headD 0] := rfl
theorem nextW_some {c w : Str} {x y : UInt8} (h : succS c x = some y) : nextW c (w ++ [x]) = w ++ [y] := by
 unfold nextW
 rw [List.reverse_append]
 show (nextR c (x :: w.reverse)).reverse = _
 unfold nextR
 rw [h]
 show (y :: w.reverse).reverse = _
 rw [List.reverse_cons, List.reverse_reverse]
theorem nextW_none {c w : Str} {x : UInt8} (h : succS c x = none) : nextW c (w ++ [x]) = nextW c w ++ [c.headD 0] := by
 unfold nextW
 rw [List.reverse_append]
 show (nextR c (x :: w.reverse)).reverse = _
 conv => lhs; unfold nextR
 rw [h]
 show (c.headD 0 :: nextR c w.reverse).reverse = _
 rw [List.reverse_cons]
def Run (c : Str) : Str → List Str → Str → Prop
 | t, [], e => t = e
 | t, u :: l, e => t = u ∧ Run c (nextW c u) l e
theorem run_app {c : Str} : ∀ {l l' : List Str} {t m e : Str}, Run c t l m → Run c m l' e → Run c t (l ++ l') e
 | [], _, _, _, _, h, h' => by
  have : _ = _ := h
  rw [this]; exact h'
 | _ :: l, _, _, _, _, ⟨h1, h2⟩, h' => ⟨h1, run_app (l := l) h2 h'⟩
def levW (c : Str) : Nat → List Str
 | 0 => [[]]
 | n + 1 => (levW c n).flatMap fun w => c.map fun x => w ++ [x]
def upTo (c : Str) : Nat → List Str
 | 0 => [[]]
 | n + 1 => upTo c n ++ levW c (n + 1)
theorem run_block {c u : Str} (hc : c.Nodup) : ∀ {suf pre : Str} {x : UInt8}, pre ++ x :: suf = c → Run c (u ++ [x]) ((x :: suf).map fun x => u ++ [x]) (nextW c u ++ [c.headD 0])
 | [], pre, x, h => by
  have hx : x ∉ pre := fun hm => (List.nodup_append.1 (h ▸ hc)).2.2 x hm x List.mem_cons_self rfl
  refine ⟨rfl, ?_⟩
  have : succS c x = none := by rw [← h]; exact succS_at hx
  show nextW c (u ++ [x]) = _
  exact nextW_none this
 | y :: suf, pre, x, h => by
  have hx : x ∉ pre := fun hm => (List.nodup_append.1 (h ▸ hc)).2.2 x hm x List.mem_cons_self rfl
  refine ⟨rfl, ?_⟩
  have : succS c x = some y := by rw [← h]; exact succS_at hx
  rw [nextW_some this]
  exact run_block hc (pre := pre ++ [x]) (by rw [← h]; simp)
theorem run_lev {c : Str} (hc : c.Nodup) (h0 : c ≠ []) : ∀ {l : List Str} {t e : Str}, Run c t l e → Run c (t ++ [c.headD 0]) (l.flatMap fun w => c.map fun x => w ++ [x]) (e ++ [c.headD 0])
 | [], t, e, h => by
  have : t = e := h
  rw [this]; rfl
 | u :: l, t, e, ⟨h1, h2⟩ => by
  rw [List.flatMap_cons, h1]
  refine run_app ?_ (run_lev hc h0 h2)
  cases hcc : c with
  | nil => exact absurd hcc h0
  | cons x suf =>
   rw [← hcc]
   have := run_block (u := u) hc (suf := suf) (pre := []) (x := x) (by rw [hcc]; rfl)
   rw [← hcc] at this
   rw [show c.headD 0 = x by rw [hcc]; rfl] at this ⊢
   exact this
theorem run_levW {c : Str} (hc : c.Nodup) (h0 : c ≠ []) : ∀ {n : Nat}, Run c (List.replicate n (c.headD 0)) (levW c n) (List.replicate (n + 1) (c.headD 0))
 | 0 => ⟨rfl, rfl⟩
 | n + 1 => by
  have := run_lev hc h0 (run_levW hc h0 (n := n))
  rw [← List.replicate_succ', ← List.replicate_succ'] at this
  exact this
theorem run_upTo {c : Str} (hc : c.Nodup) (h0 : c ≠ []) : ∀ {n : Nat}, Run c [] (upTo c n) (List.replicate (n + 1) (c.headD 0))
 | 0 => run_levW hc h0 (n := 0)
 | n + 1 => run_app (run_upTo hc h0 (n := n)) (run_levW hc h0)
theorem levW_nil : ∀ {n : Nat}, levW [] (n + 1) = []
 | 0 => rfl
 | n + 1 => by
  unfold levW
  rw [levW_nil]; rfl
theorem upTo_nil : ∀ {n : Nat}, upTo [] n = [[]]
 | 0 => rfl
 | n + 1 => by
  unfold upTo
  rw [upTo_nil, levW_nil]; rfl
theorem mem_levW {c : Str} : ∀ {n : Nat} {w : Str}, w ∈ levW c n ↔ w.length = n ∧ ∀ x ∈ w, x ∈ c
 | 0, w => by
  unfold levW
  rw [List.mem_singleton]
  constructor
  ·rintro rfl; exact ⟨rfl, fun x hx => by cases hx⟩
  ·rintro ⟨h, _⟩; exact List.length_eq_zero_iff.1 h
 | n + 1, w => by
  unfold levW
  rw [List.mem_flatMap]
  constructor
  ·rintro ⟨u, hu, h⟩
   obtain ⟨x, hx, rfl⟩ := List.mem_map.1 h
   obtain ⟨h1, h2⟩ := (mem_levW (w := u)).1 hu
   refine ⟨by rw [List.length_append, h1]; rfl, fun y hy => ?_⟩
   rcases List.mem_append.1 hy with hy | hy
   ·exact h2 y hy
   ·rw [List.mem_singleton.1 hy]; exact hx
  ·rintro ⟨h1, h2⟩
   obtain ⟨u, x, rfl⟩ : ∃ u x, w = u ++ [x] := by
    rcases List.eq_nil_or_concat w with rfl | ⟨u, x, rfl⟩
    ·cases h1
    ·exact ⟨u, x, by rw [List.concat_eq_append]⟩
   refine ⟨u, (mem_levW (w := u)).2 ⟨by rw [List.length_append] at h1; exact Nat.succ.inj h1, fun y hy => h2 y (List.mem_append_left _ hy)⟩, List.mem_map.2 ⟨x, h2 x (List.mem_append_right _ List.mem_cons_self), rfl⟩⟩
theorem mem_upTo {c w : Str} : ∀ {n : Nat}, w ∈ upTo c n ↔ w.length ≤ n ∧ ∀ x ∈ w, x ∈ c
 | 0 => by
  show w ∈ levW c 0 ↔ _
  rw [mem_levW (w := w)]
  constructor
  ·rintro ⟨h1, h2⟩; exact ⟨by omega, h2⟩
  ·rintro ⟨h1, h2⟩; exact ⟨by omega, h2⟩
 | n + 1 => by
  unfold upTo
  rw [List.mem_append, mem_upTo (n := n), mem_levW (w := w)]
  constructor
  ·rintro (⟨h1, h2⟩ | ⟨h1, h2⟩)
   ·exact ⟨by omega, h2⟩
   ·exact ⟨by omega, h2⟩
  ·rintro ⟨h1, h2⟩
   by_cases h : w.length = n + 1
   ·exact .inr ⟨h, h2⟩
   ·exact .inl ⟨by omega, h2⟩
theorem len_levW {c : Str} : ∀ {n : Nat}, (levW c n).length = c.length ^ n
 | 0 => rfl
 | n + 1 => by
  unfold levW
  rw [List.length_flatMap]
  have : ∀ l : List Str, (l.map fun w => (c.map fun x => w ++ [x]).length).sum = l.length * c.length := by
   intro l
   induction l with
   | nil => simp
   | cons a l ih => rw [List.map_cons, List.sum_cons, ih, List.length_map, List.length_cons, Nat.add_mul]; omega
  rw [this, len_levW, Nat.pow_succ]
theorem pow_le {c n : Nat} (hc : c ≤ 4) (hn : n ≤ 4) : c ^ n ≤ 256 := Nat.le_trans (Nat.pow_le_pow_left hc n) (Nat.le_trans (Nat.pow_le_pow_right (by omega) hn) (by decide))
theorem len_upTo {c : Str} (hc : c.length ≤ 4) : ∀ {n : Nat}, n ≤ 4 → (upTo c n).length ≤ 256 * (n + 1)
 | 0, _ => by show 1 ≤ _; omega
 | n + 1, h => by
  unfold upTo
  rw [List.length_append, len_levW]
  have := pow_le hc h
  have := len_upTo hc (n := n) (by omega)
  omega
def rankR (c : Str) : Str → Nat
 | [] => 0
 | x :: r => rankR c r * c.length + (c.idxOf x + 1)
def rankW (c t : Str) : Nat := rankR c t.reverse
theorem succ_idx {x y : UInt8} : ∀ {c : Str}, c.Nodup → succS c x = some y → c.idxOf y = c.idxOf x + 1 ∧ y ∈ c
 | [], _, h => by cases h
 | a :: l, hc, h => by
  obtain ⟨h1, h2⟩ := List.nodup_cons.1 hc
  unfold succS at h
  by_cases e : a = x
  ·rw [decide_eq_true e, cond_true] at h
   cases l with
   | nil => cases h
   | cons b l =>
    have hb : b = y := Option.some.inj h
    subst hb; subst e
    have hne : a ≠ b := fun e => h1 (e ▸ List.mem_cons_self)
    refine ⟨?_, List.mem_cons_of_mem _ List.mem_cons_self⟩
    rw [List.idxOf_cons, List.idxOf_cons, List.idxOf_cons, beq_eq_false_iff_ne.2 hne, beq_self_eq_true, beq_self_eq_true]; rfl
  ·rw [decide_eq_false e, cond_false] at h
   obtain ⟨h3, h4⟩ := succ_idx h2 h
   have hne : a ≠ y := fun e => h1 (e ▸ h4)
   refine ⟨?_, List.mem_cons_of_mem _ h4⟩
   rw [List.idxOf_cons, List.idxOf_cons, beq_eq_false_iff_ne.2 hne, beq_eq_false_iff_ne.2 e, cond_false, cond_false, h3]
theorem last_idx {x : UInt8} : ∀ {c : Str}, x ∈ c → succS c x = none → c.idxOf x + 1 = c.length
 | [], h, _ => by cases h
 | a :: l, hx, h => by
  unfold succS at h
  by_cases e : a = x
  ·rw [decide_eq_true e, cond_true] at h
   cases l with
   | nil => subst e; simp
   | cons b l => cases h
  ·rw [decide_eq_false e, cond_false] at h
   rcases List.mem_cons.1 hx with hx | hx
   ·exact absurd hx.symm e
   ·have := last_idx hx h
    rw [List.idxOf_cons, beq_eq_false_iff_ne.2 e, cond_false, this]; rfl
theorem rankR_next {c : Str} (hc : c.Nodup) (h0 : c ≠ []) : ∀ {r : Str}, (∀ x ∈ r, x ∈ c) → rankR c (nextR c r) = rankR c r + 1 ∧ ∀ x ∈ nextR c r, x ∈ c
 | [], _ => by
  cases c with
  | nil => exact absurd rfl h0
  | cons a l =>
   refine ⟨?_, fun x hx => by rw [List.mem_singleton.1 (show x ∈ [a] from hx)]; exact List.mem_cons_self⟩
   show rankR (a :: l) [a] = _
   simp [rankR]
 | x :: r, h => by
  have hx := h x List.mem_cons_self
  unfold nextR
  cases hs : succS c x with
  | some y =>
   obtain ⟨h1, h2⟩ := succ_idx hc hs
   refine ⟨by show rankR c r * c.length + (c.idxOf y + 1) = rankR c r * c.length + (c.idxOf x + 1) + 1; rw [h1]; omega, fun z hz => ?_⟩
   rcases List.mem_cons.1 hz with rfl | hz
   ·exact h2
   ·exact h z (List.mem_cons_of_mem _ hz)
  | none =>
   have h1 := last_idx hx hs
   obtain ⟨h2, h3⟩ := rankR_next hc h0 (r := r) fun z hz => h z (List.mem_cons_of_mem _ hz)
   have h4 : c.headD 0 ∈ c := by
    cases c with
    | nil => exact absurd rfl h0
    | cons a l => exact List.mem_cons_self
   have h5 : c.idxOf (c.headD 0) = 0 := by
    cases c with
    | nil => exact absurd rfl h0
    | cons a l => simp
   refine ⟨?_, fun z hz => ?_⟩
   ·show rankR c (nextR c r) * c.length + (c.idxOf (c.headD 0) + 1) = rankR c r * c.length + (c.idxOf x + 1) + 1
    rw [h2, h5, h1, Nat.add_mul]; omega
   ·rcases List.mem_cons.1 (show z ∈ c.headD 0 :: nextR c r from hz) with rfl | hz
    ·exact h4
    ·exact h3 z hz
theorem rankW_next {c : Str} (hc : c.Nodup) (h0 : c ≠ []) {t : Str} (h : ∀ x ∈ t, x ∈ c) : rankW c (nextW c t) = rankW c t + 1 ∧ ∀ x ∈ nextW c t, x ∈ c := by
 unfold rankW nextW
 rw [List.reverse_reverse]
 obtain ⟨h1, h2⟩ := rankR_next hc h0 (r := t.reverse) fun x hx => h x (List.mem_reverse.1 hx)
 exact ⟨h1, fun x hx => h2 x (List.mem_reverse.1 hx)⟩
theorem rankR_le {c : Str} (hc : c.length ≤ 4) : ∀ {r : Str}, (∀ x ∈ r, x ∈ c) → rankR c r + 2 ≤ 2 * 5 ^ r.length
 | [], _ => by show 0 + 2 ≤ 2 * 5 ^ 0; decide
 | x :: r, h => by
  have h1 := rankR_le hc (r := r) fun z hz => h z (List.mem_cons_of_mem _ hz)
  have h2 := List.idxOf_lt_length_of_mem (h x List.mem_cons_self)
  unfold rankR
  rw [List.length_cons, Nat.pow_succ]
  have h3 := Nat.mul_le_mul_left (rankR c r) hc
  omega
theorem rankW_le {c t : Str} (hc : c.length ≤ 4) (h : ∀ x ∈ t, x ∈ c) (ht : t.length ≤ 4) : rankW c t ≤ 1250 := by
 have h1 := rankR_le hc (r := t.reverse) fun x hx => h x (List.mem_reverse.1 hx)
 rw [List.length_reverse] at h1
 have h2 : 5 ^ t.length ≤ 5 ^ 4 := Nat.pow_le_pow_right (by omega) ht
 unfold rankW
 have : (5 : Nat) ^ 4 = 625 := rfl
 omega
def takeF (f : Str → Bool) : List Str → List Str → List Str
 | [], o => o
 | w :: l, o => takeF f l (bif Nat.blt o.length 60 && f w then o ++ [w] else o)
def walkA (f : Str → Bool) (c : Str) (most : Int) : Nat → Str → List Str → List Str
 | 0, _, o => o
 | n + 1, t, o => bif decide ((t.length : Int) ≤ most) && Nat.blt o.length 60 then (bif decide (c = []) then (bif f t then o ++ [t] else o) else walkA f c most n (nextW c t) (bif f t then o ++ [t] else o)) else o
theorem takeF_full {f : Str → Bool} : ∀ {l o : List Str}, 60 ≤ o.length → takeF f l o = o
 | [], _, _ => rfl
 | w :: l, o, h => by
  have : Nat.blt o.length 60 = false := by
   cases hb : Nat.blt o.length 60
   ·rfl
   ·have := blt_iff.1 hb; omega
  unfold takeF
  rw [this, Bool.false_and, cond_false]
  exact takeF_full h
theorem walkA_run {f : Str → Bool} {c : Str} {most : Int} (h0 : c ≠ []) : ∀ {l : List Str} {t e : Str} {o : List Str} {n : Nat}, Run c t l e → (∀ w ∈ l, (w.length : Int) ≤ most) → most < (e.length : Int) → l.length < n → walkA f c most n t o = takeF f l o
 | [], t, e, o, n, h, _, h2, h3 => by
  obtain ⟨n, rfl⟩ : ∃ k, n = k + 1 := ⟨n - 1, by omega⟩
  have : t = e := h
  subst this
  unfold walkA
  rw [decide_eq_false (by omega), Bool.false_and]; rfl
 | u :: l, t, e, o, n, ⟨h, h'⟩, h1, h2, h3 => by
  obtain ⟨n, rfl⟩ : ∃ k, n = k + 1 := ⟨n - 1, by omega⟩
  subst h
  have h4 := h1 t List.mem_cons_self
  rw [List.length_cons] at h3
  unfold walkA takeF
  rw [decide_eq_true h4, Bool.true_and, decide_eq_false h0, cond_false]
  cases hb : Nat.blt o.length 60
  ·rw [Bool.false_and, cond_false, cond_false, takeF_full (by
    by_cases h : o.length < 60
    ·rw [blt_iff.2 h] at hb; cases hb
    ·omega)]
  ·rw [Bool.true_and, cond_true]
   exact walkA_run h0 h' (fun w hw => h1 w (List.mem_cons_of_mem _ hw)) h2 (by omega)
def walkN (f : Str → Bool) (c : Str) (k : Int) : Nat → Str → Int → Int
 | 0, _, m => m
 | n + 1, t, m => bif decide ((t.length : Int) = k) then walkN f c k n (nextW c t) (bif f t then m + 1 else m) else m
def cntF (f : Str → Bool) : List Str → Int → Int
 | [], m => m
 | w :: l, m => cntF f l (bif f w then m + 1 else m)
theorem walkN_run {f : Str → Bool} {c : Str} {k : Int} : ∀ {l : List Str} {t e : Str} {m : Int} {n : Nat}, Run c t l e → (∀ w ∈ l, (w.length : Int) = k) → (e.length : Int) ≠ k → l.length < n → walkN f c k n t m = cntF f l m
 | [], t, e, o, n, h, _, h2, h3 => by
  obtain ⟨n, rfl⟩ : ∃ k, n = k + 1 := ⟨n - 1, by omega⟩
  have : t = e := h
  subst this
  unfold walkN
  rw [decide_eq_false h2]; rfl
 | u :: l, t, e, o, n, ⟨h, h'⟩, h1, h2, h3 => by
  obtain ⟨n, rfl⟩ : ∃ k, n = k + 1 := ⟨n - 1, by omega⟩
  subst h
  have h4 := h1 t List.mem_cons_self
  rw [List.length_cons] at h3
  unfold walkN cntF
  rw [decide_eq_true h4, cond_true]
  exact walkN_run h' (fun w hw => h1 w (List.mem_cons_of_mem _ hw)) h2 (by omega)
def firstD (f : Str → Bool) : List Str → Str × Bool
 | [] => ([], false)
 | w :: l => bif f w then (w, true) else firstD f l
def walkS (f : Str → Bool) (c : Str) (most : Int) : Nat → Str → Str × Bool
 | 0, _ => ([], false)
 | n + 1, t => bif decide ((t.length : Int) ≤ most) then (bif f t then (t, true) else (bif decide (c = []) then ([], false) else walkS f c most n (nextW c t))) else ([], false)
theorem walkS_run {f : Str → Bool} {c : Str} {most : Int} (h0 : c ≠ []) : ∀ {l : List Str} {t e : Str} {n : Nat}, Run c t l e → (∀ w ∈ l, (w.length : Int) ≤ most) → most < (e.length : Int) → l.length < n → walkS f c most n t = firstD f l
 | [], t, e, n, h, _, h2, h3 => by
  obtain ⟨n, rfl⟩ : ∃ k, n = k + 1 := ⟨n - 1, by omega⟩
  have : t = e := h
  subst this
  unfold walkS
  rw [decide_eq_false (by omega)]; rfl
 | u :: l, t, e, n, ⟨h, h'⟩, h1, h2, h3 => by
  obtain ⟨n, rfl⟩ : ∃ k, n = k + 1 := ⟨n - 1, by omega⟩
  subst h
  have h4 := h1 t List.mem_cons_self
  rw [List.length_cons] at h3
  unfold walkS firstD
  rw [decide_eq_true h4, cond_true, decide_eq_false h0, cond_false, walkS_run h0 h' (fun w hw => h1 w (List.mem_cons_of_mem _ hw)) h2 (by omega)]
theorem cntF_shift {f : Str → Bool} : ∀ {l : List Str} {m : Int}, cntF f l m = m + cntF f l 0
 | [], m => by show m = m + (0 : Int); omega
 | w :: l, m => by
  unfold cntF
  rw [cntF_shift (m := bif f w then m + 1 else m), cntF_shift (m := bif f w then 0 + 1 else 0)]
  cases f w
  ·rw [cond_false, cond_false]; omega
  ·rw [cond_true, cond_true]; omega
theorem cntF_app {f : Str → Bool} : ∀ {l l' : List Str} {m : Int}, cntF f (l ++ l') m = cntF f l' (cntF f l m)
 | [], _, _ => rfl
 | _ :: l, _, _ => cntF_app (l := l)
theorem cntF_none {f : Str → Bool} : ∀ {l : List Str} {m : Int}, (∀ w ∈ l, f w = false) → cntF f l m = m
 | [], _, _ => rfl
 | w :: l, m, h => by
  unfold cntF
  rw [h w List.mem_cons_self, cond_false]
  exact cntF_none fun u hu => h u (List.mem_cons_of_mem _ hu)
theorem cntF_congr {f g : Str → Bool} : ∀ {l : List Str} {m : Int}, (∀ w ∈ l, f w = g w) → cntF f l m = cntF g l m
 | [], _, _ => rfl
 | w :: l, m, h => by
  unfold cntF
  rw [h w List.mem_cons_self]
  exact cntF_congr fun u hu => h u (List.mem_cons_of_mem _ hu)
theorem cntF_le {f : Str → Bool} : ∀ {l : List Str} {m : Int}, m ≤ cntF f l m ∧ cntF f l m ≤ m + l.length
 | [], m => ⟨Int.le_refl _, by show m ≤ m + (0 : Nat); omega⟩
 | w :: l, m => by
  have := cntF_le (f := f) (l := l) (m := bif f w then m + 1 else m)
  unfold cntF
  rw [List.length_cons]
  cases hf : f w <;> rw [hf] at this
  ·rw [cond_false] at this ⊢; omega
  ·rw [cond_true] at this ⊢; omega
theorem takeF_filter {f : Str → Bool} : ∀ {l o : List Str}, o.length ≤ 60 → takeF f l o = List.take 60 (o ++ l.filter f)
 | [], o, h => by
  show o = List.take 60 (o ++ [])
  rw [List.append_nil, List.take_of_length_le h]
 | w :: l, o, h => by
  unfold takeF
  cases hb : Nat.blt o.length 60
  ·have : o.length = 60 := by
    by_cases h2 : o.length < 60
    ·rw [blt_iff.2 h2] at hb; cases hb
    ·omega
   rw [Bool.false_and, cond_false, takeF_full (by omega), List.take_append_of_le_length (by omega), List.take_of_length_le (by omega)]
  ·have := blt_iff.1 hb
   rw [Bool.true_and]
   cases hf : f w
   ·rw [cond_false, takeF_filter h, List.filter_cons, hf]; rfl
   ·rw [cond_true, takeF_filter (by rw [List.length_append]; show _ + 1 ≤ 60; omega), List.filter_cons, hf, List.append_assoc]; rfl
def wordsV (f : Str → Bool) (c : Str) (n : Nat) : List Str := List.take 60 ((upTo c n).filter f)
theorem upTo_head {c : Str} : ∀ {n : Nat}, ∃ l, upTo c n = [] :: l
 | 0 => ⟨[], rfl⟩
 | n + 1 => by
  obtain ⟨l, hl⟩ := upTo_head (c := c) (n := n)
  exact ⟨l ++ levW c (n + 1), by unfold upTo; rw [hl]; rfl⟩
theorem walkA_words {f : Str → Bool} {c : Str} (hc : c.Nodup) (h4 : c.length ≤ 4) {n : Nat} (hn : n ≤ 4) {k : Nat} (hk : 1300 ≤ k) : walkA f c (n : Int) k [] [] = wordsV f c n := by
 by_cases h0 : c = []
 ·subst h0
  obtain ⟨k, rfl⟩ : ∃ j, k = j + 1 := ⟨k - 1, by omega⟩
  unfold walkA wordsV
  rw [upTo_nil, decide_eq_true (by show (0 : Int) ≤ n; omega), decide_eq_true rfl]
  show (bif f [] then [[]] else []) = _
  cases hf : f [] <;> simp [hf]
 ·have h1 := run_upTo hc h0 (n := n)
  have h2 := len_upTo h4 hn
  rw [walkA_run h0 h1 (fun w hw => by have := (mem_upTo.1 hw).1; omega) (by rw [List.length_replicate]; omega) (by omega), takeF_filter (by show 0 ≤ 60; omega)]; rfl
theorem walkS_words {f : Str → Bool} {c : Str} (hc : c.Nodup) (h4 : c.length ≤ 4) {n : Nat} (hn : n ≤ 4) {k : Nat} (hk : 1300 ≤ k) : walkS f c (n : Int) k [] = firstD f (upTo c n) := by
 by_cases h0 : c = []
 ·subst h0
  obtain ⟨k, rfl⟩ : ∃ j, k = j + 1 := ⟨k - 1, by omega⟩
  unfold walkS
  rw [upTo_nil, decide_eq_true (by show (0 : Int) ≤ n; omega), decide_eq_true rfl]
  rfl
 ·have h1 := run_upTo hc h0 (n := n)
  have h2 := len_upTo h4 hn
  exact walkS_run h0 h1 (fun w hw => by have := (mem_upTo.1 hw).1; omega) (by rw [List.length_replicate]; omega) (by omega)
theorem walkN_words {f : Str → Bool} {c : Str} (hc : c.Nodup) (h0 : c ≠ []) (h4 : c.length ≤ 4) {n : Nat} (hn : n ≤ 4) {k : Nat} (hk : 1300 ≤ k) : walkN f c (n : Int) k (List.replicate n (c.headD 0)) 0 = cntF f (levW c n) 0 := by
 have h1 := run_levW hc h0 (n := n)
 have h2 : (levW c n).length ≤ 256 := by rw [len_levW]; exact pow_le h4 hn
 exact walkN_run h1 (fun w hw => by have := ((mem_levW (w := w)).1 hw).1; omega) (by rw [List.length_replicate]; omega) (by omega)
theorem less_app {x y : UInt8} : ∀ {w w' : Str}, w.length = w'.length → Op.bytesLess w w' = true → Op.bytesLess (w ++ [x]) (w' ++ [y]) = true
 | [], [], _, h => by cases h
 | a :: w, b :: w', hl, h => by
  show (decide (a < b) || (a == b && Op.bytesLess (w ++ [x]) (w' ++ [y]))) = true
  have h : (decide (a < b) || (a == b && Op.bytesLess w w')) = true := h
  rw [Bool.or_eq_true, andd] at h ⊢
  rcases h with h | ⟨h1, h2⟩
  ·exact .inl h
  ·exact .inr ⟨h1, less_app (by simpa using hl) h2⟩
theorem less_last {x y : UInt8} (h : x < y) : ∀ {w : Str}, Op.bytesLess (w ++ [x]) (w ++ [y]) = true
 | [] => by
  show (decide (x < y) || _) = true
  rw [decide_eq_true h]; rfl
 | a :: w => by
  show (decide (a < a) || (a == a && Op.bytesLess (w ++ [x]) (w ++ [y]))) = true
  rw [less_last h, Bool.or_eq_true, andd]
  exact .inr ⟨beq_self_eq_true a, rfl⟩
def ltW (x y : Str) : Prop := x.length < y.length ∨ (x.length = y.length ∧ Op.bytesLess x y = true)
theorem pw_levW {c : Str} (hc : c.Pairwise (· < ·)) : ∀ {n : Nat}, (levW c n).Pairwise fun x y => Op.bytesLess x y = true
 | 0 => List.pairwise_singleton _ _
 | n + 1 => by
  unfold levW
  rw [List.pairwise_flatMap]
  refine ⟨fun w _ => ?_, ?_⟩
  ·rw [List.pairwise_map]
   exact hc.imp fun h => less_last h
  ·refine List.Pairwise.imp_of_mem ?_ (pw_levW hc (n := n))
   intro w w' hw hw' h x hx y hy
   obtain ⟨a, _, rfl⟩ := List.mem_map.1 hx
   obtain ⟨b, _, rfl⟩ := List.mem_map.1 hy
   exact less_app (by rw [((mem_levW (w := w)).1 hw).1, ((mem_levW (w := w')).1 hw').1]) h
theorem pw_upTo {c : Str} (hc : c.Pairwise (· < ·)) : ∀ {n : Nat}, (upTo c n).Pairwise ltW
 | 0 => List.pairwise_singleton _ _
 | n + 1 => by
  unfold upTo
  rw [List.pairwise_append]
  refine ⟨pw_upTo hc, ?_, fun x hx y hy => ?_⟩
  ·refine List.Pairwise.imp_of_mem ?_ (pw_levW hc (n := n + 1))
   intro w w' hw hw' h
   exact .inr ⟨by rw [((mem_levW (w := w)).1 hw).1, ((mem_levW (w := w')).1 hw').1], h⟩
  ·have h1 := (mem_upTo.1 hx).1
   have h2 := ((mem_levW (w := y)).1 hy).1
   exact .inl (by omega)
theorem pw_words {f : Str → Bool} {c : Str} {n : Nat} (hc : c.Pairwise (· < ·)) : (wordsV f c n).Pairwise ltW := List.Pairwise.sublist (List.take_sublist _ _) (List.Pairwise.sublist List.filter_sublist (pw_upTo hc))
theorem mem_words {f : Str → Bool} {c : Str} {n : Nat} {w : Str} (h : w ∈ wordsV f c n) : f w = true ∧ w.length ≤ n ∧ ∀ x ∈ w, x ∈ c := by
 have h := List.mem_filter.1 (List.mem_of_mem_take h)
 exact ⟨h.2, mem_upTo.1 h.1⟩
theorem len_words {f : Str → Bool} {c : Str} {n : Nat} : (wordsV f c n).length ≤ 60 := by
 unfold wordsV
 rw [List.length_take]; omega
theorem words_more {f : Str → Bool} {c : Str} {n : Nat} : ∃ l, wordsV f c (n + 1) = wordsV f c n ++ l := by
 unfold wordsV
 rw [show upTo c (n + 1) = upTo c n ++ levW c (n + 1) from rfl, List.filter_append, List.take_append]
 exact ⟨_, rfl⟩
theorem asc_len {b : Nat} : ∀ {s : Str} {a : Nat}, s.Pairwise (fun a b => a.toNat < b.toNat) → (∀ x ∈ s, a ≤ x.toNat ∧ x.toNat < b) → s.length ≤ b - a
 | [], _, _, _ => Nat.zero_le _
 | x :: s, a, h, h1 => by
  obtain ⟨h2, h3⟩ := List.pairwise_cons.1 h
  obtain ⟨h4, h5⟩ := h1 x List.mem_cons_self
  have := asc_len (a := x.toNat + 1) h3 fun y hy => ⟨h2 y hy, (h1 y (List.mem_cons_of_mem _ hy)).2⟩
  rw [List.length_cons]; omega
def isM (n : Int) : Bool := decide (0 ≤ n) && decide (n ≤ 4)
theorem s_impl_isMost (n : Int) (_hn : Fit TI64 n) : Sat Tryd.prog 118 [ofD TI64 n] [] (.d (ofD .bool (isM n))) [] :=
 fn_sound (cx := cxOf Γ68 Tryd.f118.ntmps [] [] [] []) Tryd.func118 rfl ttOk Γ68ok mixed (fun _ _ => LoopsOk.no fun _ => rfl) (ro := true) (by
  have y : evFn (cxOf Γ68 Tryd.f118.ntmps [] [] [] []) Tryd.f118 true [ofD TI64 n] [] = some (vB (bif decide (0 ≤ n) then decide (n ≤ 4) else false), []) := by kernel_rfl
  rw [y, b2]; rfl)
noncomputable def c_impl_isMost : Con := conT [TI64] fun (n : Int) => (none, .d (ofD .bool (isM n)))
theorem k_impl_isMost : ConOk Tryd.prog 118 c_impl_isMost := conT_ok Tryd.call118 fun n hn _ => s_impl_isMost n hn
noncomputable def Γ69 : List (Nat × Con) := (118, c_impl_isMost) :: Γ68
theorem Γ69ok : EnvOk Tryd.prog (look Γ69) := .cons k_impl_isMost Γ68ok
theorem s_spec_l4Length (n : Int) (_hn : Fit TI64 n) : Sat Tryd.prog 112 [ofD TI64 n] [] (.d (ofD .bool (isM n))) [] :=
 fn_sound (cx := cxOf Γ69 Tryd.f112.ntmps [] [] [] []) Tryd.func112 rfl ttOk Γ69ok mixed (fun _ _ => LoopsOk.no fun _ => rfl) (ro := true) (by
  have y : evFn (cxOf Γ69 Tryd.f112.ntmps [] [] [] []) Tryd.f112 true [ofD TI64 n] [] = some (vB (bif decide (0 ≤ n) then decide (n ≤ 4) else false), []) := by kernel_rfl
  rw [y, b2]; rfl)
noncomputable def c_spec_l4Length : Con := conT [TI64] fun (n : Int) => (none, .d (ofD .bool (isM n)))
theorem k_spec_l4Length : ConOk Tryd.prog 112 c_spec_l4Length := conT_ok Tryd.call112 fun n hn _ => s_spec_l4Length n hn
noncomputable def Γ70 : List (Nat × Con) := (112, c_spec_l4Length) :: Γ69
theorem Γ70ok : EnvOk Tryd.prog (look Γ70) := .cons k_spec_l4Length Γ69ok
noncomputable def cb_wu : Cx := cxOf Γ70 Tryd.f119.ntmps [(10, [0, 5, 7, 9, 13, 14, 17, 18, 19, 24, 25]), (7, [0, 5, 7, 13, 14, 17, 18, 19]), (4, [0, 5, 6, 13, 14])] [(0, [5]), (1, [0, 5, 6, 13, 14]), (2, [0, 5, 7, 13, 14]), (3, [0, 5, 7, 13, 14, 17, 18, 19]), (4, [0, 5, 7, 13, 14, 17, 18, 19]), (5, [0, 5, 7, 9, 13, 14, 17, 18, 19, 24, 25]), (1000000, [4])] [] []
abbrev wuH (o q l : List Str) : Heap := [(500000, some (.lis 9 .str o)), (500001, some (.lis 9 .str q)), (500002, some (.lis 9 .str l))]
theorem strFits {n : Nat} (h : n ≤ 1000000) : fits n Tryd.t9.bytes = true := by
 rw [show Tryd.t9.bytes = 16 by kernel_rfl]
 exact decide_eq_true (by omega)
theorem x_impl_wordsUpTo_2 (c w : Str) (o q l : List Str) (n x m y p z : Int) (R : St → Option Fin) (K : Cont) : evC (cb_wu.withLoops (look [])) (loopOf Tryd.f119 2) ⟨[(0, vS c), (5, .d (.one (.own 500000))), (7, .d (.one (.own 500001))), (9, vS w), (13, vI n), (14, vI x), (17, .d (.one (.own 500002))), (18, vI m), (19, vI y), (24, vI p), (25, vI z)], wuH o q l⟩ (onward (headAt (cb_wu.withLoops (look [])) 10) R K) = (
branch (decide (z < p)) (
 need (inr z (W64 (z + 1)) c.length) <|
 need (decide ((List.length w + (List.take ((W64 (z + 1)).toNat - z.toNat) (List.drop z.toNat c)).length) ≤ 9223372036854775807)) <|
 need (fits (q.length + [List.append w (List.take ((W64 (z + 1)).toNat - z.toNat) (List.drop z.toNat c))].length) Tryd.t9.bytes) <| R (.mk [(0, (vS c)), (5, (.d (.one (.own 500000)))), (7, (.d (.one (.own 500001)))), (9, (vS w)), (13, (vI n)), (14, (vI x)), (17, (.d (.one (.own 500002)))), (18, (vI m)), (19, (vI y)), (24, (vI p)), (25, (vI (W64 (z + 1))))] [(500000, (.some (.lis 9 (Ty.str) (o)))), (500001, (.some (.lis 9 (ty9) (q.append [List.append w (List.take ((W64 (z + 1)).toNat - z.toNat) (List.drop z.toNat c))])))), (500002, (.some (.lis 9 (Ty.str) (l))))])) ( K (.exit 4) (.mk [(0, (vS c)), (5, (.d (.one (.own 500000)))), (7, (.d (.one (.own 500001)))), (13, (vI n)), (14, (vI x)), (17, (.d (.one (.own 500002)))), (18, (vI m)), (19, (vI y))] [(500000, (.some (.lis 9 (Ty.str) (o)))), (500001, (.some (.lis 9 (Ty.str) (q)))), (500002, (.some (.lis 9 (Ty.str) (l))))]))) := by kernel_rfl
noncomputable def cx0_w3 : Cx := (cb_wu).withLoops (look [])
def sh_w3 : Sh := ([(0, .d .str), (5, .own 500000), (7, .own 500001), (9, .d .str), (13, .d TI64), (14, .d TI64), (17, .own 500002), (18, .d TI64), (19, .d TI64), (24, .d TI64), (25, .d TI64)], [(500000, .lis 9 .str), (500001, .lis 9 .str), (500002, .lis 9 .str)])
def pre_w3 (c : Str) (w : Str) (_n : Int) (_x : Int) (_m : Int) (_y : Int) (p : Int) (z : Int) (_o : List (Str)) (q : List (Str)) (_l : List (Str)) : Bool := decide (0 ≤ z) && (decide (p = (List.length c : Int)) && (decide (List.length c ≤ 1000) && (decide (List.length w ≤ 1000) && decide ((List.length q : Int) ≤ 100000 + z))))
noncomputable def res_w3 (c : Str) (w : Str) (n : Int) (x : Int) (m : Int) (y : Int) (_p : Int) (z : Int) (o : List (Str)) (q : List (Str)) (l : List (Str)) (K : Cont) : Option Fin := K (.exit 4) ⟨[(0, vS c), (5, .d (.one (.own 500000))), (7, .d (.one (.own 500001))), (13, vI n), (14, vI x), (17, .d (.one (.own 500002))), (18, vI m), (19, vI y)], wuH o (q ++ (List.drop z.toNat c).map fun e => w ++ [e]) l⟩
def mu_w3 (c : Str) (_w : Str) (_n : Int) (_x : Int) (_m : Int) (_y : Int) (_p : Int) (z : Int) (_o : List (Str)) (_q : List (Str)) (_l : List (Str)) : Nat := List.length c - z.toNat
theorem r_w3 (c : Str) (w : Str) (n : Int) (x : Int) (m : Int) (y : Int) (p : Int) (z : Int) (o : List (Str)) (q : List (Str)) (l : List (Str)) (K : Cont) (hI : pre_w3 c w n x m y p z o q l = true) : (∀ R : St → Option Fin, evC cx0_w3 (loopOf Tryd.f119 2) ⟨[(0, .d (ofD .str c)), (5, .d (.one (.own 500000))), (7, .d (.one (.own 500001))), (9, .d (ofD .str w)), (13, .d (ofD TI64 n)), (14, .d (ofD TI64 x)), (17, .d (.one (.own 500002))), (18, .d (ofD TI64 m)), (19, .d (ofD TI64 y)), (24, .d (ofD TI64 p)), (25, .d (ofD TI64 z))], [(500000, some (.lis 9 .str o)), (500001, some (.lis 9 .str q)), (500002, some (.lis 9 .str l))]⟩ (onward (headAt cx0_w3 10) R K) = res_w3 c w n x m y p z o q l K) ∨
  (∃ (c' : Str) (w' : Str) (n' : Int) (x' : Int) (m' : Int) (y' : Int) (p' : Int) (z' : Int) (o' : List (Str)) (q' : List (Str)) (l' : List (Str)), pre_w3 c' w' n' x' m' y' p' z' o' q' l' = true ∧ mu_w3 c' w' n' x' m' y' p' z' o' q' l' < mu_w3 c w n x m y p z o q l ∧ res_w3 c' w' n' x' m' y' p' z' o' q' l' K = res_w3 c w n x m y p z o q l K ∧ ∀ R : St → Option Fin, evC cx0_w3 (loopOf Tryd.f119 2) ⟨[(0, .d (ofD .str c)), (5, .d (.one (.own 500000))), (7, .d (.one (.own 500001))), (9, .d (ofD .str w)), (13, .d (ofD TI64 n)), (14, .d (ofD TI64 x)), (17, .d (.one (.own 500002))), (18, .d (ofD TI64 m)), (19, .d (ofD TI64 y)), (24, .d (ofD TI64 p)), (25, .d (ofD TI64 z))], [(500000, some (.lis 9 .str o)), (500001, some (.lis 9 .str q)), (500002, some (.lis 9 .str l))]⟩ (onward (headAt cx0_w3 10) R K) = R ⟨[(0, .d (ofD .str c')), (5, .d (.one (.own 500000))), (7, .d (.one (.own 500001))), (9, .d (ofD .str w')), (13, .d (ofD TI64 n')), (14, .d (ofD TI64 x')), (17, .d (.one (.own 500002))), (18, .d (ofD TI64 m')), (19, .d (ofD TI64 y')), (24, .d (ofD TI64 p')), (25, .d (ofD TI64 z'))], [(500000, some (.lis 9 .str o')), (500001, some (.lis 9 .str q')), (500002, some (.lis 9 .str l'))]⟩) := by
 have hx := fun R => x_impl_wordsUpTo_2 c w o q l n x m y p z R K
 simp only [pre_w3, andd, dec_iff] at hI
 obtain ⟨h0, rfl, h1, h2, h3⟩ := hI
 by_cases hz : z < (List.length c : Int)
 ·have w1 : W64 (z + 1) = z + 1 := wrap_small (by omega) (by omega)
  have hn : z.toNat < List.length c := by omega
  have hd : List.drop z.toNat c = List.getD c z.toNat 0 :: List.drop (z + 1).toNat c := by
   rw [List.drop_eq_getElem_cons hn, show (z + 1).toNat = z.toNat + 1 by omega, List.getD_eq_getElem?_getD, List.getElem?_eq_getElem hn]; rfl
  rw [decide_eq_true hz, w1, inr_iff.2 (by omega : 0 ≤ z ∧ z ≤ z + 1 ∧ z + 1 ≤ (List.length c : Int)), slice_one h0 hz, strFits (by rw [List.length_singleton]; omega), decide_eq_true (by rw [List.length_singleton]; omega : List.length w + List.length [List.getD c z.toNat 0] ≤ 9223372036854775807)] at hx
  right
  refine ⟨c, w, n, x, m, y, (List.length c : Int), z + 1, o, q ++ [w ++ [List.getD c z.toNat 0]], l, ?_, ?_, ?_, fun R => hx R⟩
  ·simp only [pre_w3, andd, dec_iff]
   rw [List.length_append, List.length_singleton]
   exact ⟨by omega, trivial, h1, h2, by omega⟩
  ·simp only [mu_w3]; omega
  ·simp only [res_w3, hd, List.map_cons, List.append_assoc]; rfl
 ·left
  intro R
  refine (hx R).trans ?_
  rw [decide_eq_false hz]
  have e : List.drop z.toNat c = [] := List.drop_eq_nil_of_le (by omega)
  simp only [res_w3, e, List.map_nil, List.append_nil]; rfl
noncomputable def g_w3 : St → Cont → Option Fin := gP sh_w3 (fun v => match v with | ((c, w, n, x, m, y, p, z, ()), (o, q, l, ())) => pre_w3 c w n x m y p z o q l) (fun v K => match v with | ((c, w, n, x, m, y, p, z, ()), (o, q, l, ())) => res_w3 c w n x m y p z o q l K)
noncomputable def L_w3 : List (Nat × (St → Cont → Option Fin)) := (10, g_w3) :: []
noncomputable def cx_w3 : Cx := (cb_wu).withLoops (look L_w3)
theorem l_w3 {L : List (Nat × (St → Cont → Option Fin))} (n : Nat) (h1 : L.drop n = []) (h2 : idsFree (L.take n) (loopOf Tryd.f119 2) = true) : ∀ st K r, g_w3 st K = some r → ∃ N, iter (evC ((cb_wu).withLoops (look L)) (loopOf Tryd.f119 2)) (headAt ((cb_wu).withLoops (look L)) 10) N st K = some r :=
 with_drop h1 h2 (gP_ok (fun v => match v with | ((c, w, n, x, m, y, p, z, ()), (o, q, l, ())) => mu_w3 c w n x m y p z o q l) fun v K hI => by
  obtain ⟨⟨(c : Str), (w : Str), (n : Int), (x : Int), (m : Int), (y : Int), (p : Int), (z : Int), ⟨⟩⟩, ⟨(o : List (Str)), (q : List (Str)), (l : List (Str)), ⟨⟩⟩⟩ := v
  rcases r_w3 c w n x m y p z o q l K hI with h1 | ⟨c', w', n', x', m', y', p', z', o', q', l', h1, h2, h3, h4⟩
  ·exact .inl h1
  ·exact .inr ⟨((c', w', n', x', m', y', p', z', ()), (o', q', l', ())), h1, h2, h3, h4⟩)
theorem x_impl_wordsUpTo_1 (c : Str) (o q l : List Str) (n x m y : Int) (R : St → Option Fin) (K : Cont) : evC (cb_wu.withLoops (look L_w3)) (loopOf Tryd.f119 1) ⟨[(0, vS c), (5, .d (.one (.own 500000))), (7, .d (.one (.own 500001))), (13, vI n), (14, vI x), (17, .d (.one (.own 500002))), (18, vI m), (19, vI y)], wuH o q l⟩ (onward (headAt (cb_wu.withLoops (look L_w3)) 7) R K) = (
branch (decide (y < m)) (
 need (inb y l.length) <|
 need (pre_w3 c (l.getD y.toNat ([] : Str)) n x m y ((c.length : Int)) 0 o q l) <| R (.mk [(0, (vS c)), (5, (.d (.one (.own 500000)))), (7, (.d (.one (.own 500001)))), (13, (vI n)), (14, (vI x)), (17, (.d (.one (.own 500002)))), (18, (vI m)), (19, (vI (W64 (y + 1))))] [(500000, (.some (.lis 9 (Ty.str) (o)))), (500001, (.some (.lis 9 (Ty.str) (q.append (List.map (fun e => List.append (l.getD y.toNat ([] : Str)) [e]) c))))), (500002, (.some (.lis 9 (Ty.str) (l))))])) ( K (.exit 2) (.mk [(0, (vS c)), (5, (.d (.one (.own 500000)))), (7, (.d (.one (.own 500001)))), (13, (vI n)), (14, (vI x))] [(500000, (.some (.lis 9 (Ty.str) (o)))), (500001, (.some (.lis 9 (Ty.str) (q))))]))) := by kernel_rfl
theorem flat_at {f : Str → List Str} {l : List Str} {i : Int} (h0 : 0 ≤ i) (h1 : i < (l.length : Int)) : (l.drop i.toNat).flatMap f = f (l.getD i.toNat []) ++ (l.drop (i + 1).toNat).flatMap f := by
 have hn : i.toNat < l.length := by omega
 rw [List.drop_eq_getElem_cons hn, List.flatMap_cons, show (i + 1).toNat = i.toNat + 1 by omega, getD_at hn]
noncomputable def cx0_w2 : Cx := (cb_wu).withLoops (look L_w3)
def sh_w2 : Sh := ([(0, .d .str), (5, .own 500000), (7, .own 500001), (13, .d TI64), (14, .d TI64), (17, .own 500002), (18, .d TI64), (19, .d TI64)], [(500000, .lis 9 .str), (500001, .lis 9 .str), (500002, .lis 9 .str)])
def pre_w2 (c : Str) (_n : Int) (_x : Int) (m : Int) (y : Int) (_o : List (Str)) (q : List (Str)) (l : List (Str)) : Bool := decide (0 ≤ y) && (decide (m = (List.length l : Int)) && (decide (List.length c ≤ 4) && (decide (List.length l ≤ 1000) && (List.all l (fun e => decide (List.length e ≤ 1000)) && decide ((List.length q : Int) ≤ 4 * y)))))
noncomputable def res_w2 (c : Str) (n : Int) (x : Int) (_m : Int) (y : Int) (o : List (Str)) (q : List (Str)) (l : List (Str)) (K : Cont) : Option Fin := K (.exit 2) ⟨[(0, vS c), (5, .d (.one (.own 500000))), (7, .d (.one (.own 500001))), (13, vI n), (14, vI x)], [(500000, some (.lis 9 .str o)), (500001, some (.lis 9 .str (q ++ (List.drop y.toNat l).flatMap fun w => c.map fun e => w ++ [e])))]⟩
def mu_w2 (_c : Str) (_n : Int) (_x : Int) (_m : Int) (y : Int) (_o : List (Str)) (_q : List (Str)) (l : List (Str)) : Nat := List.length l - y.toNat
theorem r_w2 (c : Str) (n : Int) (x : Int) (m : Int) (y : Int) (o : List (Str)) (q : List (Str)) (l : List (Str)) (K : Cont) (hI : pre_w2 c n x m y o q l = true) : (∀ R : St → Option Fin, evC cx0_w2 (loopOf Tryd.f119 1) ⟨[(0, .d (ofD .str c)), (5, .d (.one (.own 500000))), (7, .d (.one (.own 500001))), (13, .d (ofD TI64 n)), (14, .d (ofD TI64 x)), (17, .d (.one (.own 500002))), (18, .d (ofD TI64 m)), (19, .d (ofD TI64 y))], [(500000, some (.lis 9 .str o)), (500001, some (.lis 9 .str q)), (500002, some (.lis 9 .str l))]⟩ (onward (headAt cx0_w2 7) R K) = res_w2 c n x m y o q l K) ∨
  (∃ (c' : Str) (n' : Int) (x' : Int) (m' : Int) (y' : Int) (o' : List (Str)) (q' : List (Str)) (l' : List (Str)), pre_w2 c' n' x' m' y' o' q' l' = true ∧ mu_w2 c' n' x' m' y' o' q' l' < mu_w2 c n x m y o q l ∧ res_w2 c' n' x' m' y' o' q' l' K = res_w2 c n x m y o q l K ∧ ∀ R : St → Option Fin, evC cx0_w2 (loopOf Tryd.f119 1) ⟨[(0, .d (ofD .str c)), (5, .d (.one (.own 500000))), (7, .d (.one (.own 500001))), (13, .d (ofD TI64 n)), (14, .d (ofD TI64 x)), (17, .d (.one (.own 500002))), (18, .d (ofD TI64 m)), (19, .d (ofD TI64 y))], [(500000, some (.lis 9 .str o)), (500001, some (.lis 9 .str q)), (500002, some (.lis 9 .str l))]⟩ (onward (headAt cx0_w2 7) R K) = R ⟨[(0, .d (ofD .str c')), (5, .d (.one (.own 500000))), (7, .d (.one (.own 500001))), (13, .d (ofD TI64 n')), (14, .d (ofD TI64 x')), (17, .d (.one (.own 500002))), (18, .d (ofD TI64 m')), (19, .d (ofD TI64 y'))], [(500000, some (.lis 9 .str o')), (500001, some (.lis 9 .str q')), (500002, some (.lis 9 .str l'))]⟩) := by
 have hx := fun R => x_impl_wordsUpTo_1 c o q l n x m y R K
 simp only [pre_w2, andd, dec_iff] at hI
 obtain ⟨h0, rfl, h1, h2, h3, h4⟩ := hI
 by_cases hz : y < (List.length l : Int)
 ·have w1 : W64 (y + 1) = y + 1 := wrap_small (by omega) (by omega)
  have hn : y.toNat < List.length l := by omega
  have hw := of_decide_eq_true (List.all_eq_true.1 h3 _ (getD_mem (d := ([] : Str)) hn))
  have hg := flat_at (f := fun w => c.map fun e => w ++ [e]) h0 hz
  have kp : pre_w3 c (List.getD l y.toNat []) n x (List.length l : Int) y (List.length c : Int) 0 o q l = true := by
   simp only [pre_w3, andd, dec_iff]
   exact ⟨Int.le_refl 0, trivial, by omega, hw, by omega⟩
  rw [decide_eq_true hz, inb_ok h0 hz, w1, kp] at hx
  right
  refine ⟨c, n, x, (List.length l : Int), y + 1, o, q ++ c.map (fun e => List.getD l y.toNat [] ++ [e]), l, ?_, ?_, ?_, fun R => hx R⟩
  ·simp only [pre_w2, andd, dec_iff]
   rw [List.length_append, List.length_map]
   exact ⟨by omega, trivial, h1, h2, h3, by omega⟩
  ·simp only [mu_w2]; omega
  ·simp only [res_w2, hg, List.append_assoc]
 ·left
  intro R
  refine (hx R).trans ?_
  rw [decide_eq_false hz]
  have e : List.drop y.toNat l = [] := List.drop_eq_nil_of_le (by omega)
  simp only [res_w2, e, List.flatMap_nil, List.append_nil]; rfl
noncomputable def g_w2 : St → Cont → Option Fin := gP sh_w2 (fun v => match v with | ((c, n, x, m, y, ()), (o, q, l, ())) => pre_w2 c n x m y o q l) (fun v K => match v with | ((c, n, x, m, y, ()), (o, q, l, ())) => res_w2 c n x m y o q l K)
noncomputable def L_w2 : List (Nat × (St → Cont → Option Fin)) := (7, g_w2) :: L_w3
noncomputable def cx_w2 : Cx := (cb_wu).withLoops (look L_w2)
theorem l_w2 {L : List (Nat × (St → Cont → Option Fin))} (n : Nat) (h1 : L.drop n = L_w3) (h2 : idsFree (L.take n) (loopOf Tryd.f119 1) = true) : ∀ st K r, g_w2 st K = some r → ∃ N, iter (evC ((cb_wu).withLoops (look L)) (loopOf Tryd.f119 1)) (headAt ((cb_wu).withLoops (look L)) 7) N st K = some r :=
 with_drop h1 h2 (gP_ok (fun v => match v with | ((c, n, x, m, y, ()), (o, q, l, ())) => mu_w2 c n x m y o q l) fun v K hI => by
  obtain ⟨⟨(c : Str), (n : Int), (x : Int), (m : Int), (y : Int), ⟨⟩⟩, ⟨(o : List (Str)), (q : List (Str)), (l : List (Str)), ⟨⟩⟩⟩ := v
  rcases r_w2 c n x m y o q l K hI with h1 | ⟨c', n', x', m', y', o', q', l', h1, h2, h3, h4⟩
  ·exact .inl h1
  ·exact .inr ⟨((c', n', x', m', y', ()), (o', q', l', ())), h1, h2, h3, h4⟩)
theorem x_impl_wordsUpTo (c : Str) (o l : List Str) (n x : Int) (R : St → Option Fin) (K : Cont) : evC (cb_wu.withLoops (look L_w2)) (loopOf Tryd.f119 0) ⟨[(0, vS c), (5, .d (.one (.own 500000))), (6, .d (.one (.own 500001))), (13, vI n), (14, vI x)], [(500000, some (.lis 9 .str o)), (500001, some (.lis 9 .str l))]⟩ (onward (headAt (cb_wu.withLoops (look L_w2)) 4) R K) = (
branch (decide (x < n)) (
 need (pre_w2 c n x ((l.length : Int)) 0 o [] l) <|
 need (fits (o.length + (id (List.flatMap (fun w => List.map (fun e => w.append [e]) c) l)).length) Tryd.t9.bytes) <| R (.mk [(0, (vS c)), (5, (.d (.one (.own 500000)))), (6, (.d (.one (.own 500001)))), (13, (vI n)), (14, (vI (W64 (x + 1))))] [(500000, (.some (.lis 9 (ty9) (o.append (id (List.flatMap (fun w => List.map (fun e => w.append [e]) c) l)))))), (500001, (.some (.lis 9 (Ty.str) (id (List.flatMap (fun w => List.map (fun e => w.append [e]) c) l)))))])) ( K (.exit 0) (.mk [(5, (.d (.one (.own 500000))))] [(500000, (.some (.lis 9 (Ty.str) (o))))]))) := by kernel_rfl
def tailW (c : Str) : Nat → Nat → List Str
 | _, 0 => []
 | x, k + 1 => levW c (x + 1) ++ tailW c (x + 1) k
theorem tailW_eq {c : Str} : ∀ {k x : Nat}, upTo c x ++ tailW c x k = upTo c (x + k)
 | 0, _ => List.append_nil _
 | k + 1, x => by
  unfold tailW
  rw [← List.append_assoc, show upTo c x ++ levW c (x + 1) = upTo c (x + 1) from rfl, tailW_eq, show x + 1 + k = x + (k + 1) by omega]
noncomputable def cx0_w1 : Cx := (cb_wu).withLoops (look L_w2)
def sh_w1 : Sh := ([(0, .d .str), (5, .own 500000), (6, .own 500001), (13, .d TI64), (14, .d TI64)], [(500000, .lis 9 .str), (500001, .lis 9 .str)])
def pre_w1 (c : Str) (n : Int) (x : Int) (o : List (Str)) (l : List (Str)) : Bool := decide (0 ≤ x) && (decide (n ≤ 4) && (decide (List.length c ≤ 4) && (decide (l = levW c x.toNat) && decide ((List.length o : Int) ≤ 300 * (x + 1)))))
noncomputable def res_w1 (c : Str) (n : Int) (x : Int) (o : List (Str)) (_l : List (Str)) (K : Cont) : Option Fin := K (.exit 0) ⟨[(5, .d (.one (.own 500000)))], [(500000, some (.lis 9 .str (o ++ tailW c x.toNat (n - x).toNat)))]⟩
def mu_w1 (_c : Str) (n : Int) (x : Int) (_o : List (Str)) (_l : List (Str)) : Nat := (n - x).toNat
theorem r_w1 (c : Str) (n : Int) (x : Int) (o : List (Str)) (l : List (Str)) (K : Cont) (hI : pre_w1 c n x o l = true) : (∀ R : St → Option Fin, evC cx0_w1 (loopOf Tryd.f119 0) ⟨[(0, .d (ofD .str c)), (5, .d (.one (.own 500000))), (6, .d (.one (.own 500001))), (13, .d (ofD TI64 n)), (14, .d (ofD TI64 x))], [(500000, some (.lis 9 .str o)), (500001, some (.lis 9 .str l))]⟩ (onward (headAt cx0_w1 4) R K) = res_w1 c n x o l K) ∨
  (∃ (c' : Str) (n' : Int) (x' : Int) (o' : List (Str)) (l' : List (Str)), pre_w1 c' n' x' o' l' = true ∧ mu_w1 c' n' x' o' l' < mu_w1 c n x o l ∧ res_w1 c' n' x' o' l' K = res_w1 c n x o l K ∧ ∀ R : St → Option Fin, evC cx0_w1 (loopOf Tryd.f119 0) ⟨[(0, .d (ofD .str c)), (5, .d (.one (.own 500000))), (6, .d (.one (.own 500001))), (13, .d (ofD TI64 n)), (14, .d (ofD TI64 x))], [(500000, some (.lis 9 .str o)), (500001, some (.lis 9 .str l))]⟩ (onward (headAt cx0_w1 4) R K) = R ⟨[(0, .d (ofD .str c')), (5, .d (.one (.own 500000))), (6, .d (.one (.own 500001))), (13, .d (ofD TI64 n')), (14, .d (ofD TI64 x'))], [(500000, some (.lis 9 .str o')), (500001, some (.lis 9 .str l'))]⟩) := by
 have hx := fun R => x_impl_wordsUpTo c o l n x R K
 simp only [pre_w1, andd, dec_iff] at hI
 obtain ⟨h0, h1, h2, rfl, h3⟩ := hI
 by_cases hz : x < n
 ·have w1 : W64 (x + 1) = x + 1 := wrap_small (by omega) (by omega)
  have hl : (levW c x.toNat).length ≤ 256 := by rw [len_levW]; exact pow_le h2 (by omega)
  have hl2 : (levW c (x.toNat + 1)).length ≤ 256 := by rw [len_levW]; exact pow_le h2 (by omega)
  obtain ⟨k, hk⟩ : ∃ k, (n - x).toNat = k + 1 := ⟨(n - x).toNat - 1, by omega⟩
  have hk2 : (n - (x + 1)).toNat = k := by omega
  have hx1 : (x + 1).toNat = x.toNat + 1 := by omega
  have kp : pre_w2 c n x ((levW c x.toNat).length : Int) 0 o [] (levW c x.toNat) = true := by
   simp only [pre_w2, andd, dec_iff]
   refine ⟨Int.le_refl 0, trivial, h2, by omega, List.all_eq_true.2 fun e he => decide_eq_true ?_, Int.le_refl _⟩
   have := ((mem_levW (w := e)).1 he).1
   omega
  have kf : fits (List.length o + (levW c (x.toNat + 1)).length) Tryd.t9.bytes = true := strFits (by omega)
  rw [decide_eq_true hz, w1, kp] at hx
  change ∀ R : St → Option Fin, _ = branch true (need true (need (fits (List.length o + (levW c (x.toNat + 1)).length) Tryd.t9.bytes) _)) _ at hx
  rw [kf] at hx
  right
  refine ⟨c, n, x + 1, o ++ levW c (x.toNat + 1), levW c (x.toNat + 1), ?_, ?_, ?_, fun R => hx R⟩
  ·simp only [pre_w1, andd, dec_iff]
   rw [List.length_append, hx1]
   exact ⟨by omega, h1, h2, rfl, by omega⟩
  ·simp only [mu_w1]; omega
  ·simp only [res_w1, hk, hk2, hx1, tailW, List.append_assoc]
 ·left
  intro R
  refine (hx R).trans ?_
  rw [decide_eq_false hz]
  have e : (n - x).toNat = 0 := by omega
  simp only [res_w1, e, tailW, List.append_nil]; rfl
noncomputable def g_w1 : St → Cont → Option Fin := gP sh_w1 (fun v => match v with | ((c, n, x, ()), (o, l, ())) => pre_w1 c n x o l) (fun v K => match v with | ((c, n, x, ()), (o, l, ())) => res_w1 c n x o l K)
noncomputable def L_w1 : List (Nat × (St → Cont → Option Fin)) := (4, g_w1) :: L_w2
noncomputable def cx_w1 : Cx := (cb_wu).withLoops (look L_w1)
theorem l_w1 {L : List (Nat × (St → Cont → Option Fin))} (n : Nat) (h1 : L.drop n = L_w2) (h2 : idsFree (L.take n) (loopOf Tryd.f119 0) = true) : ∀ st K r, g_w1 st K = some r → ∃ N, iter (evC ((cb_wu).withLoops (look L)) (loopOf Tryd.f119 0)) (headAt ((cb_wu).withLoops (look L)) 4) N st K = some r :=
 with_drop h1 h2 (gP_ok (fun v => match v with | ((c, n, x, ()), (o, l, ())) => mu_w1 c n x o l) fun v K hI => by
  obtain ⟨⟨(c : Str), (n : Int), (x : Int), ⟨⟩⟩, ⟨(o : List (Str)), (l : List (Str)), ⟨⟩⟩⟩ := v
  rcases r_w1 c n x o l K hI with h1 | ⟨c', n', x', o', l', h1, h2, h3, h4⟩
  ·exact .inl h1
  ·exact .inr ⟨((c', n', x', ()), (o', l', ())), h1, h2, h3, h4⟩)
theorem y_impl_wordsUpTo (c : Str) (n : Int) : evFn cx_w1 Tryd.f119 true [ofD .str c, ofD TI64 n] [] = (
need (pre_w1 c n 0 [[]] [[]]) <| some ((.d (.one (.r (.li (Ty.str) ([[]].append (tailW c ((0 : Int).toNat) (n - 0).toNat)))))), [])) := by kernel_rfl
theorem s_impl_wordsUpTo (c : Str) (_hc : Fit .str c) (n : Int) (_hn : Fit TI64 n) (hpre : (decide (List.length c ≤ 4) && isM n) = true) : Sat Tryd.prog 119 [ofD .str c, ofD TI64 n] [] (.d (ofD (.list .str) (upTo c n.toNat))) [] :=
 fn_sound (cx := cx_w1) Tryd.func119 rfl ttOk Γ70ok mixed (fun c hc => LoopsOk.all (l := [(4, loopOf Tryd.f119 0), (7, loopOf Tryd.f119 1), (10, loopOf Tryd.f119 2)]) (by cases hc; kernel_rfl) ⟨atLoop rfl (l_w1 1 rfl (by kernel_rfl)), atLoop rfl (l_w2 2 rfl (by kernel_rfl)), atLoop rfl (l_w3 3 rfl (by kernel_rfl)), trivial⟩) (ro := true) (by
  rw [andd, dec_iff] at hpre
  obtain ⟨h1, h2⟩ := hpre
  unfold isM at h2
  rw [andd, dec_iff, dec_iff] at h2
  have kp : pre_w1 c n 0 [[]] [[]] = true := by
   simp only [pre_w1, andd, dec_iff]
   exact ⟨Int.le_refl 0, h2.2, h1, rfl, by show ((1 : Nat) : Int) ≤ _; omega⟩
  have e : ([[]] ++ tailW c 0 n.toNat : List Str) = upTo c n.toNat := by
   have := tailW_eq (c := c) (k := n.toNat) (x := 0)
   rw [Nat.zero_add] at this
   exact this
  have e0 : (n - 0).toNat = n.toNat := by omega
  rw [y_impl_wordsUpTo, kp, e0]
  exact congrArg (fun z : List Str => (some (.d (.one (.r (.li .str z))), []) : Option Fin)) e)
noncomputable def c_impl_wordsUpTo : Con := conT [.str, TI64] fun (c : Str) (n : Int) => (some (decide (List.length c ≤ 4) && isM n), .d (ofD (.list .str) (upTo c n.toNat)))
theorem k_impl_wordsUpTo : ConOk Tryd.prog 119 c_impl_wordsUpTo := conT_ok Tryd.call119 fun c hc n hn hqq => s_impl_wordsUpTo c hc n hn (pre_of hqq)
noncomputable def Γ71 : List (Nat × Con) := (119, c_impl_wordsUpTo) :: Γ70
theorem Γ71ok : EnvOk Tryd.prog (look Γ71) := .cons k_impl_wordsUpTo Γ70ok
noncomputable def cb_iaw : Cx := (cxOf Γ71 Tryd.f51.ntmps [(5, [2, 5, 20, 21, 22])] [(0, [5]), (1, [2, 5, 20, 21, 22]), (1000000, [4])] [] []).parted [1, 7]
theorem x_impl_AllWords (g : Gram) (l o : List Str) (n i : Int) (R : St → Option Fin) (K : Cont) : evC (cb_iaw.withLoops (look [])) (loopOf Tryd.f51 0) ⟨[(2, .d (.one (.ptr 500000 0))), (5, .d (.one (.own 500001))), (20, .d (ofD TSS l)), (21, vI n), (22, vI i)], [(500000, some (boxD 25 TG g)), (500001, some (.lis 9 .str o))]⟩ (onward (headAt (cb_iaw.withLoops (look [])) 5) R K) = (
branch (decide (i < n)) (
 need (inb i l.length) <|
 branch (decide (decide ((o.length : Int) < 60) = true)) (
 need (okRs g.snd && (List.length (l.getD i.toNat ([] : Str))).ble 1000) <|
 branch (bif true then derB (l.getD i.toNat ([] : Str)) (chartM (l.getD i.toNat ([] : Str)) g.snd) g.fst 0 (List.length (l.getD i.toNat ([] : Str)) : Int) else false) (
  need (fits (o.length + [l.getD i.toNat ([] : Str)].length) Tryd.t9.bytes) <| R (.mk [(2, (.d (.one (.ptr 500000 0)))), (5, (.d (.one (.own 500001)))), (20, (.d (.one (.r (.li (Ty.str) (l)))))), (21, (vI n)), (22, (vI (W64 (i + 1))))] [(500000, (.some (.box 25 [(.r (.v (Value.string (mk g.fst)))), (.r (.li TRu (g.snd)))]))), (500001, (.some (.lis 9 (ty9) (o.append [l.getD i.toNat ([] : Str)]))))])) ( R (.mk [(2, (.d (.one (.ptr 500000 0)))), (5, (.d (.one (.own 500001)))), (20, (.d (.one (.r (.li (Ty.str) (l)))))), (21, (vI n)), (22, (vI (W64 (i + 1))))] [(500000, (.some (.box 25 [(.r (.v (Value.string (mk g.fst)))), (.r (.li TRu (g.snd)))]))), (500001, (.some (.lis 9 (Ty.str) (o))))]))) ( R (.mk [(2, (.d (.one (.ptr 500000 0)))), (5, (.d (.one (.own 500001)))), (20, (.d (.one (.r (.li (Ty.str) (l)))))), (21, (vI n)), (22, (vI (W64 (i + 1))))] [(500000, (.some (.box 25 [(.r (.v (Value.string (mk g.fst)))), (.r (.li TRu (g.snd)))]))), (500001, (.some (.lis 9 (Ty.str) (o))))]))) ( K (.exit 0) (.mk [(5, (.d (.one (.own 500000))))] [(500000, (.some (.lis 9 (Ty.str) (o))))]))) := by kernel_rfl
theorem dropS_at {l : List Str} {i : Int} (h0 : 0 ≤ i) (h1 : i < (l.length : Int)) : List.drop i.toNat l = List.getD l i.toNat [] :: List.drop (i + 1).toNat l := by
 have hn : i.toNat < l.length := by omega
 rw [List.drop_eq_getElem_cons hn, show (i + 1).toNat = i.toNat + 1 by omega, List.getD_eq_getElem?_getD, List.getElem?_eq_getElem hn]; rfl
def fewS (l : List Str) : Bool := List.all l fun w => Nat.ble (List.length w) 1000
noncomputable def cx0_iaw : Cx := (cb_iaw).withLoops (look [])
def sh_iaw : Sh := ([(2, .ptr 500000 0), (5, .own 500001), (20, .d TSS), (21, .d TI64), (22, .d TI64)], [(500000, .box 25 TG), (500001, .lis 9 .str)])
def pre_iaw (l : List Str) (n : Int) (i : Int) (g : Gram) (o : List (Str)) : Bool := decide (0 ≤ i) && (decide (n = (List.length l : Int)) && (okG g && (fewS l && (decide (List.length l ≤ 100000) && decide (List.length o ≤ 60)))))
noncomputable def res_iaw (l : List Str) (_n : Int) (i : Int) (g : Gram) (o : List (Str)) (K : Cont) : Option Fin := K (.exit 0) ⟨[(5, .d (.one (.own 500000)))], [(500000, some (.lis 9 .str (takeF (isD g) (List.drop i.toNat l) o)))]⟩
def mu_iaw (l : List Str) (_n : Int) (i : Int) (_g : Gram) (_o : List (Str)) : Nat := List.length l - i.toNat
theorem r_iaw (l : List Str) (n : Int) (i : Int) (g : Gram) (o : List (Str)) (K : Cont) (hI : pre_iaw l n i g o = true) : (∀ R : St → Option Fin, evC cx0_iaw (loopOf Tryd.f51 0) ⟨[(2, .d (.one (.ptr 500000 0))), (5, .d (.one (.own 500001))), (20, .d (ofD TSS l)), (21, .d (ofD TI64 n)), (22, .d (ofD TI64 i))], [(500000, some (boxD 25 TG g)), (500001, some (.lis 9 .str o))]⟩ (onward (headAt cx0_iaw 5) R K) = res_iaw l n i g o K) ∨
  (∃ (l' : List Str) (n' : Int) (i' : Int) (g' : Gram) (o' : List (Str)), pre_iaw l' n' i' g' o' = true ∧ mu_iaw l' n' i' g' o' < mu_iaw l n i g o ∧ res_iaw l' n' i' g' o' K = res_iaw l n i g o K ∧ ∀ R : St → Option Fin, evC cx0_iaw (loopOf Tryd.f51 0) ⟨[(2, .d (.one (.ptr 500000 0))), (5, .d (.one (.own 500001))), (20, .d (ofD TSS l)), (21, .d (ofD TI64 n)), (22, .d (ofD TI64 i))], [(500000, some (boxD 25 TG g)), (500001, some (.lis 9 .str o))]⟩ (onward (headAt cx0_iaw 5) R K) = R ⟨[(2, .d (.one (.ptr 500000 0))), (5, .d (.one (.own 500001))), (20, .d (ofD TSS l')), (21, .d (ofD TI64 n')), (22, .d (ofD TI64 i'))], [(500000, some (boxD 25 TG g')), (500001, some (.lis 9 .str o'))]⟩) := by
 have hx := fun R => x_impl_AllWords g l o n i R K
 simp only [pre_iaw, andd, dec_iff] at hI
 obtain ⟨h0, rfl, h1, h2, h3, h4⟩ := hI
 by_cases hi : i < (List.length l : Int)
 ·have w : W64 (i + 1) = i + 1 := wrap_small (by omega) (by omega)
  have hw := List.all_eq_true.1 h2 _ (getD_mem (d := ([] : Str)) (by omega : i.toNat < List.length l))
  have hg := dropS_at h0 hi
  have kk : (okRs g.2 && (List.length (l.getD i.toNat ([] : Str))).ble 1000) = true := andd.2 ⟨ok_rs h1, hw⟩
  have ht : takeF (isD g) (List.drop i.toNat l) o = takeF (isD g) (List.drop (i + 1).toNat l) (bif Nat.blt (List.length o) 60 && isD g (List.getD l i.toNat []) then o ++ [List.getD l i.toNat []] else o) := by rw [hg]; rfl
  rw [decide_eq_true hi, inb_ok h0 hi, kk, w, strFits (by rw [List.length_singleton]; omega)] at hx
  right
  by_cases ho : List.length o < 60
  ·rw [decide_eq_true (by omega : (List.length o : Int) < 60)] at hx
   rw [blt_iff.2 ho, Bool.true_and] at ht
   change ∀ R : St → Option Fin, _ = branch (isD g (List.getD l i.toNat [])) (need true _) _ at hx
   cases hc : isD g (List.getD l i.toNat [])
   ·rw [hc] at hx ht
    refine ⟨l, (List.length l : Int), i + 1, g, o, ?_, ?_, ?_, fun R => hx R⟩
    ·simp only [pre_iaw, andd, dec_iff]
     exact ⟨by omega, trivial, h1, h2, h3, h4⟩
    ·simp only [mu_iaw]; omega
    ·simp only [res_iaw, ht]; rfl
   ·rw [hc] at hx ht
    refine ⟨l, (List.length l : Int), i + 1, g, o ++ [List.getD l i.toNat []], ?_, ?_, ?_, fun R => hx R⟩
    ·simp only [pre_iaw, andd, dec_iff]
     rw [List.length_append, List.length_singleton]
     exact ⟨by omega, trivial, h1, h2, h3, by omega⟩
    ·simp only [mu_iaw]; omega
    ·simp only [res_iaw, ht]; rfl
  ·rw [decide_eq_false (by omega : ¬ (List.length o : Int) < 60)] at hx
   have hb : Nat.blt (List.length o) 60 = false := by
    cases hb : Nat.blt (List.length o) 60
    ·rfl
    ·exact absurd (blt_iff.1 hb) ho
   rw [hb, Bool.false_and, cond_false] at ht
   refine ⟨l, (List.length l : Int), i + 1, g, o, ?_, ?_, ?_, fun R => hx R⟩
   ·simp only [pre_iaw, andd, dec_iff]
    exact ⟨by omega, trivial, h1, h2, h3, h4⟩
   ·simp only [mu_iaw]; omega
   ·simp only [res_iaw, ht]
 ·left
  intro R
  refine (hx R).trans ?_
  rw [decide_eq_false hi]
  have e : List.drop i.toNat l = [] := List.drop_eq_nil_of_le (by omega)
  simp only [res_iaw, e]; rfl
noncomputable def g_iaw : St → Cont → Option Fin := gP sh_iaw (fun v => match v with | ((l, n, i, ()), (g, o, ())) => pre_iaw l n i g o) (fun v K => match v with | ((l, n, i, ()), (g, o, ())) => res_iaw l n i g o K)
noncomputable def L_iaw : List (Nat × (St → Cont → Option Fin)) := (5, g_iaw) :: []
noncomputable def cx_iaw : Cx := (cb_iaw).withLoops (look L_iaw)
theorem l_iaw {L : List (Nat × (St → Cont → Option Fin))} (n : Nat) (h1 : L.drop n = []) (h2 : idsFree (L.take n) (loopOf Tryd.f51 0) = true) : ∀ st K r, g_iaw st K = some r → ∃ N, iter (evC ((cb_iaw).withLoops (look L)) (loopOf Tryd.f51 0)) (headAt ((cb_iaw).withLoops (look L)) 5) N st K = some r :=
 with_drop h1 h2 (gP_ok (fun v => match v with | ((l, n, i, ()), (g, o, ())) => mu_iaw l n i g o) fun v K hI => by
  obtain ⟨⟨(l : List Str), (n : Int), (i : Int), ⟨⟩⟩, ⟨(g : Gram), (o : List (Str)), ⟨⟩⟩⟩ := v
  rcases r_iaw l n i g o K hI with h1 | ⟨l', n', i', g', o', h1, h2, h3, h4⟩
  ·exact .inl h1
  ·exact .inr ⟨((l', n', i', ()), (g', o', ())), h1, h2, h3, h4⟩)
theorem few_upTo {c : Str} {n : Nat} (hn : n ≤ 4) : fewS (upTo c n) = true := List.all_eq_true.2 fun w hw => ble_iff.2 (by have := (mem_upTo.1 hw).1; omega)
theorem smalls_four {g : Gram} : (smallsG g).length ≤ 4 := asc_len (a := 97) (b := 101) setS_asc fun x hx => by
 have := (setS_mem.1 hx).2
 unfold small at this
 rw [andd, ble_iff, ble_iff] at this
 omega
theorem smalls_nodup {g : Gram} : (smallsG g).Nodup := (setS_asc (p := small) (s := signsG g)).imp fun hh e => by subst e; omega
theorem isM_iff {n : Int} : isM n = true ↔ 0 ≤ n ∧ n ≤ 4 := by
 unfold isM
 rw [andd, dec_iff, dec_iff]
def wordsG (g : Gram) (n : Int) : List Str := bif okG g && isM n then wordsV (isD g) (smallsG g) n.toNat else []
theorem y_impl_AllWords (g : Gram) (n : Int) : evFn cx_iaw Tryd.f51 true [ofD TG g, ofD TI64 n] [] = (
branch (decide ((!okG g) = false)) (
 branch (bif false then true else !isM n) ( some ((.d (.one (.r (.li (ty9) ([]))))), [])) (
 need (decide ((List.length (bif okG g then smallsG g else [])) ≤ 4) && isM n) <|
 need (pre_iaw (upTo (bif okG g then smallsG g else []) n.toNat) (((upTo (bif okG g then smallsG g else []) n.toNat).length : Int)) 0 g []) <| some ((.d (.one (.r (.li (Ty.str) (takeF (isD g) (id (upTo (bif okG g then smallsG g else []) n.toNat)) []))))), []))) ( some ((.d (.one (.r (.li (ty9) ([]))))), []))) := by kernel_rfl
theorem s_impl_AllWords (g : Gram) (_hg : Fit TG g) (n : Int) (_hn : Fit TI64 n) : Sat Tryd.prog 51 [ofD TG g, ofD TI64 n] [] (.d (ofD (.list .str) (wordsG g n))) [] :=
 fn_sound (cx := cx_iaw) Tryd.func51 rfl ttOk Γ71ok mixed (fun c hc => LoopsOk.all (l := [(5, loopOf Tryd.f51 0)]) (by cases hc; kernel_rfl) ⟨atLoop rfl (l_iaw 1 rfl (by kernel_rfl)), trivial⟩) (ro := true) (by
  rw [y_impl_AllWords]
  unfold wordsG
  cases h1 : okG g
  ·rfl
  ·cases h2 : isM n
   ·rfl
   ·obtain ⟨n0, n1⟩ := isM_iff.1 h2
    have k1 : decide (List.length (bif true then smallsG g else []) ≤ 4) = true := decide_eq_true smalls_four
    have hl := len_upTo (c := smallsG g) smalls_four (n := n.toNat) (by omega)
    have k2 : pre_iaw (upTo (bif true then smallsG g else []) n.toNat) ((upTo (bif true then smallsG g else []) n.toNat).length : Int) 0 g [] = true := by
     simp only [pre_iaw, andd, dec_iff]
     exact ⟨Int.le_refl 0, trivial, h1, few_upTo (by omega), by show (upTo (smallsG g) n.toNat).length ≤ 100000; omega, by show 0 ≤ 60; omega⟩
    rw [k1, k2]
    exact congrArg (fun z : List Str => (some (.d (.one (.r (.li .str z))), []) : Option Fin)) (takeF_filter (f := isD g) (l := upTo (smallsG g) n.toNat) (o := []) (by show 0 ≤ 60; omega)))
noncomputable def c_impl_AllWords : Con := conT [TG, TI64] fun (g : Gram) (n : Int) => (none, .d (ofD (.list .str) (wordsG g n)))
theorem k_impl_AllWords : ConOk Tryd.prog 51 c_impl_AllWords := conT_ok Tryd.call51 fun g hg n hn _ => s_impl_AllWords g hg n hn
noncomputable def Γ72 : List (Nat × Con) := (51, c_impl_AllWords) :: Γ71
theorem Γ72ok : EnvOk Tryd.prog (look Γ72) := .cons k_impl_AllWords Γ71ok
noncomputable def cb_icw : Cx := (cxOf Γ72 Tryd.f48.ntmps [(5, [1, 2, 5, 19, 20, 21])] [(0, [5]), (1, [1, 2, 5, 19, 20, 21]), (1000000, [4])] [] []).parted [1, 7]
theorem x_impl_CountWords (g : Gram) (l : List Str) (m k n i : Int) (R : St → Option Fin) (K : Cont) : evC (cb_icw.withLoops (look [])) (loopOf Tryd.f48 0) ⟨[(1, vI m), (2, .d (.one (.ptr 500000 0))), (5, vI k), (19, .d (ofD TSS l)), (20, vI n), (21, vI i)], [(500000, some (boxD 25 TG g))]⟩ (onward (headAt (cb_icw.withLoops (look [])) 5) R K) = (
branch (decide (i < n)) (
 need (inb i l.length) <|
 branch (decide (decide ((List.length (l.getD i.toNat ([] : Str)) : Int) = m) = true)) (
 need (okRs g.snd && (List.length (l.getD i.toNat ([] : Str))).ble 1000) <|
 branch (bif true then derB (l.getD i.toNat ([] : Str)) (chartM (l.getD i.toNat ([] : Str)) g.snd) g.fst 0 (List.length (l.getD i.toNat ([] : Str)) : Int) else false) ( R (.mk [(1, (vI m)), (2, (.d (.one (.ptr 500000 0)))), (5, (vI (W64 (k + 1)))), (19, (.d (.one (.r (.li (Ty.str) (l)))))), (20, (vI n)), (21, (vI (W64 (i + 1))))] [(500000, (.some (.box 25 [(.r (.v (Value.string (mk g.fst)))), (.r (.li TRu (g.snd)))])))])) ( R (.mk [(1, (vI m)), (2, (.d (.one (.ptr 500000 0)))), (5, (vI k)), (19, (.d (.one (.r (.li (Ty.str) (l)))))), (20, (vI n)), (21, (vI (W64 (i + 1))))] [(500000, (.some (.box 25 [(.r (.v (Value.string (mk g.fst)))), (.r (.li TRu (g.snd)))])))]))) ( R (.mk [(1, (vI m)), (2, (.d (.one (.ptr 500000 0)))), (5, (vI k)), (19, (.d (.one (.r (.li (Ty.str) (l)))))), (20, (vI n)), (21, (vI (W64 (i + 1))))] [(500000, (.some (.box 25 [(.r (.v (Value.string (mk g.fst)))), (.r (.li TRu (g.snd)))])))]))) ( K (.exit 0) (.mk [(5, (vI k))] []))) := by kernel_rfl
noncomputable def cx0_icw : Cx := (cb_icw).withLoops (look [])
def sh_icw : Sh := ([(1, .d TI64), (2, .ptr 500000 0), (5, .d TI64), (19, .d TSS), (20, .d TI64), (21, .d TI64)], [(500000, .box 25 TG)])
def pre_icw (_m : Int) (k : Int) (l : List Str) (n : Int) (i : Int) (g : Gram) : Bool := decide (0 ≤ i) && (decide (n = (List.length l : Int)) && (okG g && (fewS l && (decide (List.length l ≤ 100000) && (decide (0 ≤ k) && decide (k ≤ i))))))
noncomputable def res_icw (m : Int) (k : Int) (l : List Str) (_n : Int) (i : Int) (g : Gram) (K : Cont) : Option Fin := K (.exit 0) ⟨[(5, vI (cntF (fun w => decide ((List.length w : Int) = m) && isD g w) (List.drop i.toNat l) k))], []⟩
def mu_icw (_m : Int) (_k : Int) (l : List Str) (_n : Int) (i : Int) (_g : Gram) : Nat := List.length l - i.toNat
theorem r_icw (m : Int) (k : Int) (l : List Str) (n : Int) (i : Int) (g : Gram) (K : Cont) (hI : pre_icw m k l n i g = true) : (∀ R : St → Option Fin, evC cx0_icw (loopOf Tryd.f48 0) ⟨[(1, .d (ofD TI64 m)), (2, .d (.one (.ptr 500000 0))), (5, .d (ofD TI64 k)), (19, .d (ofD TSS l)), (20, .d (ofD TI64 n)), (21, .d (ofD TI64 i))], [(500000, some (boxD 25 TG g))]⟩ (onward (headAt cx0_icw 5) R K) = res_icw m k l n i g K) ∨
  (∃ (m' : Int) (k' : Int) (l' : List Str) (n' : Int) (i' : Int) (g' : Gram), pre_icw m' k' l' n' i' g' = true ∧ mu_icw m' k' l' n' i' g' < mu_icw m k l n i g ∧ res_icw m' k' l' n' i' g' K = res_icw m k l n i g K ∧ ∀ R : St → Option Fin, evC cx0_icw (loopOf Tryd.f48 0) ⟨[(1, .d (ofD TI64 m)), (2, .d (.one (.ptr 500000 0))), (5, .d (ofD TI64 k)), (19, .d (ofD TSS l)), (20, .d (ofD TI64 n)), (21, .d (ofD TI64 i))], [(500000, some (boxD 25 TG g))]⟩ (onward (headAt cx0_icw 5) R K) = R ⟨[(1, .d (ofD TI64 m')), (2, .d (.one (.ptr 500000 0))), (5, .d (ofD TI64 k')), (19, .d (ofD TSS l')), (20, .d (ofD TI64 n')), (21, .d (ofD TI64 i'))], [(500000, some (boxD 25 TG g'))]⟩) := by
 have hx := fun R => x_impl_CountWords g l m k n i R K
 simp only [pre_icw, andd, dec_iff] at hI
 obtain ⟨h0, rfl, h1, h2, h3, h4, h5⟩ := hI
 by_cases hi : i < (List.length l : Int)
 ·have w : W64 (i + 1) = i + 1 := wrap_small (by omega) (by omega)
  have w2 : W64 (k + 1) = k + 1 := wrap_small (by omega) (by omega)
  have hw := List.all_eq_true.1 h2 _ (getD_mem (d := ([] : Str)) (by omega : i.toNat < List.length l))
  have hg := dropS_at h0 hi
  have kk : (okRs g.2 && (List.length (l.getD i.toNat ([] : Str))).ble 1000) = true := andd.2 ⟨ok_rs h1, hw⟩
  have ht : cntF (fun w => decide ((List.length w : Int) = m) && isD g w) (List.drop i.toNat l) k = cntF (fun w => decide ((List.length w : Int) = m) && isD g w) (List.drop (i + 1).toNat l) (bif decide ((List.length (List.getD l i.toNat []) : Int) = m) && isD g (List.getD l i.toNat []) then k + 1 else k) := by rw [hg]; rfl
  rw [decide_eq_true hi, inb_ok h0 hi, kk, w, w2] at hx
  right
  cases hm : decide ((List.length (List.getD l i.toNat []) : Int) = m)
  ·rw [hm] at hx
   rw [hm, Bool.false_and, cond_false] at ht
   refine ⟨m, k, l, (List.length l : Int), i + 1, g, ?_, ?_, ?_, fun R => hx R⟩
   ·simp only [pre_icw, andd, dec_iff]
    exact ⟨by omega, trivial, h1, h2, h3, h4, by omega⟩
   ·simp only [mu_icw]; omega
   ·simp only [res_icw, ht]
  ·rw [hm] at hx
   rw [hm, Bool.true_and] at ht
   change ∀ R : St → Option Fin, _ = branch (isD g (List.getD l i.toNat [])) _ _ at hx
   cases hc : isD g (List.getD l i.toNat [])
   ·rw [hc] at hx ht
    refine ⟨m, k, l, (List.length l : Int), i + 1, g, ?_, ?_, ?_, fun R => hx R⟩
    ·simp only [pre_icw, andd, dec_iff]
     exact ⟨by omega, trivial, h1, h2, h3, h4, by omega⟩
    ·simp only [mu_icw]; omega
    ·simp only [res_icw, ht]; rfl
   ·rw [hc] at hx ht
    refine ⟨m, k + 1, l, (List.length l : Int), i + 1, g, ?_, ?_, ?_, fun R => hx R⟩
    ·simp only [pre_icw, andd, dec_iff]
     exact ⟨by omega, trivial, h1, h2, h3, by omega, by omega⟩
    ·simp only [mu_icw]; omega
    ·simp only [res_icw, ht]; rfl
 ·left
  intro R
  refine (hx R).trans ?_
  rw [decide_eq_false hi]
  have e : List.drop i.toNat l = [] := List.drop_eq_nil_of_le (by omega)
  simp only [res_icw, e]; rfl
noncomputable def g_icw : St → Cont → Option Fin := gP sh_icw (fun v => match v with | ((m, k, l, n, i, ()), (g, ())) => pre_icw m k l n i g) (fun v K => match v with | ((m, k, l, n, i, ()), (g, ())) => res_icw m k l n i g K)
noncomputable def L_icw : List (Nat × (St → Cont → Option Fin)) := (5, g_icw) :: []
noncomputable def cx_icw : Cx := (cb_icw).withLoops (look L_icw)
theorem l_icw {L : List (Nat × (St → Cont → Option Fin))} (n : Nat) (h1 : L.drop n = []) (h2 : idsFree (L.take n) (loopOf Tryd.f48 0) = true) : ∀ st K r, g_icw st K = some r → ∃ N, iter (evC ((cb_icw).withLoops (look L)) (loopOf Tryd.f48 0)) (headAt ((cb_icw).withLoops (look L)) 5) N st K = some r :=
 with_drop h1 h2 (gP_ok (fun v => match v with | ((m, k, l, n, i, ()), (g, ())) => mu_icw m k l n i g) fun v K hI => by
  obtain ⟨⟨(m : Int), (k : Int), (l : List Str), (n : Int), (i : Int), ⟨⟩⟩, ⟨(g : Gram), ⟨⟩⟩⟩ := v
  rcases r_icw m k l n i g K hI with h1 | ⟨m', k', l', n', i', g', h1, h2, h3, h4⟩
  ·exact .inl h1
  ·exact .inr ⟨((m', k', l', n', i', ()), (g', ())), h1, h2, h3, h4⟩)
def countG (g : Gram) (n : Int) : Int := bif okG g && isM n then cntF (isD g) (levW (smallsG g) n.toNat) 0 else 0
theorem count_upTo {f : Str → Bool} {c : Str} : ∀ {n : Nat}, cntF (fun w => decide ((List.length w : Int) = (n : Int)) && f w) (upTo c n) 0 = cntF f (levW c n) 0
 | 0 => rfl
 | n + 1 => by
  unfold upTo
  rw [cntF_app, cntF_none (l := upTo c n) (fun w hw => by
   have := (mem_upTo.1 hw).1
   rw [decide_eq_false (by omega)]; rfl)]
  exact cntF_congr fun w hw => by
   have := ((mem_levW (w := w)).1 hw).1
   rw [decide_eq_true (by omega)]; rfl
theorem y_impl_CountWords (g : Gram) (n : Int) : evFn cx_icw Tryd.f48 true [ofD TG g, ofD TI64 n] [] = (
branch (decide ((!okG g) = false)) (
 branch (bif false then true else !isM n) ( some ((vI 0), [])) (
 need (decide ((List.length (bif okG g then smallsG g else [])) ≤ 4) && isM n) <|
 need (pre_icw n 0 (upTo (bif okG g then smallsG g else []) n.toNat) (((upTo (bif okG g then smallsG g else []) n.toNat).length : Int)) 0 g) <| some ((vI (cntF (fun w => decide ((w.length : Int) = n) && isD g w) (id (upTo (bif okG g then smallsG g else []) n.toNat)) 0)), []))) ( some ((vI 0), []))) := by kernel_rfl
theorem s_impl_CountWords (g : Gram) (_hg : Fit TG g) (n : Int) (_hn : Fit TI64 n) : Sat Tryd.prog 48 [ofD TG g, ofD TI64 n] [] (.d (ofD TI64 (countG g n))) [] :=
 fn_sound (cx := cx_icw) Tryd.func48 rfl ttOk Γ72ok mixed (fun c hc => LoopsOk.all (l := [(5, loopOf Tryd.f48 0)]) (by cases hc; kernel_rfl) ⟨atLoop rfl (l_icw 1 rfl (by kernel_rfl)), trivial⟩) (ro := true) (by
  rw [y_impl_CountWords]
  unfold countG
  cases h1 : okG g
  ·rfl
  ·cases h2 : isM n
   ·rfl
   ·obtain ⟨n0, n1⟩ := isM_iff.1 h2
    have k1 : decide (List.length (bif true then smallsG g else []) ≤ 4) = true := decide_eq_true smalls_four
    have hl := len_upTo (c := smallsG g) smalls_four (n := n.toNat) (by omega)
    have k2 : pre_icw n 0 (upTo (bif true then smallsG g else []) n.toNat) ((upTo (bif true then smallsG g else []) n.toNat).length : Int) 0 g = true := by
     simp only [pre_icw, andd, dec_iff]
     exact ⟨Int.le_refl 0, trivial, h1, few_upTo (by omega), by show (upTo (smallsG g) n.toNat).length ≤ 100000; omega, Int.le_refl _, Int.le_refl _⟩
    have e : cntF (fun w => decide ((List.length w : Int) = n) && isD g w) (upTo (smallsG g) n.toNat) 0 = cntF (isD g) (levW (smallsG g) n.toNat) 0 := by
     have := count_upTo (f := isD g) (c := smallsG g) (n := n.toNat)
     rw [show ((n.toNat : Nat) : Int) = n by omega] at this
     exact this
    rw [k1, k2]
    exact congrArg (fun z : Int => (some (.d (ofD TI64 z), []) : Option Fin)) e)
noncomputable def c_impl_CountWords : Con := conT [TG, TI64] fun (g : Gram) (n : Int) => (none, .d (ofD TI64 (countG g n)))
theorem k_impl_CountWords : ConOk Tryd.prog 48 c_impl_CountWords := conT_ok Tryd.call48 fun g hg n hn _ => s_impl_CountWords g hg n hn
noncomputable def Γ73 : List (Nat × Con) := (48, c_impl_CountWords) :: Γ72
theorem Γ73ok : EnvOk Tryd.prog (look Γ73) := .cons k_impl_CountWords Γ72ok
noncomputable def cb_many : Cx := cxOf Γ73 Tryd.f115.ntmps [(2, [0, 1, 5])] [(0, [5]), (1, [0, 1, 5]), (1000000, [4])] [] []
theorem x_spec_l17Many (s o : Str) (n : Int) (R : St → Option Fin) (K : Cont) : evC (cb_many.withLoops (look [])) (loopOf Tryd.f115 0) ⟨[(0, vS s), (1, vI n), (5, vS o)], []⟩ (onward (headAt (cb_many.withLoops (look [])) 2) R K) = (
branch (decide (0 < n)) (
 branch (decide (n.tmod 2 = 1)) (
 need (decide ((List.length o + List.length s) ≤ 9223372036854775807)) <|
 need (decide ((List.length s + List.length s) ≤ 9223372036854775807)) <| R (.mk [(0, (vS (List.append s s))), (1, (vI (W64 (n.tdiv 2)))), (5, (vS (List.append o s)))] [])) (
 need (decide ((List.length s + List.length s) ≤ 9223372036854775807)) <| R (.mk [(0, (vS (List.append s s))), (1, (vI (W64 (n.tdiv 2)))), (5, (vS o))] []))) ( K (.exit 0) (.mk [(5, (vS o))] []))) := by kernel_rfl
def rep (n : Nat) (c : UInt8) : Str := List.replicate n c
theorem rep_step {L m : Nat} {c : UInt8} {o : Str} : (bif decide (m % 2 = 1) then o ++ rep L c else o) ++ rep (m / 2 * (2 * L)) c = o ++ rep (m * L) c := by
 have e : m * L = m % 2 * L + m / 2 * (2 * L) := by
  have h := Nat.div_add_mod m 2
  have h2 : (2 * (m / 2) + m % 2) * L = m % 2 * L + m / 2 * (2 * L) := by rw [Nat.add_mul, Nat.mul_comm 2 (m / 2), Nat.mul_assoc, Nat.add_comm]
  rw [h] at h2
  exact h2
 unfold rep
 by_cases h : m % 2 = 1
 ·rw [decide_eq_true h, cond_true, e, h, Nat.one_mul, List.append_assoc, List.replicate_append_replicate]
 ·rw [decide_eq_false h, cond_false, e, show m % 2 = 0 by omega, Nat.zero_mul, Nat.zero_add]
noncomputable def cx0_many : Cx := (cb_many).withLoops (look [])
def sh_many : Sh := ([(0, .d .str), (1, .d TI64), (5, .d .str)], [])
def pre_many (s : Str) (n : Int) (o : Str) : Bool := decide (0 ≤ n) && (decide (s = rep (List.length s) (s.headD 0)) && (decide (0 < List.length s) && (decide (n.toNat * List.length s ≤ 200) && decide ((List.length o : Int) + n * 200 ≤ 1000000))))
noncomputable def res_many (s : Str) (n : Int) (o : Str) (K : Cont) : Option Fin := K (.exit 0) ⟨[(5, vS (o ++ rep (n.toNat * List.length s) (s.headD 0)))], []⟩
def mu_many (_s : Str) (n : Int) (_o : Str) : Nat := n.toNat
theorem r_many (s : Str) (n : Int) (o : Str) (K : Cont) (hI : pre_many s n o = true) : (∀ R : St → Option Fin, evC cx0_many (loopOf Tryd.f115 0) ⟨[(0, .d (ofD .str s)), (1, .d (ofD TI64 n)), (5, .d (ofD .str o))], []⟩ (onward (headAt cx0_many 2) R K) = res_many s n o K) ∨
  (∃ (s' : Str) (n' : Int) (o' : Str), pre_many s' n' o' = true ∧ mu_many s' n' o' < mu_many s n o ∧ res_many s' n' o' K = res_many s n o K ∧ ∀ R : St → Option Fin, evC cx0_many (loopOf Tryd.f115 0) ⟨[(0, .d (ofD .str s)), (1, .d (ofD TI64 n)), (5, .d (ofD .str o))], []⟩ (onward (headAt cx0_many 2) R K) = R ⟨[(0, .d (ofD .str s')), (1, .d (ofD TI64 n')), (5, .d (ofD .str o'))], []⟩) := by
 have hx := fun R => x_spec_l17Many s o n R K
 simp only [pre_many, andd, dec_iff] at hI
 obtain ⟨h0, h1, h2, h3, h4⟩ := hI
 by_cases hn : 0 < n
 ·have hL : List.length s ≤ 200 := by
   have := Nat.mul_le_mul_right (List.length s) (show 1 ≤ n.toNat by omega)
   omega
  have w : W64 (n.tdiv 2) = ((n.toNat / 2 : Nat) : Int) := by
   have e : n.tdiv 2 = ((n.toNat / 2 : Nat) : Int) := by
    rw [Int.tdiv_eq_ediv_of_nonneg h0]; omega
   rw [e]
   exact wrap_small (by omega) (by omega)
  have hm : decide (n.tmod 2 = 1) = decide (n.toNat % 2 = 1) := by
   rw [Int.tmod_eq_emod_of_nonneg h0]
   rw [decide_eq_decide]; omega
  have hd : List.append s s = rep (2 * List.length s) (s.headD 0) := by
   show s ++ s = _
   rw [h1]
   unfold rep
   rw [List.replicate_append_replicate, List.length_replicate, Nat.two_mul]
   congr 1
   cases hs : List.length s with
   | zero => omega
   | succ k => rw [List.replicate_succ]; rfl
  have hdl : List.length (List.append s s) = 2 * List.length s := by
   show (s ++ s).length = _
   rw [List.length_append]; omega
  have hdh : (List.append s s).headD 0 = s.headD 0 := by
   cases s with
   | nil => exact absurd h2 (Nat.lt_irrefl 0)
   | cons c s => rfl
  have hst := rep_step (L := List.length s) (m := n.toNat) (c := s.headD 0) (o := o)
  have h3' : n.toNat / 2 * (2 * List.length s) ≤ 200 := by
   have e : n.toNat / 2 * (2 * List.length s) = (n.toNat / 2 * 2) * List.length s := by rw [Nat.mul_assoc]
   rw [e]
   exact Nat.le_trans (Nat.mul_le_mul_right _ (Nat.div_mul_le_self _ _)) h3
  rw [decide_eq_true hn, w, hm, decide_eq_true (by omega : List.length o + List.length s ≤ 9223372036854775807), decide_eq_true (by omega : List.length s + List.length s ≤ 9223372036854775807)] at hx
  right
  cases hc : decide (n.toNat % 2 = 1)
  ·rw [hc, cond_false] at hst
   rw [hc] at hx
   refine ⟨List.append s s, ((n.toNat / 2 : Nat) : Int), o, ?_, ?_, ?_, fun R => hx R⟩
   ·simp only [pre_many, andd, dec_iff]
    rw [hdl, hdh, Int.toNat_natCast]
    exact ⟨by omega, hd, by omega, h3', by omega⟩
   ·simp only [mu_many]; omega
   ·simp only [res_many]
    rw [hdl, hdh, Int.toNat_natCast, hst]
  ·rw [hc, cond_true] at hst
   rw [hc] at hx
   refine ⟨List.append s s, ((n.toNat / 2 : Nat) : Int), o ++ s, ?_, ?_, ?_, fun R => hx R⟩
   ·simp only [pre_many, andd, dec_iff]
    rw [hdl, hdh, Int.toNat_natCast, List.length_append]
    exact ⟨by omega, hd, by omega, h3', by omega⟩
   ·simp only [mu_many]; omega
   ·simp only [res_many]
    rw [← h1] at hst
    rw [hdl, hdh, Int.toNat_natCast, hst]
 ·left
  intro R
  refine (hx R).trans ?_
  rw [decide_eq_false hn]
  have e : n.toNat = 0 := by omega
  have e2 : o ++ rep (0 * List.length s) (s.headD 0) = o := by rw [Nat.zero_mul]; exact List.append_nil o
  simp only [res_many, e, e2]; rfl
noncomputable def g_many : St → Cont → Option Fin := gP sh_many (fun v => match v with | ((s, n, o, ()), ()) => pre_many s n o) (fun v K => match v with | ((s, n, o, ()), ()) => res_many s n o K)
noncomputable def L_many : List (Nat × (St → Cont → Option Fin)) := (2, g_many) :: []
noncomputable def cx_many : Cx := (cb_many).withLoops (look L_many)
theorem l_many {L : List (Nat × (St → Cont → Option Fin))} (n : Nat) (h1 : L.drop n = []) (h2 : idsFree (L.take n) (loopOf Tryd.f115 0) = true) : ∀ st K r, g_many st K = some r → ∃ N, iter (evC ((cb_many).withLoops (look L)) (loopOf Tryd.f115 0)) (headAt ((cb_many).withLoops (look L)) 2) N st K = some r :=
 with_drop h1 h2 (gP_ok (fun v => match v with | ((s, n, o, ()), ()) => mu_many s n o) fun v K hI => by
  obtain ⟨⟨(s : Str), (n : Int), (o : Str), ⟨⟩⟩, ⟨⟩⟩ := v
  rcases r_many s n o K hI with h1 | ⟨s', n', o', h1, h2, h3, h4⟩
  ·exact .inl h1
  ·exact .inr ⟨((s', n', o', ()), ()), h1, h2, h3, h4⟩)
theorem y_spec_l17Many (s : Str) (n : Int) : evFn cx_many Tryd.f115 true [ofD .str s, ofD TI64 n] [] = (
need (pre_many s n ([] : Str)) <| some ((vS (([] : Str).append (rep (n.toNat * List.length s) (List.headD s 0)))), [])) := by kernel_rfl
theorem s_spec_l17Many (s : Str) (_hs : Fit .str s) (n : Int) (_hn : Fit TI64 n) (hpre : (decide (List.length s = 1) && (decide (0 ≤ n) && decide (n ≤ 100))) = true) : Sat Tryd.prog 115 [ofD .str s, ofD TI64 n] [] (.d (ofD .str (rep n.toNat (s.headD 0)))) [] :=
 fn_sound (cx := cx_many) Tryd.func115 rfl ttOk Γ73ok mixed (fun c hc => LoopsOk.all (l := [(2, loopOf Tryd.f115 0)]) (by cases hc; kernel_rfl) ⟨atLoop rfl (l_many 1 rfl (by kernel_rfl)), trivial⟩) (ro := true) (by
  simp only [andd, dec_iff] at hpre
  obtain ⟨h1, h2, h3⟩ := hpre
  obtain ⟨c, rfl⟩ := List.length_eq_one_iff.1 h1
  have kp : pre_many [c] n [] = true := by
   simp only [pre_many, andd, dec_iff]
   exact ⟨h2, rfl, Nat.one_pos, by show n.toNat * 1 ≤ 200; omega, by show ((0 : Nat) : Int) + n * 200 ≤ 1000000; omega⟩
  rw [y_spec_l17Many, kp]
  exact congrArg (fun z : Str => (some (.d (ofD .str z), []) : Option Fin)) (show [] ++ rep (n.toNat * 1) c = rep n.toNat c by rw [Nat.mul_one]; rfl))
noncomputable def c_spec_l17Many : Con := conT [.str, TI64] fun (s : Str) (n : Int) => (some (decide (List.length s = 1) && (decide (0 ≤ n) && decide (n ≤ 100))), .d (ofD .str (rep n.toNat (s.headD 0))))
theorem k_spec_l17Many : ConOk Tryd.prog 115 c_spec_l17Many := conT_ok Tryd.call115 fun s hs n hn hqq => s_spec_l17Many s hs n hn (pre_of hqq)
noncomputable def Γ74 : List (Nat × Con) := (115, c_spec_l17Many) :: Γ73
theorem Γ74ok : EnvOk Tryd.prog (look Γ74) := .cons k_spec_l17Many Γ73ok
noncomputable def cb_next : Cx := cxOf Γ74 Tryd.f116.ntmps [(5, [0, 1, 5, 6]), (2, [0, 1, 5])] [(0, [0, 1]), (1, [0, 1, 5]), (2, [0, 1, 5, 6]), (3, [0, 1, 5, 6]), (1000000, [4])] [] []
theorem x_spec_l4Next_1 (c t : Str) (i k : Int) (R : St → Option Fin) (K : Cont) : evC (cb_next.withLoops (look [])) (loopOf Tryd.f116 1) ⟨[(0, vS c), (1, vS t), (5, vI i), (6, vI k)], []⟩ (onward (headAt (cb_next.withLoops (look [])) 5) R K) = (
need (inb k c.length) <|
need (inb i t.length) <|
branch (!decide (byteAt c k = byteAt t i)) ( R (.mk [(0, (vS c)), (1, (vS t)), (5, (vI i)), (6, (vI (W64 (k + 1))))] [])) ( K (.exit 2) (.mk [(0, (vS c)), (1, (vS t)), (5, (vI i)), (6, (vI k))] []))) := by kernel_rfl
theorem succ_getD : ∀ {c : Str} {x : UInt8}, x ∈ c → succS c x = c[c.idxOf x + 1]?
 | [], _, h => by cases h
 | a :: l, x, h => by
  unfold succS
  by_cases e : a = x
  ·subst e
   rw [decide_eq_true rfl, cond_true, List.idxOf_cons_self]
   cases l <;> rfl
  ·rw [decide_eq_false e, cond_false, List.idxOf_cons, beq_eq_false_iff_ne.2 e, cond_false]
   rcases List.mem_cons.1 h with h | h
   ·exact absurd h.symm e
   ·exact succ_getD h
theorem idx_less : ∀ {c : Str} {x : UInt8} {k : Nat}, k < c.idxOf x → c.getD k 0 ≠ x
 | [], _, k, h => by cases h
 | a :: l, x, k, h => by
  rw [List.idxOf_cons] at h
  by_cases e : a = x
  ·rw [beq_iff_eq.2 e, cond_true] at h
   omega
  ·rw [beq_eq_false_iff_ne.2 e, cond_false] at h
   cases k with
   | zero => exact e
   | succ k => exact idx_less (c := l) (by omega)
theorem idx_at {c : Str} {x : UInt8} (h : x ∈ c) : c.getD (c.idxOf x) 0 = x := by
 have h1 := List.idxOf_lt_length_of_mem h
 rw [List.getD_eq_getElem?_getD, List.getElem?_eq_getElem h1]
 exact List.getElem_idxOf h1
noncomputable def cx0_nx2 : Cx := (cb_next).withLoops (look [])
def sh_nx2 : Sh := ([(0, .d .str), (1, .d .str), (5, .d TI64), (6, .d TI64)], [])
def pre_nx2 (c : Str) (t : Str) (i : Int) (k : Int) : Bool := decide (0 ≤ k) && (decide (0 ≤ i) && (decide (i < (List.length t : Int)) && (decide (List.getD t i.toNat 0 ∈ c) && (decide (k ≤ (c.idxOf (List.getD t i.toNat 0) : Int)) && decide (List.length c ≤ 1000)))))
noncomputable def res_nx2 (c : Str) (t : Str) (i : Int) (_k : Int) (K : Cont) : Option Fin := K (.exit 2) ⟨[(0, vS c), (1, vS t), (5, vI i), (6, vI (c.idxOf (List.getD t i.toNat 0) : Int))], []⟩
def mu_nx2 (c : Str) (t : Str) (i : Int) (k : Int) : Nat := c.idxOf (List.getD t i.toNat 0) - k.toNat
theorem r_nx2 (c : Str) (t : Str) (i : Int) (k : Int) (K : Cont) (hI : pre_nx2 c t i k = true) : (∀ R : St → Option Fin, evC cx0_nx2 (loopOf Tryd.f116 1) ⟨[(0, .d (ofD .str c)), (1, .d (ofD .str t)), (5, .d (ofD TI64 i)), (6, .d (ofD TI64 k))], []⟩ (onward (headAt cx0_nx2 5) R K) = res_nx2 c t i k K) ∨
  (∃ (c' : Str) (t' : Str) (i' : Int) (k' : Int), pre_nx2 c' t' i' k' = true ∧ mu_nx2 c' t' i' k' < mu_nx2 c t i k ∧ res_nx2 c' t' i' k' K = res_nx2 c t i k K ∧ ∀ R : St → Option Fin, evC cx0_nx2 (loopOf Tryd.f116 1) ⟨[(0, .d (ofD .str c)), (1, .d (ofD .str t)), (5, .d (ofD TI64 i)), (6, .d (ofD TI64 k))], []⟩ (onward (headAt cx0_nx2 5) R K) = R ⟨[(0, .d (ofD .str c')), (1, .d (ofD .str t')), (5, .d (ofD TI64 i')), (6, .d (ofD TI64 k'))], []⟩) := by
 have hx := fun R => x_spec_l4Next_1 c t i k R K
 simp only [pre_nx2, andd, dec_iff] at hI
 obtain ⟨h0, h1, h2, h3, h4, h5⟩ := hI
 have hl := List.idxOf_lt_length_of_mem h3
 have w : W64 (k + 1) = k + 1 := wrap_small (by omega) (by omega)
 have hb : decide (byteAt c k = byteAt t i) = decide (List.getD c k.toNat 0 = List.getD t i.toNat 0) := by
  rw [at_byte, at_byte, decide_eq_decide]
  constructor
  ·intro h; exact UInt8.toNat_inj.1 (by omega)
  ·intro h; rw [h]
 rw [inb_ok h0 (by omega), inb_ok h1 h2, hb, w] at hx
 by_cases he : k = (c.idxOf (List.getD t i.toNat 0) : Int)
 ·left
  intro R
  refine (hx R).trans ?_
  have hk : k.toNat = c.idxOf (List.getD t i.toNat 0) := by omega
  rw [decide_eq_true (by rw [hk]; exact idx_at h3)]
  simp only [res_nx2, ← he]; rfl
 ·right
  have hk : k.toNat < c.idxOf (List.getD t i.toNat 0) := by omega
  rw [decide_eq_false (idx_less hk)] at hx
  refine ⟨c, t, i, k + 1, ?_, ?_, rfl, fun R => hx R⟩
  ·simp only [pre_nx2, andd, dec_iff]
   exact ⟨by omega, h1, h2, h3, by omega, h5⟩
  ·simp only [mu_nx2]; omega
noncomputable def g_nx2 : St → Cont → Option Fin := gP sh_nx2 (fun v => match v with | ((c, t, i, k, ()), ()) => pre_nx2 c t i k) (fun v K => match v with | ((c, t, i, k, ()), ()) => res_nx2 c t i k K)
noncomputable def L_nx2 : List (Nat × (St → Cont → Option Fin)) := (5, g_nx2) :: []
noncomputable def cx_nx2 : Cx := (cb_next).withLoops (look L_nx2)
theorem l_nx2 {L : List (Nat × (St → Cont → Option Fin))} (n : Nat) (h1 : L.drop n = []) (h2 : idsFree (L.take n) (loopOf Tryd.f116 1) = true) : ∀ st K r, g_nx2 st K = some r → ∃ N, iter (evC ((cb_next).withLoops (look L)) (loopOf Tryd.f116 1)) (headAt ((cb_next).withLoops (look L)) 5) N st K = some r :=
 with_drop h1 h2 (gP_ok (fun v => match v with | ((c, t, i, k, ()), ()) => mu_nx2 c t i k) fun v K hI => by
  obtain ⟨⟨(c : Str), (t : Str), (i : Int), (k : Int), ⟨⟩⟩, ⟨⟩⟩ := v
  rcases r_nx2 c t i k K hI with h1 | ⟨c', t', i', k', h1, h2, h3, h4⟩
  ·exact .inl h1
  ·exact .inr ⟨((c', t', i', k', ()), ()), h1, h2, h3, h4⟩)
theorem x_spec_l4Next (c t : Str) (i : Int) (R : St → Option Fin) (K : Cont) : evC (cb_next.withLoops (look L_nx2)) (loopOf Tryd.f116 0) ⟨[(0, vS c), (1, vS t), (5, vI i)], []⟩ (onward (headAt (cb_next.withLoops (look L_nx2)) 2) R K) = (
branch (decide (0 ≤ i)) (
 need (pre_nx2 c t i 0) <|
 branch (decide (W64 ((List.idxOf (List.getD t i.toNat 0) c : Int) + 1) < (c.length : Int))) (
 need (inr 0 i t.length) <|
 need (inr (W64 ((List.idxOf (List.getD t i.toNat 0) c : Int) + 1)) (W64 ((List.idxOf (List.getD t i.toNat 0) c : Int) + 2)) c.length) <|
 need (decide (((List.take i.toNat t).length + (List.take ((W64 ((List.idxOf (List.getD t i.toNat 0) c : Int) + 2)).toNat - (W64 ((List.idxOf (List.getD t i.toNat 0) c : Int) + 1)).toNat) (List.drop (W64 ((List.idxOf (List.getD t i.toNat 0) c : Int) + 1)).toNat c)).length) ≤ 9223372036854775807)) <|
 need (inr 0 1 c.length) <|
 need (decide ((List.take (Int.toNat 1 - (0 : Int).toNat) c).length = 1) && (decide (0 ≤ W64 (W64 ((t.length : Int) - 1) - i)) && decide (W64 (W64 ((t.length : Int) - 1) - i) ≤ 100))) <|
 need (decide ((((List.take i.toNat t).append (List.take ((W64 ((List.idxOf (List.getD t i.toNat 0) c : Int) + 2)).toNat - (W64 ((List.idxOf (List.getD t i.toNat 0) c : Int) + 1)).toNat) (List.drop (W64 ((List.idxOf (List.getD t i.toNat 0) c : Int) + 1)).toNat c))).length + List.length (rep (W64 (W64 ((t.length : Int) - 1) - i)).toNat ((List.take (Int.toNat 1 - (0 : Int).toNat) c).headD 0))) ≤ 9223372036854775807)) <| K (.ret) (.mk [(4, (vS (((List.take i.toNat t).append (List.take ((W64 ((List.idxOf (List.getD t i.toNat 0) c : Int) + 2)).toNat - (W64 ((List.idxOf (List.getD t i.toNat 0) c : Int) + 1)).toNat) (List.drop (W64 ((List.idxOf (List.getD t i.toNat 0) c : Int) + 1)).toNat c))).append (rep (W64 (W64 ((t.length : Int) - 1) - i)).toNat ((List.take (Int.toNat 1 - (0 : Int).toNat) c).headD 0)))))] [])) ( R (.mk [(0, (vS c)), (1, (vS t)), (5, (vI (W64 (i - 1))))] []))) ( K (.exit 0) (.mk [(0, (vS c)), (1, (vS t))] []))) := by kernel_rfl
def anyS (c t : Str) (i : Int) : Bool := List.any (List.take (i + 1).toNat t) fun x => (succS c x).isSome
theorem nextW_all {c : Str} : ∀ {n : Nat} {w : Str}, w.length = n → List.any w (fun x => (succS c x).isSome) = false → nextW c w = rep (n + 1) (c.headD 0)
 | 0, w, hw, _ => by
  rw [List.length_eq_zero_iff.1 hw]; rfl
 | n + 1, w, hw, h => by
  obtain ⟨u, x, rfl⟩ : ∃ u x, w = u ++ [x] := by
   rcases List.eq_nil_or_concat w with rfl | ⟨u, x, rfl⟩
   ·cases hw
   ·exact ⟨u, x, by rw [List.concat_eq_append]⟩
  rw [List.any_append, Bool.or_eq_false_iff] at h
  have hx : succS c x = none := by
   have := h.2
   rw [List.any_cons, List.any_nil, Bool.or_false] at this
   cases hs : succS c x with
   | none => rfl
   | some y => rw [hs] at this; cases this
  rw [List.length_append] at hw
  rw [nextW_none hx, nextW_all (n := n) (Nat.succ.inj hw) h.1]
  unfold rep
  rw [← List.replicate_succ']
theorem rep_one {m : Nat} {c : UInt8} {w : Str} : w ++ [c] ++ rep m c = w ++ rep (m + 1) c := by
 unfold rep
 rw [List.append_assoc, List.replicate_succ]; rfl
noncomputable def cx0_nx1 : Cx := (cb_next).withLoops (look L_nx2)
def sh_nx1 : Sh := ([(0, .d .str), (1, .d .str), (5, .d TI64)], [])
def pre_nx1 (c : Str) (t : Str) (i : Int) : Bool := decide (-1 ≤ i) && (decide (i < (List.length t : Int)) && (List.all t (fun x => decide (x ∈ c)) && (decide (List.length c ≤ 1000) && (decide (List.length t ≤ 50) && decide (0 < List.length c)))))
noncomputable def res_nx1 (c : Str) (t : Str) (i : Int) (K : Cont) : Option Fin := branch (anyS c t i) (K .ret ⟨[(4, vS (nextW c (List.take (i + 1).toNat t) ++ rep ((List.length t : Int) - 1 - i).toNat (c.headD 0)))], []⟩) (K (.exit 0) ⟨[(0, vS c), (1, vS t)], []⟩)
def mu_nx1 (_c : Str) (_t : Str) (i : Int) : Nat := (i + 1).toNat
theorem r_nx1 (c : Str) (t : Str) (i : Int) (K : Cont) (hI : pre_nx1 c t i = true) : (∀ R : St → Option Fin, evC cx0_nx1 (loopOf Tryd.f116 0) ⟨[(0, .d (ofD .str c)), (1, .d (ofD .str t)), (5, .d (ofD TI64 i))], []⟩ (onward (headAt cx0_nx1 2) R K) = res_nx1 c t i K) ∨
  (∃ (c' : Str) (t' : Str) (i' : Int), pre_nx1 c' t' i' = true ∧ mu_nx1 c' t' i' < mu_nx1 c t i ∧ res_nx1 c' t' i' K = res_nx1 c t i K ∧ ∀ R : St → Option Fin, evC cx0_nx1 (loopOf Tryd.f116 0) ⟨[(0, .d (ofD .str c)), (1, .d (ofD .str t)), (5, .d (ofD TI64 i))], []⟩ (onward (headAt cx0_nx1 2) R K) = R ⟨[(0, .d (ofD .str c')), (1, .d (ofD .str t')), (5, .d (ofD TI64 i'))], []⟩) := by
 have hx := fun R => x_spec_l4Next c t i R K
 simp only [pre_nx1, andd, dec_iff] at hI
 obtain ⟨h0, h1, h2, h3, h4, h5⟩ := hI
 by_cases hi : 0 ≤ i
 ·have hn : i.toNat < List.length t := by omega
  have hm : List.getD t i.toNat 0 ∈ c := of_decide_eq_true (List.all_eq_true.1 h2 _ (getD_mem hn))
  have hk := List.idxOf_lt_length_of_mem hm
  have hs := succ_getD hm
  have kp : pre_nx2 c t i 0 = true := by
   simp only [pre_nx2, andd, dec_iff]
   exact ⟨Int.le_refl 0, hi, h1, hm, by omega, h3⟩
  have w : W64 (i - 1) = i - 1 := wrap_small (by omega) (by omega)
  have htk : List.take (i + 1).toNat t = List.take i.toNat t ++ [List.getD t i.toNat 0] := by
   rw [show (i + 1).toNat = i.toNat + 1 by omega, List.take_succ_eq_append_getElem hn, List.getD_eq_getElem?_getD, List.getElem?_eq_getElem hn]; rfl
  change ∀ R : St → Option Fin, _ = branch _ (need (pre_nx2 c t i 0) (branch (decide (W64 ((c.idxOf (List.getD t i.toNat 0) : Int) + 1) < (List.length c : Int))) _ _)) _ at hx
  have w1 : W64 ((c.idxOf (List.getD t i.toNat 0) : Int) + 1) = (c.idxOf (List.getD t i.toNat 0) : Int) + 1 := wrap_small (by omega) (by omega)
  rw [decide_eq_true hi, kp, w1, w] at hx
  by_cases hl : c.idxOf (List.getD t i.toNat 0) + 1 < List.length c
  ·left
   intro R
   refine (hx R).trans ?_
   have w2 : W64 ((c.idxOf (List.getD t i.toNat 0) : Int) + 2) = (c.idxOf (List.getD t i.toNat 0) : Int) + 1 + 1 := by
    rw [show (c.idxOf (List.getD t i.toNat 0) : Int) + 2 = (c.idxOf (List.getD t i.toNat 0) : Int) + 1 + 1 by omega]
    exact wrap_small (by omega) (by omega)
   have w3 : W64 (W64 ((List.length t : Int) - 1) - i) = (List.length t : Int) - 1 - i := by
    rw [show W64 ((List.length t : Int) - 1) = (List.length t : Int) - 1 from wrap_small (by omega) (by omega)]
    exact wrap_small (by omega) (by omega)
   have hs2 : succS c (List.getD t i.toNat 0) = some (List.getD c (c.idxOf (List.getD t i.toNat 0) + 1) 0) := by
    rw [hs, List.getElem?_eq_getElem hl]
    exact congrArg some (by rw [List.getD_eq_getElem?_getD (l := c), List.getElem?_eq_getElem hl]; rfl)
   have ha : anyS c t i = true := by
    unfold anyS
    rw [htk, List.any_append, List.any_cons, hs2]
    exact Bool.or_true _
   have hc1 : List.take (Int.toNat 1 - (0 : Int).toNat) c = [c.headD 0] := by
    cases c with
    | nil => exact absurd h5 (Nat.lt_irrefl 0)
    | cons a l => rfl
   have hsl := slice_one (s := c) (i := (c.idxOf (List.getD t i.toNat 0) : Int) + 1) (by omega) (by omega)
   have hy : List.getD c ((c.idxOf (List.getD t i.toNat 0) : Int) + 1).toNat 0 = List.getD c (c.idxOf (List.getD t i.toNat 0) + 1) 0 := by
    rw [show ((c.idxOf (List.getD t i.toNat 0) : Int) + 1).toNat = c.idxOf (List.getD t i.toNat 0) + 1 by omega]
   rw [hy] at hsl
   simp only [res_nx1]
   rw [ha, htk, nextW_some hs2]
   rw [decide_eq_true (by omega : (c.idxOf (List.getD t i.toNat 0) : Int) + 1 < (List.length c : Int))]
   change need _ (need (inr ((c.idxOf (List.getD t i.toNat 0) : Int) + 1) (W64 ((c.idxOf (List.getD t i.toNat 0) : Int) + 2)) (List.length c)) (need (decide (List.length (List.take i.toNat t) + List.length (List.take ((W64 ((c.idxOf (List.getD t i.toNat 0) : Int) + 2)).toNat - ((c.idxOf (List.getD t i.toNat 0) : Int) + 1).toNat) (List.drop ((c.idxOf (List.getD t i.toNat 0) : Int) + 1).toNat c)) ≤ 9223372036854775807)) (need _ (need (decide (List.length (List.take (Int.toNat 1 - (0 : Int).toNat) c) = 1) && (decide (0 ≤ W64 (W64 ((List.length t : Int) - 1) - i)) && decide (W64 (W64 ((List.length t : Int) - 1) - i) ≤ 100))) (need (decide (List.length (List.take i.toNat t ++ List.take ((W64 ((c.idxOf (List.getD t i.toNat 0) : Int) + 2)).toNat - ((c.idxOf (List.getD t i.toNat 0) : Int) + 1).toNat) (List.drop ((c.idxOf (List.getD t i.toNat 0) : Int) + 1).toNat c)) + List.length (rep (W64 (W64 ((List.length t : Int) - 1) - i)).toNat (List.headD (List.take (Int.toNat 1 - (0 : Int).toNat) c) 0)) ≤ 9223372036854775807)) (K .ret ⟨[(4, vS (List.take i.toNat t ++ List.take ((W64 ((c.idxOf (List.getD t i.toNat 0) : Int) + 2)).toNat - ((c.idxOf (List.getD t i.toNat 0) : Int) + 1).toNat) (List.drop ((c.idxOf (List.getD t i.toNat 0) : Int) + 1).toNat c) ++ rep (W64 (W64 ((List.length t : Int) - 1) - i)).toNat (List.headD (List.take (Int.toNat 1 - (0 : Int).toNat) c) 0)))], []⟩)))))) = _
   rw [w2, w3, hsl, hc1]
   have hr : List.length (rep ((List.length t : Int) - 1 - i).toNat (List.headD [c.headD 0] 0)) = ((List.length t : Int) - 1 - i).toNat := List.length_replicate
   have ht : List.length (List.take i.toNat t) ≤ 50 := by rw [List.length_take]; omega
   rw [inr_iff.2 (by omega : (0 : Int) ≤ 0 ∧ 0 ≤ i ∧ i ≤ (List.length t : Int)), inr_iff.2 (by omega : 0 ≤ (c.idxOf (List.getD t i.toNat 0) : Int) + 1 ∧ (c.idxOf (List.getD t i.toNat 0) : Int) + 1 ≤ (c.idxOf (List.getD t i.toNat 0) : Int) + 1 + 1 ∧ (c.idxOf (List.getD t i.toNat 0) : Int) + 1 + 1 ≤ (List.length c : Int)), inr_iff.2 (by omega : (0 : Int) ≤ 0 ∧ (0 : Int) ≤ 1 ∧ 1 ≤ (List.length c : Int)),
    decide_eq_true (by rw [List.length_singleton]; omega : List.length (List.take i.toNat t) + List.length [List.getD c (c.idxOf (List.getD t i.toNat 0) + 1) 0] ≤ 9223372036854775807),
    decide_eq_true (by omega : 0 ≤ (List.length t : Int) - 1 - i), decide_eq_true (by omega : (List.length t : Int) - 1 - i ≤ 100),
    decide_eq_true (by rw [hr, List.length_append, List.length_singleton]; omega : List.length (List.take i.toNat t ++ [List.getD c (c.idxOf (List.getD t i.toNat 0) + 1) 0]) + List.length (rep ((List.length t : Int) - 1 - i).toNat (List.headD [c.headD 0] 0)) ≤ 9223372036854775807)]
   rfl
  ·right
   have hs2 : succS c (List.getD t i.toNat 0) = none := by
    rw [hs]; exact List.getElem?_eq_none (by omega)
   rw [decide_eq_false (by omega : ¬ (c.idxOf (List.getD t i.toNat 0) : Int) + 1 < (List.length c : Int))] at hx
   refine ⟨c, t, i - 1, ?_, ?_, ?_, fun R => hx R⟩
   ·simp only [pre_nx1, andd, dec_iff]
    exact ⟨by omega, by omega, h2, h3, h4, h5⟩
   ·simp only [mu_nx1]; omega
   ·have e1 : (i - 1 + 1).toNat = i.toNat := by omega
    have ha : anyS c t i = anyS c t (i - 1) := by
     unfold anyS
     rw [htk, e1, List.any_append, List.any_cons, hs2]
     exact Bool.or_false _
    have e2 : ((List.length t : Int) - 1 - (i - 1)).toNat = ((List.length t : Int) - 1 - i).toNat + 1 := by omega
    simp only [res_nx1]
    rw [ha, htk, nextW_none hs2, e1, e2, rep_one]
 ·left
  intro R
  refine (hx R).trans ?_
  rw [decide_eq_false hi]
  have e : (i + 1).toNat = 0 := by omega
  have ha : anyS c t i = false := by unfold anyS; rw [e]; rfl
  simp only [res_nx1]
  rw [ha]; rfl
noncomputable def g_nx1 : St → Cont → Option Fin := gP sh_nx1 (fun v => match v with | ((c, t, i, ()), ()) => pre_nx1 c t i) (fun v K => match v with | ((c, t, i, ()), ()) => res_nx1 c t i K)
noncomputable def L_nx1 : List (Nat × (St → Cont → Option Fin)) := (2, g_nx1) :: L_nx2
noncomputable def cx_nx1 : Cx := (cb_next).withLoops (look L_nx1)
theorem l_nx1 {L : List (Nat × (St → Cont → Option Fin))} (n : Nat) (h1 : L.drop n = L_nx2) (h2 : idsFree (L.take n) (loopOf Tryd.f116 0) = true) : ∀ st K r, g_nx1 st K = some r → ∃ N, iter (evC ((cb_next).withLoops (look L)) (loopOf Tryd.f116 0)) (headAt ((cb_next).withLoops (look L)) 2) N st K = some r :=
 with_drop h1 h2 (gP_ok (fun v => match v with | ((c, t, i, ()), ()) => mu_nx1 c t i) fun v K hI => by
  obtain ⟨⟨(c : Str), (t : Str), (i : Int), ⟨⟩⟩, ⟨⟩⟩ := v
  rcases r_nx1 c t i K hI with h1 | ⟨c', t', i', h1, h2, h3, h4⟩
  ·exact .inl h1
  ·exact .inr ⟨((c', t', i', ()), ()), h1, h2, h3, h4⟩)
def nextP (c t : Str) : Bool := List.all t (fun x => decide (x ∈ c)) && (decide (List.length c ≤ 1000) && (decide (List.length t ≤ 50) && decide (0 < List.length c)))
theorem y_spec_l4Next (c : Str) (t : Str) : evFn cx_nx1 Tryd.f116 true [ofD .str c, ofD .str t] [] = (
need (pre_nx1 c t (W64 ((t.length : Int) - 1))) <|
branch (anyS c t (W64 ((t.length : Int) - 1))) ( some ((vS (List.append (nextW c (List.take (W64 ((t.length : Int) - 1) + 1).toNat t)) (rep ((t.length : Int) - 1 - W64 ((t.length : Int) - 1)).toNat (List.headD c 0)))), [])) (
 need (inr 0 1 c.length) <|
 need (decide ((List.take (Int.toNat 1 - (0 : Int).toNat) c).length = 1) && (decide (0 ≤ W64 ((t.length : Int) + 1)) && decide (W64 ((t.length : Int) + 1) ≤ 100))) <| some ((vS (rep (W64 ((t.length : Int) + 1)).toNat ((List.take (Int.toNat 1 - (0 : Int).toNat) c).headD 0))), []))) := by kernel_rfl
theorem s_spec_l4Next (c : Str) (_hc : Fit .str c) (t : Str) (_ht : Fit .str t) (hpre : (nextP c t) = true) : Sat Tryd.prog 116 [ofD .str c, ofD .str t] [] (.d (ofD .str (nextW c t))) [] :=
 fn_sound (cx := cx_nx1) Tryd.func116 rfl ttOk Γ74ok mixed (fun c hc => LoopsOk.all (l := [(2, loopOf Tryd.f116 0), (5, loopOf Tryd.f116 1)]) (by cases hc; kernel_rfl) ⟨atLoop rfl (l_nx1 1 rfl (by kernel_rfl)), atLoop rfl (l_nx2 2 rfl (by kernel_rfl)), trivial⟩) (ro := true) (by
  unfold nextP at hpre
  simp only [andd, dec_iff] at hpre
  obtain ⟨h1, h2, h3, h4⟩ := hpre
  have w1 : W64 ((List.length t : Int) - 1) = (List.length t : Int) - 1 := wrap_small (by omega) (by omega)
  have w2 : W64 ((List.length t : Int) + 1) = (List.length t : Int) + 1 := wrap_small (by omega) (by omega)
  have kp : pre_nx1 c t ((List.length t : Int) - 1) = true := by
   simp only [pre_nx1, andd, dec_iff]
   exact ⟨by omega, by omega, h1, h2, h3, h4⟩
  have e1 : List.take ((List.length t : Int) - 1 + 1).toNat t = t := List.take_of_length_le (by omega)
  have e2 : ((List.length t : Int) - 1 - ((List.length t : Int) - 1)).toNat = 0 := by omega
  have e3 : ((List.length t : Int) + 1).toNat = List.length t + 1 := by omega
  have hc1 : List.take (Int.toNat 1 - (0 : Int).toNat) c = [c.headD 0] := by
   cases c with
   | nil => exact absurd h4 (Nat.lt_irrefl 0)
   | cons a l => rfl
  have ha : anyS c t ((List.length t : Int) - 1) = List.any t (fun x => (succS c x).isSome) := by unfold anyS; rw [e1]
  rw [y_spec_l4Next, w1, w2, kp, e1, e2, e3, ha, inr_iff.2 (by omega : (0 : Int) ≤ 0 ∧ (0 : Int) ≤ 1 ∧ 1 ≤ (List.length c : Int)), hc1, decide_eq_true (by omega : 0 ≤ (List.length t : Int) + 1), decide_eq_true (by omega : (List.length t : Int) + 1 ≤ 100)]
  cases hh : List.any t (fun x => (succS c x).isSome)
  ·exact congrArg (fun z : Str => (some (.d (ofD .str z), []) : Option Fin)) (nextW_all rfl hh).symm
  ·exact congrArg (fun z : Str => (some (.d (ofD .str z), []) : Option Fin)) (List.append_nil (nextW c t)))
noncomputable def c_spec_l4Next : Con := conT [.str, .str] fun (c : Str) (t : Str) => (some (nextP c t), .d (ofD .str (nextW c t)))
theorem k_spec_l4Next : ConOk Tryd.prog 116 c_spec_l4Next := conT_ok Tryd.call116 fun c hc t ht hqq => s_spec_l4Next c hc t ht (pre_of hqq)
noncomputable def Γ75 : List (Nat × Con) := (116, c_spec_l4Next) :: Γ74
theorem Γ75ok : EnvOk Tryd.prog (look Γ75) := .cons k_spec_l4Next Γ74ok
theorem nextR_len {c : Str} : ∀ {r : Str}, (nextR c r).length ≤ r.length + 1
 | [] => Nat.le_refl _
 | x :: r => by
  have := nextR_len (c := c) (r := r)
  unfold nextR
  cases succS c x with
  | some y => show (y :: r).length ≤ _; simp only [List.length_cons]; omega
  | none => show (c.headD 0 :: nextR c r).length ≤ _; simp only [List.length_cons]; omega
theorem nextW_len {c t : Str} : (nextW c t).length ≤ t.length + 1 := by
 have := nextR_len (c := c) (r := t.reverse)
 unfold nextW
 rw [List.length_reverse]
 rw [List.length_reverse] at this
 exact this
theorem allIn {c t : Str} : List.all t (fun x => decide (x ∈ c)) = true ↔ ∀ x ∈ t, x ∈ c := by
 rw [List.all_eq_true]
 exact ⟨fun h x hx => of_decide_eq_true (h x hx), fun h x hx => decide_eq_true (h x hx)⟩
theorem nextP_mk {c t : Str} (h : ∀ x ∈ t, x ∈ c) (h4 : List.length c ≤ 4) (h5 : List.length t ≤ 5) (h0 : c ≠ []) : nextP c t = true := by
 unfold nextP
 simp only [andd, dec_iff]
 exact ⟨allIn.2 h, by omega, by omega, List.length_pos_iff.2 h0⟩
noncomputable def cb_scw : Cx := (cxOf Γ75 Tryd.f46.ntmps [(10, [1, 2, 5, 6, 7])] [(0, [6]), (1, [1, 2, 5, 6, 7]), (1000000, [4])] [] []).parted [1, 5]
theorem x_spec_CountWords (g : Gram) (c t : Str) (n m : Int) (R : St → Option Fin) (K : Cont) : evC (cb_scw.withLoops (look [])) (loopOf Tryd.f46 0) ⟨[(1, vI n), (2, .d (.one (.ptr 500000 0))), (5, vS c), (6, vI m), (7, vS t)], [(500000, some (boxD 25 TG g))]⟩ (onward (headAt (cb_scw.withLoops (look [])) 10) R K) = (
branch (decide ((t.length : Int) = n)) (
 need (okG g && t.length.ble 1000) <|
 branch (isD g t) (
 need (nextP c t) <| R (.mk [(1, (vI n)), (2, (.d (.one (.ptr 500000 0)))), (5, (vS c)), (6, (vI (W64 (m + 1)))), (7, (vS (nextW c t)))] [(500000, (.some (.box 25 [(.r (.v (Value.string (mk g.fst)))), (.r (.li TRu (g.snd)))])))])) (
 need (nextP c t) <| R (.mk [(1, (vI n)), (2, (.d (.one (.ptr 500000 0)))), (5, (vS c)), (6, (vI m)), (7, (vS (nextW c t)))] [(500000, (.some (.box 25 [(.r (.v (Value.string (mk g.fst)))), (.r (.li TRu (g.snd)))])))]))) ( K (.exit 0) (.mk [(6, (vI m))] []))) := by kernel_rfl
noncomputable def cx0_scw : Cx := (cb_scw).withLoops (look [])
def sh_scw : Sh := ([(1, .d TI64), (2, .ptr 500000 0), (5, .d .str), (6, .d TI64), (7, .d .str)], [(500000, .box 25 TG)])
def pre_scw (n : Int) (c : Str) (m : Int) (t : Str) (g : Gram) : Bool := okG g && (decide (n ≤ 4) && (decide c.Nodup && (decide (List.length c ≤ 4) && (decide (0 < List.length c) && (List.all t (fun x => decide (x ∈ c)) && (decide (List.length t ≤ 5) && (decide (0 ≤ m) && decide (m ≤ (rankW c t : Int)))))))))
noncomputable def res_scw (n : Int) (c : Str) (m : Int) (t : Str) (g : Gram) (K : Cont) : Option Fin := K (.exit 0) ⟨[(6, vI (walkN (isD g) c n (3000 - rankW c t) t m))], []⟩
def mu_scw (_n : Int) (c : Str) (_m : Int) (t : Str) (_g : Gram) : Nat := 3000 - rankW c t
theorem r_scw (n : Int) (c : Str) (m : Int) (t : Str) (g : Gram) (K : Cont) (hI : pre_scw n c m t g = true) : (∀ R : St → Option Fin, evC cx0_scw (loopOf Tryd.f46 0) ⟨[(1, .d (ofD TI64 n)), (2, .d (.one (.ptr 500000 0))), (5, .d (ofD .str c)), (6, .d (ofD TI64 m)), (7, .d (ofD .str t))], [(500000, some (boxD 25 TG g))]⟩ (onward (headAt cx0_scw 10) R K) = res_scw n c m t g K) ∨
  (∃ (n' : Int) (c' : Str) (m' : Int) (t' : Str) (g' : Gram), pre_scw n' c' m' t' g' = true ∧ mu_scw n' c' m' t' g' < mu_scw n c m t g ∧ res_scw n' c' m' t' g' K = res_scw n c m t g K ∧ ∀ R : St → Option Fin, evC cx0_scw (loopOf Tryd.f46 0) ⟨[(1, .d (ofD TI64 n)), (2, .d (.one (.ptr 500000 0))), (5, .d (ofD .str c)), (6, .d (ofD TI64 m)), (7, .d (ofD .str t))], [(500000, some (boxD 25 TG g))]⟩ (onward (headAt cx0_scw 10) R K) = R ⟨[(1, .d (ofD TI64 n')), (2, .d (.one (.ptr 500000 0))), (5, .d (ofD .str c')), (6, .d (ofD TI64 m')), (7, .d (ofD .str t'))], [(500000, some (boxD 25 TG g'))]⟩) := by
 have hx := fun R => x_spec_CountWords g c t n m R K
 simp only [pre_scw, andd, dec_iff] at hI
 obtain ⟨h1, h2, h3, h4, h0, h5, h6, h7, h8⟩ := hI
 have ht := allIn.1 h5
 have hc0 : c ≠ [] := List.length_pos_iff.1 h0
 have kk : (okG g && (List.length t).ble 1000) = true := andd.2 ⟨h1, ble_iff.2 (by omega)⟩
 rw [kk, nextP_mk ht h4 h6 hc0] at hx
 by_cases hB : (List.length t : Int) = n
 ·rw [decide_eq_true hB] at hx
  have hr := rankW_le h4 ht (by omega)
  have w : W64 (m + 1) = m + 1 := wrap_small (by omega) (by omega)
  obtain ⟨r1, r2⟩ := rankW_next h3 hc0 ht
  have hl := nextW_len (c := c) (t := t)
  obtain ⟨k, hk⟩ : ∃ k, 3000 - rankW c t = k + 1 := ⟨2999 - rankW c t, by omega⟩
  have hk2 : 3000 - rankW c (nextW c t) = k := by omega
  have hg : walkN (isD g) c n (k + 1) t m = walkN (isD g) c n k (nextW c t) (bif isD g t then m + 1 else m) := by
   conv => lhs; unfold walkN
   rw [decide_eq_true hB]; rfl
  rw [w] at hx
  change ∀ R : St → Option Fin, _ = branch (isD g t) _ _ at hx
  right
  cases hd : isD g t
  ·rw [hd] at hx hg
   refine ⟨n, c, m, nextW c t, g, ?_, ?_, ?_, fun R => hx R⟩
   ·simp only [pre_scw, andd, dec_iff]
    exact ⟨h1, h2, h3, h4, h0, allIn.2 r2, by omega, h7, by omega⟩
   ·simp only [mu_scw]; omega
   ·simp only [res_scw, hk, hk2, hg]; rfl
  ·rw [hd] at hx hg
   refine ⟨n, c, m + 1, nextW c t, g, ?_, ?_, ?_, fun R => hx R⟩
   ·simp only [pre_scw, andd, dec_iff]
    exact ⟨h1, h2, h3, h4, h0, allIn.2 r2, by omega, by omega, by omega⟩
   ·simp only [mu_scw]; omega
   ·simp only [res_scw, hk, hk2, hg]; rfl
 ·left
  intro R
  refine (hx R).trans ?_
  have e : walkN (isD g) c n (3000 - rankW c t) t m = m := by
   cases 3000 - rankW c t with
   | zero => rfl
   | succ k => unfold walkN; rw [decide_eq_false hB]; rfl
  simp only [res_scw, e]
  rw [decide_eq_false hB]; rfl
noncomputable def g_scw : St → Cont → Option Fin := gP sh_scw (fun v => match v with | ((n, c, m, t, ()), (g, ())) => pre_scw n c m t g) (fun v K => match v with | ((n, c, m, t, ()), (g, ())) => res_scw n c m t g K)
noncomputable def L_scw : List (Nat × (St → Cont → Option Fin)) := (10, g_scw) :: []
noncomputable def cx_scw : Cx := (cb_scw).withLoops (look L_scw)
theorem l_scw {L : List (Nat × (St → Cont → Option Fin))} (n : Nat) (h1 : L.drop n = []) (h2 : idsFree (L.take n) (loopOf Tryd.f46 0) = true) : ∀ st K r, g_scw st K = some r → ∃ N, iter (evC ((cb_scw).withLoops (look L)) (loopOf Tryd.f46 0)) (headAt ((cb_scw).withLoops (look L)) 10) N st K = some r :=
 with_drop h1 h2 (gP_ok (fun v => match v with | ((n, c, m, t, ()), (g, ())) => mu_scw n c m t g) fun v K hI => by
  obtain ⟨⟨(n : Int), (c : Str), (m : Int), (t : Str), ⟨⟩⟩, ⟨(g : Gram), ⟨⟩⟩⟩ := v
  rcases r_scw n c m t g K hI with h1 | ⟨n', c', m', t', g', h1, h2, h3, h4⟩
  ·exact .inl h1
  ·exact .inr ⟨((n', c', m', t', ()), (g', ())), h1, h2, h3, h4⟩)
theorem y_spec_CountWords (g : Gram) (n : Int) : evFn cx_scw Tryd.f46 true [ofD TG g, ofD TI64 n] [] = (
branch (decide ((!okG g) = false)) (
 branch (bif false then true else !isM n) ( some ((vI 0), [])) (
 need (okG g) <|
 branch (decide ((setS (bigIs false) (signsG g)) = [])) (
  branch (decide (decide (n = 0) = true)) (
  need (okG g && ([] : Str).length.ble 1000) <|
  branch (bif true then isD g ([] : Str) else false) ( some ((vI 1), [])) ( some ((vI 0), []))) ( some ((vI 0), []))) (
  need (inr 0 1 (List.length (setS (bigIs false) (signsG g)))) <|
  need (decide ((List.take (Int.toNat 1 - (0 : Int).toNat) (id (setS (bigIs false) (signsG g)))).length = 1) && (decide (0 ≤ n) && decide (n ≤ 100))) <|
  need (pre_scw n (setS (bigIs false) (signsG g)) 0 (rep n.toNat ((List.take (Int.toNat 1 - (0 : Int).toNat) (id (setS (bigIs false) (signsG g)))).headD 0)) g) <| some ((vI (walkN (isD g) (setS (bigIs false) (signsG g)) n (3000 - rankW (setS (bigIs false) (signsG g)) (rep n.toNat ((List.take (Int.toNat 1 - (0 : Int).toNat) (id (setS (bigIs false) (signsG g)))).headD 0))) (rep n.toNat ((List.take (Int.toNat 1 - (0 : Int).toNat) (id (setS (bigIs false) (signsG g)))).headD 0)) 0)), [])))) ( some ((vI 0), []))) := by kernel_rfl
theorem s_spec_CountWords (g : Gram) (_hg : Fit TG g) (n : Int) (hn : Fit TI64 n) : Sat Tryd.prog 46 [ofD TG g, ofD TI64 n] [] (.d (ofD TI64 (countG g n))) [] :=
 fn_sound (cx := cx_scw) Tryd.func46 rfl ttOk Γ75ok mixed (fun c hc => LoopsOk.all (l := [(10, loopOf Tryd.f46 0)]) (by cases hc; kernel_rfl) ⟨atLoop rfl (l_scw 1 rfl (by kernel_rfl)), trivial⟩) (ro := true) (by
  rw [y_spec_CountWords]
  cases h1 : okG g
  ·unfold countG
   rw [h1]; rfl
  ·cases h2 : isM n
   ·unfold countG
    rw [h1, h2]; rfl
   ·obtain ⟨n0, n1⟩ := isM_iff.1 h2
    have es : setS (bigIs false) (signsG g) = smallsG g := smalls_eq h1
    have hv : countG g n = cntF (isD g) (levW (smallsG g) n.toNat) 0 := by
     unfold countG
     rw [h1, h2]; rfl
    rw [es]
    by_cases hc : smallsG g = []
    ·rw [decide_eq_true hc, hv, hc]
     by_cases hn : n = 0
     ·subst hn
      show branch (isD g []) _ _ = (some (.d (ofD TI64 (bif isD g [] then (0 : Int) + 1 else (0 : Int))), []) : Option Fin)
      cases isD g [] <;> rfl
     ·obtain ⟨k, hk⟩ : ∃ k, n.toNat = k + 1 := ⟨n.toNat - 1, by omega⟩
      rw [decide_eq_false hn, hk, levW_nil]; rfl
    ·obtain ⟨c0, cs, hcs⟩ : ∃ c0 cs, smallsG g = c0 :: cs := by
      cases hq : smallsG g with
      | nil => exact absurd hq hc
      | cons a l => exact ⟨a, l, rfl⟩
     have hpos : 0 < List.length (smallsG g) := List.length_pos_iff.2 hc
     have hc1 : List.take (Int.toNat 1 - (0 : Int).toNat) (id (smallsG g)) = [(smallsG g).headD 0] := by rw [hcs]; rfl
     have hin : ∀ x ∈ rep n.toNat ((smallsG g).headD 0), x ∈ smallsG g := fun x hx => by
      rw [List.eq_of_mem_replicate hx, hcs]; exact List.mem_cons_self
     have hlr : List.length (rep n.toNat ((smallsG g).headD 0)) = n.toNat := List.length_replicate
     have kp : pre_scw n (smallsG g) 0 (rep n.toNat ((smallsG g).headD 0)) g = true := by
      simp only [pre_scw, andd, dec_iff]
      exact ⟨h1, n1, smalls_nodup, smalls_four, hpos, allIn.2 hin, by omega, Int.le_refl _, by omega⟩
     have hr := rankW_le smalls_four hin (by omega)
     have hw : walkN (isD g) (smallsG g) n (3000 - rankW (smallsG g) (rep n.toNat ((smallsG g).headD 0))) (rep n.toNat ((smallsG g).headD 0)) 0 = countG g n := by
      have := walkN_words (f := isD g) (c := smallsG g) smalls_nodup hc smalls_four (n := n.toNat) (by omega) (k := 3000 - rankW (smallsG g) (rep n.toNat ((smallsG g).headD 0))) (by omega)
      rw [show ((n.toNat : Nat) : Int) = n by omega] at this
      rw [hv]
      exact this
     have hh : List.headD [(smallsG g).headD 0] 0 = (smallsG g).headD 0 := rfl
     rw [decide_eq_false hc, hc1, hh, hw, kp, inr_iff.2 (by omega : (0 : Int) ≤ 0 ∧ (0 : Int) ≤ 1 ∧ 1 ≤ (List.length (smallsG g) : Int)), decide_eq_true n0, decide_eq_true (by omega : n ≤ 100)]; rfl)
noncomputable def c_spec_CountWords : Con := conT [TG, TI64] fun (g : Gram) (n : Int) => (none, .d (ofD TI64 (countG g n)))
theorem k_spec_CountWords : ConOk Tryd.prog 46 c_spec_CountWords := conT_ok Tryd.call46 fun g hg n hn _ => s_spec_CountWords g hg n hn
noncomputable def Γ76 : List (Nat × Con) := (46, c_spec_CountWords) :: Γ75
theorem Γ76ok : EnvOk Tryd.prog (look Γ76) := .cons k_spec_CountWords Γ75ok
theorem wordsG_len {g : Gram} {n : Int} : (wordsG g n).length ≤ 60 := by
 unfold wordsG
 cases okG g && isM n
 ·exact Nat.zero_le _
 ·exact len_words
theorem wordsG_mem {g : Gram} {n : Int} {w : Str} (h : w ∈ wordsG g n) : okG g = true ∧ isM n = true ∧ isD g w = true ∧ (List.length w : Int) ≤ n ∧ (∀ x ∈ w, x ∈ smallsG g) ∧ both2 g w = true := by
 unfold wordsG at h
 cases hc : okG g && isM n <;> rw [hc] at h
 ·cases h
 ·obtain ⟨h1, h2⟩ := andd.1 hc
  obtain ⟨n0, n1⟩ := isM_iff.1 h2
  obtain ⟨m1, m2, m3⟩ := mem_words h
  refine ⟨h1, h2, m1, by omega, m3, ?_⟩
  unfold both2
  rw [b2, andd, areSm_iff]
  exact ⟨h1, by omega, List.all_eq_true.2 fun c hc => (setS_mem.1 (m3 c hc)).2⟩
end Go.Proofs.YtbijdgkkneffgaaDoor.Ev
