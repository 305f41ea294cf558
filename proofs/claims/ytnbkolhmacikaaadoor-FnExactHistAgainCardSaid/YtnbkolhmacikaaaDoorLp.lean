/-
  Edits and histories: what the functions compute, and what is so of them. No program is named here.
-/
import Derived.Test.YtnbkolhmacikaaaDoorLd
namespace Go.Proofs.YtnbkolhmacikaaaDoor.Ev
open Go

abbrev Str : Type := List UInt8

def small (c : UInt8) : Bool := Nat.ble 97 c.toNat && Nat.ble c.toNat 100
def longOk (s : Str) : Bool := s.all small && Nat.ble s.length 20
def smallS : Str → Bool
  | [c] => small c
  | _ => false

def edit1 (t : Str) (e : Edit) : Str := t.take e.2.1.toNat ++ (e.2.2 ++ t.drop e.2.1.toNat)
def edit2 (t : Str) (e : Edit) : Str := t.take e.2.1.toNat ++ (e.2.2 ++ t.drop (e.2.1.toNat + 1))

/-- the sign at a place -/
def signAt (t : Str) (i : Int) : Str := (t.drop i.toNat).take 1

def editOk (t : Str) (e : Edit) : Bool :=
  bif decide (e.1 = 1) then decide (0 ≤ e.2.1) && (decide (e.2.1 ≤ (t.length : Int)) && smallS e.2.2) else
  bif decide (e.1 = 2) then decide (0 ≤ e.2.1) && (decide (e.2.1 < (t.length : Int)) && decide (e.2.2 = [])) else
  bif decide (e.1 = 3) then decide (0 ≤ e.2.1) && (decide (e.2.1 < (t.length : Int)) && (smallS e.2.2 && !decide (signAt t e.2.1 = e.2.2))) else false

def doE (t : Str) (e : Edit) : Str := bif decide (e.1 = 1) then edit1 t e else edit2 t e
def EdDo (t : Str) (e : Edit) : Str × Bool := bif longOk t && (editOk t e && longOk (doE t e)) then (doE t e, true) else ([], false)
def EdBack (t : Str) (e : Edit) : Edit × Bool :=
  bif (EdDo t e).2 then
    bif decide (e.1 = 1) then ((2, e.2.1, []), true) else
    bif decide (e.1 = 2) then ((1, e.2.1, signAt t e.2.1), true) else ((3, e.2.1, signAt t e.2.1), true)
  else (e0, false)

/-- edits, the first one first -/
def plays : Str → List Edit → Str × Bool
  | t, [] => (t, true)
  | t, e :: l => bif (EdDo t e).2 then plays (EdDo t e).1 l else ([], false)
def play (t : Str) (l : List Edit) : Str × Bool := plays t l.reverse

def lenH (h : Hist) : Bool := decide (IntKind.i64.wrap ((h.2.1.length : Int) + (h.2.2.length : Int)) ≤ 10)
def okHist (h : Hist) : Bool := longOk h.1 && (lenH h && ((play h.1 h.2.1).2 && (play h.1 h.2.2).2))
def newH (t : Str) : Hist := bif longOk t then (t, [], []) else ([], [], [])
def doH (h : Hist) (e : Edit) : Hist × Bool :=
  bif okHist h then
    bif (EdDo h.1 e).2 && decide ((h.2.1.length : Int) < 10) then (((EdDo h.1 e).1, h.2.1 ++ [(EdBack h.1 e).1], []), true) else (h, false)
  else (([], [], []), false)
def backH (h : Hist) : Hist × Bool :=
  bif okHist h then
    match h.2.1.getLast? with
    | some e => (((EdDo h.1 e).1, h.2.1.dropLast, h.2.2 ++ [(EdBack h.1 e).1]), true)
    | none => (h, false)
  else (([], [], []), false)
def swapH (h : Hist) : Hist := (h.1, h.2.2, h.2.1)
def againH (h : Hist) : Hist × Bool := (swapH (backH (swapH h)).1, (backH (swapH h)).2)
def firstH (h : Hist) : Str := bif okHist h then (play h.1 h.2.1).1 else []
def lastH (h : Hist) : Str := bif okHist h then (play h.1 h.2.2).1 else []

/-- lists that are not too long -/
def smallH (h : Hist) : Bool := Nat.ble h.2.1.length 1048576 && Nat.ble h.2.2.length 1048576

theorem EdDo_true {t : Str} {e : Edit} (h : (EdDo t e).2 = true) : longOk t = true ∧ editOk t e = true ∧ longOk (doE t e) = true ∧ (EdDo t e).1 = doE t e := by
  unfold EdDo at h ⊢
  cases hb : longOk t && (editOk t e && longOk (doE t e))
  · rw [hb] at h; cases h
  · simp only [Bool.and_eq_true] at hb
    exact ⟨hb.1, hb.2.1, hb.2.2, rfl⟩

theorem EdDo_mk {t : Str} {e : Edit} (h1 : longOk t = true) (h2 : editOk t e = true) (h3 : longOk (doE t e) = true) : EdDo t e = (doE t e, true) := by
  unfold EdDo; rw [h1, h2, h3]; rfl

theorem EdDo_false {t : Str} {e : Edit} (h : (EdDo t e).2 = false) : EdDo t e = ([], false) := by
  unfold EdDo at h ⊢
  cases hb : longOk t && (editOk t e && longOk (doE t e))
  · rfl
  · rw [hb] at h; cases h

theorem smallS_one {s : Str} (h : smallS s = true) : ∃ c, s = [c] ∧ small c = true := by
  unfold smallS at h
  split at h
  · exact ⟨_, rfl, h⟩
  · cases h

theorem longOk_iff {s : Str} : longOk s = true ↔ (∀ c ∈ s, small c = true) ∧ s.length ≤ 20 := by
  unfold longOk
  rw [Bool.and_eq_true, List.all_eq_true, Nat.ble_eq]

theorem mid_take {t u : Str} {n : Nat} (h : n ≤ t.length) : (t.take n ++ u).take n = t.take n := by
  rw [List.take_append_of_le_length (by rw [List.length_take]; omega), List.take_take, Nat.min_self]
theorem mid_drop {t u : Str} {n : Nat} (h : n ≤ t.length) : (t.take n ++ u).drop n = u := by
  have : (t.take n).length = n := by rw [List.length_take]; omega
  rw [List.drop_append_of_le_length (by omega), List.drop_of_length_le (by omega), List.nil_append]
theorem mid_drop1 {t u : Str} {c : UInt8} {n : Nat} (h : n ≤ t.length) : (t.take n ++ c :: u).drop (n + 1) = u := by
  rw [← List.drop_drop, mid_drop h]; rfl
theorem mid_len {t u : Str} {n : Nat} (h : n ≤ t.length) : (t.take n ++ u).length = n + u.length := by
  rw [List.length_append, List.length_take]; omega

/-- What an edit did is taken back. -/
theorem take_back {t : Str} {e : Edit} (h : (EdDo t e).2 = true) : EdDo (EdDo t e).1 (EdBack t e).1 = (t, true) ∧ EdBack (EdDo t e).1 (EdBack t e).1 = (e, true) := by
  obtain ⟨h1, h2, h3, h4⟩ := EdDo_true h
  have hb : ∀ x, EdBack t e = x → EdBack t e = x := fun _ h => h
  obtain ⟨k, a, s⟩ := e
  rw [h4]
  have l1 := longOk_iff.1 h1
  unfold editOk at h2
  by_cases k1 : k = 1
  · subst k1
    simp only [decide_true, cond_true, Bool.and_eq_true, decide_eq_true_eq] at h2
    obtain ⟨g1, g2, g3⟩ := h2
    obtain ⟨c, rfl, hc⟩ := smallS_one g3
    have e1 : (EdBack t (1, a, [c])).1 = (2, a, []) := by unfold EdBack; rw [h]; rfl
    have e2 : doE t (1, a, [c]) = t.take a.toNat ++ (c :: t.drop a.toNat) := rfl
    have ha : a.toNat ≤ t.length := by omega
    have e3 : doE (t.take a.toNat ++ (c :: t.drop a.toNat)) (2, a, []) = t := by
      show (t.take a.toNat ++ (c :: t.drop a.toNat)).take a.toNat ++ ([] ++ (t.take a.toNat ++ (c :: t.drop a.toNat)).drop (a.toNat + 1)) = t
      rw [mid_take ha, mid_drop1 ha, List.nil_append, List.take_append_drop]
    have e4 : EdDo (t.take a.toNat ++ (c :: t.drop a.toNat)) (2, a, []) = (t, true) := by
      rw [← e2] at e3 ⊢
      have := EdDo_mk (e := (2, a, [])) h3 (by
        rw [e2]
        show (decide (0 ≤ a) && (decide (a < ((t.take a.toNat ++ (c :: t.drop a.toNat)).length : Int)) && decide (([] : Str) = []))) = true
        rw [mid_len ha]
        simp only [Bool.and_eq_true, decide_eq_true_eq, List.length_cons, List.length_drop]
        exact ⟨g1, by omega, trivial⟩) (by rw [e3]; exact h1)
      rw [this, e3]
    rw [e1, e2]
    refine ⟨e4, ?_⟩
    unfold EdBack
    rw [e4]
    show ((1, a, signAt (t.take a.toNat ++ (c :: t.drop a.toNat)) a), true) = ((1, a, [c]), true)
    unfold signAt
    rw [mid_drop ha]
    rfl
  · rw [decide_eq_false k1, cond_false] at h2
    by_cases k2 : k = 2
    · subst k2
      simp only [decide_true, cond_true, Bool.and_eq_true, decide_eq_true_eq] at h2
      obtain ⟨g1, g2, rfl⟩ := h2
      have ha : a.toNat < t.length := by omega
      have es : signAt t a = [t[a.toNat]] := by unfold signAt; rw [List.drop_eq_getElem_cons ha]; rfl
      have e1 : (EdBack t (2, a, [])).1 = (1, a, [t[a.toNat]]) := by unfold EdBack; rw [h, ← es]; rfl
      have e2 : doE t (2, a, []) = t.take a.toNat ++ t.drop (a.toNat + 1) := rfl
      have e3 : doE (t.take a.toNat ++ t.drop (a.toNat + 1)) (1, a, [t[a.toNat]]) = t := by
        show (t.take a.toNat ++ t.drop (a.toNat + 1)).take a.toNat ++ ([t[a.toNat]] ++ (t.take a.toNat ++ t.drop (a.toNat + 1)).drop a.toNat) = t
        rw [mid_take (Nat.le_of_lt ha), mid_drop (Nat.le_of_lt ha), List.singleton_append, ← List.drop_eq_getElem_cons ha, List.take_append_drop]
      have e4 : EdDo (t.take a.toNat ++ t.drop (a.toNat + 1)) (1, a, [t[a.toNat]]) = (t, true) := by
        rw [← e2] at e3 ⊢
        have := EdDo_mk (e := (1, a, [t[a.toNat]])) h3 (by
          rw [e2]
          show (decide (0 ≤ a) && (decide (a ≤ ((t.take a.toNat ++ t.drop (a.toNat + 1)).length : Int)) && small t[a.toNat])) = true
          rw [mid_len (Nat.le_of_lt ha)]
          simp only [Bool.and_eq_true, decide_eq_true_eq, List.length_drop]
          exact ⟨g1, by omega, l1.1 _ (List.getElem_mem ha)⟩) (by rw [e3]; exact h1)
        rw [this, e3]
      rw [e1, e2]
      refine ⟨e4, ?_⟩
      unfold EdBack
      rw [e4]
      rfl
    · rw [decide_eq_false k2, cond_false] at h2
      by_cases k3 : k = 3
      · subst k3
        simp only [decide_true, cond_true, Bool.and_eq_true, decide_eq_true_eq, Bool.not_eq_true', decide_eq_false_iff_not] at h2
        obtain ⟨g1, g2, g3, g4⟩ := h2
        obtain ⟨c, rfl, hc⟩ := smallS_one g3
        have ha : a.toNat < t.length := by omega
        have es : signAt t a = [t[a.toNat]] := by unfold signAt; rw [List.drop_eq_getElem_cons ha]; rfl
        have e1 : (EdBack t (3, a, [c])).1 = (3, a, [t[a.toNat]]) := by unfold EdBack; rw [h, ← es]; rfl
        have e2 : doE t (3, a, [c]) = t.take a.toNat ++ (c :: t.drop (a.toNat + 1)) := rfl
        have e5 : signAt (t.take a.toNat ++ (c :: t.drop (a.toNat + 1))) a = [c] := by
          unfold signAt
          rw [mid_drop (Nat.le_of_lt ha)]
          rfl
        have e3 : doE (t.take a.toNat ++ (c :: t.drop (a.toNat + 1))) (3, a, [t[a.toNat]]) = t := by
          show (t.take a.toNat ++ (c :: t.drop (a.toNat + 1))).take a.toNat ++ ([t[a.toNat]] ++ (t.take a.toNat ++ (c :: t.drop (a.toNat + 1))).drop (a.toNat + 1)) = t
          rw [mid_take (Nat.le_of_lt ha), mid_drop1 (Nat.le_of_lt ha), List.singleton_append, ← List.drop_eq_getElem_cons ha, List.take_append_drop]
        have e4 : EdDo (t.take a.toNat ++ (c :: t.drop (a.toNat + 1))) (3, a, [t[a.toNat]]) = (t, true) := by
          have h3' := h3
          rw [e2] at h3'
          have := EdDo_mk (e := (3, a, [t[a.toNat]])) h3' (by
            show (decide (0 ≤ a) && (decide (a < ((t.take a.toNat ++ (c :: t.drop (a.toNat + 1))).length : Int)) && (small t[a.toNat] && !decide (signAt (t.take a.toNat ++ (c :: t.drop (a.toNat + 1))) a = [t[a.toNat]])))) = true
            rw [mid_len (Nat.le_of_lt ha)]
            simp only [Bool.and_eq_true, decide_eq_true_eq, List.length_drop, List.length_cons, Bool.not_eq_true', decide_eq_false_iff_not]
            exact ⟨g1, by omega, l1.1 _ (List.getElem_mem ha), by rw [e5, ← es]; exact fun e => g4 e.symm⟩) (by rw [e3]; exact h1)
          rw [this, e3]
        rw [e1, e2]
        refine ⟨e4, ?_⟩
        unfold EdBack
        rw [e4, e5]
        rfl
      · rw [decide_eq_false k3, cond_false] at h2; cases h2

theorem play_snoc (t : Str) (l : List Edit) (e : Edit) : play t (l ++ [e]) = bif (EdDo t e).2 then play (EdDo t e).1 l else ([], false) := by
  unfold play
  rw [List.reverse_append]
  rfl

theorem play_nil (t : Str) : play t [] = (t, true) := rfl

theorem okHist_iff {h : Hist} : okHist h = true ↔ longOk h.1 = true ∧ lenH h = true ∧ (play h.1 h.2.1).2 = true ∧ (play h.1 h.2.2).2 = true := by
  unfold okHist; simp only [Bool.and_eq_true]

theorem smallH_iff {h : Hist} : smallH h = true ↔ h.2.1.length ≤ 1048576 ∧ h.2.2.length ≤ 1048576 := by
  unfold smallH; simp only [Bool.and_eq_true, Nat.ble_eq]

theorem lenH_iff {h : Hist} (hs : smallH h = true) : lenH h = true ↔ h.2.1.length + h.2.2.length ≤ 10 := by
  have := smallH_iff.1 hs
  unfold lenH
  rw [decide_eq_true_eq, wrap_small (by omega) (by omega)]
  omega

theorem small_of {h : Hist} (h1 : h.2.1.length + h.2.2.length ≤ 10) : smallH h = true ∧ lenH h = true := by
  have hs : smallH h = true := smallH_iff.2 ⟨by omega, by omega⟩
  exact ⟨hs, (lenH_iff hs).2 h1⟩

theorem doH_bad {h : Hist} {e : Edit} (ho : okHist h = false) : doH h e = (([], [], []), false) := by unfold doH; rw [ho]; rfl
theorem backH_bad {h : Hist} (ho : okHist h = false) : backH h = (([], [], []), false) := by unfold backH; rw [ho]; rfl

theorem doH_ok {h : Hist} {e : Edit} (hd : (doH h e).2 = true) : okHist h = true ∧ (EdDo h.1 e).2 = true ∧ h.2.1.length < 10 ∧ (doH h e).1 = ((EdDo h.1 e).1, h.2.1 ++ [(EdBack h.1 e).1], []) := by
  unfold doH at hd ⊢
  cases ho : okHist h
  · rw [ho] at hd; cases hd
  · rw [ho, cond_true] at hd
    rw [cond_true]
    cases hb : (EdDo h.1 e).2 && decide ((h.2.1.length : Int) < 10)
    · rw [hb] at hd; cases hd
    · simp only [Bool.and_eq_true, decide_eq_true_eq] at hb
      exact ⟨rfl, hb.1, by omega, rfl⟩

theorem doH_not {h : Hist} {e : Edit} (ho : okHist h = true) (hd : (doH h e).2 = false) : (doH h e).1 = h := by
  unfold doH at hd ⊢
  rw [ho, cond_true] at hd ⊢
  cases hb : (EdDo h.1 e).2 && decide ((h.2.1.length : Int) < 10)
  · rfl
  · rw [hb] at hd; cases hd

/-- what was done is well-formed, and is taken back -/
theorem do_back {h : Hist} {e : Edit} (hs : smallH h = true) (hd : (doH h e).2 = true) : okHist (doH h e).1 = true ∧ smallH (doH h e).1 = true ∧ backH (doH h e).1 = ((h.1, h.2.1, [e]), true) ∧ okHist (h.1, h.2.1, [e]) = true ∧ firstH (doH h e).1 = firstH h := by
  obtain ⟨h1, h2, h3, h4⟩ := doH_ok hd
  obtain ⟨o1, o2, o3, o4⟩ := okHist_iff.1 h1
  obtain ⟨t1, t2⟩ := take_back h2
  obtain ⟨d1, d2, d3, d4⟩ := EdDo_true h2
  have hl := (lenH_iff hs).1 o2
  have hx : (doH h e).1.2.1.length + (doH h e).1.2.2.length ≤ 10 := by rw [h4]; simp; omega
  obtain ⟨s1, s2⟩ := small_of hx
  have hp : play (doH h e).1.1 (doH h e).1.2.1 = play h.1 h.2.1 := by
    rw [h4]
    show play (EdDo h.1 e).1 (h.2.1 ++ [(EdBack h.1 e).1]) = _
    rw [play_snoc, t1]; rfl
  have hok : okHist (doH h e).1 = true := okHist_iff.2 ⟨by rw [h4]; show longOk (EdDo h.1 e).1 = true; rw [d4]; exact d3, s2, by rw [hp]; exact o3, by rw [h4]; rfl⟩
  refine ⟨hok, s1, ?_, ?_, ?_⟩
  · unfold backH
    rw [hok, cond_true]
    rw [h4]
    simp only [List.getLast?_append, List.getLast?_singleton, Option.some_or, List.dropLast_concat, t1, t2, List.nil_append]
  · refine okHist_iff.2 ⟨o1, (small_of (by simp; omega)).2, o3, ?_⟩
    show (play h.1 ([] ++ [e])).2 = true
    rw [play_snoc, h2]; rfl
  · unfold firstH
    rw [hok, h1, hp]

theorem backH_cases {h : Hist} (ho : okHist h = true) : (h.2.1 = [] ∧ backH h = (h, false)) ∨ ∃ l e, h.2.1 = l ++ [e] ∧ backH h = (((EdDo h.1 e).1, l, h.2.2 ++ [(EdBack h.1 e).1]), true) := by
  unfold backH
  rw [ho, cond_true]
  have hcc : h.2.1 = [] ∨ ∃ l e, h.2.1 = l ++ [e] := by
    rcases List.eq_nil_or_concat h.2.1 with hn | ⟨l, e, hl⟩
    · exact .inl hn
    · exact .inr ⟨l, e, by rw [hl, List.concat_eq_append]⟩
  rcases hcc with hn | ⟨l, e, hl⟩
  · left; rw [hn]; exact ⟨rfl, rfl⟩
  · right
    refine ⟨l, e, hl, ?_⟩
    rw [hl]
    simp only [List.getLast?_append, List.getLast?_singleton, Option.some_or, List.dropLast_concat]

/-- one step back: well-formed, as many edits, the origin and the last one stay -/
theorem back_step {h : Hist} {l : List Edit} {e : Edit} (hs : smallH h = true) (ho : okHist h = true) (hl : h.2.1 = l ++ [e]) :
    okHist ((EdDo h.1 e).1, l, h.2.2 ++ [(EdBack h.1 e).1]) = true ∧ smallH ((EdDo h.1 e).1, l, h.2.2 ++ [(EdBack h.1 e).1]) = true ∧
    play (EdDo h.1 e).1 l = play h.1 h.2.1 ∧ play (EdDo h.1 e).1 (h.2.2 ++ [(EdBack h.1 e).1]) = play h.1 h.2.2 ∧ (EdDo h.1 e).2 = true := by
  obtain ⟨o1, o2, o3, o4⟩ := okHist_iff.1 ho
  have hn := (lenH_iff hs).1 o2
  rw [hl] at hn
  simp only [List.length_append, List.length_singleton] at hn
  have h2 : (EdDo h.1 e).2 = true := by
    rw [hl, play_snoc] at o3
    cases hb : (EdDo h.1 e).2
    · rw [hb] at o3; cases o3
    · rfl
  obtain ⟨t1, t2⟩ := take_back h2
  obtain ⟨d1, d2, d3, d4⟩ := EdDo_true h2
  have p1 : play (EdDo h.1 e).1 l = play h.1 h.2.1 := by rw [hl, play_snoc, h2]; rfl
  have p2 : play (EdDo h.1 e).1 (h.2.2 ++ [(EdBack h.1 e).1]) = play h.1 h.2.2 := by rw [play_snoc, t1]; rfl
  have hx : (((EdDo h.1 e).1, l, h.2.2 ++ [(EdBack h.1 e).1]) : Hist).2.1.length + (((EdDo h.1 e).1, l, h.2.2 ++ [(EdBack h.1 e).1]) : Hist).2.2.length ≤ 10 := by
    simp; omega
  obtain ⟨s1, s2⟩ := small_of hx
  exact ⟨okHist_iff.2 ⟨by show longOk (EdDo h.1 e).1 = true; rw [d4]; exact d3, s2, by show (play (EdDo h.1 e).1 l).2 = true; rw [p1]; exact o3, by show (play (EdDo h.1 e).1 (h.2.2 ++ [(EdBack h.1 e).1])).2 = true; rw [p2]; exact o4⟩, s1, p1, p2, h2⟩

theorem swap_ok {h : Hist} : okHist (swapH h) = okHist h := by
  unfold okHist swapH lenH
  rw [Int.add_comm]
  cases longOk h.1 <;> cases decide (IntKind.i64.wrap ((h.2.1.length : Int) + (h.2.2.length : Int)) ≤ 10) <;> cases (play h.1 h.2.1).2 <;> cases (play h.1 h.2.2).2 <;> rfl
theorem swap_small {h : Hist} : smallH (swapH h) = smallH h := by
  unfold smallH swapH
  cases Nat.ble h.2.1.length 1048576 <;> cases Nat.ble h.2.2.length 1048576 <;> rfl
theorem swap_swap (h : Hist) : swapH (swapH h) = h := rfl

/-- back keeps what is well-formed -/
theorem back_keeps {h : Hist} (hs : smallH h = true) (ho : okHist h = true) : okHist (backH h).1 = true ∧ smallH (backH h).1 = true ∧ (backH h).1.2.1.length + (backH h).1.2.2.length = h.2.1.length + h.2.2.length ∧ (backH h).2 = decide (0 < h.2.1.length) ∧
    firstH (backH h).1 = firstH h ∧ lastH (backH h).1 = lastH h := by
  rcases backH_cases ho with ⟨h1, h2⟩ | ⟨l, e, h1, h2⟩
  · rw [h2]; refine ⟨ho, hs, rfl, by rw [h1]; rfl, rfl, rfl⟩
  · obtain ⟨b1, b2, b3, b4, _⟩ := back_step hs ho h1
    rw [h2]
    refine ⟨b1, b2, ?_, ?_, ?_, ?_⟩
    · rw [h1]; simp; omega
    · rw [h1]; simp
    · unfold firstH; rw [b1, ho]; show (play (EdDo h.1 e).1 l).1 = _; rw [b3]; rfl
    · unfold lastH; rw [b1, ho]; show (play (EdDo h.1 e).1 (h.2.2 ++ [(EdBack h.1 e).1])).1 = _; rw [b4]; rfl

theorem first_swap (h : Hist) : firstH (swapH h) = lastH h := by unfold firstH lastH; rw [swap_ok]; rfl
theorem last_swap (h : Hist) : lastH (swapH h) = firstH h := by unfold firstH lastH; rw [swap_ok]; rfl

theorem again_keeps {h : Hist} (hs : smallH h = true) (ho : okHist h = true) : okHist (againH h).1 = true ∧ smallH (againH h).1 = true ∧ (againH h).1.2.1.length + (againH h).1.2.2.length = h.2.1.length + h.2.2.length ∧ (againH h).2 = decide (0 < h.2.2.length) ∧
    firstH (againH h).1 = firstH h ∧ lastH (againH h).1 = lastH h := by
  obtain ⟨g1, g2, g3, g4, g5, g6⟩ := back_keeps (h := swapH h) (by rw [swap_small]; exact hs) (by rw [swap_ok]; exact ho)
  refine ⟨?_, ?_, ?_, g4, ?_, ?_⟩
  · show okHist (swapH _) = true; rw [swap_ok]; exact g1
  · show smallH (swapH _) = true; rw [swap_small]; exact g2
  · show (backH (swapH h)).1.2.2.length + (backH (swapH h)).1.2.1.length = _
    rw [Nat.add_comm, g3]
    show h.2.2.length + h.2.1.length = _
    omega
  · show firstH (swapH _) = _; rw [first_swap, g6, last_swap]
  · show lastH (swapH _) = _; rw [last_swap, g5, first_swap]

theorem again_bad {h : Hist} (ho : okHist h = false) : againH h = (([], [], []), false) := by
  unfold againH; rw [backH_bad (by rw [swap_ok]; exact ho)]; rfl

/-- taken back so often -/
def backs : Nat → Hist → Hist
  | 0, h => h
  | n + 1, h => backs n (backH h).1
def agains : Nat → Hist → Hist
  | 0, h => h
  | n + 1, h => agains n (againH h).1

theorem backs_all : ∀ {n : Nat} {h : Hist}, smallH h = true → okHist h = true → h.2.1.length = n → (backs n h).1 = firstH h ∧ (backs n h).2.1 = [] ∧ (backs n h).2.2.length = h.2.1.length + h.2.2.length
  | 0, h, hs, ho, hn => by
    have hn := List.length_eq_zero_iff.1 hn
    refine ⟨?_, hn, by rw [hn]; show h.2.2.length = _; simp⟩
    unfold firstH; rw [ho, hn]; rfl
  | n + 1, h, hs, ho, hn => by
    obtain ⟨b1, b2, b3, b4, b5, b6⟩ := back_keeps hs ho
    have hl : (backH h).1.2.1.length = n := by
      rcases backH_cases ho with ⟨h1, _⟩ | ⟨l, e, h1, h2⟩
      · rw [h1] at hn; cases hn
      · rw [h2]; rw [h1] at hn; simpa using hn
    obtain ⟨g1, g2, g3⟩ := backs_all b2 b1 hl
    exact ⟨g1.trans b5, g2, g3.trans b3⟩

theorem agains_swap : ∀ (n : Nat) (h : Hist), agains n h = swapH (backs n (swapH h))
  | 0, h => rfl
  | n + 1, h => by
    show agains n (againH h).1 = _
    rw [agains_swap n]
    rfl

theorem agains_all {h : Hist} (hs : smallH h = true) (ho : okHist h = true) : (agains h.2.2.length h).1 = lastH h ∧ (agains h.2.2.length h).2.2 = [] := by
  obtain ⟨g1, g2, _⟩ := backs_all (n := h.2.2.length) (h := swapH h) (by rw [swap_small]; exact hs) (by rw [swap_ok]; exact ho) rfl
  rw [agains_swap]
  exact ⟨g1.trans (first_swap h), g2⟩

/-- done, taken back, and done again it is all as it was -/
theorem do_again {h : Hist} {e : Edit} (hs : smallH h = true) (hd : (doH h e).2 = true) : againH (h.1, h.2.1, [e]) = ((doH h e).1, true) := by
  obtain ⟨_, _, _, b4, _⟩ := do_back hs hd
  obtain ⟨h1, h2, h3, h4⟩ := doH_ok hd
  rcases backH_cases (h := swapH (h.1, h.2.1, [e])) (by rw [swap_ok]; exact b4) with ⟨g1, _⟩ | ⟨l, e', g1, g2⟩
  · cases g1
  · have g1 : [e] = l ++ [e'] := g1
    obtain ⟨rfl, rfl⟩ : l = [] ∧ e' = e := by
      cases l with
      | nil => simp only [List.nil_append, List.cons.injEq, and_true] at g1; exact ⟨rfl, g1.symm⟩
      | cons a l => cases l <;> simp at g1
    unfold againH
    rw [g2, h4]
    rfl
end Go.Proofs.YtnbkolhmacikaaaDoor.Ev
