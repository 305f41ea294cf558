/-
  All parts, of both sides.
-/
import Derived.Test.YtbijdgkkneffgaaDoorHb
import Derived.WalkKit
import Derived.Lib.Walk
import Derived.Lib.Strings
import Derived.Lib.IndexBytes
import Derived.Laws.RangeString
import Derived.Deep.LoopGhost
namespace Go.Proofs.YtbijdgkkneffgaaDoor.Ev
open Go
/-- plain signs -/
def asc7 (s : Str) : Bool := List.all s fun c => Nat.blt c.toNat 128
set_option maxHeartbeats 4000000 in
set_option maxRecDepth 1000000 in
theorem walk_RuneCount (s : ByteArray) (w : World) (hs : s.size < 4294967281) (hascii : ∀ (j : Nat) b, s.data.toList[j]? = some b → b.toNat < 128) :
    Calls Tryd.prog 191 #[.string s] w fun e w' => e = .returned (.int .i64 s.size) ∧ w' = w.iter s s.size := by
  have HA : Aside (∀ (j : Nat) b, s.data.toList[j]? = some b → b.toNat < 128) := hascii
  clear hascii
  go_enter Tryd.func191, Tryd.ntmps191
  go_wp2
  go_loopg [2] s.size (fun g s2 wx => ∃ i : Nat, i + g = s.size ∧ s2 = .int .i64 i ∧ wx = w.iter s i)
  case atStart => exact ⟨0, by omega, rfl, rfl⟩
  case round =>
    obtain ⟨i, hig, rfl, rfl⟩ := hrel
    cases gk with
    | zero =>
      obtain rfl : i = s.size := by omega
      have hnx := run_next_end (P := Tryd.prog) w s s.size
      go_wp2
      go_ret
      exact ⟨rfl, rfl⟩
    | succ g =>
      have hi : i < s.size := by omega
      have ha : (s[i]'hi).toNat < 128 := HA.out i _ (Lib.data_getElem? s i hi)
      have hnx := fun ty => run_next_ascii (P := Tryd.prog) w s i ty hi ha
      go_wp2
      go_roundg g
      case measure => omega
      case rel => exact ⟨i + 1, by omega, by first | rfl | simp, rfl⟩
theorem s_RuneCount (s : Str) (hs : (List.length s).ble 1000 = true) (ha : asc7 s = true) : Sat Tryd.prog 191 [ofD .str s] [] (.d (ofD TI64 (List.length s : Int))) [] := by
  intro w F β args H hds
  cases hds with | cons h1 h2 =>
  cases h2
  obtain ⟨e1, _⟩ := h1
  subst e1
  have hl : (mk s).size = List.length s := rfl
  refine (walk_RuneCount (mk s) w (by rw [hl]; have := ble_iff.1 hs; omega) (fun j b hj => ?_)).mono ?_
  · have hm : b ∈ s := List.mem_of_getElem? hj
    have := List.all_eq_true.1 ha b hm
    exact blt_iff.1 this
  · rintro e w' ⟨rfl, rfl⟩
    have hsz : (w.iter (mk s) (mk s).size).heap.size = w.heap.size + 1 := by
      show (w.heap.push _).size = _
      exact Array.size_push ..
    refine ⟨_, F, β, rfl, (H.grow (w' := w.iter (mk s) (mk s).size) rfl rfl rfl (by omega) (fun b hb => ?_)).1, fun i hi => absurd hi (Nat.not_lt_zero i), fun i o hi => absurd hi (Nat.not_lt_zero i), fun _ _ _ hh => (nomatch hh), rep_v (plain_i64 (by omega) (by have := ble_iff.1 hs; omega))⟩
    show (w.heap.push _)[b]? = _
    rw [Array.getElem?_push, if_neg (by omega)]
noncomputable def c_unicode_utf8_RuneCountInString : Con := conT [.str] fun (s : Str) => (some ((List.length s).ble 1000 && asc7 s), .d (ofD TI64 (List.length s : Int)))
theorem k_unicode_utf8_RuneCountInString : ConOk Tryd.prog 191 c_unicode_utf8_RuneCountInString := conT_ok Tryd.call191 fun s _ hqq => s_RuneCount s (andd.1 (pre_of hqq)).1 (andd.1 (pre_of hqq)).2
noncomputable def Γ59 : List (Nat × Con) := (191, c_unicode_utf8_RuneCountInString) :: Γ58
theorem Γ59ok : EnvOk Tryd.prog (look Γ59) := .cons k_unicode_utf8_RuneCountInString Γ58ok

theorem y_unicode_utf8_DecodeRuneInString (s : Str) : evFn ((cxOf Γ59 Tryd.f192.ntmps [] [] [] []).parted [1]) Tryd.f192 true [ofD .str s] [] = (
need (decide ((!decide (s = [])) = true)) <|
need (inb 0 s.length) <|
need (bif true then decide (byteAt s 0 < 128) else false) <|
need (inb 0 s.length) <| some ((.tup [(.one (.r (.v (Value.int IntKind.i32 (IntKind.i32.wrap (byteAt s 0)))))), (.one (.r (.v (Value.int IntKind.i64 1))))]), [])) := by kernel_rfl
theorem s_unicode_utf8_DecodeRuneInString (s : Str) (_hs : Fit .str s) (hpre : (Nat.blt 0 (List.length s) && asc7 s) = true) : Sat Tryd.prog 192 [ofD .str s] [] (.tup [ofD (.int .i32) (byteAt s 0), ofD TI64 (1 : Int)]) [] :=
  fn_sound (cx := ((cxOf Γ59 Tryd.f192.ntmps [] [] [] []).parted [1])) Tryd.func192 rfl ttOk Γ59ok mixed (fun _ _ => LoopsOk.no fun _ => rfl) (ro := true) (by
    obtain ⟨h1, h2⟩ := andd.1 hpre
    have h1 := blt_iff.1 h1
    rw [y_unicode_utf8_DecodeRuneInString]
    cases s with
    | nil => exact absurd h1 (Nat.lt_irrefl 0)
    | cons c s =>
      have hc := blt_iff.1 (List.all_eq_true.1 h2 c List.mem_cons_self)
      have hb : byteAt (c :: s) 0 = (c.toNat : Int) := rfl
      have w : IntKind.i32.wrap (byteAt (c :: s) 0) = byteAt (c :: s) 0 := by
        rw [hb, IntKind.wrap_i32]; omega
      rw [w, inb_ok (Int.le_refl 0) (by rw [List.length_cons]; omega), decide_eq_true (show byteAt (c :: s) 0 < 128 by rw [hb]; omega)]; rfl)
noncomputable def c_unicode_utf8_DecodeRuneInString : Con := conT [.str] fun (s : Str) => (some (Nat.blt 0 (List.length s) && asc7 s), .tup [ofD (.int .i32) (byteAt s 0), ofD TI64 (1 : Int)])
theorem k_unicode_utf8_DecodeRuneInString : ConOk Tryd.prog 192 c_unicode_utf8_DecodeRuneInString := conT_ok Tryd.call192 fun s hs hqq => s_unicode_utf8_DecodeRuneInString s hs (pre_of hqq)
noncomputable def Γ60 : List (Nat × Con) := (192, c_unicode_utf8_DecodeRuneInString) :: Γ59
theorem Γ60ok : EnvOk Tryd.prog (look Γ60) := .cons k_unicode_utf8_DecodeRuneInString Γ59ok

/-- signs one by one -/
def onesL (s : Str) : List Str := s.map fun c => [c]
def expl : Nat → Nat → Str → List Str → List Str × Str
  | 0, _, s, a => (a, s)
  | m + 1, i, s, a => expl m (i + 1) (s.drop 1) (a.set i (s.take 1))
theorem expl_len : ∀ {m i : Nat} {s : Str} {a : List Str}, (expl m i s a).1.length = a.length
  | 0, _, _, _ => rfl
  | m + 1, i, s, a => by
    show (expl m (i + 1) (s.drop 1) (a.set i (s.take 1))).1.length = _
    rw [expl_len, List.length_set]
theorem expl_eq : ∀ {m i : Nat} {s : Str} {a : List Str}, s.length = m + 1 → a.length = i + m + 1 → (expl m i s a).1.set (i + m) (expl m i s a).2 = a.take i ++ onesL s
  | 0, i, s, a, h1, h2 => by
    obtain ⟨c, rfl⟩ := List.length_eq_one_iff.1 h1
    show a.set (i + 0) [c] = _
    rw [Nat.add_zero, List.set_eq_take_append_cons_drop, if_pos (by omega), List.drop_eq_nil_of_le (by omega)]; rfl
  | m + 1, i, s, a, h1, h2 => by
    obtain ⟨c, t, rfl⟩ : ∃ c t, s = c :: t := by
      cases s with
      | nil => cases h1
      | cons c t => exact ⟨c, t, rfl⟩
    have := expl_eq (m := m) (i := i + 1) (s := t) (a := a.set i [c]) (Nat.succ.inj h1) (by rw [List.length_set]; omega)
    show (expl m (i + 1) t (a.set i [c])).1.set (i + (m + 1)) (expl m (i + 1) t (a.set i [c])).2 = _
    rw [show i + (m + 1) = i + 1 + m by omega, this, List.set_eq_take_append_cons_drop, if_pos (by omega), List.take_append, List.length_take, show i + 1 - min i a.length = 1 by omega, List.take_of_length_le (by rw [List.length_take]; omega), List.append_assoc]; rfl
noncomputable def cb_expl : Cx := (cxOf Γ60 Tryd.f167.ntmps [(6, [0, 1, 6, 7])] [(0, [0, 1, 6]), (1, [0, 1, 6, 7]), (1000000, [4])] [] []).parted [2]
theorem x_strings_explode (s : Str) (n i : Int) (a : List Str) (R : St → Option Fin) (K : Cont) : evC (cb_expl.withLoops (look [])) (loopOf Tryd.f167 0) ⟨[(0, vS s), (1, vI n), (6, .d (.one (.own 500000))), (7, vI i)], [(500000, some (.lis 9 .str a))]⟩ (onward (headAt (cb_expl.withLoops (look [])) 6) R K) = (
branch (decide (i < W64 (n - 1))) (
 need (Nat.blt 0 s.length && asc7 s) <|
 need (inr 0 1 s.length) <|
 need (inb i a.length) <|
 need (inr 1 ((s.length : Int)) s.length) <| R (.mk [(0, (vS (List.take (((s.length : Int)).toNat - Int.toNat 1) (List.drop (Int.toNat 1) s)))), (1, (vI n)), (6, (.d (.one (.own 500000)))), (7, (vI (W64 (i + 1))))] [(500000, (.some (.lis 9 (Ty.str) (a.set i.toNat (List.take (Int.toNat 1 - (0 : Int).toNat) s)))))])) ( K (.exit 0) (.mk [(0, (vS s)), (1, (vI n)), (6, (.d (.one (.own 500000))))] [(500000, (.some (.lis 9 (Ty.str) (a))))]))) := by kernel_rfl
noncomputable def cx0_expl : Cx := (cb_expl).withLoops (look [])
def sh_expl : Sh := ([(0, .d .str), (1, .d TI64), (6, .own 500000), (7, .d TI64)], [(500000, .lis 9 .str)])
def pre_expl (s : Str) (n : Int) (i : Int) (a : List (Str)) : Bool := decide (0 ≤ i) && (decide (n ≤ 1000) && (decide ((List.length s : Int) + i = n) && (decide ((List.length a : Int) = n) && asc7 s)))
noncomputable def res_expl (s : Str) (n : Int) (i : Int) (a : List (Str)) (K : Cont) : Option Fin := K (.exit 0) ⟨[(0, vS (expl (n - 1 - i).toNat i.toNat s a).2), (1, vI n), (6, .d (.one (.own 500000)))], [(500000, some (.lis 9 .str (expl (n - 1 - i).toNat i.toNat s a).1))]⟩
def mu_expl (_s : Str) (n : Int) (i : Int) (_a : List (Str)) : Nat := (n - i).toNat
theorem r_expl (s : Str) (n : Int) (i : Int) (a : List (Str)) (K : Cont) (hI : pre_expl s n i a = true) : (∀ R : St → Option Fin, evC cx0_expl (loopOf Tryd.f167 0) ⟨[(0, .d (ofD .str s)), (1, .d (ofD TI64 n)), (6, .d (.one (.own 500000))), (7, .d (ofD TI64 i))], [(500000, some (.lis 9 .str a))]⟩ (onward (headAt cx0_expl 6) R K) = res_expl s n i a K) ∨
    (∃ (s' : Str) (n' : Int) (i' : Int) (a' : List (Str)), pre_expl s' n' i' a' = true ∧ mu_expl s' n' i' a' < mu_expl s n i a ∧ res_expl s' n' i' a' K = res_expl s n i a K ∧ ∀ R : St → Option Fin, evC cx0_expl (loopOf Tryd.f167 0) ⟨[(0, .d (ofD .str s)), (1, .d (ofD TI64 n)), (6, .d (.one (.own 500000))), (7, .d (ofD TI64 i))], [(500000, some (.lis 9 .str a))]⟩ (onward (headAt cx0_expl 6) R K) = R ⟨[(0, .d (ofD .str s')), (1, .d (ofD TI64 n')), (6, .d (.one (.own 500000))), (7, .d (ofD TI64 i'))], [(500000, some (.lis 9 .str a'))]⟩) := by
  have hx := fun R => x_strings_explode s n i a R K
  simp only [pre_expl, andd, dec_iff, ble_iff] at hI
  obtain ⟨h0, h1, h2, h3, h4⟩ := hI
  have w1 : W64 (n - 1) = n - 1 := wrap_small (by omega) (by omega)
  rw [w1] at hx
  by_cases hi : i < n - 1
  · have w : W64 (i + 1) = i + 1 := wrap_small (by omega) (by omega)
    have t1 : List.take (((List.length s : Int)).toNat - Int.toNat 1) (List.drop (Int.toNat 1) s) = List.drop 1 s := List.take_of_length_le (by rw [List.length_drop]; omega)
    have k1 : (Nat.blt 0 (List.length s) && asc7 s) = true := andd.2 ⟨blt_iff.2 (by omega), h4⟩
    obtain ⟨m, hm⟩ : ∃ m, (n - 1 - i).toNat = m + 1 := ⟨(n - 1 - i).toNat - 1, by omega⟩
    have hm2 : (n - 1 - (i + 1)).toNat = m := by omega
    have hi2 : (i + 1).toNat = i.toNat + 1 := by omega
    rw [decide_eq_true hi, k1, t1, w, inb_ok h0 (by omega), inr_iff.2 (by omega : (0 : Int) ≤ 0 ∧ (0 : Int) ≤ 1 ∧ 1 ≤ (List.length s : Int)), inr_iff.2 (by omega : (0 : Int) ≤ 1 ∧ 1 ≤ (List.length s : Int) ∧ (List.length s : Int) ≤ (List.length s : Int))] at hx
    right
    refine ⟨List.drop 1 s, n, i + 1, a.set i.toNat (List.take 1 s), ?_, ?_, ?_, fun R => hx R⟩
    · simp only [pre_expl, andd, dec_iff, ble_iff]
      rw [List.length_drop, List.length_set]
      exact ⟨by omega, h1, by omega, h3, List.all_eq_true.2 fun c hc => List.all_eq_true.1 h4 c (List.mem_of_mem_drop hc)⟩
    · simp only [mu_expl]; omega
    · simp only [res_expl, hm, hm2, hi2]; rfl
  · left
    intro R
    refine (hx R).trans ?_
    rw [decide_eq_false hi]
    have e : (n - 1 - i).toNat = 0 := by omega
    simp only [res_expl, e]; rfl
noncomputable def g_expl : St → Cont → Option Fin := gP sh_expl (fun v => match v with | ((s, n, i, ()), (a, ())) => pre_expl s n i a) (fun v K => match v with | ((s, n, i, ()), (a, ())) => res_expl s n i a K)
noncomputable def L_expl : List (Nat × (St → Cont → Option Fin)) := (6, g_expl) :: []
noncomputable def cx_expl : Cx := (cb_expl).withLoops (look L_expl)
theorem l_expl {L : List (Nat × (St → Cont → Option Fin))} (n : Nat) (h1 : L.drop n = []) (h2 : idsFree (L.take n) (loopOf Tryd.f167 0) = true) : ∀ st K r, g_expl st K = some r → ∃ N, iter (evC ((cb_expl).withLoops (look L)) (loopOf Tryd.f167 0)) (headAt ((cb_expl).withLoops (look L)) 6) N st K = some r :=
  with_drop h1 h2 (gP_ok (fun v => match v with | ((s, n, i, ()), (a, ())) => mu_expl s n i a) fun v K hI => by
    obtain ⟨⟨(s : Str), (n : Int), (i : Int), ⟨⟩⟩, ⟨(a : List (Str)), ⟨⟩⟩⟩ := v
    rcases r_expl s n i a K hI with h1 | ⟨s', n', i', a', h1, h2, h3, h4⟩
    · exact .inl h1
    · exact .inr ⟨((s', n', i', ()), (a', ())), h1, h2, h3, h4⟩)
theorem y_strings_explode (s : Str) (n : Int) : evFn cx_expl Tryd.f167 true [ofD .str s, ofD TI64 n] [] = (
need (s.length.ble 1000 && asc7 s) <|
branch (decide (decide (n < 0) = false)) (
 branch (bif false then true else decide ((s.length : Int) < n)) (
  need (decide (0 ≤ (s.length : Int) ∧ (s.length : Int) ≤ (s.length : Int) ∧ (s.length : Int) * (Tryd.t9.bytes : Int) ≤ 140737488355328 ∧ (s.length : Int) ≤ 9223372036854775807)) <|
  need (pre_expl s ((s.length : Int)) 0 (List.replicate ((s.length : Int)).toNat ([] : Str))) <|
  branch (decide (0 < (s.length : Int))) (
   need (inb (W64 ((s.length : Int) - 1)) (expl ((s.length : Int) - 1 - 0).toNat ((0 : Int).toNat) s (List.replicate ((s.length : Int)).toNat ([] : Str))).fst.length) <| some ((.d (.one (.r (.li (Ty.str) ((expl ((s.length : Int) - 1 - 0).toNat ((0 : Int).toNat) s (List.replicate ((s.length : Int)).toNat ([] : Str))).fst.set (W64 ((s.length : Int) - 1)).toNat (expl ((s.length : Int) - 1 - 0).toNat ((0 : Int).toNat) s (List.replicate ((s.length : Int)).toNat ([] : Str))).snd))))), [])) ( some ((.d (.one (.r (.li (Ty.str) ((expl ((s.length : Int) - 1 - 0).toNat ((0 : Int).toNat) s (List.replicate ((s.length : Int)).toNat ([] : Str))).fst))))), []))) (
  need (decide (0 ≤ n ∧ n ≤ n ∧ n * (Tryd.t9.bytes : Int) ≤ 140737488355328 ∧ n ≤ 9223372036854775807)) <|
  need (pre_expl s n 0 (List.replicate n.toNat ([] : Str))) <|
  branch (decide (0 < n)) (
   need (inb (W64 (n - 1)) (expl (n - 1 - 0).toNat ((0 : Int).toNat) s (List.replicate n.toNat ([] : Str))).fst.length) <| some ((.d (.one (.r (.li (Ty.str) ((expl (n - 1 - 0).toNat ((0 : Int).toNat) s (List.replicate n.toNat ([] : Str))).fst.set (W64 (n - 1)).toNat (expl (n - 1 - 0).toNat ((0 : Int).toNat) s (List.replicate n.toNat ([] : Str))).snd))))), [])) ( some ((.d (.one (.r (.li (Ty.str) ((expl (n - 1 - 0).toNat ((0 : Int).toNat) s (List.replicate n.toNat ([] : Str))).fst))))), [])))) (
 need (decide (0 ≤ (s.length : Int) ∧ (s.length : Int) ≤ (s.length : Int) ∧ (s.length : Int) * (Tryd.t9.bytes : Int) ≤ 140737488355328 ∧ (s.length : Int) ≤ 9223372036854775807)) <|
 need (pre_expl s ((s.length : Int)) 0 (List.replicate ((s.length : Int)).toNat ([] : Str))) <|
 branch (decide (0 < (s.length : Int))) (
  need (inb (W64 ((s.length : Int) - 1)) (expl ((s.length : Int) - 1 - 0).toNat ((0 : Int).toNat) s (List.replicate ((s.length : Int)).toNat ([] : Str))).fst.length) <| some ((.d (.one (.r (.li (Ty.str) ((expl ((s.length : Int) - 1 - 0).toNat ((0 : Int).toNat) s (List.replicate ((s.length : Int)).toNat ([] : Str))).fst.set (W64 ((s.length : Int) - 1)).toNat (expl ((s.length : Int) - 1 - 0).toNat ((0 : Int).toNat) s (List.replicate ((s.length : Int)).toNat ([] : Str))).snd))))), [])) ( some ((.d (.one (.r (.li (Ty.str) ((expl ((s.length : Int) - 1 - 0).toNat ((0 : Int).toNat) s (List.replicate ((s.length : Int)).toNat ([] : Str))).fst))))), [])))) := by kernel_rfl
theorem s_strings_explode (s : Str) (_hs : Fit .str s) (n : Int) (_hn : Fit TI64 n) (hpre : (decide (n = -1) && (Nat.ble (List.length s) 1000 && asc7 s)) = true) : Sat Tryd.prog 167 [ofD .str s, ofD TI64 n] [] (.d (ofD (.list .str) (onesL s))) [] :=
  fn_sound (cx := cx_expl) Tryd.func167 rfl ttOk Γ60ok mixed (fun c hc => LoopsOk.all (l := [(6, loopOf Tryd.f167 0)]) (by cases hc; kernel_rfl) ⟨atLoop rfl (l_expl 1 rfl (by kernel_rfl)), trivial⟩) (ro := true) (by
    rw [andd, dec_iff] at hpre
    obtain ⟨rfl, hq⟩ := hpre
    obtain ⟨h1, h2⟩ := andd.1 hq
    have h1 := ble_iff.1 h1
    have k1 : decide (0 ≤ (List.length s : Int) ∧ (List.length s : Int) ≤ (List.length s : Int) ∧ (List.length s : Int) * (Tryd.t9.bytes : Int) ≤ 140737488355328 ∧ (List.length s : Int) ≤ 9223372036854775807) = true := by
      rw [show Tryd.t9.bytes = 16 by kernel_rfl]
      exact decide_eq_true ⟨by omega, Int.le_refl _, by omega, by omega⟩
    have k2 : pre_expl s (List.length s : Int) 0 (List.replicate ((List.length s : Int)).toNat ([] : Str)) = true := by
      simp only [pre_expl, andd, dec_iff, ble_iff]
      rw [List.length_replicate]
      exact ⟨Int.le_refl 0, by omega, by omega, by omega, h2⟩
    rw [y_strings_explode, hq, k1, k2]
    cases s with
    | nil => rfl
    | cons c t =>
      have w : W64 ((List.length (c :: t) : Int) - 1) = (List.length t : Int) := by
        rw [List.length_cons]
        show W64 (((List.length t + 1 : Nat) : Int) - 1) = _
        rw [show ((List.length t + 1 : Nat) : Int) - 1 = (List.length t : Int) by omega]
        rw [List.length_cons] at h1
        exact wrap_small (by omega) (by omega)
      have e1 : ((List.length (c :: t) : Int) - 1 - 0).toNat = List.length t := by rw [List.length_cons]; omega
      have e2 : ((List.length (c :: t) : Int)).toNat = List.length t + 1 := by rw [List.length_cons]; omega
      have e3 : ((List.length t : Int)).toNat = 0 + List.length t := by omega
      have hx := expl_eq (m := List.length t) (i := 0) (s := c :: t) (a := List.replicate (List.length t + 1) ([] : Str)) rfl (by rw [List.length_replicate]; omega)
      rw [w, e1, e2, e3, decide_eq_true (by rw [List.length_cons]; omega : (0 : Int) < (List.length (c :: t) : Int)), inb_ok (by omega) (by rw [expl_len, List.length_replicate]; omega)]
      exact congrArg (fun z => (some (.d (.one (.r (.li .str z))), []) : Option Fin)) hx)
noncomputable def c_strings_explode : Con := conT [.str, TI64] fun (s : Str) (n : Int) => (some (decide (n = -1) && (Nat.ble (List.length s) 1000 && asc7 s)), .d (ofD (.list .str) (onesL s)))
theorem k_strings_explode : ConOk Tryd.prog 167 c_strings_explode := conT_ok Tryd.call167 fun s hs n hn hqq => s_strings_explode s hs n hn (pre_of hqq)
noncomputable def Γ61 : List (Nat × Con) := (167, c_strings_explode) :: Γ60
theorem Γ61ok : EnvOk Tryd.prog (look Γ61) := .cons k_strings_explode Γ60ok

theorem y_strings_genSplit (s : Str) (t : Str) (a : Int) (n : Int) : evFn ((cxOf Γ61 Tryd.f130.ntmps [] [] [] [])) Tryd.f130 true [ofD .str s, ofD .str t, ofD TI64 a, ofD TI64 n] [] = (
branch (decide (n = 0)) ( some ((.d (.one (.r (.li (ty9) ([]))))), [])) (
 branch (decide (t = [])) (
  need (decide (n = Int.neg 1) && (s.length.ble 1000 && asc7 s)) <| some ((.d (.one (.r (.li (Ty.str) (onesL s))))), [])) (
  branch (decide (n < 0)) ( none) (
   need (decide ((0 ≤ if W64 ((s.length : Int) + 1) < n then W64 ((s.length : Int) + 1) else n) ∧ ((if W64 ((s.length : Int) + 1) < n then W64 ((s.length : Int) + 1) else n) ≤ if W64 ((s.length : Int) + 1) < n then W64 ((s.length : Int) + 1) else n) ∧ (if W64 ((s.length : Int) + 1) < n then W64 ((s.length : Int) + 1) else n) * (Tryd.t9.bytes : Int) ≤ 140737488355328 ∧ (if W64 ((s.length : Int) + 1) < n then W64 ((s.length : Int) + 1) else n) ≤ 9223372036854775807)) <| none)))) := by kernel_rfl
theorem s_strings_genSplit (s : Str) (_hs : Fit .str s) (t : Str) (_ht : Fit .str t) (a : Int) (_ha : Fit TI64 a) (n : Int) (_hn : Fit TI64 n) (hpre : (decide (t = []) && (decide (n = -1) && (Nat.ble (List.length s) 1000 && asc7 s))) = true) : Sat Tryd.prog 130 [ofD .str s, ofD .str t, ofD TI64 a, ofD TI64 n] [] (.d (ofD (.list .str) (onesL s))) [] :=
  fn_sound (cx := cxOf Γ61 Tryd.f130.ntmps [] [] [] []) Tryd.func130 rfl ttOk Γ61ok mixed (fun _ _ => LoopsOk.no fun _ => rfl) (ro := true) (by
    rw [andd, andd, dec_iff, dec_iff] at hpre
    obtain ⟨rfl, rfl, hq⟩ := hpre
    rw [y_strings_genSplit, hq]; rfl)
noncomputable def c_strings_genSplit : Con := conT [.str, .str, TI64, TI64] fun (s : Str) (t : Str) (_a : Int) (n : Int) => (some (decide (t = []) && (decide (n = -1) && (Nat.ble (List.length s) 1000 && asc7 s))), .d (ofD (.list .str) (onesL s)))
theorem k_strings_genSplit : ConOk Tryd.prog 130 c_strings_genSplit := conT_ok Tryd.call130 fun s hs t ht a ha n hn hqq => s_strings_genSplit s hs t ht a ha n hn (pre_of hqq)
noncomputable def Γ62 : List (Nat × Con) := (130, c_strings_genSplit) :: Γ61
theorem Γ62ok : EnvOk Tryd.prog (look Γ62) := .cons k_strings_genSplit Γ61ok

theorem s_strings_Split (s : Str) (_hs : Fit .str s) (t : Str) (_ht : Fit .str t) (hpre : (decide (t = []) && (Nat.ble (List.length s) 1000 && asc7 s)) = true) : Sat Tryd.prog 58 [ofD .str s, ofD .str t] [] (.d (ofD (.list .str) (onesL s))) [] :=
  fn_sound (cx := cxOf Γ62 Tryd.f58.ntmps [] [] [] []) Tryd.func58 rfl ttOk Γ62ok mixed (fun _ _ => LoopsOk.no fun _ => rfl) (ro := true) (by
    have y : evFn (cxOf Γ62 Tryd.f58.ntmps [] [] [] []) Tryd.f58 true [ofD .str s, ofD .str t] [] = need (decide (t = []) && (decide (-1 = (-1 : Int)) && (Nat.ble (List.length s) 1000 && asc7 s))) (some (.d (ofD (.list .str) (onesL s)), [])) := by kernel_rfl
    rw [andd, dec_iff] at hpre
    obtain ⟨rfl, hq⟩ := hpre
    rw [y, hq]; rfl)
noncomputable def c_strings_Split : Con := conT [.str, .str] fun (s : Str) (t : Str) => (some (decide (t = []) && (Nat.ble (List.length s) 1000 && asc7 s)), .d (ofD (.list .str) (onesL s)))
theorem k_strings_Split : ConOk Tryd.prog 58 c_strings_Split := conT_ok Tryd.call58 fun s hs t ht hqq => s_strings_Split s hs t ht (pre_of hqq)
noncomputable def Γ63 : List (Nat × Con) := (58, c_strings_Split) :: Γ62
theorem Γ63ok : EnvOk Tryd.prog (look Γ63) := .cons k_strings_Split Γ62ok

def subS (s : Str) (i j : Int) : Str := List.take (j.toNat - i.toNat) (List.drop i.toNat s)
theorem sub_len {s : Str} {i j : Int} (h0 : 0 ≤ i) (h1 : i ≤ j) (h2 : j ≤ (s.length : Int)) : ((subS s i j).length : Int) = j - i := by
  unfold subS
  rw [List.length_take, List.length_drop]; omega
theorem sub_at {s : Str} {i j k : Int} (h0 : 0 ≤ i) (h2 : j ≤ (s.length : Int)) (k0 : 0 ≤ k) (k1 : k < j - i) : (subS s i j).getD k.toNat 0 = s.getD (k + i).toNat 0 := by
  unfold subS
  rw [List.getD_eq_getElem?_getD, List.getD_eq_getElem?_getD, List.getElem?_take, if_pos (by omega), List.getElem?_drop]
  congr 2
  omega
theorem der_step {s : Str} {P Q : Str → Int → Int → Prop} {a : Str} {i j p k : Int} (h0 : 0 ≤ i) (h2 : j ≤ (s.length : Int)) (p0 : 0 ≤ p) (k1 : k ≤ j - i) (hPQ : P a p k ↔ Q a (p + i) (k + i)) : derP (subS s i j) P a p k ↔ derP s Q a (p + i) (k + i) := by
  unfold derP
  split
  · constructor
    · rintro ⟨h3, h4⟩
      exact ⟨by omega, by rw [← sub_at (j := j) h0 h2 p0 (by omega)]; exact h4⟩
    · rintro ⟨h3, h4⟩
      exact ⟨by omega, by rw [sub_at (j := j) h0 h2 p0 (by omega)]; exact h4⟩
  · exact hPQ
theorem spl_out {s : Str} {P : Str → Int → Int → Prop} {i j : Int} (h0 : 0 ≤ i) (h2 : j ≤ (s.length : Int)) : ∀ {r : Str} {p q : Int}, 0 ≤ p → q ≤ j - i → splP (subS s i j) (fun a p q => P a (p + i) (q + i)) r p q → splP s P r (p + i) (q + i)
  | [], _, _, _, _, h => by
    unfold splP at h ⊢
    rw [h]
  | c :: r, p, q, hp, hq, h => by
    unfold splP at h ⊢
    obtain ⟨k, k1, k2, k3, k4⟩ := h
    exact ⟨k + i, by omega, by omega, (der_step h0 h2 hp (by omega) Iff.rfl).1 k3, spl_out h0 h2 (by omega) hq k4⟩
theorem spl_in {s : Str} {P : Str → Int → Int → Prop} {i j : Int} (h0 : 0 ≤ i) (h2 : j ≤ (s.length : Int)) : ∀ {r : Str} {p q : Int}, 0 ≤ p → q ≤ j - i → splP s (fun a p q => i ≤ p → q ≤ j → P a (p - i) (q - i)) r (p + i) (q + i) → splP (subS s i j) P r p q
  | [], _, _, _, _, h => by
    unfold splP at h ⊢
    omega
  | c :: r, p, q, hp, hq, h => by
    unfold splP at h ⊢
    obtain ⟨k, k1, k2, k3, k4⟩ := h
    have e : k - i + i = k := by omega
    refine ⟨k - i, by omega, by omega, (der_step (Q := fun a p q => P a (p - i) (q - i)) h0 h2 hp (by omega) ?_).2 ?_, spl_in h0 h2 (by omega) hq (by rw [e]; exact k4)⟩
    · show P [c] p (k - i) ↔ P [c] (p + i - i) (k - i + i - i)
      rw [show p + i - i = p by omega, show k - i + i - i = k - i by omega]
    · rw [e]
      unfold derP at k3 ⊢
      split
      · rename_i hs; rw [if_pos hs] at k3; exact k3
      · rename_i hs; rw [if_neg hs] at k3; exact k3 (by omega) (by omega)
/-- what a part of a text comes of is what it comes of as a text -/
theorem Der_sub {s : Str} {l : List Rule} {a : Str} {i j : Int} (h0 : 0 ≤ i) (h1 : i ≤ j) (h2 : j ≤ (s.length : Int)) : DerG (subS s i j) l a 0 (j - i) ↔ DerG s l a i j := by
  have hl := sub_len h0 h1 h2
  constructor
  · intro h P hP
    have := h (fun a p q => P a (p + i) (q + i)) (fun r hr p q p0 p1 p2 hs => hP r hr (p + i) (q + i) (by omega) (by omega) (by omega) (spl_out h0 h2 p0 (by omega) hs))
    rw [show (0 : Int) + i = i by omega, show j - i + i = j by omega] at this
    exact this
  · intro h P hP
    have := h (fun a p q => i ≤ p → q ≤ j → P a (p - i) (q - i)) (fun r hr p q p0 p1 p2 hs hi hj => hP r hr (p - i) (q - i) (by omega) (by omega) (by omega) (spl_in h0 h2 (by omega) (by omega) (by rw [show p - i + i = p by omega, show q - i + i = q by omega]; exact hs))) (Int.le_refl _) (Int.le_refl _)
    rw [show i - i = 0 by omega] at this
    exact this
def tosP (f : Int → Bool) (a : Str) (i : Int) : Nat → Int → List Part
  | 0, _ => []
  | n + 1, j => (bif f j then [(a, i, j)] else []) ++ tosP f a i n (j + 1)
def frsP (f : Int → Int → Bool) (a : Str) (n : Int) : Nat → Int → List Part
  | 0, _ => []
  | m + 1, i => tosP (f i) a i (n + 1 - i).toNat i ++ frsP f a n m (i + 1)
/-- the parts that are so, sign by sign -/
def partsF (f : Str → Int → Int → Bool) (n : Int) (l : List Str) : List Part := l.flatMap fun a => frsP (f a) a n (n + 1).toNat 0
theorem mem_tosP {f : Int → Bool} {a : Str} {i : Int} {x : Part} : ∀ {n : Nat} {j : Int}, x ∈ tosP f a i n j ↔ x.1 = a ∧ x.2.1 = i ∧ j ≤ x.2.2 ∧ x.2.2 < j + n ∧ f x.2.2 = true
  | 0, j => by
    unfold tosP
    constructor
    · intro h; cases h
    · rintro ⟨_, _, h1, h2, _⟩; omega
  | n + 1, j => by
    unfold tosP
    rw [List.mem_append, mem_tosP (n := n) (j := j + 1)]
    constructor
    · rintro (h | ⟨h1, h2, h3, h4, h5⟩)
      · cases hf : f j <;> rw [hf] at h
        · cases h
        · cases List.mem_singleton.1 h
          exact ⟨rfl, rfl, Int.le_refl _, by show j < j + _; omega, hf⟩
      · exact ⟨h1, h2, by omega, by omega, h5⟩
    · rintro ⟨h1, h2, h3, h4, h5⟩
      by_cases h : x.2.2 = j
      · left
        rw [h] at h5
        rw [h5, cond_true, List.mem_singleton]
        obtain ⟨x1, x2, x3⟩ := x
        cases h; cases h1; cases h2; rfl
      · exact .inr ⟨h1, h2, by omega, by omega, h5⟩
theorem mem_frsP {f : Int → Int → Bool} {a : Str} {n : Int} {x : Part} : ∀ {m : Nat} {i : Int}, i + m ≤ n + 1 → (x ∈ frsP f a n m i ↔ x.1 = a ∧ i ≤ x.2.1 ∧ x.2.1 < i + m ∧ x.2.1 ≤ x.2.2 ∧ x.2.2 ≤ n ∧ f x.2.1 x.2.2 = true)
  | 0, i, _ => by
    unfold frsP
    constructor
    · intro h; cases h
    · rintro ⟨_, h1, h2, _⟩; omega
  | m + 1, i, hm => by
    unfold frsP
    rw [List.mem_append, mem_tosP, mem_frsP (m := m) (i := i + 1) (by omega)]
    constructor
    · rintro (⟨h1, h2, h3, h4, h5⟩ | ⟨h1, h2, h3, h4, h5, h6⟩)
      · rw [h2]; exact ⟨h1, Int.le_refl _, by omega, h3, by omega, h5⟩
      · exact ⟨h1, by omega, by omega, h4, h5, h6⟩
    · rintro ⟨h1, h2, h3, h4, h5, h6⟩
      by_cases h : x.2.1 = i
      · rw [h] at h6 h4; exact .inl ⟨h1, h, h4, by omega, h6⟩
      · exact .inr ⟨h1, by omega, by omega, h4, h5, h6⟩
theorem mem_partsF {f : Str → Int → Int → Bool} {n : Int} {l : List Str} {x : Part} (hn : 0 ≤ n) : x ∈ partsF f n l ↔ x.1 ∈ l ∧ 0 ≤ x.2.1 ∧ x.2.1 ≤ x.2.2 ∧ x.2.2 ≤ n ∧ f x.1 x.2.1 x.2.2 = true := by
  unfold partsF
  rw [List.mem_flatMap]
  constructor
  · rintro ⟨a, ha, h⟩
    rw [mem_frsP (by omega)] at h
    obtain ⟨rfl, h2, h3, h4, h5, h6⟩ := h
    exact ⟨ha, h2, h4, h5, h6⟩
  · rintro ⟨h1, h2, h3, h4, h5⟩
    exact ⟨x.1, h1, (mem_frsP (by omega)).2 ⟨rfl, h2, by omega, h3, h4, h5⟩⟩
theorem tosP_congr {f g : Int → Bool} {a : Str} {i : Int} : ∀ {n : Nat} {j : Int}, (∀ k, j ≤ k → k < j + n → f k = g k) → tosP f a i n j = tosP g a i n j
  | 0, _, _ => rfl
  | n + 1, j, h => by
    unfold tosP
    rw [h j (Int.le_refl _) (by omega), tosP_congr fun k h1 h2 => h k (by omega) (by omega)]
theorem frsP_congr {f g : Int → Int → Bool} {a : Str} {n : Int} : ∀ {m : Nat} {i : Int}, (∀ p q, i ≤ p → p < i + m → p ≤ q → q ≤ n → f p q = g p q) → frsP f a n m i = frsP g a n m i
  | 0, _, _ => rfl
  | m + 1, i, h => by
    unfold frsP
    rw [tosP_congr (g := g i) fun k h1 h2 => h i k (Int.le_refl _) (by omega) h1 (by omega), frsP_congr fun p q h1 h2 h3 h4 => h p q (by omega) (by omega) h3 h4]
theorem partsF_congr {f g : Str → Int → Int → Bool} {n : Int} {l : List Str} (h : ∀ a ∈ l, ∀ p q, 0 ≤ p → p ≤ q → q ≤ n → f a p q = g a p q) : partsF f n l = partsF g n l := by
  unfold partsF
  induction l with
  | nil => rfl
  | cons a l ih =>
    rw [List.flatMap_cons, List.flatMap_cons, ih fun b hb => h b (List.mem_cons_of_mem _ hb), frsP_congr fun p q h1 _ h3 h4 => h a List.mem_cons_self p q h1 h3 h4]
noncomputable def cb_sap : Cx := (cxOf Γ63 Tryd.f15.ntmps [(12, [1, 5, 6, 7, 8, 9]), (9, [1, 5, 6, 7, 8]), (6, [1, 5, 6, 7])] [(0, [5]), (1, [1, 5, 6, 7]), (2, [1, 5, 6, 7]), (3, [1, 5, 6, 7, 8]), (4, [1, 5, 6, 7, 8]), (5, [1, 5, 6, 7, 8, 9]), (1000000, [4])] [] []).parted [2]
abbrev apH (o : List Part) (ch : C3) : Heap := [(500000, some (.lis 31 TP o)), (500001, some (.deep ts3 TC2 ch))]
theorem x_spec_AllParts_2 (s : Str) (o : List Part) (ch : C3) (k i j : Int) (R : St → Option Fin) (K : Cont) : evC (cb_sap.withLoops (look [])) (loopOf Tryd.f15 2) ⟨[(1, vS s), (5, .d (.one (.own 500000))), (6, .d (.one (.dsl 500001 []))), (7, vI k), (8, vI i), (9, vI j)], apH o ch⟩ (onward (headAt (cb_sap.withLoops (look [])) 12) R K) = (
branch (decide (j ≤ (s.length : Int))) (
 need (inb k ch.length) <|
 need (inb i (List.getD ch k.toNat []).length) <|
 need (inb j ((List.getD ch k.toNat []).getD i.toNat []).length) <|
 branch (((List.getD ch k.toNat []).getD i.toNat []).getD j.toNat (dflt Ty.bool)) (
  need (fits (o.length + [(byteL [IntKind.u8.wrap (W64 (65 + k))], i, j)].length) Tryd.t31.bytes) <| R (.mk [(1, (vS s)), (5, (.d (.one (.own 500000)))), (6, (.d (.one (.dsl 500001 ([]))))), (7, (vI k)), (8, (vI i)), (9, (vI (W64 (j + 1))))] [(500000, (.some (.lis 31 (ty31) (o.append [(byteL [IntKind.u8.wrap (W64 (65 + k))], i, j)])))), (500001, (.some (.deep (ts3) (TC2) (ch))))])) ( R (.mk [(1, (vS s)), (5, (.d (.one (.own 500000)))), (6, (.d (.one (.dsl 500001 ([]))))), (7, (vI k)), (8, (vI i)), (9, (vI (W64 (j + 1))))] [(500000, (.some (.lis 31 (TP) (o)))), (500001, (.some (.deep (ts3) (TC2) (ch))))]))) ( K (.exit 4) (.mk [(1, (vS s)), (5, (.d (.one (.own 500000)))), (6, (.d (.one (.dsl 500001 ([]))))), (7, (vI k)), (8, (vI i))] [(500000, (.some (.lis 31 (TP) (o)))), (500001, (.some (.deep (ts3) (TC2) (ch))))]))) := by kernel_rfl
theorem sgn_wrap {k : Int} (k0 : 0 ≤ k) (k1 : k < 5) : byteL [IntKind.u8.wrap (W64 (65 + k))] = sgn k.toNat := by
  have w : W64 (65 + k) = 65 + k := wrap_small (by omega) (by omega)
  have w2 : IntKind.u8.wrap (65 + k) = 65 + k := by
    show (65 + k) % 256 = _
    exact Int.emod_eq_of_lt (by omega) (by omega)
  rw [w, w2]
  have e : (65 + k).toNat = 65 + k.toNat := by omega
  unfold sgn byteL
  rw [List.map_cons, List.map_nil]
  exact congrArg (fun z => [UInt8.ofNat z]) e
theorem tosP_len {f : Int → Bool} {a : Str} {i : Int} : ∀ {n : Nat} {j : Int}, (tosP f a i n j).length ≤ n
  | 0, _ => Nat.le_refl _
  | n + 1, j => by
    have := tosP_len (f := f) (a := a) (i := i) (n := n) (j := j + 1)
    unfold tosP
    rw [List.length_append]
    cases f j
    · show 0 + _ ≤ _; omega
    · show 1 + _ ≤ _; omega
theorem frsP_len {f : Int → Int → Bool} {a : Str} {n : Int} (hn : n ≤ 1000) : ∀ {m : Nat} {i : Int}, 0 ≤ i → (frsP f a n m i).length ≤ m * 1050
  | 0, _, _ => Nat.zero_le _
  | m + 1, i, h => by
    have h1 := frsP_len (f := f) (a := a) (n := n) hn (m := m) (i := i + 1) (by omega)
    have h2 := tosP_len (f := f i) (a := a) (i := i) (n := (n + 1 - i).toNat) (j := i)
    unfold frsP
    rw [List.length_append]
    omega
theorem partBytes : Tryd.t31.bytes = 32 := by kernel_rfl
theorem partFits {n : Nat} (h : n ≤ 10000000) : fits (n + 1) Tryd.t31.bytes = true := by
  rw [partBytes]
  exact decide_eq_true (by omega)
noncomputable def cx0_p3 : Cx := (cb_sap).withLoops (look [])
def sh_p3 : Sh := ([(1, .d .str), (5, .own 500000), (6, .deep 500001), (7, .d TI64), (8, .d TI64), (9, .d TI64)], [(500000, .lis 31 TP), (500001, .deep ts3 TC2)])
def pre_p3 (s : Str) (k : Int) (i : Int) (j : Int) (o : List (Part)) (ch : List (List (List Bool))) : Bool := decide (0 ≤ i) && (decide (i ≤ j) && (decide (i ≤ (List.length s : Int)) && (okC5 (List.length s + 1) ch && (decide (0 ≤ k) && (decide (k < 5) && (Nat.ble (List.length s) 1000 && decide ((List.length o : Int) ≤ k * 1100000 + i * 1050 + (j - i))))))))
noncomputable def res_p3 (s : Str) (k : Int) (i : Int) (j : Int) (o : List (Part)) (ch : List (List (List Bool))) (K : Cont) : Option Fin := K (.exit 4) ⟨[(1, vS s), (5, .d (.one (.own 500000))), (6, .d (.one (.dsl 500001 []))), (7, vI k), (8, vI i)], apH (o ++ tosP (fun j' => atC ch k i j') (sgn k.toNat) i ((List.length s : Int) + 1 - j).toNat j) ch⟩
def mu_p3 (s : Str) (_k : Int) (_i : Int) (j : Int) (_o : List (Part)) (_ch : List (List (List Bool))) : Nat := ((List.length s : Int) + 1 - j).toNat
theorem r_p3 (s : Str) (k : Int) (i : Int) (j : Int) (o : List (Part)) (ch : List (List (List Bool))) (K : Cont) (hI : pre_p3 s k i j o ch = true) : (∀ R : St → Option Fin, evC cx0_p3 (loopOf Tryd.f15 2) ⟨[(1, .d (ofD .str s)), (5, .d (.one (.own 500000))), (6, .d (.one (.dsl 500001 []))), (7, .d (ofD TI64 k)), (8, .d (ofD TI64 i)), (9, .d (ofD TI64 j))], [(500000, some (.lis 31 TP o)), (500001, some (.deep ts3 TC2 ch))]⟩ (onward (headAt cx0_p3 12) R K) = res_p3 s k i j o ch K) ∨
    (∃ (s' : Str) (k' : Int) (i' : Int) (j' : Int) (o' : List (Part)) (ch' : List (List (List Bool))), pre_p3 s' k' i' j' o' ch' = true ∧ mu_p3 s' k' i' j' o' ch' < mu_p3 s k i j o ch ∧ res_p3 s' k' i' j' o' ch' K = res_p3 s k i j o ch K ∧ ∀ R : St → Option Fin, evC cx0_p3 (loopOf Tryd.f15 2) ⟨[(1, .d (ofD .str s)), (5, .d (.one (.own 500000))), (6, .d (.one (.dsl 500001 []))), (7, .d (ofD TI64 k)), (8, .d (ofD TI64 i)), (9, .d (ofD TI64 j))], [(500000, some (.lis 31 TP o)), (500001, some (.deep ts3 TC2 ch))]⟩ (onward (headAt cx0_p3 12) R K) = R ⟨[(1, .d (ofD .str s')), (5, .d (.one (.own 500000))), (6, .d (.one (.dsl 500001 []))), (7, .d (ofD TI64 k')), (8, .d (ofD TI64 i')), (9, .d (ofD TI64 j'))], [(500000, some (.lis 31 TP o')), (500001, some (.deep ts3 TC2 ch'))]⟩) := by
  have hx := fun R => x_spec_AllParts_2 s o ch k i j R K
  simp only [pre_p3, andd, dec_iff, ble_iff] at hI
  obtain ⟨h0, h1, h2, h3, k0, k1, h4, h5⟩ := hI
  by_cases hj : j ≤ (List.length s : Int)
  · have w : W64 (j + 1) = j + 1 := wrap_small (by omega) (by omega)
    obtain ⟨l1, l2, l3⟩ := okC5_at h3 k0 k1 h0 (by omega)
    obtain ⟨m, hm⟩ : ∃ m, ((List.length s : Int) + 1 - j).toNat = m + 1 := ⟨((List.length s : Int) + 1 - j).toNat - 1, by omega⟩
    have hm2 : ((List.length s : Int) + 1 - (j + 1)).toNat = m := by omega
    have hg : tosP (fun j' => atC ch k i j') (sgn k.toNat) i (m + 1) j = (bif atC ch k i j then [(sgn k.toNat, i, j)] else []) ++ tosP (fun j' => atC ch k i j') (sgn k.toNat) i m (j + 1) := rfl
    rw [decide_eq_true hj, sgn_wrap k0 k1, w, List.length_singleton, partFits (by omega), l1] at hx
    change ∀ R : St → Option Fin, _ = branch true (need (inb k 5) (need (inb i (List.length (List.getD ch k.toNat []))) (need (inb j (List.length (List.getD (List.getD ch k.toNat []) i.toNat []))) (branch (atC ch k i j) (need true _) _)))) _ at hx
    rw [l2, l3, inb_ok k0 (by omega), inb_ok h0 (by omega), inb_ok (by omega) (by omega)] at hx
    right
    cases hc : atC ch k i j
    · rw [hc] at hx hg
      refine ⟨s, k, i, j + 1, o, ch, ?_, ?_, ?_, fun R => hx R⟩
      · simp only [pre_p3, andd, dec_iff, ble_iff]
        exact ⟨h0, by omega, h2, h3, k0, k1, h4, by omega⟩
      · simp only [mu_p3]; omega
      · simp only [res_p3, hm, hm2, hg]; rfl
    · rw [hc] at hx hg
      refine ⟨s, k, i, j + 1, o ++ [(sgn k.toNat, i, j)], ch, ?_, ?_, ?_, fun R => hx R⟩
      · simp only [pre_p3, andd, dec_iff, ble_iff]
        rw [List.length_append, List.length_singleton]
        exact ⟨h0, by omega, h2, h3, k0, k1, h4, by omega⟩
      · simp only [mu_p3]; omega
      · simp only [res_p3, hm, hm2, hg, cond_true, List.append_assoc]
  · left
    intro R
    refine (hx R).trans ?_
    rw [decide_eq_false hj]
    have e : ((List.length s : Int) + 1 - j).toNat = 0 := by omega
    have e2 : o ++ tosP (fun j' => atC ch k i j') (sgn k.toNat) i 0 j = o := List.append_nil o
    simp only [res_p3, e, e2]; rfl
noncomputable def g_p3 : St → Cont → Option Fin := gP sh_p3 (fun v => match v with | ((s, k, i, j, ()), (o, ch, ())) => pre_p3 s k i j o ch) (fun v K => match v with | ((s, k, i, j, ()), (o, ch, ())) => res_p3 s k i j o ch K)
noncomputable def L_p3 : List (Nat × (St → Cont → Option Fin)) := (12, g_p3) :: []
noncomputable def cx_p3 : Cx := (cb_sap).withLoops (look L_p3)
theorem l_p3 {L : List (Nat × (St → Cont → Option Fin))} (n : Nat) (h1 : L.drop n = []) (h2 : idsFree (L.take n) (loopOf Tryd.f15 2) = true) : ∀ st K r, g_p3 st K = some r → ∃ N, iter (evC ((cb_sap).withLoops (look L)) (loopOf Tryd.f15 2)) (headAt ((cb_sap).withLoops (look L)) 12) N st K = some r :=
  with_drop h1 h2 (gP_ok (fun v => match v with | ((s, k, i, j, ()), (o, ch, ())) => mu_p3 s k i j o ch) fun v K hI => by
    obtain ⟨⟨(s : Str), (k : Int), (i : Int), (j : Int), ⟨⟩⟩, ⟨(o : List (Part)), (ch : List (List (List Bool))), ⟨⟩⟩⟩ := v
    rcases r_p3 s k i j o ch K hI with h1 | ⟨s', k', i', j', o', ch', h1, h2, h3, h4⟩
    · exact .inl h1
    · exact .inr ⟨((s', k', i', j', ()), (o', ch', ())), h1, h2, h3, h4⟩)
theorem x_spec_AllParts_1 (s : Str) (o : List Part) (ch : C3) (k i : Int) (R : St → Option Fin) (K : Cont) : evC (cb_sap.withLoops (look L_p3)) (loopOf Tryd.f15 1) ⟨[(1, vS s), (5, .d (.one (.own 500000))), (6, .d (.one (.dsl 500001 []))), (7, vI k), (8, vI i)], apH o ch⟩ (onward (headAt (cb_sap.withLoops (look L_p3)) 9) R K) = (
branch (decide (i ≤ (s.length : Int))) (
 need (pre_p3 s k i i o ch) <| R (.mk [(1, (vS s)), (5, (.d (.one (.own 500000)))), (6, (.d (.one (.dsl 500001 ([]))))), (7, (vI k)), (8, (vI (W64 (i + 1))))] [(500000, (.some (.lis 31 (TP) (o.append (tosP (fun j' => atC ch k i j') (sgn k.toNat) i ((s.length : Int) + 1 - i).toNat i))))), (500001, (.some (.deep (ts3) (TC2) (ch))))])) ( K (.exit 2) (.mk [(1, (vS s)), (5, (.d (.one (.own 500000)))), (6, (.d (.one (.dsl 500001 ([]))))), (7, (vI k))] [(500000, (.some (.lis 31 (TP) (o)))), (500001, (.some (.deep (ts3) (TC2) (ch))))]))) := by kernel_rfl
noncomputable def cx0_p2 : Cx := (cb_sap).withLoops (look L_p3)
def sh_p2 : Sh := ([(1, .d .str), (5, .own 500000), (6, .deep 500001), (7, .d TI64), (8, .d TI64)], [(500000, .lis 31 TP), (500001, .deep ts3 TC2)])
def pre_p2 (s : Str) (k : Int) (i : Int) (o : List (Part)) (ch : List (List (List Bool))) : Bool := decide (0 ≤ i) && (okC5 (List.length s + 1) ch && (decide (0 ≤ k) && (decide (k < 5) && (Nat.ble (List.length s) 1000 && decide ((List.length o : Int) ≤ k * 1100000 + i * 1050)))))
noncomputable def res_p2 (s : Str) (k : Int) (i : Int) (o : List (Part)) (ch : List (List (List Bool))) (K : Cont) : Option Fin := K (.exit 2) ⟨[(1, vS s), (5, .d (.one (.own 500000))), (6, .d (.one (.dsl 500001 []))), (7, vI k)], apH (o ++ frsP (fun i' j' => atC ch k i' j') (sgn k.toNat) (List.length s : Int) ((List.length s : Int) + 1 - i).toNat i) ch⟩
def mu_p2 (s : Str) (_k : Int) (i : Int) (_o : List (Part)) (_ch : List (List (List Bool))) : Nat := ((List.length s : Int) + 1 - i).toNat
theorem r_p2 (s : Str) (k : Int) (i : Int) (o : List (Part)) (ch : List (List (List Bool))) (K : Cont) (hI : pre_p2 s k i o ch = true) : (∀ R : St → Option Fin, evC cx0_p2 (loopOf Tryd.f15 1) ⟨[(1, .d (ofD .str s)), (5, .d (.one (.own 500000))), (6, .d (.one (.dsl 500001 []))), (7, .d (ofD TI64 k)), (8, .d (ofD TI64 i))], [(500000, some (.lis 31 TP o)), (500001, some (.deep ts3 TC2 ch))]⟩ (onward (headAt cx0_p2 9) R K) = res_p2 s k i o ch K) ∨
    (∃ (s' : Str) (k' : Int) (i' : Int) (o' : List (Part)) (ch' : List (List (List Bool))), pre_p2 s' k' i' o' ch' = true ∧ mu_p2 s' k' i' o' ch' < mu_p2 s k i o ch ∧ res_p2 s' k' i' o' ch' K = res_p2 s k i o ch K ∧ ∀ R : St → Option Fin, evC cx0_p2 (loopOf Tryd.f15 1) ⟨[(1, .d (ofD .str s)), (5, .d (.one (.own 500000))), (6, .d (.one (.dsl 500001 []))), (7, .d (ofD TI64 k)), (8, .d (ofD TI64 i))], [(500000, some (.lis 31 TP o)), (500001, some (.deep ts3 TC2 ch))]⟩ (onward (headAt cx0_p2 9) R K) = R ⟨[(1, .d (ofD .str s')), (5, .d (.one (.own 500000))), (6, .d (.one (.dsl 500001 []))), (7, .d (ofD TI64 k')), (8, .d (ofD TI64 i'))], [(500000, some (.lis 31 TP o')), (500001, some (.deep ts3 TC2 ch'))]⟩) := by
  have hx := fun R => x_spec_AllParts_1 s o ch k i R K
  simp only [pre_p2, andd, dec_iff, ble_iff] at hI
  obtain ⟨h0, h3, k0, k1, h4, h5⟩ := hI
  by_cases hj : i ≤ (List.length s : Int)
  · have w : W64 (i + 1) = i + 1 := wrap_small (by omega) (by omega)
    obtain ⟨m, hm⟩ : ∃ m, ((List.length s : Int) + 1 - i).toNat = m + 1 := ⟨((List.length s : Int) + 1 - i).toNat - 1, by omega⟩
    have hm2 : ((List.length s : Int) + 1 - (i + 1)).toNat = m := by omega
    have hg : frsP (fun i' j' => atC ch k i' j') (sgn k.toNat) (List.length s : Int) (m + 1) i = tosP (fun j' => atC ch k i j') (sgn k.toNat) i ((List.length s : Int) + 1 - i).toNat i ++ frsP (fun i' j' => atC ch k i' j') (sgn k.toNat) (List.length s : Int) m (i + 1) := rfl
    have hl := tosP_len (f := fun j' => atC ch k i j') (a := sgn k.toNat) (i := i) (n := ((List.length s : Int) + 1 - i).toNat) (j := i)
    have kp : pre_p3 s k i i o ch = true := by
      simp only [pre_p3, andd, dec_iff, ble_iff]
      exact ⟨h0, Int.le_refl _, hj, h3, k0, k1, h4, by omega⟩
    rw [decide_eq_true hj, kp, w] at hx
    right
    refine ⟨s, k, i + 1, o ++ tosP (fun j' => atC ch k i j') (sgn k.toNat) i ((List.length s : Int) + 1 - i).toNat i, ch, ?_, ?_, ?_, fun R => hx R⟩
    · simp only [pre_p2, andd, dec_iff, ble_iff]
      rw [List.length_append]
      exact ⟨by omega, h3, k0, k1, h4, by omega⟩
    · simp only [mu_p2]; omega
    · rw [← hm] at hg
      simp only [res_p2, hg, hm2, List.append_assoc]
  · left
    intro R
    refine (hx R).trans ?_
    rw [decide_eq_false hj]
    have e : ((List.length s : Int) + 1 - i).toNat = 0 := by omega
    have e2 : o ++ frsP (fun i' j' => atC ch k i' j') (sgn k.toNat) (List.length s : Int) 0 i = o := List.append_nil o
    simp only [res_p2, e, e2]; rfl
noncomputable def g_p2 : St → Cont → Option Fin := gP sh_p2 (fun v => match v with | ((s, k, i, ()), (o, ch, ())) => pre_p2 s k i o ch) (fun v K => match v with | ((s, k, i, ()), (o, ch, ())) => res_p2 s k i o ch K)
noncomputable def L_p2 : List (Nat × (St → Cont → Option Fin)) := (9, g_p2) :: L_p3
noncomputable def cx_p2 : Cx := (cb_sap).withLoops (look L_p2)
theorem l_p2 {L : List (Nat × (St → Cont → Option Fin))} (n : Nat) (h1 : L.drop n = L_p3) (h2 : idsFree (L.take n) (loopOf Tryd.f15 1) = true) : ∀ st K r, g_p2 st K = some r → ∃ N, iter (evC ((cb_sap).withLoops (look L)) (loopOf Tryd.f15 1)) (headAt ((cb_sap).withLoops (look L)) 9) N st K = some r :=
  with_drop h1 h2 (gP_ok (fun v => match v with | ((s, k, i, ()), (o, ch, ())) => mu_p2 s k i o ch) fun v K hI => by
    obtain ⟨⟨(s : Str), (k : Int), (i : Int), ⟨⟩⟩, ⟨(o : List (Part)), (ch : List (List (List Bool))), ⟨⟩⟩⟩ := v
    rcases r_p2 s k i o ch K hI with h1 | ⟨s', k', i', o', ch', h1, h2, h3, h4⟩
    · exact .inl h1
    · exact .inr ⟨((s', k', i', ()), (o', ch', ())), h1, h2, h3, h4⟩)
def signsF (ch : C3) (n : Int) : Nat → Int → List Part
  | 0, _ => []
  | m + 1, k => frsP (fun i' j' => atC ch k i' j') (sgn k.toNat) n (n + 1).toNat 0 ++ signsF ch n m (k + 1)
theorem x_spec_AllParts (s : Str) (o : List Part) (ch : C3) (k : Int) (R : St → Option Fin) (K : Cont) : evC (cb_sap.withLoops (look L_p2)) (loopOf Tryd.f15 0) ⟨[(1, vS s), (5, .d (.one (.own 500000))), (6, .d (.one (.dsl 500001 []))), (7, vI k)], apH o ch⟩ (onward (headAt (cb_sap.withLoops (look L_p2)) 6) R K) = (
branch (decide (k < 5)) (
 need (pre_p2 s k 0 o ch) <| R (.mk [(1, (vS s)), (5, (.d (.one (.own 500000)))), (6, (.d (.one (.dsl 500001 ([]))))), (7, (vI (W64 (k + 1))))] [(500000, (.some (.lis 31 (TP) (o.append (frsP (fun i' j' => atC ch k i' j') (sgn k.toNat) ((s.length : Int)) ((s.length : Int) + 1 - 0).toNat 0))))), (500001, (.some (.deep (ts3) (TC2) (ch))))])) ( K (.exit 0) (.mk [(5, (.d (.one (.own 500000))))] [(500000, (.some (.lis 31 (TP) (o))))]))) := by kernel_rfl
noncomputable def cx0_p1 : Cx := (cb_sap).withLoops (look L_p2)
def sh_p1 : Sh := ([(1, .d .str), (5, .own 500000), (6, .deep 500001), (7, .d TI64)], [(500000, .lis 31 TP), (500001, .deep ts3 TC2)])
def pre_p1 (s : Str) (k : Int) (o : List (Part)) (ch : List (List (List Bool))) : Bool := decide (0 ≤ k) && (okC5 (List.length s + 1) ch && (Nat.ble (List.length s) 1000 && decide ((List.length o : Int) ≤ k * 1100000)))
noncomputable def res_p1 (s : Str) (k : Int) (o : List (Part)) (ch : List (List (List Bool))) (K : Cont) : Option Fin := K (.exit 0) ⟨[(5, .d (.one (.own 500000)))], [(500000, some (.lis 31 TP (o ++ signsF ch (List.length s : Int) (5 - k).toNat k)))]⟩
def mu_p1 (_s : Str) (k : Int) (_o : List (Part)) (_ch : List (List (List Bool))) : Nat := (5 - k).toNat
theorem r_p1 (s : Str) (k : Int) (o : List (Part)) (ch : List (List (List Bool))) (K : Cont) (hI : pre_p1 s k o ch = true) : (∀ R : St → Option Fin, evC cx0_p1 (loopOf Tryd.f15 0) ⟨[(1, .d (ofD .str s)), (5, .d (.one (.own 500000))), (6, .d (.one (.dsl 500001 []))), (7, .d (ofD TI64 k))], [(500000, some (.lis 31 TP o)), (500001, some (.deep ts3 TC2 ch))]⟩ (onward (headAt cx0_p1 6) R K) = res_p1 s k o ch K) ∨
    (∃ (s' : Str) (k' : Int) (o' : List (Part)) (ch' : List (List (List Bool))), pre_p1 s' k' o' ch' = true ∧ mu_p1 s' k' o' ch' < mu_p1 s k o ch ∧ res_p1 s' k' o' ch' K = res_p1 s k o ch K ∧ ∀ R : St → Option Fin, evC cx0_p1 (loopOf Tryd.f15 0) ⟨[(1, .d (ofD .str s)), (5, .d (.one (.own 500000))), (6, .d (.one (.dsl 500001 []))), (7, .d (ofD TI64 k))], [(500000, some (.lis 31 TP o)), (500001, some (.deep ts3 TC2 ch))]⟩ (onward (headAt cx0_p1 6) R K) = R ⟨[(1, .d (ofD .str s')), (5, .d (.one (.own 500000))), (6, .d (.one (.dsl 500001 []))), (7, .d (ofD TI64 k'))], [(500000, some (.lis 31 TP o')), (500001, some (.deep ts3 TC2 ch'))]⟩) := by
  have hx := fun R => x_spec_AllParts s o ch k R K
  simp only [pre_p1, andd, dec_iff, ble_iff] at hI
  obtain ⟨h0, h3, h4, h5⟩ := hI
  by_cases hj : k < 5
  · have w : W64 (k + 1) = k + 1 := wrap_small (by omega) (by omega)
    obtain ⟨m, hm⟩ : ∃ m, (5 - k).toNat = m + 1 := ⟨(5 - k).toNat - 1, by omega⟩
    have hm2 : (5 - (k + 1)).toNat = m := by omega
    have hg : signsF ch (List.length s : Int) (m + 1) k = frsP (fun i' j' => atC ch k i' j') (sgn k.toNat) (List.length s : Int) ((List.length s : Int) + 1).toNat 0 ++ signsF ch (List.length s : Int) m (k + 1) := rfl
    have hl := frsP_len (f := fun i' j' => atC ch k i' j') (a := sgn k.toNat) (n := (List.length s : Int)) (by omega) (m := ((List.length s : Int) + 1).toNat) (i := 0) (Int.le_refl 0)
    have kp : pre_p2 s k 0 o ch = true := by
      simp only [pre_p2, andd, dec_iff, ble_iff]
      exact ⟨Int.le_refl _, h3, h0, hj, h4, by omega⟩
    have e0 : ((List.length s : Int) + 1 - 0).toNat = ((List.length s : Int) + 1).toNat := by omega
    rw [decide_eq_true hj, kp, w, e0] at hx
    right
    refine ⟨s, k + 1, o ++ frsP (fun i' j' => atC ch k i' j') (sgn k.toNat) (List.length s : Int) ((List.length s : Int) + 1).toNat 0, ch, ?_, ?_, ?_, fun R => hx R⟩
    · simp only [pre_p1, andd, dec_iff, ble_iff]
      rw [List.length_append]
      exact ⟨by omega, h3, h4, by omega⟩
    · simp only [mu_p1]; omega
    · simp only [res_p1, hm, hm2, hg, List.append_assoc]
  · left
    intro R
    refine (hx R).trans ?_
    rw [decide_eq_false hj]
    have e : (5 - k).toNat = 0 := by omega
    have e2 : o ++ signsF ch (List.length s : Int) 0 k = o := List.append_nil o
    simp only [res_p1, e, e2]; rfl
noncomputable def g_p1 : St → Cont → Option Fin := gP sh_p1 (fun v => match v with | ((s, k, ()), (o, ch, ())) => pre_p1 s k o ch) (fun v K => match v with | ((s, k, ()), (o, ch, ())) => res_p1 s k o ch K)
noncomputable def L_p1 : List (Nat × (St → Cont → Option Fin)) := (6, g_p1) :: L_p2
noncomputable def cx_p1 : Cx := (cb_sap).withLoops (look L_p1)
theorem l_p1 {L : List (Nat × (St → Cont → Option Fin))} (n : Nat) (h1 : L.drop n = L_p2) (h2 : idsFree (L.take n) (loopOf Tryd.f15 0) = true) : ∀ st K r, g_p1 st K = some r → ∃ N, iter (evC ((cb_sap).withLoops (look L)) (loopOf Tryd.f15 0)) (headAt ((cb_sap).withLoops (look L)) 6) N st K = some r :=
  with_drop h1 h2 (gP_ok (fun v => match v with | ((s, k, ()), (o, ch, ())) => mu_p1 s k o ch) fun v K hI => by
    obtain ⟨⟨(s : Str), (k : Int), ⟨⟩⟩, ⟨(o : List (Part)), (ch : List (List (List Bool))), ⟨⟩⟩⟩ := v
    rcases r_p1 s k o ch K hI with h1 | ⟨s', k', o', ch', h1, h2, h3, h4⟩
    · exact .inl h1
    · exact .inr ⟨((s', k', ()), (o', ch', ())), h1, h2, h3, h4⟩)
def abcde : List Str := [[65], [66], [67], [68], [69]]
theorem signs_parts {ch : C3} {n : Int} : signsF ch n 5 0 = partsF (fun a i j => atC ch (byteAt a 0 - 65) i j) n abcde := by kernel_rfl
theorem y_spec_AllParts (g : Gram) (s : Str) : evFn cx_p1 Tryd.f15 true [ofD TG g, ofD .str s] [] = (
branch (decide ((!okG g) = false)) (
 branch (bif false then true else !areSm s 8) ( some ((.d (.one (.r (.li (ty31) ([]))))), [])) (
  need (okRp g.snd && s.length.ble 1000) <|
  need (pre_p1 s 0 [] (chartC s g.snd)) <| some ((.d (.one (.r (.li (TP) (id (signsF (chartC s g.snd) ((s.length : Int)) ((5 : Int) - 0).toNat 0)))))), []))) ( some ((.d (.one (.r (.li (ty31) ([]))))), []))) := by kernel_rfl
/-- all parts -/
def partsG (g : Gram) (s : Str) : List Part := partsF (fun a i j => derB s (chartM s g.2) a i j) (List.length s : Int) abcde
theorem abcde_big : ∀ a ∈ abcde, bigS a = true := by decide
theorem s_spec_AllParts (g : Gram) (_hg : Fit TG g) (s : Str) (_hs : Fit .str s) : Sat Tryd.prog 15 [ofD TG g, ofD .str s] [] (.d (ofD (.list TP) (bif both2 g s then partsG g s else []))) [] :=
  fn_sound (cx := cx_p1) Tryd.func15 rfl ttOk Γ63ok mixed (fun c hc => LoopsOk.all (l := [(6, loopOf Tryd.f15 0), (9, loopOf Tryd.f15 1), (12, loopOf Tryd.f15 2)]) (by cases hc; kernel_rfl) ⟨atLoop rfl (l_p1 1 rfl (by kernel_rfl)), atLoop rfl (l_p2 2 rfl (by kernel_rfl)), atLoop rfl (l_p3 3 rfl (by kernel_rfl)), trivial⟩) (ro := true) (by
    rw [y_spec_AllParts]
    cases h1 : okG g
    · unfold both2
      rw [h1]; rfl
    · cases h2 : areSm s 8
      · unfold both2
        rw [h1, h2]; rfl
      · have hb : both2 g s = true := by unfold both2; rw [h1, h2]; rfl
        obtain ⟨_, h3, _⟩ := both_iff hb
        have k1 : (okRp g.2 && (List.length s).ble 1000) = true := andd.2 ⟨ok_rp h1, ble_iff.2 (by omega)⟩
        have k2 : pre_p1 s 0 [] (chartC s g.2) = true := by
          simp only [pre_p1, andd, dec_iff, ble_iff]
          exact ⟨Int.le_refl 0, chart_ok h1, by omega, by show ((0 : Nat) : Int) ≤ _; omega⟩
        have e : partsG g s = signsF (chartC s g.2) (List.length s : Int) ((5 : Int) - 0).toNat 0 := by
          show _ = signsF (chartC s g.2) (List.length s : Int) 5 0
          rw [signs_parts]
          exact partsF_congr fun a ha p q p0 p1 p2 => (charts_same h1 (abcde_big a ha) p0 (by omega)).symm
        rw [hb, k1, k2]
        exact congrArg (fun z : List Part => (some (.d (ofD (.list TP) z), []) : Option Fin)) e.symm)
noncomputable def c_spec_AllParts : Con := conT [TG, .str] fun (g : Gram) (s : Str) => (none, .d (ofD (.list TP) (bif both2 g s then partsG g s else [])))
theorem k_spec_AllParts : ConOk Tryd.prog 15 c_spec_AllParts := conT_ok Tryd.call15 fun g hg s hs _ => s_spec_AllParts g hg s hs
noncomputable def Γ64 : List (Nat × Con) := (15, c_spec_AllParts) :: Γ63
theorem Γ64ok : EnvOk Tryd.prog (look Γ64) := .cons k_spec_AllParts Γ63ok

noncomputable def cb_iap : Cx := cxOf Γ64 Tryd.f14.ntmps [(12, [1, 5, 6, 8, 9, 10, 19, 20, 21, 27, 28]), (9, [1, 5, 6, 8, 19, 20, 21, 27, 28]), (6, [1, 5, 6, 19, 20, 21])] [(0, [6]), (1, [1, 5, 6, 19, 20, 21]), (2, [1, 5, 6, 19, 20, 21]), (3, [1, 5, 6, 8, 19, 20, 21, 27, 28]), (4, [1, 5, 6, 8, 19, 20, 21, 27, 28]), (5, [1, 5, 6, 8, 9, 10, 19, 20, 21, 27, 28]), (1000000, [4])] [] []
theorem x_impl_AllParts_2 (s a : Str) (c : Chart) (l : List Str) (o : List Part) (i j n x m y : Int) (R : St → Option Fin) (K : Cont) : evC (cb_iap.withLoops (look [])) (loopOf Tryd.f14 2) ⟨[(1, vS s), (5, .d (ofD (.ref TCh) c)), (6, .d (.one (.own 500000))), (8, vS a), (9, vI i), (10, vI j), (19, .d (ofD TSS l)), (20, vI n), (21, vI x), (27, vI m), (28, vI y)], [(500000, some (.lis 31 TP o))]⟩ (onward (headAt (cb_iap.withLoops (look [])) 12) R K) = (
branch (decide (j ≤ (s.length : Int))) (
 need (okIJ c.snd.fst i j) <|
 branch (derB c.snd.fst c.snd.snd a i j) (
  need (fits (o.length + [(a, i, j)].length) Tryd.t31.bytes) <| R (.mk [(1, (vS s)), (5, (.d (.one (.r (.rf (TCh) (c)))))), (6, (.d (.one (.own 500000)))), (8, (vS a)), (9, (vI i)), (10, (vI (W64 (j + 1)))), (19, (.d (.one (.r (.li (Ty.str) (l)))))), (20, (vI n)), (21, (vI x)), (27, (vI m)), (28, (vI y))] [(500000, (.some (.lis 31 (ty31) (o.append [(a, i, j)]))))])) ( R (.mk [(1, (vS s)), (5, (.d (.one (.r (.rf (TCh) (c)))))), (6, (.d (.one (.own 500000)))), (8, (vS a)), (9, (vI i)), (10, (vI (W64 (j + 1)))), (19, (.d (.one (.r (.li (Ty.str) (l)))))), (20, (vI n)), (21, (vI x)), (27, (vI m)), (28, (vI y))] [(500000, (.some (.lis 31 (TP) (o))))]))) ( K (.exit 4) (.mk [(1, (vS s)), (5, (.d (.one (.r (.rf (TCh) (c)))))), (6, (.d (.one (.own 500000)))), (8, (vS a)), (19, (.d (.one (.r (.li (Ty.str) (l)))))), (20, (vI n)), (21, (vI x)), (27, (vI m)), (28, (vI y))] [(500000, (.some (.lis 31 (TP) (o))))]))) := by kernel_rfl
noncomputable def cx0_q3 : Cx := (cb_iap).withLoops (look [])
def sh_q3 : Sh := ([(1, .d .str), (5, .d (.ref TCh)), (6, .own 500000), (8, .d .str), (9, .d TI64), (10, .d TI64), (19, .d TSS), (20, .d TI64), (21, .d TI64), (27, .d TI64), (28, .d TI64)], [(500000, .lis 31 TP)])
def pre_q3 (s : Str) (c : Chart) (_a : Str) (i : Int) (j : Int) (_l : List Str) (_n : Int) (x : Int) (_m : Int) (_y : Int) (o : List (Part)) : Bool := decide (0 ≤ i) && (decide (i ≤ j) && (decide (i ≤ (List.length s : Int)) && (decide (c.2.1 = s) && (decide (0 ≤ x) && (decide (x ≤ 8) && (Nat.ble (List.length s) 1000 && decide ((List.length o : Int) ≤ x * 1100000 + i * 1050 + (j - i))))))))
noncomputable def res_q3 (s : Str) (c : Chart) (a : Str) (i : Int) (j : Int) (l : List Str) (n : Int) (x : Int) (m : Int) (y : Int) (o : List (Part)) (K : Cont) : Option Fin := K (.exit 4) ⟨[(1, vS s), (5, .d (ofD (.ref TCh) c)), (6, .d (.one (.own 500000))), (8, vS a), (19, .d (ofD TSS l)), (20, vI n), (21, vI x), (27, vI m), (28, vI y)], [(500000, some (.lis 31 TP (o ++ tosP (fun j' => derB s c.2.2 a i j') a i ((List.length s : Int) + 1 - j).toNat j)))]⟩
def mu_q3 (s : Str) (_c : Chart) (_a : Str) (_i : Int) (j : Int) (_l : List Str) (_n : Int) (_x : Int) (_m : Int) (_y : Int) (_o : List (Part)) : Nat := ((List.length s : Int) + 1 - j).toNat
theorem r_q3 (s : Str) (c : Chart) (a : Str) (i : Int) (j : Int) (l : List Str) (n : Int) (x : Int) (m : Int) (y : Int) (o : List (Part)) (K : Cont) (hI : pre_q3 s c a i j l n x m y o = true) : (∀ R : St → Option Fin, evC cx0_q3 (loopOf Tryd.f14 2) ⟨[(1, .d (ofD .str s)), (5, .d (ofD (.ref TCh) c)), (6, .d (.one (.own 500000))), (8, .d (ofD .str a)), (9, .d (ofD TI64 i)), (10, .d (ofD TI64 j)), (19, .d (ofD TSS l)), (20, .d (ofD TI64 n)), (21, .d (ofD TI64 x)), (27, .d (ofD TI64 m)), (28, .d (ofD TI64 y))], [(500000, some (.lis 31 TP o))]⟩ (onward (headAt cx0_q3 12) R K) = res_q3 s c a i j l n x m y o K) ∨
    (∃ (s' : Str) (c' : Chart) (a' : Str) (i' : Int) (j' : Int) (l' : List Str) (n' : Int) (x' : Int) (m' : Int) (y' : Int) (o' : List (Part)), pre_q3 s' c' a' i' j' l' n' x' m' y' o' = true ∧ mu_q3 s' c' a' i' j' l' n' x' m' y' o' < mu_q3 s c a i j l n x m y o ∧ res_q3 s' c' a' i' j' l' n' x' m' y' o' K = res_q3 s c a i j l n x m y o K ∧ ∀ R : St → Option Fin, evC cx0_q3 (loopOf Tryd.f14 2) ⟨[(1, .d (ofD .str s)), (5, .d (ofD (.ref TCh) c)), (6, .d (.one (.own 500000))), (8, .d (ofD .str a)), (9, .d (ofD TI64 i)), (10, .d (ofD TI64 j)), (19, .d (ofD TSS l)), (20, .d (ofD TI64 n)), (21, .d (ofD TI64 x)), (27, .d (ofD TI64 m)), (28, .d (ofD TI64 y))], [(500000, some (.lis 31 TP o))]⟩ (onward (headAt cx0_q3 12) R K) = R ⟨[(1, .d (ofD .str s')), (5, .d (ofD (.ref TCh) c')), (6, .d (.one (.own 500000))), (8, .d (ofD .str a')), (9, .d (ofD TI64 i')), (10, .d (ofD TI64 j')), (19, .d (ofD TSS l')), (20, .d (ofD TI64 n')), (21, .d (ofD TI64 x')), (27, .d (ofD TI64 m')), (28, .d (ofD TI64 y'))], [(500000, some (.lis 31 TP o'))]⟩) := by
  have hx := fun R => x_impl_AllParts_2 s a c l o i j n x m y R K
  simp only [pre_q3, andd, dec_iff, ble_iff] at hI
  obtain ⟨h0, h1, h2, h3, k0, k1, h4, h5⟩ := hI
  rw [h3] at hx
  by_cases hj : j ≤ (List.length s : Int)
  · have w : W64 (j + 1) = j + 1 := wrap_small (by omega) (by omega)
    obtain ⟨z, hm⟩ : ∃ z, ((List.length s : Int) + 1 - j).toNat = z + 1 := ⟨((List.length s : Int) + 1 - j).toNat - 1, by omega⟩
    have hm2 : ((List.length s : Int) + 1 - (j + 1)).toNat = z := by omega
    have hg : tosP (fun j' => derB s c.2.2 a i j') a i (z + 1) j = (bif derB s c.2.2 a i j then [(a, i, j)] else []) ++ tosP (fun j' => derB s c.2.2 a i j') a i z (j + 1) := rfl
    rw [decide_eq_true hj, w, List.length_singleton, partFits (by omega), okIJ_iff.2 ⟨h0, h1, hj⟩] at hx
    right
    cases hc : derB s c.2.2 a i j
    · rw [hc] at hx hg
      refine ⟨s, c, a, i, j + 1, l, n, x, m, y, o, ?_, ?_, ?_, fun R => hx R⟩
      · simp only [pre_q3, andd, dec_iff, ble_iff]
        exact ⟨h0, by omega, h2, h3, k0, k1, h4, by omega⟩
      · simp only [mu_q3]; omega
      · simp only [res_q3, hm, hm2, hg]; rfl
    · rw [hc] at hx hg
      refine ⟨s, c, a, i, j + 1, l, n, x, m, y, o ++ [(a, i, j)], ?_, ?_, ?_, fun R => hx R⟩
      · simp only [pre_q3, andd, dec_iff, ble_iff]
        rw [List.length_append, List.length_singleton]
        exact ⟨h0, by omega, h2, h3, k0, k1, h4, by omega⟩
      · simp only [mu_q3]; omega
      · simp only [res_q3, hm, hm2, hg, cond_true, List.append_assoc]
  · left
    intro R
    refine (hx R).trans ?_
    rw [decide_eq_false hj]
    have e : ((List.length s : Int) + 1 - j).toNat = 0 := by omega
    have e2 : o ++ tosP (fun j' => derB s c.2.2 a i j') a i 0 j = o := List.append_nil o
    simp only [res_q3, e, e2]; rfl
noncomputable def g_q3 : St → Cont → Option Fin := gP sh_q3 (fun v => match v with | ((s, c, a, i, j, l, n, x, m, y, ()), (o, ())) => pre_q3 s c a i j l n x m y o) (fun v K => match v with | ((s, c, a, i, j, l, n, x, m, y, ()), (o, ())) => res_q3 s c a i j l n x m y o K)
noncomputable def L_q3 : List (Nat × (St → Cont → Option Fin)) := (12, g_q3) :: []
noncomputable def cx_q3 : Cx := (cb_iap).withLoops (look L_q3)
theorem l_q3 {L : List (Nat × (St → Cont → Option Fin))} (n : Nat) (h1 : L.drop n = []) (h2 : idsFree (L.take n) (loopOf Tryd.f14 2) = true) : ∀ st K r, g_q3 st K = some r → ∃ N, iter (evC ((cb_iap).withLoops (look L)) (loopOf Tryd.f14 2)) (headAt ((cb_iap).withLoops (look L)) 12) N st K = some r :=
  with_drop h1 h2 (gP_ok (fun v => match v with | ((s, c, a, i, j, l, n, x, m, y, ()), (o, ())) => mu_q3 s c a i j l n x m y o) fun v K hI => by
    obtain ⟨⟨(s : Str), (c : Chart), (a : Str), (i : Int), (j : Int), (l : List Str), (n : Int), (x : Int), (m : Int), (y : Int), ⟨⟩⟩, ⟨(o : List (Part)), ⟨⟩⟩⟩ := v
    rcases r_q3 s c a i j l n x m y o K hI with h1 | ⟨s', c', a', i', j', l', n', x', m', y', o', h1, h2, h3, h4⟩
    · exact .inl h1
    · exact .inr ⟨((s', c', a', i', j', l', n', x', m', y', ()), (o', ())), h1, h2, h3, h4⟩)
theorem x_impl_AllParts_1 (s a : Str) (c : Chart) (l : List Str) (o : List Part) (n x m y : Int) (R : St → Option Fin) (K : Cont) : evC (cb_iap.withLoops (look L_q3)) (loopOf Tryd.f14 1) ⟨[(1, vS s), (5, .d (ofD (.ref TCh) c)), (6, .d (.one (.own 500000))), (8, vS a), (19, .d (ofD TSS l)), (20, vI n), (21, vI x), (27, vI m), (28, vI y)], [(500000, some (.lis 31 TP o))]⟩ (onward (headAt (cb_iap.withLoops (look L_q3)) 9) R K) = (
branch (decide (y < m)) (
 need (pre_q3 s c a y y l n x m y o) <| R (.mk [(1, (vS s)), (5, (.d (.one (.r (.rf (TCh) (c)))))), (6, (.d (.one (.own 500000)))), (8, (vS a)), (19, (.d (.one (.r (.li (Ty.str) (l)))))), (20, (vI n)), (21, (vI x)), (27, (vI m)), (28, (vI (W64 (y + 1))))] [(500000, (.some (.lis 31 (TP) (o.append (tosP (fun j' => derB s c.snd.snd a y j') a y ((s.length : Int) + 1 - y).toNat y)))))])) ( K (.exit 2) (.mk [(1, (vS s)), (5, (.d (.one (.r (.rf (TCh) (c)))))), (6, (.d (.one (.own 500000)))), (19, (.d (.one (.r (.li (Ty.str) (l)))))), (20, (vI n)), (21, (vI x))] [(500000, (.some (.lis 31 (TP) (o))))]))) := by kernel_rfl
noncomputable def cx0_q2 : Cx := (cb_iap).withLoops (look L_q3)
def sh_q2 : Sh := ([(1, .d .str), (5, .d (.ref TCh)), (6, .own 500000), (8, .d .str), (19, .d TSS), (20, .d TI64), (21, .d TI64), (27, .d TI64), (28, .d TI64)], [(500000, .lis 31 TP)])
def pre_q2 (s : Str) (c : Chart) (_a : Str) (_l : List Str) (_n : Int) (x : Int) (m : Int) (y : Int) (o : List (Part)) : Bool := decide (0 ≤ y) && (decide (m = (List.length s : Int) + 1) && (decide (c.2.1 = s) && (decide (0 ≤ x) && (decide (x ≤ 8) && (Nat.ble (List.length s) 1000 && decide ((List.length o : Int) ≤ x * 1100000 + y * 1050))))))
noncomputable def res_q2 (s : Str) (c : Chart) (a : Str) (l : List Str) (n : Int) (x : Int) (m : Int) (y : Int) (o : List (Part)) (K : Cont) : Option Fin := K (.exit 2) ⟨[(1, vS s), (5, .d (ofD (.ref TCh) c)), (6, .d (.one (.own 500000))), (19, .d (ofD TSS l)), (20, vI n), (21, vI x)], [(500000, some (.lis 31 TP (o ++ frsP (fun i' j' => derB s c.2.2 a i' j') a (List.length s : Int) (m - y).toNat y)))]⟩
def mu_q2 (_s : Str) (_c : Chart) (_a : Str) (_l : List Str) (_n : Int) (_x : Int) (m : Int) (y : Int) (_o : List (Part)) : Nat := (m - y).toNat
theorem r_q2 (s : Str) (c : Chart) (a : Str) (l : List Str) (n : Int) (x : Int) (m : Int) (y : Int) (o : List (Part)) (K : Cont) (hI : pre_q2 s c a l n x m y o = true) : (∀ R : St → Option Fin, evC cx0_q2 (loopOf Tryd.f14 1) ⟨[(1, .d (ofD .str s)), (5, .d (ofD (.ref TCh) c)), (6, .d (.one (.own 500000))), (8, .d (ofD .str a)), (19, .d (ofD TSS l)), (20, .d (ofD TI64 n)), (21, .d (ofD TI64 x)), (27, .d (ofD TI64 m)), (28, .d (ofD TI64 y))], [(500000, some (.lis 31 TP o))]⟩ (onward (headAt cx0_q2 9) R K) = res_q2 s c a l n x m y o K) ∨
    (∃ (s' : Str) (c' : Chart) (a' : Str) (l' : List Str) (n' : Int) (x' : Int) (m' : Int) (y' : Int) (o' : List (Part)), pre_q2 s' c' a' l' n' x' m' y' o' = true ∧ mu_q2 s' c' a' l' n' x' m' y' o' < mu_q2 s c a l n x m y o ∧ res_q2 s' c' a' l' n' x' m' y' o' K = res_q2 s c a l n x m y o K ∧ ∀ R : St → Option Fin, evC cx0_q2 (loopOf Tryd.f14 1) ⟨[(1, .d (ofD .str s)), (5, .d (ofD (.ref TCh) c)), (6, .d (.one (.own 500000))), (8, .d (ofD .str a)), (19, .d (ofD TSS l)), (20, .d (ofD TI64 n)), (21, .d (ofD TI64 x)), (27, .d (ofD TI64 m)), (28, .d (ofD TI64 y))], [(500000, some (.lis 31 TP o))]⟩ (onward (headAt cx0_q2 9) R K) = R ⟨[(1, .d (ofD .str s')), (5, .d (ofD (.ref TCh) c')), (6, .d (.one (.own 500000))), (8, .d (ofD .str a')), (19, .d (ofD TSS l')), (20, .d (ofD TI64 n')), (21, .d (ofD TI64 x')), (27, .d (ofD TI64 m')), (28, .d (ofD TI64 y'))], [(500000, some (.lis 31 TP o'))]⟩) := by
  have hx := fun R => x_impl_AllParts_1 s a c l o n x m y R K
  simp only [pre_q2, andd, dec_iff, ble_iff] at hI
  obtain ⟨h0, rfl, h3, k0, k1, h4, h5⟩ := hI
  by_cases hj : y < (List.length s : Int) + 1
  · have w : W64 (y + 1) = y + 1 := wrap_small (by omega) (by omega)
    obtain ⟨z, hm⟩ : ∃ z, ((List.length s : Int) + 1 - y).toNat = z + 1 := ⟨((List.length s : Int) + 1 - y).toNat - 1, by omega⟩
    have hm2 : ((List.length s : Int) + 1 - (y + 1)).toNat = z := by omega
    have hg : frsP (fun i' j' => derB s c.2.2 a i' j') a (List.length s : Int) (z + 1) y = tosP (fun j' => derB s c.2.2 a y j') a y ((List.length s : Int) + 1 - y).toNat y ++ frsP (fun i' j' => derB s c.2.2 a i' j') a (List.length s : Int) z (y + 1) := rfl
    have hl := tosP_len (f := fun j' => derB s c.2.2 a y j') (a := a) (i := y) (n := ((List.length s : Int) + 1 - y).toNat) (j := y)
    have kp : pre_q3 s c a y y l n x ((List.length s : Int) + 1) y o = true := by
      simp only [pre_q3, andd, dec_iff, ble_iff]
      exact ⟨h0, Int.le_refl _, by omega, h3, k0, k1, h4, by omega⟩
    rw [decide_eq_true hj, kp, w] at hx
    right
    refine ⟨s, c, a, l, n, x, (List.length s : Int) + 1, y + 1, o ++ tosP (fun j' => derB s c.2.2 a y j') a y ((List.length s : Int) + 1 - y).toNat y, ?_, ?_, ?_, fun R => hx R⟩
    · simp only [pre_q2, andd, dec_iff, ble_iff]
      rw [List.length_append]
      exact ⟨by omega, trivial, h3, k0, k1, h4, by omega⟩
    · simp only [mu_q2]; omega
    · rw [← hm] at hg
      simp only [res_q2, hg, hm2, List.append_assoc]
  · left
    intro R
    refine (hx R).trans ?_
    rw [decide_eq_false hj]
    have e : ((List.length s : Int) + 1 - y).toNat = 0 := by omega
    have e2 : o ++ frsP (fun i' j' => derB s c.2.2 a i' j') a (List.length s : Int) 0 y = o := List.append_nil o
    simp only [res_q2, e, e2]; rfl
noncomputable def g_q2 : St → Cont → Option Fin := gP sh_q2 (fun v => match v with | ((s, c, a, l, n, x, m, y, ()), (o, ())) => pre_q2 s c a l n x m y o) (fun v K => match v with | ((s, c, a, l, n, x, m, y, ()), (o, ())) => res_q2 s c a l n x m y o K)
noncomputable def L_q2 : List (Nat × (St → Cont → Option Fin)) := (9, g_q2) :: L_q3
noncomputable def cx_q2 : Cx := (cb_iap).withLoops (look L_q2)
theorem l_q2 {L : List (Nat × (St → Cont → Option Fin))} (n : Nat) (h1 : L.drop n = L_q3) (h2 : idsFree (L.take n) (loopOf Tryd.f14 1) = true) : ∀ st K r, g_q2 st K = some r → ∃ N, iter (evC ((cb_iap).withLoops (look L)) (loopOf Tryd.f14 1)) (headAt ((cb_iap).withLoops (look L)) 9) N st K = some r :=
  with_drop h1 h2 (gP_ok (fun v => match v with | ((s, c, a, l, n, x, m, y, ()), (o, ())) => mu_q2 s c a l n x m y o) fun v K hI => by
    obtain ⟨⟨(s : Str), (c : Chart), (a : Str), (l : List Str), (n : Int), (x : Int), (m : Int), (y : Int), ⟨⟩⟩, ⟨(o : List (Part)), ⟨⟩⟩⟩ := v
    rcases r_q2 s c a l n x m y o K hI with h1 | ⟨s', c', a', l', n', x', m', y', o', h1, h2, h3, h4⟩
    · exact .inl h1
    · exact .inr ⟨((s', c', a', l', n', x', m', y', ()), (o', ())), h1, h2, h3, h4⟩)
theorem partsF_at {f : Str → Int → Int → Bool} {n : Int} {l : List Str} {i : Int} (h0 : 0 ≤ i) (h1 : i < (l.length : Int)) : partsF f n (l.drop i.toNat) = frsP (f (l.getD i.toNat [])) (l.getD i.toNat []) n (n + 1).toNat 0 ++ partsF f n (l.drop (i + 1).toNat) := by
  have hn : i.toNat < l.length := by omega
  unfold partsF
  rw [List.drop_eq_getElem_cons hn, List.flatMap_cons, show (i + 1).toNat = i.toNat + 1 by omega, getD_at hn]
theorem x_impl_AllParts (s : Str) (c : Chart) (l : List Str) (o : List Part) (n x : Int) (R : St → Option Fin) (K : Cont) : evC (cb_iap.withLoops (look L_q2)) (loopOf Tryd.f14 0) ⟨[(1, vS s), (5, .d (ofD (.ref TCh) c)), (6, .d (.one (.own 500000))), (19, .d (ofD TSS l)), (20, vI n), (21, vI x)], [(500000, some (.lis 31 TP o))]⟩ (onward (headAt (cb_iap.withLoops (look L_q2)) 6) R K) = (
branch (decide (x < n)) (
 need (inb x l.length) <|
 need (pre_q2 s c (l.getD x.toNat (dflt Ty.str)) l n x (W64 ((s.length : Int) + 1)) 0 o) <| R (.mk [(1, (vS s)), (5, (.d (.one (.r (.rf (TCh) (c)))))), (6, (.d (.one (.own 500000)))), (19, (.d (.one (.r (.li (Ty.str) (l)))))), (20, (vI n)), (21, (vI (W64 (x + 1))))] [(500000, (.some (.lis 31 (TP) (o.append (frsP (fun i' j' => derB s c.snd.snd (l.getD x.toNat (dflt Ty.str)) i' j') (l.getD x.toNat (dflt Ty.str)) ((s.length : Int)) (W64 ((s.length : Int) + 1) - 0).toNat 0)))))])) ( K (.exit 0) (.mk [(6, (.d (.one (.own 500000))))] [(500000, (.some (.lis 31 (TP) (o))))]))) := by kernel_rfl
noncomputable def cx0_q1 : Cx := (cb_iap).withLoops (look L_q2)
def sh_q1 : Sh := ([(1, .d .str), (5, .d (.ref TCh)), (6, .own 500000), (19, .d TSS), (20, .d TI64), (21, .d TI64)], [(500000, .lis 31 TP)])
def pre_q1 (s : Str) (c : Chart) (l : List Str) (n : Int) (x : Int) (o : List (Part)) : Bool := decide (0 ≤ x) && (decide (n = (List.length l : Int)) && (decide (n ≤ 8) && (decide (c.2.1 = s) && (Nat.ble (List.length s) 1000 && decide ((List.length o : Int) ≤ x * 1100000)))))
noncomputable def res_q1 (s : Str) (c : Chart) (l : List Str) (_n : Int) (x : Int) (o : List (Part)) (K : Cont) : Option Fin := K (.exit 0) ⟨[(6, .d (.one (.own 500000)))], [(500000, some (.lis 31 TP (o ++ partsF (fun a i j => derB s c.2.2 a i j) (List.length s : Int) (List.drop x.toNat l))))]⟩
def mu_q1 (_s : Str) (_c : Chart) (l : List Str) (_n : Int) (x : Int) (_o : List (Part)) : Nat := List.length l - x.toNat
theorem r_q1 (s : Str) (c : Chart) (l : List Str) (n : Int) (x : Int) (o : List (Part)) (K : Cont) (hI : pre_q1 s c l n x o = true) : (∀ R : St → Option Fin, evC cx0_q1 (loopOf Tryd.f14 0) ⟨[(1, .d (ofD .str s)), (5, .d (ofD (.ref TCh) c)), (6, .d (.one (.own 500000))), (19, .d (ofD TSS l)), (20, .d (ofD TI64 n)), (21, .d (ofD TI64 x))], [(500000, some (.lis 31 TP o))]⟩ (onward (headAt cx0_q1 6) R K) = res_q1 s c l n x o K) ∨
    (∃ (s' : Str) (c' : Chart) (l' : List Str) (n' : Int) (x' : Int) (o' : List (Part)), pre_q1 s' c' l' n' x' o' = true ∧ mu_q1 s' c' l' n' x' o' < mu_q1 s c l n x o ∧ res_q1 s' c' l' n' x' o' K = res_q1 s c l n x o K ∧ ∀ R : St → Option Fin, evC cx0_q1 (loopOf Tryd.f14 0) ⟨[(1, .d (ofD .str s)), (5, .d (ofD (.ref TCh) c)), (6, .d (.one (.own 500000))), (19, .d (ofD TSS l)), (20, .d (ofD TI64 n)), (21, .d (ofD TI64 x))], [(500000, some (.lis 31 TP o))]⟩ (onward (headAt cx0_q1 6) R K) = R ⟨[(1, .d (ofD .str s')), (5, .d (ofD (.ref TCh) c')), (6, .d (.one (.own 500000))), (19, .d (ofD TSS l')), (20, .d (ofD TI64 n')), (21, .d (ofD TI64 x'))], [(500000, some (.lis 31 TP o'))]⟩) := by
  have hx := fun R => x_impl_AllParts s c l o n x R K
  simp only [pre_q1, andd, dec_iff, ble_iff] at hI
  obtain ⟨h0, rfl, h2, h3, h4, h5⟩ := hI
  by_cases hj : x < (List.length l : Int)
  · have w : W64 (x + 1) = x + 1 := wrap_small (by omega) (by omega)
    have w2 : W64 ((List.length s : Int) + 1) = (List.length s : Int) + 1 := wrap_small (by omega) (by omega)
    have hg := partsF_at (f := fun a i j => derB s c.2.2 a i j) (n := (List.length s : Int)) h0 hj
    have hl := frsP_len (f := fun i' j' => derB s c.2.2 (List.getD l x.toNat []) i' j') (a := List.getD l x.toNat []) (n := (List.length s : Int)) (by omega) (m := ((List.length s : Int) + 1).toNat) (i := 0) (Int.le_refl 0)
    have kp : pre_q2 s c (List.getD l x.toNat []) l (List.length l : Int) x ((List.length s : Int) + 1) 0 o = true := by
      simp only [pre_q2, andd, dec_iff, ble_iff]
      exact ⟨Int.le_refl _, trivial, h3, h0, by omega, h4, by omega⟩
    have e0 : ((List.length s : Int) + 1 - 0).toNat = ((List.length s : Int) + 1).toNat := by omega
    rw [decide_eq_true hj, inb_ok h0 hj, w2] at hx
    change ∀ R : St → Option Fin, _ = branch true (need true (need (pre_q2 s c (List.getD l x.toNat []) l (List.length l : Int) x ((List.length s : Int) + 1) 0 o) _)) _ at hx
    rw [kp, w, e0] at hx
    right
    refine ⟨s, c, l, (List.length l : Int), x + 1, o ++ frsP (fun i' j' => derB s c.2.2 (List.getD l x.toNat []) i' j') (List.getD l x.toNat []) (List.length s : Int) ((List.length s : Int) + 1).toNat 0, ?_, ?_, ?_, fun R => hx R⟩
    · simp only [pre_q1, andd, dec_iff, ble_iff]
      rw [List.length_append]
      exact ⟨by omega, trivial, h2, h3, h4, by omega⟩
    · simp only [mu_q1]; omega
    · simp only [res_q1, hg, List.append_assoc]
  · left
    intro R
    refine (hx R).trans ?_
    rw [decide_eq_false hj]
    have e : List.drop x.toNat l = [] := List.drop_eq_nil_of_le (by omega)
    have e2 : o ++ partsF (fun a i j => derB s c.2.2 a i j) (List.length s : Int) [] = o := List.append_nil o
    simp only [res_q1, e, e2]; rfl
noncomputable def g_q1 : St → Cont → Option Fin := gP sh_q1 (fun v => match v with | ((s, c, l, n, x, ()), (o, ())) => pre_q1 s c l n x o) (fun v K => match v with | ((s, c, l, n, x, ()), (o, ())) => res_q1 s c l n x o K)
noncomputable def L_q1 : List (Nat × (St → Cont → Option Fin)) := (6, g_q1) :: L_q2
noncomputable def cx_q1 : Cx := (cb_iap).withLoops (look L_q1)
theorem l_q1 {L : List (Nat × (St → Cont → Option Fin))} (n : Nat) (h1 : L.drop n = L_q2) (h2 : idsFree (L.take n) (loopOf Tryd.f14 0) = true) : ∀ st K r, g_q1 st K = some r → ∃ N, iter (evC ((cb_iap).withLoops (look L)) (loopOf Tryd.f14 0)) (headAt ((cb_iap).withLoops (look L)) 6) N st K = some r :=
  with_drop h1 h2 (gP_ok (fun v => match v with | ((s, c, l, n, x, ()), (o, ())) => mu_q1 s c l n x o) fun v K hI => by
    obtain ⟨⟨(s : Str), (c : Chart), (l : List Str), (n : Int), (x : Int), ⟨⟩⟩, ⟨(o : List (Part)), ⟨⟩⟩⟩ := v
    rcases r_q1 s c l n x o K hI with h1 | ⟨s', c', l', n', x', o', h1, h2, h3, h4⟩
    · exact .inl h1
    · exact .inr ⟨((s', c', l', n', x', ()), (o', ())), h1, h2, h3, h4⟩)
theorem y_impl_AllParts (g : Gram) (s : Str) : evFn cx_q1 Tryd.f14 true [ofD TG g, ofD .str s] [] = (
branch (!both2 g s) ( some ((.d (.one (.r (.li (ty31) ([]))))), [])) (
 need (okRs g.snd && s.length.ble 1000) <|
 need (pre_q1 s (g, s, chartM s g.snd) (onesL ([65, 66, 67, 68, 69] : Str)) (((onesL ([65, 66, 67, 68, 69] : Str)).length : Int)) 0 []) <| some ((.d (.one (.r (.li (TP) (id (partsF (fun a i j => derB s (chartM s g.snd) a i j) ((s.length : Int)) (id (onesL ([65, 66, 67, 68, 69] : Str))))))))), []))) := by kernel_rfl
theorem s_impl_AllParts (g : Gram) (_hg : Fit TG g) (s : Str) (_hs : Fit .str s) : Sat Tryd.prog 14 [ofD TG g, ofD .str s] [] (.d (ofD (.list TP) (bif both2 g s then partsG g s else []))) [] :=
  fn_sound (cx := cx_q1) Tryd.func14 rfl ttOk Γ64ok mixed (fun c hc => LoopsOk.all (l := [(6, loopOf Tryd.f14 0), (9, loopOf Tryd.f14 1), (12, loopOf Tryd.f14 2)]) (by cases hc; kernel_rfl) ⟨atLoop rfl (l_q1 1 rfl (by kernel_rfl)), atLoop rfl (l_q2 2 rfl (by kernel_rfl)), atLoop rfl (l_q3 3 rfl (by kernel_rfl)), trivial⟩) (ro := true) (by
    rw [y_impl_AllParts]
    cases hb : both2 g s
    · rfl
    · obtain ⟨h1, h3, _⟩ := both_iff hb
      have k1 : (okRs g.2 && (List.length s).ble 1000) = true := andd.2 ⟨ok_rs h1, ble_iff.2 (by omega)⟩
      have k2 : pre_q1 s (g, s, chartM s g.2) (onesL ([65, 66, 67, 68, 69] : Str)) (((onesL ([65, 66, 67, 68, 69] : Str)).length : Int)) 0 [] = true := by
        simp only [pre_q1, andd, dec_iff, ble_iff]
        exact ⟨Int.le_refl 0, trivial, by decide, trivial, by omega, by show ((0 : Nat) : Int) ≤ _; omega⟩
      rw [k1, k2]; rfl)
noncomputable def c_impl_AllParts : Con := conT [TG, .str] fun (g : Gram) (s : Str) => (none, .d (ofD (.list TP) (bif both2 g s then partsG g s else [])))
theorem k_impl_AllParts : ConOk Tryd.prog 14 c_impl_AllParts := conT_ok Tryd.call14 fun g hg s hs _ => s_impl_AllParts g hg s hs
noncomputable def Γ65 : List (Nat × Con) := (14, c_impl_AllParts) :: Γ64
theorem Γ65ok : EnvOk Tryd.prog (look Γ65) := .cons k_impl_AllParts Γ64ok

end Go.Proofs.YtbijdgkkneffgaaDoor.Ev

-- G=65