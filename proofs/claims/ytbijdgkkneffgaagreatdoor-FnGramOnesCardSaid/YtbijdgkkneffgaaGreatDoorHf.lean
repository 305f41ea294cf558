/-
  The big signs that a sign may be by rules of one big sign alone.
-/
import Derived.Test.YtbijdgkkneffgaaGreatDoorHd
namespace Go.Proofs.YtbijdgkkneffgaaGreatDoor.Ev
open Go
def adR (r : Rule) : Str := bif bigS r.2 then r.2 else []
def onesR (l : List Rule) : List Rule := l.map fun r => (r.1, adR r)
def oneV (s : Str) (r : Rule) : Str := bif inS s ((r.1.getD 0 0).toNat : Int) then adR r else []
theorem adR_one {r : Rule} : adR r = [] ∨ ∃ c, adR r = [c] ∧ bigc c = true ∧ r.2 = [c] := by
 unfold adR
 cases hb : bigS r.2
 ·exact .inl rfl
 ·obtain ⟨c, e, hc⟩ := bigS_one hb
  exact .inr ⟨c, e, hc, e⟩
theorem setS_adR {r : Rule} : setS bigc (adR r) = adR r := by
 rcases adR_one (r := r) with e | ⟨c, e, hc, _⟩
 ·rw [e]; rfl
 ·rw [e]
  refine (setS_eq (List.pairwise_singleton _ _) fun y => ?_).symm
  rw [List.mem_singleton]
  exact ⟨fun h => ⟨h, by rw [h]; exact hc⟩, fun h => h.1⟩
theorem metV_one {s : Str} {r : Rule} : metV s (r.1, adR r) = oneV s r := by
 unfold metV oneV
 rw [setS_adR]
def onesG (l : List Rule) (s : Str) : Str := growN ([], onesR l) 6 s
def okS (s : Str) : Prop := Asc s ∧ ∀ c ∈ s, bigc c = true
theorem met_self {l : List Rule} {s : Str} (h : okS s) : MetOk (s, l) s := ⟨h.1, h.2, fun _ hc => hc, fun _ hc => .start hc⟩
theorem growN_fuel {l : List Rule} : ∀ {n m : Nat} {s : Str}, okS s → 5 < n + s.length → 5 < m + s.length → growN ([], l) n s = growN ([], l) m s
 | 0, m, s, h, h1, h2 => by have := big_five h.1 h.2; omega
 | n + 1, 0, s, h, h1, h2 => by have := big_five h.1 h.2; omega
 | n + 1, m + 1, s, h, h1, h2 => by
  unfold growN
  by_cases e : growF s l = s
  ·rw [decide_eq_true (show growF s (([], l) : Gram).2 = s from e)]; rfl
  ·rw [decide_eq_false (show ¬ growF s (([], l) : Gram).2 = s from e)]
   have h3 : okS (growF s l) := ⟨growF_asc h.1, growF_big h.2⟩
   have := asc_grow h.1 h3.1 growF_sub e
   exact growN_fuel h3 (by show 5 < n + (growF s l).length; omega) (by show 5 < m + (growF s l).length; omega)
theorem onesG_ok {l : List Rule} {s : Str} (h : okS s) (h0 : s ≠ []) : MetOk (s, onesR l) (onesG l s) ∧ growF (onesG l s) (onesR l) = onesG l s := growN_fix (g := (s, onesR l)) (n := 6) (met_self h) (by have := List.length_pos_iff.2 h0; omega)
theorem onesG_mem {l : List Rule} {s : Str} (h : okS s) (h0 : s ≠ []) {c : UInt8} : c ∈ onesG l s ↔ Met (s, onesR l) c := fix_mem (onesG_ok h h0).1 (onesG_ok h h0).2
theorem onesG_okS {l : List Rule} {s : Str} (h : okS s) (h0 : s ≠ []) : okS (onesG l s) := ⟨(onesG_ok h h0).1.asc, (onesG_ok h h0).1.big⟩
theorem onesG_same {l : List Rule} {s t : Str} (h : okS s) (h0 : s ≠ []) (ht : okS t) (h1 : ∀ c ∈ s, c ∈ t) (h2 : ∀ c ∈ t, Met (s, onesR l) c) : onesG l t = onesG l s := by
 have t0 : t ≠ [] := by
  obtain ⟨c, cs, e⟩ : ∃ c cs, s = c :: cs := by
   cases s with
   | nil => exact absurd rfl h0
   | cons c cs => exact ⟨c, cs, rfl⟩
  intro e2
  have := h1 c (by rw [e]; exact List.mem_cons_self)
  rw [e2] at this; cases this
 refine asc_ext (onesG_okS ht t0).1 (onesG_okS h h0).1 fun c => ?_
 rw [onesG_mem ht t0, onesG_mem h h0]
 constructor
 ·intro hm
  have : ∀ {c}, Met (t, onesR l) c → Met (s, onesR l) c := fun {c} hm => by
   induction hm with
   | start hc => exact h2 _ hc
   | step hr _ g2 g3 ih => exact .step hr ih g2 g3
  exact this hm
 ·intro hm
  have : ∀ {c}, Met (s, onesR l) c → Met (t, onesR l) c := fun {c} hm => by
   induction hm with
   | start hc => exact .start (h1 _ hc)
   | step hr _ g2 g3 ih => exact .step hr ih g2 g3
  exact this hm
theorem onesG_step {l : List Rule} {s : Str} (h : okS s) (h0 : s ≠ []) : onesG l (growF s (onesR l)) = onesG l s := onesG_same h h0 ⟨growF_asc h.1, growF_big h.2⟩ growF_sub (MetOk.grow (met_self h)).met
theorem onesG_fix {l : List Rule} {s : Str} (e : growF s (onesR l) = s) : onesG l s = s := by
 unfold onesG growN
 rw [decide_eq_true (show growF s (([], onesR l) : Gram).2 = s from e)]; rfl
theorem onesR_at {o : Str} {l : List Rule} {i : Int} (h0 : 0 ≤ i) (h1 : i < (l.length : Int)) : growF o (onesR (l.drop i.toNat)) = growF (unionV o (oneV o (l.getD i.toNat d0))) (onesR (l.drop (i + 1).toNat)) := by
 have hn : i.toNat < l.length := by omega
 rw [List.drop_eq_getElem_cons hn, show (i + 1).toNat = i.toNat + 1 by omega, getD_at hn, ← metV_one]; rfl
theorem oneV_len {s : Str} {r : Rule} : (oneV s r).length ≤ 1 := by
 unfold oneV
 cases inS s ((r.1.getD 0 0).toNat : Int)
 ·exact Nat.zero_le _
 ·rcases adR_one (r := r) with e | ⟨c, e, _⟩ <;> (rw [cond_true, e]; simp)
theorem union_ones {o : Str} {r : Rule} (h : okS o) : okS (unionV o (oneV o r)) := ⟨unionV_asc, fun c hc => by
 rcases unionV_mem.1 hc with hc | hc
 ·exact h.2 c hc
 ·rw [← metV_one] at hc
  exact (metV_mem.1 hc).2.2⟩
def okSB (s : Str) : Bool := List.all s bigc && decide (Asc s)
theorem okSB_iff {s : Str} : okSB s = true ↔ okS s := by
 unfold okSB okS
 rw [andd, List.all_eq_true, dec_iff]
 exact ⟨fun h => ⟨h.2, h.1⟩, fun h => ⟨h.2, h.1⟩⟩
theorem y_impl_onesOf_1 (s : Str) (r : Rule) : evFn ((cxOf Γ81 Tryz.f63.ntmps [] [] [] []).parted [1]) Tryz.f63 true [ofD .str s, ofD TRu r] [] = (
need ((List.length r.fst).beq 1) <|
branch (decide ((!inS s ((List.getD r.fst 0 0).toNat : Int)) = false)) (
 branch (bif false then true else !bigS r.snd) ( some ((vS []), [])) ( some ((vS r.snd), []))) ( some ((vS []), []))) := by kernel_rfl
theorem s_impl_onesOf_1 (s : Str) (_hs : Fit .str s) (r : Rule) (_hr : Fit TRu r) (hpre : (Nat.beq (List.length r.1) 1) = true) : Sat Tryz.prog 63 [ofD .str s, ofD TRu r] [] (.d (ofD .str (oneV s r))) [] :=
 fn_sound (cx := ((cxOf Γ81 Tryz.f63.ntmps [] [] [] []).parted [1])) Tryz.func63 rfl ttOk Γ81ok mixed (fun _ _ => LoopsOk.no fun _ => rfl) (ro := true) (by
  rw [y_impl_onesOf_1, hpre]
  unfold oneV adR
  cases inS s ((List.getD r.1 0 0).toNat : Int)
  ·rfl
  ·cases bigS r.2 <;> rfl)
noncomputable def c_impl_onesOf_1 : Con := conT [.str, TRu] fun (s : Str) (r : Rule) => (some (Nat.beq (List.length r.1) 1), .d (ofD .str (oneV s r)))
theorem k_impl_onesOf_1 : ConOk Tryz.prog 63 c_impl_onesOf_1 := conT_ok Tryz.call63 fun s hs r hr hqq => s_impl_onesOf_1 s hs r hr (pre_of hqq)
noncomputable def Γ82 : List (Nat × Con) := (63, c_impl_onesOf_1) :: Γ81
theorem Γ82ok : EnvOk Tryz.prog (look Γ82) := .cons k_impl_onesOf_1 Γ81ok
noncomputable def cb_gro : Cx := cxOf Γ82 Tryz.f62.ntmps [(3, [1, 2, 3, 7, 12, 13, 14]), (1, [1, 2, 3])] [(0, [6]), (1, [1, 2, 3]), (2, [1, 2, 3, 7]), (3, [1, 2, 3, 7, 12, 13, 14]), (1000000, [6])] [] []
theorem x_impl_grown_1 (g : Gram) (s o : Str) (l : List Rule) (n i : Int) (R : St → Option Fin) (K : Cont) : evC (cb_gro.withLoops (look [])) (loopOf Tryz.f62 1) ⟨[(1, vS s), (2, .d (.one (.fn 63 []))), (3, .d (.one (.ptr 500000 0))), (7, vS o), (12, .d (ofD TRL l)), (13, vI n), (14, vI i)], [(500000, some (boxD 25 TG g))]⟩ (onward (headAt (cb_gro.withLoops (look [])) 3) R K) = (
branch (decide (i < n)) (
 need (inb i l.length) <|
 need ((List.length (l.getD i.toNat d0).fst).beq 1) <|
 need ((List.length o + List.length (oneV o (l.getD i.toNat d0))).blt 50) <| R (.mk [(1, (vS s)), (2, (.d (.one (.fn 63 [])))), (3, (.d (.one (.ptr 500000 0)))), (7, (vS (unionV o (oneV o (l.getD i.toNat d0))))), (12, (.d (.one (.r (.li TRu (l)))))), (13, (vI n)), (14, (vI (W64 (i + 1))))] [(500000, (.some (.box 25 [(.r (.v (Value.string (mk g.fst)))), (.r (.li TRu (g.snd)))])))])) ( K (.exit 2) (.mk [(1, (vS s)), (2, (.d (.one (.fn 63 [])))), (3, (.d (.one (.ptr 500000 0)))), (7, (vS o))] [(500000, (.some (.box 25 [(.r (.v (Value.string (mk g.fst)))), (.r (.li TRu (g.snd)))])))]))) := by kernel_rfl
noncomputable def cx0_gr2 : Cx := (cb_gro).withLoops (look [])
def sh_gr2 : Sh := ([(1, .d .str), (2, .fn 63 []), (3, .ptr 500000 0), (7, .d .str), (12, .d TRL), (13, .d TI64), (14, .d TI64)], [(500000, .box 25 TG)])
def pre_gr2 (_s : Str) (o : Str) (l : List Rule) (n : Int) (i : Int) (_g : Gram) : Bool := decide (0 ≤ i) && (decide (n = (List.length l : Int)) && (Nat.ble (List.length l) big && (List.all l okR0 && okSB o)))
noncomputable def res_gr2 (s : Str) (o : Str) (l : List Rule) (_n : Int) (i : Int) (g : Gram) (K : Cont) : Option Fin := K (.exit 2) ⟨[(1, vS s), (2, .d (.one (.fn 63 []))), (3, .d (.one (.ptr 500000 0))), (7, vS (growF o (onesR (l.drop i.toNat))))], gH g⟩
def mu_gr2 (_s : Str) (_o : Str) (l : List Rule) (_n : Int) (i : Int) (_g : Gram) : Nat := List.length l - i.toNat
theorem r_gr2 (s : Str) (o : Str) (l : List Rule) (n : Int) (i : Int) (g : Gram) (K : Cont) (hI : pre_gr2 s o l n i g = true) : (∀ R : St → Option Fin, evC cx0_gr2 (loopOf Tryz.f62 1) ⟨[(1, .d (ofD .str s)), (2, .d (.one (.fn 63 []))), (3, .d (.one (.ptr 500000 0))), (7, .d (ofD .str o)), (12, .d (ofD TRL l)), (13, .d (ofD TI64 n)), (14, .d (ofD TI64 i))], [(500000, some (boxD 25 TG g))]⟩ (onward (headAt cx0_gr2 3) R K) = res_gr2 s o l n i g K) ∨
  (∃ (s' : Str) (o' : Str) (l' : List Rule) (n' : Int) (i' : Int) (g' : Gram), pre_gr2 s' o' l' n' i' g' = true ∧ mu_gr2 s' o' l' n' i' g' < mu_gr2 s o l n i g ∧ res_gr2 s' o' l' n' i' g' K = res_gr2 s o l n i g K ∧ ∀ R : St → Option Fin, evC cx0_gr2 (loopOf Tryz.f62 1) ⟨[(1, .d (ofD .str s)), (2, .d (.one (.fn 63 []))), (3, .d (.one (.ptr 500000 0))), (7, .d (ofD .str o)), (12, .d (ofD TRL l)), (13, .d (ofD TI64 n)), (14, .d (ofD TI64 i))], [(500000, some (boxD 25 TG g))]⟩ (onward (headAt cx0_gr2 3) R K) = R ⟨[(1, .d (ofD .str s')), (2, .d (.one (.fn 63 []))), (3, .d (.one (.ptr 500000 0))), (7, .d (ofD .str o')), (12, .d (ofD TRL l')), (13, .d (ofD TI64 n')), (14, .d (ofD TI64 i'))], [(500000, some (boxD 25 TG g'))]⟩) := by
 have hx := fun R => x_impl_grown_1 g s o l n i R K
 simp only [pre_gr2, andd, dec_iff, ble_iff] at hI
 obtain ⟨h0, rfl, h1, h2, h3⟩ := hI
 have h4 := okSB_iff.1 h3
 by_cases hi : i < (l.length : Int)
 ·have hg := onesR_at (o := o) h0 hi
  have hn : i.toNat < l.length := by omega
  have hr : okR0 (l.getD i.toNat d0) = true := List.all_eq_true.1 h2 _ (by rw [getD_at hn]; exact List.getElem_mem hn)
  unfold okR0 at hr
  obtain ⟨r1, r2⟩ := andd.1 hr
  have ho := big_five h4.1 h4.2
  have hm := oneV_len (s := o) (r := l.getD i.toNat d0)
  have k2 : (List.length o + List.length (oneV o (l.getD i.toNat d0))).blt 50 = true := ble_iff.2 (by omega)
  simp only [hi, decide_true, inb_ok h0 hi, branch_true, W1 h0 hi h1, r1, k2] at hx
  right
  refine ⟨s, unionV o (oneV o (l.getD i.toNat d0)), l, (l.length : Int), i + 1, g, ?_, ?_, ?_, fun R => hx R⟩
  ·simp only [pre_gr2, andd, dec_iff, ble_iff]
   exact ⟨by omega, trivial, h1, h2, okSB_iff.2 (union_ones h4)⟩
  ·simp only [mu_gr2]; omega
  ·simp only [res_gr2, hg]
 ·left
  intro R
  refine (hx R).trans ?_
  simp only [hi, decide_false, branch_false, res_gr2]
  rw [List.drop_eq_nil_of_le (by omega)]; rfl
noncomputable def g_gr2 : St → Cont → Option Fin := gP sh_gr2 (fun v => match v with | ((s, o, l, n, i, ()), (g, ())) => pre_gr2 s o l n i g) (fun v K => match v with | ((s, o, l, n, i, ()), (g, ())) => res_gr2 s o l n i g K)
noncomputable def L_gr2 : List (Nat × (St → Cont → Option Fin)) := (3, g_gr2) :: []
noncomputable def cx_gr2 : Cx := (cb_gro).withLoops (look L_gr2)
theorem l_gr2 {L : List (Nat × (St → Cont → Option Fin))} (n : Nat) (h1 : L.drop n = []) (h2 : idsFree (L.take n) (loopOf Tryz.f62 1) = true) : ∀ st K r, g_gr2 st K = some r → ∃ N, iter (evC ((cb_gro).withLoops (look L)) (loopOf Tryz.f62 1)) (headAt ((cb_gro).withLoops (look L)) 3) N st K = some r :=
 with_drop h1 h2 (gP_ok (fun v => match v with | ((s, o, l, n, i, ()), (g, ())) => mu_gr2 s o l n i g) fun v K hI => by
  obtain ⟨⟨(s : Str), (o : Str), (l : List Rule), (n : Int), (i : Int), ⟨⟩⟩, ⟨(g : Gram), ⟨⟩⟩⟩ := v
  rcases r_gr2 s o l n i g K hI with h1 | ⟨s', o', l', n', i', g', h1, h2, h3, h4⟩
  ·exact .inl h1
  ·exact .inr ⟨((s', o', l', n', i', ()), (g', ())), h1, h2, h3, h4⟩)
theorem x_impl_grown (g : Gram) (s : Str) (R : St → Option Fin) (K : Cont) : evC (cb_gro.withLoops (look L_gr2)) (loopOf Tryz.f62 0) ⟨[(1, vS s), (2, .d (.one (.fn 63 []))), (3, .d (.one (.ptr 500000 0)))], [(500000, some (boxD 25 TG g))]⟩ (onward (headAt (cb_gro.withLoops (look L_gr2)) 1) R K) = (
need (pre_gr2 s s g.snd ((List.length g.snd : Int)) 0 g) <|
branch (decide ((growF s (onesR g.snd)) = s)) ( K (.ret) (.mk [(6, (vS s))] [])) ( R (.mk [(1, (vS (growF s (onesR g.snd)))), (2, (.d (.one (.fn 63 [])))), (3, (.d (.one (.ptr 500000 0))))] [(500000, (.some (.box 25 [(.r (.v (Value.string (mk g.fst)))), (.r (.li TRu (g.snd)))])))]))) := by kernel_rfl
noncomputable def cx0_gr1 : Cx := (cb_gro).withLoops (look L_gr2)
def sh_gr1 : Sh := ([(1, .d .str), (2, .fn 63 []), (3, .ptr 500000 0)], [(500000, .box 25 TG)])
def pre_gr1 (s : Str) (g : Gram) : Bool := okG g && (okSB s && decide (0 < List.length s))
noncomputable def res_gr1 (s : Str) (g : Gram) (K : Cont) : Option Fin := K .ret ⟨[(6, vS (onesG g.2 s))], []⟩
def mu_gr1 (s : Str) (_g : Gram) : Nat := 6 - List.length s
theorem r_gr1 (s : Str) (g : Gram) (K : Cont) (hI : pre_gr1 s g = true) : (∀ R : St → Option Fin, evC cx0_gr1 (loopOf Tryz.f62 0) ⟨[(1, .d (ofD .str s)), (2, .d (.one (.fn 63 []))), (3, .d (.one (.ptr 500000 0)))], [(500000, some (boxD 25 TG g))]⟩ (onward (headAt cx0_gr1 1) R K) = res_gr1 s g K) ∨
  (∃ (s' : Str) (g' : Gram), pre_gr1 s' g' = true ∧ mu_gr1 s' g' < mu_gr1 s g ∧ res_gr1 s' g' K = res_gr1 s g K ∧ ∀ R : St → Option Fin, evC cx0_gr1 (loopOf Tryz.f62 0) ⟨[(1, .d (ofD .str s)), (2, .d (.one (.fn 63 []))), (3, .d (.one (.ptr 500000 0)))], [(500000, some (boxD 25 TG g))]⟩ (onward (headAt cx0_gr1 1) R K) = R ⟨[(1, .d (ofD .str s')), (2, .d (.one (.fn 63 []))), (3, .d (.one (.ptr 500000 0)))], [(500000, some (boxD 25 TG g'))]⟩) := by
 have hx := fun R => x_impl_grown g s R K
 simp only [pre_gr1, andd, dec_iff] at hI
 obtain ⟨h1, h2, h0⟩ := hI
 have hs := okSB_iff.1 h2
 have hs0 : s ≠ [] := List.length_pos_iff.1 h0
 have k1 : pre_gr2 s s g.2 (List.length g.2 : Int) 0 g = true := by
  simp only [pre_gr2, andd, dec_iff, ble_iff]
  refine ⟨by omega, trivial, ?_, okR_G h1, h2⟩
  have : List.length g.2 ≤ 8 := (okG_iff h1).2.1
  unfold big; omega
 rw [k1] at hx
 by_cases e : growF s (onesR g.2) = s
 ·left
  intro R
  refine (hx R).trans ?_
  rw [decide_eq_true e]
  simp only [res_gr1, onesG_fix e]; rfl
 ·right
  have hgs : okS (growF s (onesR g.2)) := ⟨growF_asc hs.1, growF_big hs.2⟩
  have h5 := asc_grow hs.1 hgs.1 growF_sub e
  have h6 := big_five hgs.1 hgs.2
  refine ⟨growF s (onesR g.2), g, ?_, ?_, ?_, fun R => (hx R).trans ?_⟩
  ·simp only [pre_gr1, andd, dec_iff]
   exact ⟨h1, okSB_iff.2 hgs, by omega⟩
  ·simp only [mu_gr1]; omega
  ·simp only [res_gr1, onesG_step hs hs0]
  ·rw [decide_eq_false e]; rfl
noncomputable def g_gr1 : St → Cont → Option Fin := gP sh_gr1 (fun v => match v with | ((s, ()), (g, ())) => pre_gr1 s g) (fun v K => match v with | ((s, ()), (g, ())) => res_gr1 s g K)
noncomputable def L_gr1 : List (Nat × (St → Cont → Option Fin)) := (1, g_gr1) :: L_gr2
noncomputable def cx_gr1 : Cx := (cb_gro).withLoops (look L_gr1)
theorem l_gr1 {L : List (Nat × (St → Cont → Option Fin))} (n : Nat) (h1 : L.drop n = L_gr2) (h2 : idsFree (L.take n) (loopOf Tryz.f62 0) = true) : ∀ st K r, g_gr1 st K = some r → ∃ N, iter (evC ((cb_gro).withLoops (look L)) (loopOf Tryz.f62 0)) (headAt ((cb_gro).withLoops (look L)) 1) N st K = some r :=
 with_drop h1 h2 (gP_ok (fun v => match v with | ((s, ()), (g, ())) => mu_gr1 s g) fun v K hI => by
  obtain ⟨⟨(s : Str), ⟨⟩⟩, ⟨(g : Gram), ⟨⟩⟩⟩ := v
  rcases r_gr1 s g K hI with h1 | ⟨s', g', h1, h2, h3, h4⟩
  ·exact .inl h1
  ·exact .inr ⟨((s', ()), (g', ())), h1, h2, h3, h4⟩)
theorem y_impl_grown (g : Gram) (s : Str) : evFn cx_gr1 Tryz.f62 true [ofD TG g, ofD .str s, .one (.fn 63 [])] [] = (
need (pre_gr1 s g) <| some ((vS (onesG g.2 s)), [])) := by kernel_rfl
def preOnes (g : Gram) (s : Str) : Bool := okG g && (okSB s && decide (0 < List.length s))
theorem s_impl_grown (g : Gram) (s : Str) (h : preOnes g s = true) : Sat Tryz.prog 62 [ofD TG g, ofD .str s, .one (.fn 63 [])] [] (.d (ofD .str (onesG g.2 s))) [] :=
 fn_sound (cx := cx_gr1) Tryz.func62 rfl ttOk Γ82ok mixed (fun c hc => LoopsOk.all (l := [(1, loopOf Tryz.f62 0), (3, loopOf Tryz.f62 1)]) (by cases hc; kernel_rfl) ⟨atLoop rfl (l_gr1 1 rfl (by kernel_rfl)), atLoop rfl (l_gr2 2 rfl (by kernel_rfl)), trivial⟩) (ro := true) (by
  rw [y_impl_grown, show pre_gr1 s g = true from h]; rfl)
noncomputable def c_impl_grown : Con := ⟨false, fun ds os => match ds, os with
 | [d, .one (.r (.v (.string s))), .one (.fn f [])], [] => match asD TG d, Nat.beq f 63 with
  | some g, true => some (some (preOnes g s.data.toList), .d (ofD .str (onesG g.2 s.data.toList)), [])
  | _, _ => none
 | _, _ => none⟩
theorem k_impl_grown : ConOk Tryz.prog 62 c_impl_grown := by
 refine ⟨Tryz.call62, fun ds os c x objs hc hok => ?_⟩
 unfold c_impl_grown at hc
 dsimp only at hc
 split at hc
 ·rename_i d s f
  split at hc
  ·rename_i g e1 e2
   cases hc
   have e2 := Nat.eq_of_beq_eq_true e2
   subst e2
   intro w F β args H hds
   cases hds with | cons h1 h2 =>
   exact s_impl_grown g s.data.toList (pre_of hok) w F β _ H (.cons (asD_sound e1 h1 _ β) h2)
  ·cases hc
 ·cases hc
noncomputable def Γ83 : List (Nat × Con) := (62, c_impl_grown) :: Γ82
theorem Γ83ok : EnvOk Tryz.prog (look Γ83) := .cons k_impl_grown Γ82ok
theorem okS_big {a : Str} (h : bigS a = true) : okSB a = true ∧ 0 < List.length a ∧ a ≠ [] := by
 obtain ⟨c, e, hc⟩ := bigS_one h
 rw [e]
 exact ⟨okSB_iff.2 ⟨List.pairwise_singleton _ _, fun d hd => by rw [List.mem_singleton.1 hd]; exact hc⟩, Nat.one_pos, fun e => by cases e⟩
theorem preOnes_mk {g : Gram} {a : Str} (h : okG g = true) (ha : bigS a = true) : preOnes g a = true := by
 obtain ⟨h1, h2, _⟩ := okS_big ha
 exact andd.2 ⟨h, andd.2 ⟨h1, decide_eq_true h2⟩⟩
theorem s_impl_onesOf (g : Gram) (_hg : Fit TG g) (a : Str) (_ha : Fit .str a) (hpre : (okG g && bigS a) = true) : Sat Tryz.prog 24 [ofD TG g, ofD .str a] [] (.d (ofD .str (onesG g.2 a))) [] :=
 fn_sound (cx := cxOf Γ83 Tryz.f24.ntmps [] [] [] []) Tryz.func24 rfl ttOk Γ83ok mixed (fun _ _ => LoopsOk.no fun _ => rfl) (ro := true) (by
  have y : evFn (cxOf Γ83 Tryz.f24.ntmps [] [] [] []) Tryz.f24 true [ofD TG g, ofD .str a] [] = need (preOnes g a) (some (vS (onesG g.2 a), [])) := by kernel_rfl
  obtain ⟨h1, h2⟩ := andd.1 hpre
  rw [y, preOnes_mk h1 h2]; rfl)
noncomputable def c_impl_onesOf : Con := conT [TG, .str] fun (g : Gram) (a : Str) => (some (okG g && bigS a), .d (ofD .str (onesG g.2 a)))
theorem k_impl_onesOf : ConOk Tryz.prog 24 c_impl_onesOf := conT_ok Tryz.call24 fun g hg a ha hqq => s_impl_onesOf g hg a ha (pre_of hqq)
noncomputable def Γ84 : List (Nat × Con) := (24, c_impl_onesOf) :: Γ83
theorem Γ84ok : EnvOk Tryz.prog (look Γ84) := .cons k_impl_onesOf Γ83ok
theorem s_impl_GramOnes (g : Gram) (_hg : Fit TG g) (a : Str) (_ha : Fit .str a) : Sat Tryz.prog 7 [ofD TG g, ofD .str a] [] (.d (ofD .str (bif okG g && bigS a then onesG g.2 a else []))) [] :=
 fn_sound (cx := ((cxOf Γ84 Tryz.f7.ntmps [] [] [] []).parted [1])) Tryz.func7 rfl ttOk Γ84ok mixed (fun _ _ => LoopsOk.no fun _ => rfl) (ro := true) (by
  have y : evFn ((cxOf Γ84 Tryz.f7.ntmps [] [] [] []).parted [1]) Tryz.f7 true [ofD TG g, ofD .str a] [] = branch (decide ((!okG g) = false)) (branch (bif false then true else !bigS a) (some (vS [], [])) (need (okG g && bigS a) (some (vS (onesG g.2 a), [])))) (some (vS [], [])) := by kernel_rfl
  rw [y]
  cases okG g <;> cases bigS a <;> rfl)
noncomputable def c_impl_GramOnes : Con := conT [TG, .str] fun (g : Gram) (a : Str) => (none, .d (ofD .str (bif okG g && bigS a then onesG g.2 a else [])))
theorem k_impl_GramOnes : ConOk Tryz.prog 7 c_impl_GramOnes := conT_ok Tryz.call7 fun g hg a ha _ => s_impl_GramOnes g hg a ha
noncomputable def Γ85 : List (Nat × Con) := (7, c_impl_GramOnes) :: Γ84
theorem Γ85ok : EnvOk Tryz.prog (look Γ85) := .cons k_impl_GramOnes Γ84ok
noncomputable def cb_son : Cx := (cxOf Γ85 Tryz.f26.ntmps [(3, [2, 5, 6])] [(0, [5]), (1, [2, 5, 6]), (1000000, [4])] [] []).parted [6]
theorem x_spec_l12Ones (g : Gram) (o : Str) (i : Int) (R : St → Option Fin) (K : Cont) : evC (cb_son.withLoops (look [])) (loopOf Tryz.f26 0) ⟨[(2, .d (.one (.ptr 500000 0))), (5, vS o), (6, vI i)], [(500000, some (boxD 25 TG g))]⟩ (onward (headAt (cb_son.withLoops (look [])) 3) R K) = (
branch (decide (i < (List.length g.snd : Int))) (
 need (inb i (List.length g.snd)) <|
 branch (decide (bigS (List.getD g.snd i.toNat d0).snd = true)) (
 need (inb 0 (List.length (List.getD g.snd i.toNat d0).fst)) <|
 branch (decide ((bif true then inS o (byteAt (List.getD g.snd i.toNat d0).fst 0) else false) = true)) (
  need (inb 0 (List.length (List.getD g.snd i.toNat d0).snd)) <|
  branch (bif true then !inS o (byteAt (List.getD g.snd i.toNat d0).snd 0) else false) (
  need (inb 0 (List.length (List.getD g.snd i.toNat d0).snd)) <|
  need (o.length.ble 1000000) <| R (.mk [(2, (.d (.one (.ptr 500000 0)))), (5, (vS (addS (UInt8.ofNat (byteAt (List.getD g.snd i.toNat d0).snd 0).toNat) o))), (6, (vI (W64 (Int.neg 1 + 1))))] [(500000, (.some (.box 25 [(.r (.v (Value.string (mk g.fst)))), (.r (.li TRu (g.snd)))])))])) ( R (.mk [(2, (.d (.one (.ptr 500000 0)))), (5, (vS o)), (6, (vI (W64 (i + 1))))] [(500000, (.some (.box 25 [(.r (.v (Value.string (mk g.fst)))), (.r (.li TRu (g.snd)))])))]))) ( R (.mk [(2, (.d (.one (.ptr 500000 0)))), (5, (vS o)), (6, (vI (W64 (i + 1))))] [(500000, (.some (.box 25 [(.r (.v (Value.string (mk g.fst)))), (.r (.li TRu (g.snd)))])))]))) ( R (.mk [(2, (.d (.one (.ptr 500000 0)))), (5, (vS o)), (6, (vI (W64 (i + 1))))] [(500000, (.some (.box 25 [(.r (.v (Value.string (mk g.fst)))), (.r (.li TRu (g.snd)))])))]))) ( K (.exit 0) (.mk [(5, (vS o))] []))) := by kernel_rfl
theorem grow_app {o : Str} {a b : List Rule} : growF o (a ++ b) = growF (growF o a) b := List.foldl_append
theorem one_sub {o : Str} {r : Rule} (h : ∀ c ∈ oneV o r, c ∈ o) (ho : okS o) : growF o [(r.1, adR r)] = o := by
 show unionV o (metV o (r.1, adR r)) = o
 rw [metV_one]
 refine asc_ext unionV_asc ho.1 fun c => ?_
 rw [unionV_mem]
 exact ⟨fun h2 => h2.elim id (h c), .inl⟩
noncomputable def cx0_son : Cx := (cb_son).withLoops (look [])
def sh_son : Sh := ([(2, .ptr 500000 0), (5, .d .str), (6, .d TI64)], [(500000, .box 25 TG)])
def pre_son (o : Str) (i : Int) (g : Gram) : Bool := decide (0 ≤ i) && (okG g && (okSB o && (decide (0 < List.length o) && decide (growF o (onesR (List.take i.toNat g.2)) = o))))
noncomputable def res_son (o : Str) (_i : Int) (g : Gram) (K : Cont) : Option Fin := K (.exit 0) ⟨[(5, vS (onesG g.2 o))], []⟩
def mu_son (o : Str) (i : Int) (g : Gram) : Nat := (6 - List.length o) * (List.length g.2 + 2) + (List.length g.2 - i.toNat)
theorem r_son (o : Str) (i : Int) (g : Gram) (K : Cont) (hI : pre_son o i g = true) : (∀ R : St → Option Fin, evC cx0_son (loopOf Tryz.f26 0) ⟨[(2, .d (.one (.ptr 500000 0))), (5, .d (ofD .str o)), (6, .d (ofD TI64 i))], [(500000, some (boxD 25 TG g))]⟩ (onward (headAt cx0_son 3) R K) = res_son o i g K) ∨
  (∃ (o' : Str) (i' : Int) (g' : Gram), pre_son o' i' g' = true ∧ mu_son o' i' g' < mu_son o i g ∧ res_son o' i' g' K = res_son o i g K ∧ ∀ R : St → Option Fin, evC cx0_son (loopOf Tryz.f26 0) ⟨[(2, .d (.one (.ptr 500000 0))), (5, .d (ofD .str o)), (6, .d (ofD TI64 i))], [(500000, some (boxD 25 TG g))]⟩ (onward (headAt cx0_son 3) R K) = R ⟨[(2, .d (.one (.ptr 500000 0))), (5, .d (ofD .str o')), (6, .d (ofD TI64 i'))], [(500000, some (boxD 25 TG g'))]⟩) := by
 have hx := fun R => x_spec_l12Ones g o i R K
 simp only [pre_son, andd, dec_iff] at hI
 obtain ⟨h0, h1, h2, h3, h4⟩ := hI
 have hs := okSB_iff.1 h2
 have hs0 : o ≠ [] := List.length_pos_iff.1 h3
 have hlen : List.length g.2 ≤ 8 := (okG_iff h1).2.1
 have ho5 := big_five hs.1 hs.2
 by_cases hi : i < (List.length g.2 : Int)
 ·have hn : i.toNat < List.length g.2 := by omega
  have hmem : List.getD g.2 i.toNat d0 ∈ g.2 := getD_mem hn
  obtain ⟨g1, g2⟩ := (okG_iff h1).2.2 _ hmem
  obtain ⟨c1, e1, hc1⟩ := bigS_one g1
  have w : W64 (i + 1) = i + 1 := wrap_small (by omega) (by omega)
  have l1 : inb 0 (List.length (List.getD g.2 i.toNat d0).1) = true := by rw [e1]; rfl
  have quiet : (∀ c ∈ oneV o (List.getD g.2 i.toNat d0), c ∈ o) → pre_son o (i + 1) g = true ∧ mu_son o (i + 1) g < mu_son o i g := fun hq => by
   refine ⟨?_, by simp only [mu_son]; omega⟩
   simp only [pre_son, andd, dec_iff]
   refine ⟨by omega, h1, h2, h3, ?_⟩
   rw [show (i + 1).toNat = i.toNat + 1 by omega, List.take_succ_eq_append_getElem hn]
   unfold onesR at h4 ⊢
   rw [List.map_append, grow_app, h4, ← getD_at hn]
   exact one_sub hq hs
  rw [decide_eq_true hi, inb_ok h0 hi, l1, w] at hx
  right
  cases hb : bigS (List.getD g.2 i.toNat d0).2
  ·rw [hb] at hx
   obtain ⟨q1, q2⟩ := quiet fun c hc => by
    unfold oneV adR at hc
    rw [hb] at hc
    cases hin : inS o (((List.getD g.2 i.toNat d0).1.getD 0 0).toNat : Int) <;> (rw [hin] at hc; cases hc)
   exact ⟨o, i + 1, g, q1, q2, rfl, fun R => hx R⟩
  ·obtain ⟨c2, e2, hc2⟩ := bigS_one hb
   have l2 : inb 0 (List.length (List.getD g.2 i.toNat d0).2) = true := by rw [e2]; rfl
   have hbl : byteAt (List.getD g.2 i.toNat d0).1 0 = (((List.getD g.2 i.toNat d0).1.getD 0 0).toNat : Int) := rfl
   have hbr : byteAt (List.getD g.2 i.toNat d0).2 0 = (c2.toNat : Int) := by rw [e2]; rfl
   rw [hb, l2, hbl, hbr] at hx
   cases hin : inS o (((List.getD g.2 i.toNat d0).1.getD 0 0).toNat : Int)
   ·rw [hin] at hx
    obtain ⟨q1, q2⟩ := quiet fun c hc => by
     unfold oneV at hc
     rw [hin] at hc; cases hc
    exact ⟨o, i + 1, g, q1, q2, rfl, fun R => hx R⟩
   ·rw [hin] at hx
    have hone : oneV o (List.getD g.2 i.toNat d0) = [c2] := by
     unfold oneV adR
     rw [hin, hb]; exact e2
    cases hin2 : inS o (c2.toNat : Int)
    ·rw [hin2, show (o.length.ble 1000000) = true from ble_iff.2 (by omega)] at hx
     have hcn : c2 ∉ o := fun hm => by rw [inS_mem.2 hm] at hin2; cases hin2
     have hu : UInt8.ofNat ((c2.toNat : Int)).toNat = c2 := by rw [Int.toNat_natCast, UInt8.ofNat_toNat]
     have w0 : W64 (Int.neg 1 + 1) = 0 := rfl
     rw [hu, w0] at hx
     have hos : okS (addS c2 o) := ⟨addS_asc hs.1, fun c hc => by
      rcases addS_mem.1 hc with rfl | hc
      ·exact hc2
      ·exact hs.2 c hc⟩
     have hsub : ∀ c ∈ o, c ∈ addS c2 o := fun c hc => addS_mem.2 (.inr hc)
     have hlt := asc_grow hs.1 hos.1 hsub fun e => hcn (by rw [← e]; exact addS_mem.2 (.inl rfl))
     have h6 := big_five hos.1 hos.2
     refine ⟨addS c2 o, 0, g, ?_, ?_, ?_, fun R => hx R⟩
     ·simp only [pre_son, andd, dec_iff]
      exact ⟨Int.le_refl 0, h1, okSB_iff.2 hos, by omega, rfl⟩
     ·simp only [mu_son]
      obtain ⟨k, hk⟩ : ∃ k, 6 - List.length o = k + 1 := ⟨5 - List.length o, by omega⟩
      have hk2 : 6 - (addS c2 o).length ≤ k := by omega
      have := Nat.mul_le_mul_right (List.length g.2 + 2) hk2
      rw [hk, Nat.add_mul, Nat.one_mul]
      omega
     ·have hmet : ∀ c ∈ addS c2 o, Met (o, onesR g.2) c := fun c hc => by
       rcases addS_mem.1 hc with rfl | hc
       ·refine .step (r := ((List.getD g.2 i.toNat d0).1, adR (List.getD g.2 i.toNat d0))) (List.mem_map.2 ⟨_, hmem, rfl⟩) (.start (inS_mem.1 hin)) ?_ hc2
        show c ∈ adR (List.getD g.2 i.toNat d0)
        unfold adR
        rw [hb, cond_true, e2]; exact List.mem_cons_self
       ·exact .start hc
      simp only [res_son, onesG_same hs hs0 hos hsub hmet]
    ·rw [hin2] at hx
     obtain ⟨q1, q2⟩ := quiet fun c hc => by
      rw [hone] at hc
      rw [List.mem_singleton.1 hc]
      exact inS_mem.1 hin2
     exact ⟨o, i + 1, g, q1, q2, rfl, fun R => hx R⟩
 ·left
  intro R
  refine (hx R).trans ?_
  rw [List.take_of_length_le (by omega)] at h4
  rw [decide_eq_false hi]
  simp only [res_son, onesG_fix h4]; rfl
noncomputable def g_son : St → Cont → Option Fin := gP sh_son (fun v => match v with | ((o, i, ()), (g, ())) => pre_son o i g) (fun v K => match v with | ((o, i, ()), (g, ())) => res_son o i g K)
noncomputable def L_son : List (Nat × (St → Cont → Option Fin)) := (3, g_son) :: []
noncomputable def cx_son : Cx := (cb_son).withLoops (look L_son)
theorem l_son {L : List (Nat × (St → Cont → Option Fin))} (n : Nat) (h1 : L.drop n = []) (h2 : idsFree (L.take n) (loopOf Tryz.f26 0) = true) : ∀ st K r, g_son st K = some r → ∃ N, iter (evC ((cb_son).withLoops (look L)) (loopOf Tryz.f26 0)) (headAt ((cb_son).withLoops (look L)) 3) N st K = some r :=
 with_drop h1 h2 (gP_ok (fun v => match v with | ((o, i, ()), (g, ())) => mu_son o i g) fun v K hI => by
  obtain ⟨⟨(o : Str), (i : Int), ⟨⟩⟩, ⟨(g : Gram), ⟨⟩⟩⟩ := v
  rcases r_son o i g K hI with h1 | ⟨o', i', g', h1, h2, h3, h4⟩
  ·exact .inl h1
  ·exact .inr ⟨((o', i', ()), (g', ())), h1, h2, h3, h4⟩)
theorem y_spec_l12Ones (g : Gram) (a : Str) : evFn cx_son Tryz.f26 true [ofD TG g, ofD .str a] [] = (
need (pre_son a 0 g) <| some ((vS (onesG g.snd a)), [])) := by kernel_rfl
theorem s_spec_l12Ones (g : Gram) (_hg : Fit TG g) (a : Str) (_ha : Fit .str a) (hpre : (okG g && bigS a) = true) : Sat Tryz.prog 26 [ofD TG g, ofD .str a] [] (.d (ofD .str (onesG g.2 a))) [] :=
 fn_sound (cx := cx_son) Tryz.func26 rfl ttOk Γ85ok mixed (fun c hc => LoopsOk.all (l := [(3, loopOf Tryz.f26 0)]) (by cases hc; kernel_rfl) ⟨atLoop rfl (l_son 1 rfl (by kernel_rfl)), trivial⟩) (ro := true) (by
  obtain ⟨h1, h2⟩ := andd.1 hpre
  obtain ⟨q1, q2, _⟩ := okS_big h2
  have kp : pre_son a 0 g = true := by
   simp only [pre_son, andd, dec_iff]
   exact ⟨Int.le_refl 0, h1, q1, q2, rfl⟩
  rw [y_spec_l12Ones, kp]; rfl)
noncomputable def c_spec_l12Ones : Con := conT [TG, .str] fun (g : Gram) (a : Str) => (some (okG g && bigS a), .d (ofD .str (onesG g.2 a)))
theorem k_spec_l12Ones : ConOk Tryz.prog 26 c_spec_l12Ones := conT_ok Tryz.call26 fun g hg a ha hqq => s_spec_l12Ones g hg a ha (pre_of hqq)
noncomputable def Γ86 : List (Nat × Con) := (26, c_spec_l12Ones) :: Γ85
theorem Γ86ok : EnvOk Tryz.prog (look Γ86) := .cons k_spec_l12Ones Γ85ok
theorem s_spec_GramOnes (g : Gram) (_hg : Fit TG g) (a : Str) (_ha : Fit .str a) : Sat Tryz.prog 8 [ofD TG g, ofD .str a] [] (.d (ofD .str (bif okG g && bigS a then onesG g.2 a else []))) [] :=
 fn_sound (cx := ((cxOf Γ86 Tryz.f8.ntmps [] [] [] []).parted [1])) Tryz.func8 rfl ttOk Γ86ok mixed (fun _ _ => LoopsOk.no fun _ => rfl) (ro := true) (by
  have y : evFn ((cxOf Γ86 Tryz.f8.ntmps [] [] [] []).parted [1]) Tryz.f8 true [ofD TG g, ofD .str a] [] = branch (decide ((!okG g) = false)) (branch (bif false then true else !bigS a) (some (vS [], [])) (need (okG g && bigS a) (some (vS (onesG g.2 a), [])))) (some (vS [], [])) := by kernel_rfl
  rw [y]
  cases okG g <;> cases bigS a <;> rfl)
noncomputable def c_spec_GramOnes : Con := conT [TG, .str] fun (g : Gram) (a : Str) => (none, .d (ofD .str (bif okG g && bigS a then onesG g.2 a else [])))
theorem k_spec_GramOnes : ConOk Tryz.prog 8 c_spec_GramOnes := conT_ok Tryz.call8 fun g hg a ha _ => s_spec_GramOnes g hg a ha
noncomputable def Γ87 : List (Nat × Con) := (8, c_spec_GramOnes) :: Γ86
theorem Γ87ok : EnvOk Tryz.prog (look Γ87) := .cons k_spec_GramOnes Γ86ok
end Go.Proofs.YtbijdgkkneffgaaGreatDoor.Ev
