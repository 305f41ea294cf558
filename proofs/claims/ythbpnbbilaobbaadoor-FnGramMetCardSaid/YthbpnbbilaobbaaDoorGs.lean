/-
  FnGramStart, FnGramSigns.
-/
import Derived.Test.YthbpnbbilaobbaaDoorGr
namespace Go.Proofs.YthbpnbbilaobbaaDoor.Ev
open Go
theorem okG_start {g : Gram} {s : Str} (h : okG g = true) (hs : bigS s = true) : okG (s, g.2) = true := by
  unfold okG at h ⊢
  rw [andd] at h ⊢
  exact ⟨hs, h.2⟩
theorem smalls_start {g : Gram} {s : Str} (h : okG g = true) (hs : bigS s = true) : smallsG (s, g.2) = smallsG g := by
  refine setS_eq setS_asc fun y => ?_
  have hn : ∀ {t : Str}, bigS t = true → y ∈ t → ¬ small y = true := fun ht hy hy2 => by
    obtain ⟨c, rfl, hc⟩ := bigS_one ht
    rw [List.mem_singleton] at hy
    subst hy
    exact big_small y ⟨hc, hy2⟩
  unfold smallsG
  rw [setS_mem]
  unfold signsG
  rw [List.mem_append, List.mem_append]
  constructor
  · rintro ⟨h1 | h1, h2⟩
    · exact absurd h2 (hn hs h1)
    · exact ⟨.inr h1, h2⟩
  · rintro ⟨h1 | h1, h2⟩
    · exact absurd h2 (hn (okG_iff h).1 h1)
    · exact ⟨.inr h1, h2⟩
theorem y_laws_FnGramStart (l : List Int) : evFn (cxOf Γ77 Tryd.f5.ntmps [] [] [] []) Tryd.f5 true [ofD TB l] [] = (
branch (decide (1048576 < (l.length : Int))) ( some ((vB true), [])) (
 branch (bif !decide (okG (F_spec_DrawGramOk l) = okG (F_spec_DrawGramOk l)) then true else !okG (F_spec_DrawGramOk l)) ( some ((vB (decide (okG (F_spec_DrawGramOk l) = okG (F_spec_DrawGramOk l)))), [])) ( some ((vB (bif bif bif okG (([69] : Str), (F_spec_DrawGramOk l).snd) then decide ((bif okG (([69] : Str), (F_spec_DrawGramOk l).snd) then smallsG (([69] : Str), (F_spec_DrawGramOk l).snd) else []) = (bif okG (F_spec_DrawGramOk l) then smallsG (F_spec_DrawGramOk l) else [])) else false then inS (bif okG (([69] : Str), (F_spec_DrawGramOk l).snd) then bigsG (([69] : Str), (F_spec_DrawGramOk l).snd) else []) 69 else false then !bif sameG (([69] : Str), (F_spec_DrawGramOk l).snd) (F_spec_DrawGramOk l) then !decide ((F_spec_DrawGramOk l).fst = [69]) else false else false)), [])))) := by kernel_rfl
theorem s_laws_FnGramStart (l : List Int) (_hl : Fit TB l) : Sat Tryd.prog 5 [ofD TB l] [] (.d (ofD .bool true)) [] :=
  fn_sound (cx := cxOf Γ77 Tryd.f5.ntmps [] [] [] []) Tryd.func5 rfl ttOk Γ77ok mixed (fun _ _ => LoopsOk.no fun _ => rfl) (ro := true) (by
    rw [y_laws_FnGramStart]
    generalize F_spec_DrawGramOk l = g
    cases decide (1048576 < (l.length : Int))
    · cases h : okG g
      · rfl
      · have hE : bigS [69] = true := rfl
        have h1 := okG_start h hE
        have h2 := smalls_start h hE
        have h3 : inS (bigsG (([69] : Str), g.2)) 69 = true := (inS_mem (c := 69)).2 (by
          unfold bigsG
          rw [setS_mem]
          exact ⟨List.mem_append_left _ List.mem_cons_self, rfl⟩)
        have h4 : (bif sameG (([69] : Str), g.2) g then !decide (g.1 = [69]) else false) = false := by
          unfold sameG
          by_cases e : ([69] : Str) = g.1
          · rw [decide_eq_true e.symm]
            cases (bif decide ((([69] : Str), g.2).1 = g.1) then eqRs (([69] : Str), g.2).2 g.2 else false) <;> rfl
          · rw [show decide ((([69] : Str), g.2).1 = g.1) = false from decide_eq_false e]; rfl
        rw [h1, h4]
        simp only [cond_true, h2, h3, decide_true]
        rfl
    · rfl)
noncomputable def c_laws_FnGramStart : Con := conT [TB] fun (_l : List Int) => (none, .d (ofD .bool true))
theorem k_laws_FnGramStart : ConOk Tryd.prog 5 c_laws_FnGramStart := conT_ok Tryd.call5 fun l hl _ => s_laws_FnGramStart l hl
noncomputable def cb_Signs : Cx := cxOf Γ77 Tryd.f6.ntmps [(24, [3, 4, 5, 8, 9]), (21, [3, 4, 5, 8]), (16, [3, 4, 5, 7]), (11, [3, 4, 5, 6])] [(4, [3, 4]), (5, [3, 4, 5, 8]), (6, [3, 4, 5, 8]), (7, [3, 4, 5, 8, 9]), (2, [3, 4, 5]), (3, [3, 4, 5, 7]), (0, [3, 4, 5]), (1, [3, 4, 5, 6]), (1000000, [2])] [] []
theorem slice_one {s : Str} {i : Int} (h0 : 0 ≤ i) (h1 : i < (s.length : Int)) : List.take ((i + 1).toNat - i.toNat) (List.drop i.toNat s) = [s.getD i.toNat 0] := by
  have hn : i.toNat < s.length := by omega
  rw [show (i + 1).toNat - i.toNat = 1 by omega, List.drop_eq_getElem_cons hn, List.getD_eq_getElem?_getD, List.getElem?_eq_getElem hn]; rfl
theorem asc_lt {a : Str} (h : Asc a) {i j : Nat} (hij : i < j) (hj : j < a.length) : (a.getD i 0).toNat < (a.getD j 0).toNat := by
  rw [List.getD_eq_getElem?_getD, List.getD_eq_getElem?_getD, List.getElem?_eq_getElem hj, List.getElem?_eq_getElem (show i < a.length by omega)]
  exact List.pairwise_iff_getElem.1 h i j (by omega) hj hij
theorem getD_in {s : Str} {i : Nat} (h : i < s.length) : s.getD i 0 ∈ s := by
  rw [List.getD_eq_getElem?_getD, List.getElem?_eq_getElem h]; exact List.getElem_mem h
/-- all right signs are told -/
def hasAll (g : Gram) (s : Str) : Bool := List.all g.2 fun r => r.2.all fun c => inS s (c.toNat : Int)
theorem hasAll_at {g : Gram} {s : Str} (h : hasAll g s = true) {k j : Nat} (hk : k < List.length g.2) (hj : j < (List.getD g.2 k d0).2.length) : inS s (((List.getD g.2 k d0).2.getD j 0).toNat : Int) = true := by
  unfold hasAll at h
  have h1 := List.all_eq_true.1 h (List.getD g.2 k d0) (by rw [getD_at hk]; exact List.getElem_mem hk)
  exact List.all_eq_true.1 h1 _ (getD_in hj)
abbrev sgH (g : Gram) : List (Nat × Option Obj) := [(500000, some (boxD 25 TG g))]
def sgP (g : Gram) (a b : Str) : Bool := hasAll g (a ++ b) && (Nat.ble (List.length a + List.length b) 1000000 && (Nat.ble (List.length g.2) big && List.all g.2 fun r => Nat.ble r.2.length big))
theorem x_laws_FnGramSigns_3 (g : Gram) (a b : Str) (k j : Int) (R : St → Option Fin) (K : Cont) : evC (cb_Signs.withLoops (look [])) (loopOf Tryd.f6 3) ⟨[(3, .d (.one (.ptr 500000 0))), (4, vS a), (5, vS b), (8, vI k), (9, vI j)], [(500000, some (boxD 25 TG g))]⟩ (onward (headAt (cb_Signs.withLoops (look [])) 24) R K) = (
need (inb k (List.length g.snd)) <|
branch (decide (j < (List.length (List.getD g.snd k.toNat d0).snd : Int))) (
 need (decide ((List.length a + List.length b) ≤ 9223372036854775807)) <|
 need (inb k (List.length g.snd)) <|
 need (inb j (List.length (List.getD g.snd k.toNat d0).snd)) <|
 branch (!inS (List.append a b) (byteAt (List.getD g.snd k.toNat d0).snd j)) ( K (.ret) (.mk [(2, (vB false))] [])) ( R (.mk [(3, (.d (.one (.ptr 500000 0)))), (4, (vS a)), (5, (vS b)), (8, (vI k)), (9, (vI (W64 (j + 1))))] [(500000, (.some (.box 25 [(.r (.v (Value.string (mk g.fst)))), (.r (.li TRu (g.snd)))])))]))) ( K (.exit 6) (.mk [(3, (.d (.one (.ptr 500000 0)))), (4, (vS a)), (5, (vS b)), (8, (vI k))] [(500000, (.some (.box 25 [(.r (.v (Value.string (mk g.fst)))), (.r (.li TRu (g.snd)))])))]))) := by kernel_rfl
noncomputable def cx0_sg24 : Cx := (cb_Signs).withLoops (look [])
def sh_sg24 : Sh := ([(3, .ptr 500000 0), (4, .d .str), (5, .d .str), (8, .d TI64), (9, .d TI64)], [(500000, .box 25 TG)])
def pre_sg24 (a : Str) (b : Str) (k : Int) (j : Int) (g : Gram) : Bool := decide (0 ≤ k) && (decide (k < (List.length g.2 : Int)) && (decide (0 ≤ j) && sgP g a b))
noncomputable def res_sg24 (a : Str) (b : Str) (k : Int) (_j : Int) (g : Gram) (K : Cont) : Option Fin := K (.exit 6) ⟨[(3, .d (.one (.ptr 500000 0))), (4, vS a), (5, vS b), (8, vI k)], sgH g⟩
def mu_sg24 (_a : Str) (_b : Str) (k : Int) (j : Int) (g : Gram) : Nat := (List.getD g.2 k.toNat d0).2.length - j.toNat
theorem r_sg24 (a : Str) (b : Str) (k : Int) (j : Int) (g : Gram) (K : Cont) (hI : pre_sg24 a b k j g = true) : (∀ R : St → Option Fin, evC cx0_sg24 (loopOf Tryd.f6 3) ⟨[(3, .d (.one (.ptr 500000 0))), (4, .d (ofD .str a)), (5, .d (ofD .str b)), (8, .d (ofD TI64 k)), (9, .d (ofD TI64 j))], [(500000, some (boxD 25 TG g))]⟩ (onward (headAt cx0_sg24 24) R K) = res_sg24 a b k j g K) ∨
    (∃ (a' : Str) (b' : Str) (k' : Int) (j' : Int) (g' : Gram), pre_sg24 a' b' k' j' g' = true ∧ mu_sg24 a' b' k' j' g' < mu_sg24 a b k j g ∧ res_sg24 a' b' k' j' g' K = res_sg24 a b k j g K ∧ ∀ R : St → Option Fin, evC cx0_sg24 (loopOf Tryd.f6 3) ⟨[(3, .d (.one (.ptr 500000 0))), (4, .d (ofD .str a)), (5, .d (ofD .str b)), (8, .d (ofD TI64 k)), (9, .d (ofD TI64 j))], [(500000, some (boxD 25 TG g))]⟩ (onward (headAt cx0_sg24 24) R K) = R ⟨[(3, .d (.one (.ptr 500000 0))), (4, .d (ofD .str a')), (5, .d (ofD .str b')), (8, .d (ofD TI64 k')), (9, .d (ofD TI64 j'))], [(500000, some (boxD 25 TG g'))]⟩) := by
  have hx := fun R => x_laws_FnGramSigns_3 g a b k j R K
  simp only [pre_sg24, andd, dec_iff] at hI
  obtain ⟨h0, h1, h2, h3⟩ := hI
  have hp := h3
  unfold sgP at h3
  simp only [andd, ble_iff] at h3
  obtain ⟨h4, h5, h6, h7⟩ := h3
  have hk : k.toNat < List.length g.2 := by omega
  have hr : List.length (List.getD g.2 k.toNat d0).2 ≤ big := by
    have := List.all_eq_true.1 h7 (List.getD g.2 k.toNat d0) (by rw [getD_at hk]; exact List.getElem_mem hk)
    exact ble_iff.1 this
  have k1 : decide (List.length a + List.length b ≤ 9223372036854775807) = true := dec_iff.2 (by omega)
  by_cases hj : j < (List.length (List.getD g.2 k.toNat d0).2 : Int)
  · have hin := hasAll_at h4 hk (show j.toNat < _ by omega)
    have hin' : inS (List.append a b) (byteAt (List.getD g.2 k.toNat d0).2 j) = true := hin
    simp only [hj, decide_true, inb_ok h0 h1, inb_ok h2 hj, branch_true, W1 h2 hj hr, hin', Bool.not_true, branch_false] at hx
    right
    refine ⟨a, b, k, j + 1, g, ?_, ?_, rfl, fun R => (hx R).trans ?_⟩
    · simp only [pre_sg24, andd, dec_iff]; exact ⟨h0, h1, by omega, hp⟩
    · simp only [mu_sg24]; omega
    · exact congrArg (need · _) k1
  · left
    intro R
    refine (hx R).trans ?_
    simp only [hj, decide_false, branch_false, inb_ok h0 h1]; rfl
noncomputable def g_sg24 : St → Cont → Option Fin := gP sh_sg24 (fun v => match v with | ((a, b, k, j, ()), (g, ())) => pre_sg24 a b k j g) (fun v K => match v with | ((a, b, k, j, ()), (g, ())) => res_sg24 a b k j g K)
noncomputable def L_sg24 : List (Nat × (St → Cont → Option Fin)) := (24, g_sg24) :: []
noncomputable def cx_sg24 : Cx := (cb_Signs).withLoops (look L_sg24)
theorem l_sg24 {L : List (Nat × (St → Cont → Option Fin))} (n : Nat) (h1 : L.drop n = []) (h2 : idsFree (L.take n) (loopOf Tryd.f6 3) = true) : ∀ st K r, g_sg24 st K = some r → ∃ N, iter (evC ((cb_Signs).withLoops (look L)) (loopOf Tryd.f6 3)) (headAt ((cb_Signs).withLoops (look L)) 24) N st K = some r :=
  with_drop h1 h2 (gP_ok (fun v => match v with | ((a, b, k, j, ()), (g, ())) => mu_sg24 a b k j g) fun v K hI => by
    obtain ⟨⟨(a : Str), (b : Str), (k : Int), (j : Int), ⟨⟩⟩, ⟨(g : Gram), ⟨⟩⟩⟩ := v
    rcases r_sg24 a b k j g K hI with h1 | ⟨a', b', k', j', g', h1, h2, h3, h4⟩
    · exact .inl h1
    · exact .inr ⟨((a', b', k', j', ()), (g', ())), h1, h2, h3, h4⟩)
theorem x_laws_FnGramSigns_2 (g : Gram) (a b : Str) (k : Int) (R : St → Option Fin) (K : Cont) : evC (cb_Signs.withLoops (look L_sg24)) (loopOf Tryd.f6 2) ⟨[(3, .d (.one (.ptr 500000 0))), (4, vS a), (5, vS b), (8, vI k)], [(500000, some (boxD 25 TG g))]⟩ (onward (headAt (cb_Signs.withLoops (look L_sg24)) 21) R K) = (
branch (decide (k < (List.length g.snd : Int))) (
 need (pre_sg24 a b k 0 g) <| R (.mk [(3, (.d (.one (.ptr 500000 0)))), (4, (vS a)), (5, (vS b)), (8, (vI (W64 (k + 1))))] [(500000, (.some (.box 25 [(.r (.v (Value.string (mk g.fst)))), (.r (.li TRu (g.snd)))])))])) ( K (.exit 4) (.mk [(3, (.d (.one (.ptr 500000 0)))), (4, (vS a))] [(500000, (.some (.box 25 [(.r (.v (Value.string (mk g.fst)))), (.r (.li TRu (g.snd)))])))]))) := by kernel_rfl
noncomputable def cx0_sg21 : Cx := (cb_Signs).withLoops (look L_sg24)
def sh_sg21 : Sh := ([(3, .ptr 500000 0), (4, .d .str), (5, .d .str), (8, .d TI64)], [(500000, .box 25 TG)])
def pre_sg21 (a : Str) (b : Str) (k : Int) (g : Gram) : Bool := decide (0 ≤ k) && sgP g a b
noncomputable def res_sg21 (a : Str) (_b : Str) (_k : Int) (g : Gram) (K : Cont) : Option Fin := K (.exit 4) ⟨[(3, .d (.one (.ptr 500000 0))), (4, vS a)], sgH g⟩
def mu_sg21 (_a : Str) (_b : Str) (k : Int) (g : Gram) : Nat := List.length g.2 - k.toNat
theorem r_sg21 (a : Str) (b : Str) (k : Int) (g : Gram) (K : Cont) (hI : pre_sg21 a b k g = true) : (∀ R : St → Option Fin, evC cx0_sg21 (loopOf Tryd.f6 2) ⟨[(3, .d (.one (.ptr 500000 0))), (4, .d (ofD .str a)), (5, .d (ofD .str b)), (8, .d (ofD TI64 k))], [(500000, some (boxD 25 TG g))]⟩ (onward (headAt cx0_sg21 21) R K) = res_sg21 a b k g K) ∨
    (∃ (a' : Str) (b' : Str) (k' : Int) (g' : Gram), pre_sg21 a' b' k' g' = true ∧ mu_sg21 a' b' k' g' < mu_sg21 a b k g ∧ res_sg21 a' b' k' g' K = res_sg21 a b k g K ∧ ∀ R : St → Option Fin, evC cx0_sg21 (loopOf Tryd.f6 2) ⟨[(3, .d (.one (.ptr 500000 0))), (4, .d (ofD .str a)), (5, .d (ofD .str b)), (8, .d (ofD TI64 k))], [(500000, some (boxD 25 TG g))]⟩ (onward (headAt cx0_sg21 21) R K) = R ⟨[(3, .d (.one (.ptr 500000 0))), (4, .d (ofD .str a')), (5, .d (ofD .str b')), (8, .d (ofD TI64 k'))], [(500000, some (boxD 25 TG g'))]⟩) := by
  have hx := fun R => x_laws_FnGramSigns_2 g a b k R K
  simp only [pre_sg21, andd, dec_iff] at hI
  obtain ⟨h0, h3⟩ := hI
  have hp := h3
  unfold sgP at h3
  simp only [andd, ble_iff] at h3
  obtain ⟨h4, h5, h6, h7⟩ := h3
  by_cases hk : k < (List.length g.2 : Int)
  · have hq : pre_sg24 a b k 0 g = true := by simp only [pre_sg24, andd, dec_iff]; exact ⟨h0, hk, by omega, hp⟩
    simp only [hk, decide_true, branch_true, W1 h0 hk h6, hq] at hx
    right
    refine ⟨a, b, k + 1, g, ?_, ?_, rfl, fun R => hx R⟩
    · simp only [pre_sg21, andd, dec_iff]; exact ⟨by omega, hp⟩
    · simp only [mu_sg21]; omega
  · left
    intro R
    refine (hx R).trans ?_
    simp only [hk, decide_false, branch_false]; rfl
noncomputable def g_sg21 : St → Cont → Option Fin := gP sh_sg21 (fun v => match v with | ((a, b, k, ()), (g, ())) => pre_sg21 a b k g) (fun v K => match v with | ((a, b, k, ()), (g, ())) => res_sg21 a b k g K)
noncomputable def L_sg21 : List (Nat × (St → Cont → Option Fin)) := (21, g_sg21) :: L_sg24
noncomputable def cx_sg21 : Cx := (cb_Signs).withLoops (look L_sg21)
theorem l_sg21 {L : List (Nat × (St → Cont → Option Fin))} (n : Nat) (h1 : L.drop n = L_sg24) (h2 : idsFree (L.take n) (loopOf Tryd.f6 2) = true) : ∀ st K r, g_sg21 st K = some r → ∃ N, iter (evC ((cb_Signs).withLoops (look L)) (loopOf Tryd.f6 2)) (headAt ((cb_Signs).withLoops (look L)) 21) N st K = some r :=
  with_drop h1 h2 (gP_ok (fun v => match v with | ((a, b, k, ()), (g, ())) => mu_sg21 a b k g) fun v K hI => by
    obtain ⟨⟨(a : Str), (b : Str), (k : Int), ⟨⟩⟩, ⟨(g : Gram), ⟨⟩⟩⟩ := v
    rcases r_sg21 a b k g K hI with h1 | ⟨a', b', k', g', h1, h2, h3, h4⟩
    · exact .inl h1
    · exact .inr ⟨((a', b', k', ()), (g', ())), h1, h2, h3, h4⟩)
theorem x_laws_FnGramSigns_1 (g : Gram) (a b : Str) (i : Int) (R : St → Option Fin) (K : Cont) : evC (cb_Signs.withLoops (look L_sg21)) (loopOf Tryd.f6 1) ⟨[(3, .d (.one (.ptr 500000 0))), (4, vS a), (5, vS b), (7, vI i)], [(500000, some (boxD 25 TG g))]⟩ (onward (headAt (cb_Signs.withLoops (look L_sg21)) 16) R K) = (
branch (decide (i < (b.length : Int))) (
 need (inr i (W64 (i + 1)) b.length) <|
 need (bif decide ((!smallS (List.take ((W64 (i + 1)).toNat - i.toNat) (List.drop i.toNat b))) = false) && decide (decide (0 < i) = true) then inb (W64 (i - 1)) b.length else true) <|
 need (bif decide ((!smallS (List.take ((W64 (i + 1)).toNat - i.toNat) (List.drop i.toNat b))) = false) && decide (decide (0 < i) = true) then inb i b.length else true) <|
 branch (bif !smallS (List.take ((W64 (i + 1)).toNat - i.toNat) (List.drop i.toNat b)) then true else bif decide (0 < i) then decide (byteAt b i ≤ byteAt b (W64 (i - 1))) else false) ( K (.ret) (.mk [(2, (vB false))] [])) ( R (.mk [(3, (.d (.one (.ptr 500000 0)))), (4, (vS a)), (5, (vS b)), (7, (vI (W64 (i + 1))))] [(500000, (.some (.box 25 [(.r (.v (Value.string (mk g.fst)))), (.r (.li TRu (g.snd)))])))]))) ( K (.exit 2) (.mk [(3, (.d (.one (.ptr 500000 0)))), (4, (vS a)), (5, (vS b))] [(500000, (.some (.box 25 [(.r (.v (Value.string (mk g.fst)))), (.r (.li TRu (g.snd)))])))]))) := by kernel_rfl
noncomputable def cx0_sg16 : Cx := (cb_Signs).withLoops (look L_sg21)
def sh_sg16 : Sh := ([(3, .ptr 500000 0), (4, .d .str), (5, .d .str), (7, .d TI64)], [(500000, .box 25 TG)])
def pre_sg16 (_a : Str) (b : Str) (i : Int) (_g : Gram) : Bool := decide (0 ≤ i) && (Nat.ble (List.length b) 1000000 && (List.all b small && decide (Asc b)))
noncomputable def res_sg16 (a : Str) (b : Str) (_i : Int) (g : Gram) (K : Cont) : Option Fin := K (.exit 2) ⟨[(3, .d (.one (.ptr 500000 0))), (4, vS a), (5, vS b)], sgH g⟩
def mu_sg16 (_a : Str) (b : Str) (i : Int) (_g : Gram) : Nat := List.length b - i.toNat
theorem r_sg16 (a : Str) (b : Str) (i : Int) (g : Gram) (K : Cont) (hI : pre_sg16 a b i g = true) : (∀ R : St → Option Fin, evC cx0_sg16 (loopOf Tryd.f6 1) ⟨[(3, .d (.one (.ptr 500000 0))), (4, .d (ofD .str a)), (5, .d (ofD .str b)), (7, .d (ofD TI64 i))], [(500000, some (boxD 25 TG g))]⟩ (onward (headAt cx0_sg16 16) R K) = res_sg16 a b i g K) ∨
    (∃ (a' : Str) (b' : Str) (i' : Int) (g' : Gram), pre_sg16 a' b' i' g' = true ∧ mu_sg16 a' b' i' g' < mu_sg16 a b i g ∧ res_sg16 a' b' i' g' K = res_sg16 a b i g K ∧ ∀ R : St → Option Fin, evC cx0_sg16 (loopOf Tryd.f6 1) ⟨[(3, .d (.one (.ptr 500000 0))), (4, .d (ofD .str a)), (5, .d (ofD .str b)), (7, .d (ofD TI64 i))], [(500000, some (boxD 25 TG g))]⟩ (onward (headAt cx0_sg16 16) R K) = R ⟨[(3, .d (.one (.ptr 500000 0))), (4, .d (ofD .str a')), (5, .d (ofD .str b')), (7, .d (ofD TI64 i'))], [(500000, some (boxD 25 TG g'))]⟩) := by
  have hx := fun R => x_laws_FnGramSigns_1 g a b i R K
  simp only [pre_sg16, andd, dec_iff, ble_iff] at hI
  obtain ⟨h0, h1, h2, h3⟩ := hI
  by_cases hi : i < (List.length b : Int)
  · have w1 : W64 (i + 1) = i + 1 := wrap_small (by omega) (by omega)
    have w2 : W64 (i - 1) = i - 1 := wrap_small (by omega) (by omega)
    have hb : smallS [b.getD i.toNat 0] = true := List.all_eq_true.1 h2 _ (getD_in (by omega))
    have hlt : (bif decide (0 < i) then decide (byteAt b i ≤ byteAt b (i - 1)) else false) = false := by
      by_cases hp : 0 < i
      · have := asc_lt h3 (show (i - 1).toNat < i.toNat by omega) (by omega)
        rw [decide_eq_true hp]
        exact decide_eq_false (show ¬ ((b.getD i.toNat 0).toNat : Int) ≤ ((b.getD (i - 1).toNat 0).toNat : Int) by omega)
      · rw [decide_eq_false hp]; rfl
    have k0 : inr i (i + 1) (List.length b) = true := inr_iff.2 (by omega)
    have k1 : (bif decide ((!true) = false) && decide (decide (0 < i) = true) then inb (i - 1) (List.length b) else true) = true := by
      by_cases hp : 0 < i
      · rw [decide_eq_true hp]; exact inb_ok (by omega) (by omega)
      · rw [decide_eq_false hp]; rfl
    rw [w1, w2] at hx
    simp only [slice_one h0 hi, hi, hb, hlt, k0, k1, decide_true, inb_ok h0 hi, branch_true] at hx
    right
    refine ⟨a, b, i + 1, g, ?_, ?_, rfl, fun R => (hx R).trans ?_⟩
    · simp only [pre_sg16, andd, dec_iff, ble_iff]; exact ⟨by omega, h1, h2, h3⟩
    · simp only [mu_sg16]; omega
    · cases decide (0 < i) <;> rfl
  · left
    intro R
    refine (hx R).trans ?_
    simp only [hi, decide_false, branch_false]; rfl
noncomputable def g_sg16 : St → Cont → Option Fin := gP sh_sg16 (fun v => match v with | ((a, b, i, ()), (g, ())) => pre_sg16 a b i g) (fun v K => match v with | ((a, b, i, ()), (g, ())) => res_sg16 a b i g K)
noncomputable def L_sg16 : List (Nat × (St → Cont → Option Fin)) := (16, g_sg16) :: L_sg21
noncomputable def cx_sg16 : Cx := (cb_Signs).withLoops (look L_sg16)
theorem l_sg16 {L : List (Nat × (St → Cont → Option Fin))} (n : Nat) (h1 : L.drop n = L_sg21) (h2 : idsFree (L.take n) (loopOf Tryd.f6 1) = true) : ∀ st K r, g_sg16 st K = some r → ∃ N, iter (evC ((cb_Signs).withLoops (look L)) (loopOf Tryd.f6 1)) (headAt ((cb_Signs).withLoops (look L)) 16) N st K = some r :=
  with_drop h1 h2 (gP_ok (fun v => match v with | ((a, b, i, ()), (g, ())) => mu_sg16 a b i g) fun v K hI => by
    obtain ⟨⟨(a : Str), (b : Str), (i : Int), ⟨⟩⟩, ⟨(g : Gram), ⟨⟩⟩⟩ := v
    rcases r_sg16 a b i g K hI with h1 | ⟨a', b', i', g', h1, h2, h3, h4⟩
    · exact .inl h1
    · exact .inr ⟨((a', b', i', ()), (g', ())), h1, h2, h3, h4⟩)
theorem x_laws_FnGramSigns (g : Gram) (a b : Str) (i : Int) (R : St → Option Fin) (K : Cont) : evC (cb_Signs.withLoops (look L_sg16)) (loopOf Tryd.f6 0) ⟨[(3, .d (.one (.ptr 500000 0))), (4, vS a), (5, vS b), (6, vI i)], [(500000, some (boxD 25 TG g))]⟩ (onward (headAt (cb_Signs.withLoops (look L_sg16)) 11) R K) = (
branch (decide (i < (a.length : Int))) (
 need (inr i (W64 (i + 1)) a.length) <|
 need (bif decide ((!bigS (List.take ((W64 (i + 1)).toNat - i.toNat) (List.drop i.toNat a))) = false) && decide (decide (0 < i) = true) then inb (W64 (i - 1)) a.length else true) <|
 need (bif decide ((!bigS (List.take ((W64 (i + 1)).toNat - i.toNat) (List.drop i.toNat a))) = false) && decide (decide (0 < i) = true) then inb i a.length else true) <|
 branch (bif !bigS (List.take ((W64 (i + 1)).toNat - i.toNat) (List.drop i.toNat a)) then true else bif decide (0 < i) then decide (byteAt a i ≤ byteAt a (W64 (i - 1))) else false) ( K (.ret) (.mk [(2, (vB false))] [])) ( R (.mk [(3, (.d (.one (.ptr 500000 0)))), (4, (vS a)), (5, (vS b)), (6, (vI (W64 (i + 1))))] [(500000, (.some (.box 25 [(.r (.v (Value.string (mk g.fst)))), (.r (.li TRu (g.snd)))])))]))) ( K (.exit 0) (.mk [(3, (.d (.one (.ptr 500000 0)))), (4, (vS a)), (5, (vS b))] [(500000, (.some (.box 25 [(.r (.v (Value.string (mk g.fst)))), (.r (.li TRu (g.snd)))])))]))) := by kernel_rfl
noncomputable def cx0_sg11 : Cx := (cb_Signs).withLoops (look L_sg16)
def sh_sg11 : Sh := ([(3, .ptr 500000 0), (4, .d .str), (5, .d .str), (6, .d TI64)], [(500000, .box 25 TG)])
def pre_sg11 (a : Str) (_b : Str) (i : Int) (_g : Gram) : Bool := decide (0 ≤ i) && (Nat.ble (List.length a) 1000000 && (List.all a bigc && decide (Asc a)))
noncomputable def res_sg11 (a : Str) (b : Str) (_i : Int) (g : Gram) (K : Cont) : Option Fin := K (.exit 0) ⟨[(3, .d (.one (.ptr 500000 0))), (4, vS a), (5, vS b)], sgH g⟩
def mu_sg11 (a : Str) (_b : Str) (i : Int) (_g : Gram) : Nat := List.length a - i.toNat
theorem r_sg11 (a : Str) (b : Str) (i : Int) (g : Gram) (K : Cont) (hI : pre_sg11 a b i g = true) : (∀ R : St → Option Fin, evC cx0_sg11 (loopOf Tryd.f6 0) ⟨[(3, .d (.one (.ptr 500000 0))), (4, .d (ofD .str a)), (5, .d (ofD .str b)), (6, .d (ofD TI64 i))], [(500000, some (boxD 25 TG g))]⟩ (onward (headAt cx0_sg11 11) R K) = res_sg11 a b i g K) ∨
    (∃ (a' : Str) (b' : Str) (i' : Int) (g' : Gram), pre_sg11 a' b' i' g' = true ∧ mu_sg11 a' b' i' g' < mu_sg11 a b i g ∧ res_sg11 a' b' i' g' K = res_sg11 a b i g K ∧ ∀ R : St → Option Fin, evC cx0_sg11 (loopOf Tryd.f6 0) ⟨[(3, .d (.one (.ptr 500000 0))), (4, .d (ofD .str a)), (5, .d (ofD .str b)), (6, .d (ofD TI64 i))], [(500000, some (boxD 25 TG g))]⟩ (onward (headAt cx0_sg11 11) R K) = R ⟨[(3, .d (.one (.ptr 500000 0))), (4, .d (ofD .str a')), (5, .d (ofD .str b')), (6, .d (ofD TI64 i'))], [(500000, some (boxD 25 TG g'))]⟩) := by
  have hx := fun R => x_laws_FnGramSigns g a b i R K
  simp only [pre_sg11, andd, dec_iff, ble_iff] at hI
  obtain ⟨h0, h1, h2, h3⟩ := hI
  by_cases hi : i < (List.length a : Int)
  · have w1 : W64 (i + 1) = i + 1 := wrap_small (by omega) (by omega)
    have w2 : W64 (i - 1) = i - 1 := wrap_small (by omega) (by omega)
    have hb : bigS [a.getD i.toNat 0] = true := List.all_eq_true.1 h2 _ (getD_in (by omega))
    have hlt : (bif decide (0 < i) then decide (byteAt a i ≤ byteAt a (i - 1)) else false) = false := by
      by_cases hp : 0 < i
      · have := asc_lt h3 (show (i - 1).toNat < i.toNat by omega) (by omega)
        rw [decide_eq_true hp]
        exact decide_eq_false (show ¬ ((a.getD i.toNat 0).toNat : Int) ≤ ((a.getD (i - 1).toNat 0).toNat : Int) by omega)
      · rw [decide_eq_false hp]; rfl
    have k0 : inr i (i + 1) (List.length a) = true := inr_iff.2 (by omega)
    have k1 : (bif decide ((!true) = false) && decide (decide (0 < i) = true) then inb (i - 1) (List.length a) else true) = true := by
      by_cases hp : 0 < i
      · rw [decide_eq_true hp]; exact inb_ok (by omega) (by omega)
      · rw [decide_eq_false hp]; rfl
    rw [w1, w2] at hx
    simp only [slice_one h0 hi, hi, hb, hlt, k0, k1, decide_true, inb_ok h0 hi, branch_true] at hx
    right
    refine ⟨a, b, i + 1, g, ?_, ?_, rfl, fun R => (hx R).trans ?_⟩
    · simp only [pre_sg11, andd, dec_iff, ble_iff]; exact ⟨by omega, h1, h2, h3⟩
    · simp only [mu_sg11]; omega
    · cases decide (0 < i) <;> rfl
  · left
    intro R
    refine (hx R).trans ?_
    simp only [hi, decide_false, branch_false]; rfl
noncomputable def g_sg11 : St → Cont → Option Fin := gP sh_sg11 (fun v => match v with | ((a, b, i, ()), (g, ())) => pre_sg11 a b i g) (fun v K => match v with | ((a, b, i, ()), (g, ())) => res_sg11 a b i g K)
noncomputable def L_sg11 : List (Nat × (St → Cont → Option Fin)) := (11, g_sg11) :: L_sg16
noncomputable def cx_sg11 : Cx := (cb_Signs).withLoops (look L_sg11)
theorem l_sg11 {L : List (Nat × (St → Cont → Option Fin))} (n : Nat) (h1 : L.drop n = L_sg16) (h2 : idsFree (L.take n) (loopOf Tryd.f6 0) = true) : ∀ st K r, g_sg11 st K = some r → ∃ N, iter (evC ((cb_Signs).withLoops (look L)) (loopOf Tryd.f6 0)) (headAt ((cb_Signs).withLoops (look L)) 11) N st K = some r :=
  with_drop h1 h2 (gP_ok (fun v => match v with | ((a, b, i, ()), (g, ())) => mu_sg11 a b i g) fun v K hI => by
    obtain ⟨⟨(a : Str), (b : Str), (i : Int), ⟨⟩⟩, ⟨(g : Gram), ⟨⟩⟩⟩ := v
    rcases r_sg11 a b i g K hI with h1 | ⟨a', b', i', g', h1, h2, h3, h4⟩
    · exact .inl h1
    · exact .inr ⟨((a', b', i', ()), (g', ())), h1, h2, h3, h4⟩)
theorem y_laws_FnGramSigns (l : List Int) : evFn cx_sg11 Tryd.f6 true [ofD TB l] [] = (
branch (decide (1048576 < (l.length : Int))) ( some ((vB true), [])) (
 branch (bif !decide ((bif okG (F_spec_DrawGramBigs l) then bigsG (F_spec_DrawGramBigs l) else []) = (bif okG (F_spec_DrawGramBigs l) then bigsG (F_spec_DrawGramBigs l) else [])) then true else !decide ((bif okG (F_spec_DrawGramBigs l) then smallsG (F_spec_DrawGramBigs l) else []) = (bif okG (F_spec_DrawGramBigs l) then smallsG (F_spec_DrawGramBigs l) else []))) ( some ((vB false), [])) (
  branch (!okG (F_spec_DrawGramBigs l)) ( some ((vB (bif decide ((bif okG (F_spec_DrawGramBigs l) then bigsG (F_spec_DrawGramBigs l) else []) = []) then decide ((bif okG (F_spec_DrawGramBigs l) then smallsG (F_spec_DrawGramBigs l) else []) = []) else false)), [])) (
   need (pre_sg11 (bif okG (F_spec_DrawGramBigs l) then bigsG (F_spec_DrawGramBigs l) else []) (bif okG (F_spec_DrawGramBigs l) then smallsG (F_spec_DrawGramBigs l) else []) 0 (F_spec_DrawGramBigs l)) <|
   need (pre_sg16 (bif okG (F_spec_DrawGramBigs l) then bigsG (F_spec_DrawGramBigs l) else []) (bif okG (F_spec_DrawGramBigs l) then smallsG (F_spec_DrawGramBigs l) else []) 0 (F_spec_DrawGramBigs l)) <|
   need (pre_sg21 (bif okG (F_spec_DrawGramBigs l) then bigsG (F_spec_DrawGramBigs l) else []) (bif okG (F_spec_DrawGramBigs l) then smallsG (F_spec_DrawGramBigs l) else []) 0 (F_spec_DrawGramBigs l)) <|
   need (inb 0 (List.length (F_spec_DrawGramBigs l).fst)) <| some ((vB (inS (bif okG (F_spec_DrawGramBigs l) then bigsG (F_spec_DrawGramBigs l) else []) (byteAt (F_spec_DrawGramBigs l).fst 0))), []))))) := by kernel_rfl
theorem all_in {g : Gram} (h : okG g = true) {c : UInt8} (hc : c ∈ signsG g) : c ∈ bigsG g ++ smallsG g := by
  have h1 := signs_all h c hc
  unfold sign at h1
  rw [List.mem_append]
  unfold bigsG smallsG
  rw [setS_mem, setS_mem]
  cases hb : bigc c
  · rw [hb] at h1; exact .inr ⟨hc, h1⟩
  · exact .inl ⟨hc, rfl⟩
theorem right_in {g : Gram} {r : Rule} {c : UInt8} (hr : r ∈ g.2) (hc : c ∈ r.2) : c ∈ signsG g := by
  unfold signsG sgsOf
  exact List.mem_append_right _ (List.mem_flatMap.2 ⟨r, hr, List.mem_append_right _ hc⟩)
theorem hasAll_ok {g : Gram} (h : okG g = true) : hasAll g (bigsG g ++ smallsG g) = true := by
  unfold hasAll
  rw [List.all_eq_true]
  intro r hr
  rw [List.all_eq_true]
  intro c hc
  exact inS_mem.2 (all_in h (right_in hr hc))
theorem setS_all {p : UInt8 → Bool} {s : Str} : List.all (setS p s) p = true := List.all_eq_true.2 fun _ hc => (setS_mem.1 hc).2
theorem s_laws_FnGramSigns (l : List Int) (_hl : Fit TB l) : Sat Tryd.prog 6 [ofD TB l] [] (.d (ofD .bool true)) [] :=
  fn_sound (cx := cx_sg11) Tryd.func6 rfl ttOk Γ77ok mixed (fun c hc => LoopsOk.all (l := [(11, loopOf Tryd.f6 0), (16, loopOf Tryd.f6 1), (21, loopOf Tryd.f6 2), (24, loopOf Tryd.f6 3)]) (by cases hc; kernel_rfl) ⟨atLoop rfl (l_sg11 1 rfl (by kernel_rfl)), atLoop rfl (l_sg16 2 rfl (by kernel_rfl)), atLoop rfl (l_sg21 3 rfl (by kernel_rfl)), atLoop rfl (l_sg24 4 rfl (by kernel_rfl)), trivial⟩) (ro := true) (by
    rw [y_laws_FnGramSigns]
    generalize F_spec_DrawGramBigs l = g
    cases decide (1048576 < (l.length : Int))
    · cases h : okG g
      · rfl
      · have hln := signs_len h
        have hb : (bigsG g).length ≤ 41 := Nat.le_trans setS_len hln
        have hs : (smallsG g).length ≤ 41 := Nat.le_trans setS_len hln
        obtain ⟨g1, g2, g3⟩ := okG_iff h
        obtain ⟨c, e1, e2⟩ := bigS_one g1
        have p1 : pre_sg11 (bigsG g) (smallsG g) 0 g = true := andd.2 ⟨rfl, andd.2 ⟨ble_iff.2 (by omega), andd.2 ⟨setS_all, decide_eq_true setS_asc⟩⟩⟩
        have p2 : pre_sg16 (bigsG g) (smallsG g) 0 g = true := andd.2 ⟨rfl, andd.2 ⟨ble_iff.2 (by omega), andd.2 ⟨setS_all, decide_eq_true setS_asc⟩⟩⟩
        have p3 : pre_sg21 (bigsG g) (smallsG g) 0 g = true := andd.2 ⟨rfl, andd.2 ⟨hasAll_ok h, andd.2 ⟨ble_iff.2 (by omega), andd.2 ⟨ble_iff.2 (show List.length g.2 ≤ big by unfold big; have : List.length g.2 ≤ 8 := g2; omega), List.all_eq_true.2 fun r hr => ble_iff.2 (by
          have := (areS_iff (g3 r hr).2).2
          unfold big
          omega)⟩⟩⟩⟩
        have p4 : inb 0 (List.length g.1) = true := by rw [e1]; rfl
        have p5 : inS (bigsG g) (byteAt g.1 0) = true := by
          rw [e1]
          refine (inS_mem (c := c)).2 ?_
          unfold bigsG
          rw [setS_mem]
          exact ⟨List.mem_append_left _ (by rw [e1]; exact List.mem_cons_self), e2⟩
        simp only [cond_true, p1, p2, p3, p4, p5, decide_true]
        rfl
    · rfl)
noncomputable def c_laws_FnGramSigns : Con := conT [TB] fun (_l : List Int) => (none, .d (ofD .bool true))
theorem k_laws_FnGramSigns : ConOk Tryd.prog 6 c_laws_FnGramSigns := conT_ok Tryd.call6 fun l hl _ => s_laws_FnGramSigns l hl
end Go.Proofs.YthbpnbbilaobbaaDoor.Ev
