/-
  Draws of trees and their texts; the law FnTreeText.
-/
import Derived.Test.YthbpnbbilaobbaaDoorGzc
namespace Go.Proofs.YthbpnbbilaobbaaDoor.Ev
open Go
/-- the object 0 is a variable of type t; what the objects are behind the call is told -/
def conBH (t : TypeId) (s : Ty) (bs : List Ty) (G : Den s → Fn bs (Option Bool × T × Heap)) : Con := ⟨false, fun ds os => match ds, os with
  | .one (.ptr 0 0) :: ds, [.box t' cs] => match Nat.beq t t', allSome (cs.map rOfC) with
    | true, some rs => match asR s rs with
      | some x => match applyD bs (G x) ds with
        | some (c, r, y) => some (c, r, y)
        | none => none
      | none => none
    | _, _ => none
  | _, _ => none⟩
theorem conBH_ok {P : Program} {f : FuncId} {t : TypeId} {s : Ty} {bs : List Ty} {G : Den s → Fn bs (Option Bool × T × Heap)} (hin : ∀ args w, (callFunc f args).run P w = .ok (.enter f args) w)
    (he : ∀ x, Fit s x → EachF bs (G x) fun ds r => (r.1 = none ∨ r.1 = some true) → Sat P f (.one (.ptr 0 0) :: ds) [boxD t s x] r.2.1 r.2.2) : ConOk P f (conBH t s bs G) := by
  refine ⟨hin, fun ds os c x objs hc hok => ?_⟩
  simp only [conBH] at hc
  split at hc
  · rename_i ds t' cs
    split at hc
    · rename_i rs htt hrs
      split at hc
      · rename_i x0 hx0
        split at hc
        · rename_i c' r y hap
          cases hc
          have := Nat.eq_of_beq_eq_true htt
          subst this
          have e := rOfC_all hrs
          subst e
          intro w F β args H hds
          -- the variable, told by its typed data
          have h0 : hOf [.box t (rs.map .r)] 0 = some (some (.box t (rs.map .r))) := by rw [hOf_eq]; rfl
          have hs : ∀ i o o', hOf [.box t (rs.map .r)] i = some (some o) → hOf [boxD t s x0] i = some (some o') → o = .box t (rs.map .r) ∧ o' = boxD t s x0 := fun i o o' h1 h2 => by
            rw [hOf_eq] at h1 h2
            cases i with
            | zero => simp at h1 h2; exact ⟨h1.symm, h2.symm⟩
            | succ i => simp at h1
          have S : Shp (hOf [.box t (rs.map .r)]) (hOf [boxD t s x0]) := fun i => by
            rw [hOf_eq, hOf_eq]
            cases i with
            | zero => simp
            | succ i => simp
          have hle := asR_sound hx0
          have key : ∀ {g : HF} {w' : World} {F' : Nat → Prop} {β' : Nat → Value} {i : Nat}, RepO w' F' g β' i (.box t (rs.map .r)) → RepO w' F' g β' i (boxD t s x0) := by
            intro g w' F' β' i ho
            obtain ⟨b, us, g1, g2, g3⟩ := ho
            exact ⟨b, us, g1, g2, (All2.map_l (f := C.r)).2 (All2_le ((All2.map_l (f := C.r)).1 g3) hle)⟩
          have H1 : Inv w (Own (hOf [.box t (rs.map .r)]) β) F w F (hOf [boxD t s x0]) β := H.told S fun i o o' h1 h2 hr => by
            obtain ⟨rfl, rfl⟩ := hs i o o' h1 h2
            exact key hr
          have hOwn : Own (hOf [.box t (rs.map .r)]) β = Own (hOf [boxD t s x0]) β := by
            funext b
            apply propext
            constructor
            · rintro ⟨i, o, h1, h2⟩
              obtain ⟨o', ho'⟩ := (S i).2.1 ⟨o, h1⟩
              exact ⟨i, o', ho', h2⟩
            · rintro ⟨i, o, h1, h2⟩
              obtain ⟨o', ho'⟩ := (S i).2.2 ⟨o, h1⟩
              exact ⟨i, o', ho', h2⟩
          rw [hOwn] at H1
          have hfit : Fit s x0 := cells_fit (key (H.obj 0 _ h0))
          cases hds with
          | cons g1 g2 =>
            have g2' := g2.mono fun _ _ => S.repD
            obtain ⟨ds', q1, q2⟩ := each_of (he x0 hfit) hap g2'
            refine (q1 hok w F β _ H1 (.cons (S.repD g1) q2)).mono ?_
            rintro e w' ⟨v, F', β', r1, r2, r3, r4, r5, r6⟩
            rw [← hOwn] at r2
            exact ⟨v, F', β', r1, r2, r3, r4, r5, r6⟩
        · cases hc
      · cases hc
    · cases hc
  · cases hc
noncomputable def c_spec_l3AnyF : Con := conBH 161 TR [TG, .str, TI64] fun (x : Rd) (g : Gram) (s : Str) (d : Int) => (some (anyPre 9 x g s d), .d (fresT (F_anyF 9 x g s d).1), [(1000, some (.lis 60 .tree (F_anyF 9 x g s d).1.kids)), (0, some (boxD 161 TR (F_anyF 9 x g s d).2))])
theorem anyF9 : anyHF 9 := @any_upF ⟨⟨8, any_all 8⟩⟩
theorem k_spec_l3AnyF : ConOk Tryd.prog 155 c_spec_l3AnyF := conBH_ok Tryd.call155 fun x hx g hg s hs d hd hqq => (oneOf_spec (anyF9 x g s d hx hg hs hd (pre_of hqq))).1
noncomputable def Γ93 : List (Nat × Con) := (155, c_spec_l3AnyF) :: Γ92
theorem Γ93ok : EnvOk Tryd.prog (look Γ93) := .cons k_spec_l3AnyF Γ92ok

/-- nearly a tree of a draw -/
def tOkW (t : GTree) : Bool := Nat.ble (List.length t.sign) 8 && (decide (-2 ≤ t.rule) && (decide (t.rule ≤ 1000) && (Nat.ble (List.length t.kids) 9 && List.all t.kids (tOk 8))))
theorem tOkW_iff {t : GTree} : tOkW t = true ↔ List.length t.sign ≤ 8 ∧ -2 ≤ t.rule ∧ t.rule ≤ 1000 ∧ List.length t.kids ≤ 9 ∧ List.all t.kids (tOk 8) = true := by
  unfold tOkW
  rw [andd, andd, andd, andd, ble_iff, dec_iff, dec_iff, ble_iff]
theorem tOk_W {t : GTree} (h : tOk 9 t = true) : List.length t.sign ≤ 8 ∧ -1 ≤ t.rule ∧ t.rule ≤ 1000 ∧ List.length t.kids ≤ 8 ∧ List.all t.kids (tOk 8) = true := by
  obtain ⟨h1, h2⟩ := andd.1 h
  unfold smT at h1
  rw [andd, andd, andd, ble_iff, dec_iff, dec_iff, ble_iff] at h1
  exact ⟨h1.1, h1.2.1, h1.2.2.1, h1.2.2.2, h2⟩
instance : Nonempty ((Gram × GTree) × Rd) := ⟨((([], []), .node [] 0 []), [], 0)⟩
instance : Nonempty (Gram × GTree) := ⟨(([], []), .node [] 0 [])⟩
abbrev nT4 : List Int := [4, 6, 8, 3]
noncomputable abbrev sA (x : Rd) : GTree × Rd := F_anyF 9 (rdGo (F_spec_l1Gram x).2 1) (F_spec_l1Gram x).1 (F_spec_l1Gram x).1.1 (numV (F_spec_l1Gram x).2 nT4)
theorem y_spec_l3Some (x : Rd)  : evFn ((cxOf Γ93 Tryd.f119.ntmps [] [(0, [2, 3, 4, 5]), (1000000, [2, 3])] [] [])) Tryd.f119 true [.one (.ptr 0 0)] [boxD 161 TR x] = (
need (rdAt x 10000000900000) <|
need (rdOk (F_spec_l1Gram x).snd && Nat.blt 0 [4, 6, 8, 3].length) <|
need (anyPre 9 (rdGo (F_spec_l1Gram x).snd 1) (F_spec_l1Gram x).fst (F_spec_l1Gram x).fst.fst (numV (F_spec_l1Gram x).snd [4, 6, 8, 3])) <|
need (rdOk (F_anyF 9 (rdGo (F_spec_l1Gram x).snd 1) (F_spec_l1Gram x).fst (F_spec_l1Gram x).fst.fst (numV (F_spec_l1Gram x).snd [4, 6, 8, 3])).snd) <|
branch (decide (pickV (F_anyF 9 (rdGo (F_spec_l1Gram x).snd 1) (F_spec_l1Gram x).fst (F_spec_l1Gram x).fst.fst (numV (F_spec_l1Gram x).snd [4, 6, 8, 3])).snd 40 = 0)) (
 need (rdOk (rdGo (F_anyF 9 (rdGo (F_spec_l1Gram x).snd 1) (F_spec_l1Gram x).fst (F_spec_l1Gram x).fst.fst (numV (F_spec_l1Gram x).snd [4, 6, 8, 3])).snd 1) && Nat.blt 0 [Int.neg 1, 1, 9, Int.neg 2].length) <| some ((.tup [(.agg [(.r (.v (Value.string (mk (F_spec_l1Gram x).fst.fst)))), (.r (.li TRu ((F_spec_l1Gram x).fst.snd)))]), (.agg [(.r (.v (Value.string (mk (F_anyF 9 (rdGo (F_spec_l1Gram x).snd 1) (F_spec_l1Gram x).fst (F_spec_l1Gram x).fst.fst (numV (F_spec_l1Gram x).snd [4, 6, 8, 3])).fst.sign)))), (.r (.v (Value.int IntKind.i64 (numV (rdGo (F_anyF 9 (rdGo (F_spec_l1Gram x).snd 1) (F_spec_l1Gram x).fst (F_spec_l1Gram x).fst.fst (numV (F_spec_l1Gram x).snd [4, 6, 8, 3])).snd 1) [Int.neg 1, 1, 9, Int.neg 2])))), (.r (.li (Ty.tree) ((F_anyF 9 (rdGo (F_spec_l1Gram x).snd 1) (F_spec_l1Gram x).fst (F_spec_l1Gram x).fst.fst (numV (F_spec_l1Gram x).snd [4, 6, 8, 3])).fst.kids)))])]), [(0, (bR (rdGo (rdGo (F_anyF 9 (rdGo (F_spec_l1Gram x).snd 1) (F_spec_l1Gram x).fst (F_spec_l1Gram x).fst.fst (numV (F_spec_l1Gram x).snd [4, 6, 8, 3])).snd 1) 1)))])) (
 branch (decide (pickV (F_anyF 9 (rdGo (F_spec_l1Gram x).snd 1) (F_spec_l1Gram x).fst (F_spec_l1Gram x).fst.fst (numV (F_spec_l1Gram x).snd [4, 6, 8, 3])).snd 40 = 1)) (
  need (rdOk (rdGo (F_anyF 9 (rdGo (F_spec_l1Gram x).snd 1) (F_spec_l1Gram x).fst (F_spec_l1Gram x).fst.fst (numV (F_spec_l1Gram x).snd [4, 6, 8, 3])).snd 1) && Nat.blt 0 [[66], [97], [], [70]].length) <| some ((.tup [(.agg [(.r (.v (Value.string (mk (F_spec_l1Gram x).fst.fst)))), (.r (.li TRu ((F_spec_l1Gram x).fst.snd)))]), (.agg [(.r (.v (Value.string (mk (ofV (rdGo (F_anyF 9 (rdGo (F_spec_l1Gram x).snd 1) (F_spec_l1Gram x).fst (F_spec_l1Gram x).fst.fst (numV (F_spec_l1Gram x).snd [4, 6, 8, 3])).snd 1) [[66], [97], [], [70]]))))), (.r (.v (Value.int IntKind.i64 (F_anyF 9 (rdGo (F_spec_l1Gram x).snd 1) (F_spec_l1Gram x).fst (F_spec_l1Gram x).fst.fst (numV (F_spec_l1Gram x).snd [4, 6, 8, 3])).fst.rule))), (.r (.li (Ty.tree) ((F_anyF 9 (rdGo (F_spec_l1Gram x).snd 1) (F_spec_l1Gram x).fst (F_spec_l1Gram x).fst.fst (numV (F_spec_l1Gram x).snd [4, 6, 8, 3])).fst.kids)))])]), [(0, (bR (rdGo (rdGo (F_anyF 9 (rdGo (F_spec_l1Gram x).snd 1) (F_spec_l1Gram x).fst (F_spec_l1Gram x).fst.fst (numV (F_spec_l1Gram x).snd [4, 6, 8, 3])).snd 1) 1)))])) (
  branch (decide (pickV (F_anyF 9 (rdGo (F_spec_l1Gram x).snd 1) (F_spec_l1Gram x).fst (F_spec_l1Gram x).fst.fst (numV (F_spec_l1Gram x).snd [4, 6, 8, 3])).snd 40 = 2)) (
   need (fits ((F_anyF 9 (rdGo (F_spec_l1Gram x).snd 1) (F_spec_l1Gram x).fst (F_spec_l1Gram x).fst.fst (numV (F_spec_l1Gram x).snd [4, 6, 8, 3])).fst.kids.length + [GTree.node ([97] : Str) (Int.neg 1) []].length) Tryd.t60.bytes) <| some ((.tup [(.agg [(.r (.v (Value.string (mk (F_spec_l1Gram x).fst.fst)))), (.r (.li TRu ((F_spec_l1Gram x).fst.snd)))]), (.agg [(.r (.v (Value.string (mk (F_anyF 9 (rdGo (F_spec_l1Gram x).snd 1) (F_spec_l1Gram x).fst (F_spec_l1Gram x).fst.fst (numV (F_spec_l1Gram x).snd [4, 6, 8, 3])).fst.sign)))), (.r (.v (Value.int IntKind.i64 (F_anyF 9 (rdGo (F_spec_l1Gram x).snd 1) (F_spec_l1Gram x).fst (F_spec_l1Gram x).fst.fst (numV (F_spec_l1Gram x).snd [4, 6, 8, 3])).fst.rule))), (.r (.li (ty60) ((F_anyF 9 (rdGo (F_spec_l1Gram x).snd 1) (F_spec_l1Gram x).fst (F_spec_l1Gram x).fst.fst (numV (F_spec_l1Gram x).snd [4, 6, 8, 3])).fst.kids.append [GTree.node ([97] : Str) (Int.neg 1) []])))])]), [(0, (bR (rdGo (F_anyF 9 (rdGo (F_spec_l1Gram x).snd 1) (F_spec_l1Gram x).fst (F_spec_l1Gram x).fst.fst (numV (F_spec_l1Gram x).snd [4, 6, 8, 3])).snd 1)))])) (
   branch (decide (pickV (F_anyF 9 (rdGo (F_spec_l1Gram x).snd 1) (F_spec_l1Gram x).fst (F_spec_l1Gram x).fst.fst (numV (F_spec_l1Gram x).snd [4, 6, 8, 3])).snd 40 = 3)) (
    need (rdAt (rdGo (F_anyF 9 (rdGo (F_spec_l1Gram x).snd 1) (F_spec_l1Gram x).fst (F_spec_l1Gram x).fst.fst (numV (F_spec_l1Gram x).snd [4, 6, 8, 3])).snd 1) 10000000940000 && szG 20 (F_spec_l1Gram x).fst) <|
    need (rdAt (F_spec_l1Bent (rdGo (F_anyF 9 (rdGo (F_spec_l1Gram x).snd 1) (F_spec_l1Gram x).fst (F_spec_l1Gram x).fst.fst (numV (F_spec_l1Gram x).snd [4, 6, 8, 3])).snd 1) (F_spec_l1Gram x).fst).snd 10000000940000 && szG 20 (F_spec_l1Bent (rdGo (F_anyF 9 (rdGo (F_spec_l1Gram x).snd 1) (F_spec_l1Gram x).fst (F_spec_l1Gram x).fst.fst (numV (F_spec_l1Gram x).snd [4, 6, 8, 3])).snd 1) (F_spec_l1Gram x).fst).fst) <| some ((.tup [(.agg [(.r (.v (Value.string (mk (F_spec_l1Bent (F_spec_l1Bent (rdGo (F_anyF 9 (rdGo (F_spec_l1Gram x).snd 1) (F_spec_l1Gram x).fst (F_spec_l1Gram x).fst.fst (numV (F_spec_l1Gram x).snd [4, 6, 8, 3])).snd 1) (F_spec_l1Gram x).fst).snd (F_spec_l1Bent (rdGo (F_anyF 9 (rdGo (F_spec_l1Gram x).snd 1) (F_spec_l1Gram x).fst (F_spec_l1Gram x).fst.fst (numV (F_spec_l1Gram x).snd [4, 6, 8, 3])).snd 1) (F_spec_l1Gram x).fst).fst).fst.fst)))), (.r (.li TRu ((F_spec_l1Bent (F_spec_l1Bent (rdGo (F_anyF 9 (rdGo (F_spec_l1Gram x).snd 1) (F_spec_l1Gram x).fst (F_spec_l1Gram x).fst.fst (numV (F_spec_l1Gram x).snd [4, 6, 8, 3])).snd 1) (F_spec_l1Gram x).fst).snd (F_spec_l1Bent (rdGo (F_anyF 9 (rdGo (F_spec_l1Gram x).snd 1) (F_spec_l1Gram x).fst (F_spec_l1Gram x).fst.fst (numV (F_spec_l1Gram x).snd [4, 6, 8, 3])).snd 1) (F_spec_l1Gram x).fst).fst).fst.snd)))]), (.agg [(.r (.v (Value.string (mk (F_anyF 9 (rdGo (F_spec_l1Gram x).snd 1) (F_spec_l1Gram x).fst (F_spec_l1Gram x).fst.fst (numV (F_spec_l1Gram x).snd [4, 6, 8, 3])).fst.sign)))), (.r (.v (Value.int IntKind.i64 (F_anyF 9 (rdGo (F_spec_l1Gram x).snd 1) (F_spec_l1Gram x).fst (F_spec_l1Gram x).fst.fst (numV (F_spec_l1Gram x).snd [4, 6, 8, 3])).fst.rule))), (.r (.li (Ty.tree) ((F_anyF 9 (rdGo (F_spec_l1Gram x).snd 1) (F_spec_l1Gram x).fst (F_spec_l1Gram x).fst.fst (numV (F_spec_l1Gram x).snd [4, 6, 8, 3])).fst.kids)))])]), [(0, (bR (F_spec_l1Bent (F_spec_l1Bent (rdGo (F_anyF 9 (rdGo (F_spec_l1Gram x).snd 1) (F_spec_l1Gram x).fst (F_spec_l1Gram x).fst.fst (numV (F_spec_l1Gram x).snd [4, 6, 8, 3])).snd 1) (F_spec_l1Gram x).fst).snd (F_spec_l1Bent (rdGo (F_anyF 9 (rdGo (F_spec_l1Gram x).snd 1) (F_spec_l1Gram x).fst (F_spec_l1Gram x).fst.fst (numV (F_spec_l1Gram x).snd [4, 6, 8, 3])).snd 1) (F_spec_l1Gram x).fst).fst).snd))])) ( some ((.tup [(.agg [(.r (.v (Value.string (mk (F_spec_l1Gram x).fst.fst)))), (.r (.li TRu ((F_spec_l1Gram x).fst.snd)))]), (.agg [(.r (.v (Value.string (mk (F_anyF 9 (rdGo (F_spec_l1Gram x).snd 1) (F_spec_l1Gram x).fst (F_spec_l1Gram x).fst.fst (numV (F_spec_l1Gram x).snd [4, 6, 8, 3])).fst.sign)))), (.r (.v (Value.int IntKind.i64 (F_anyF 9 (rdGo (F_spec_l1Gram x).snd 1) (F_spec_l1Gram x).fst (F_spec_l1Gram x).fst.fst (numV (F_spec_l1Gram x).snd [4, 6, 8, 3])).fst.rule))), (.r (.li (Ty.tree) ((F_anyF 9 (rdGo (F_spec_l1Gram x).snd 1) (F_spec_l1Gram x).fst (F_spec_l1Gram x).fst.fst (numV (F_spec_l1Gram x).snd [4, 6, 8, 3])).fst.kids)))])]), [(0, (bR (rdGo (F_anyF 9 (rdGo (F_spec_l1Gram x).snd 1) (F_spec_l1Gram x).fst (F_spec_l1Gram x).fst.fst (numV (F_spec_l1Gram x).snd [4, 6, 8, 3])).snd 1)))])))))) := by kernel_rfl
theorem e_spec_l3Some (x : Rd)  (hx : Fit TR x)  (hpre : (rdAt x 800000000) = true) : ∃ q : (Gram × GTree) × Rd, evFn (((cxOf Γ93 Tryd.f119.ntmps [] [(0, [2, 3, 4, 5]), (1000000, [2, 3])] [] []))) Tryd.f119 true [.one (.ptr 0 0)] [boxD 161 TR x] = some (.tup [ofD TG q.1.1, ofD .tree q.1.2], [(0, some (boxD 161 TR q.2))]) ∧ ((szG 40 q.1.1 = true ∧ tOkW q.1.2 = true) ∧ Adv x q.2 2000000000) := by
  obtain ⟨r, h1, h2⟩ : Ok (evFn (((cxOf Γ93 Tryd.f119.ntmps [] [(0, [2, 3, 4, 5]), (1000000, [2, 3])] [] []))) Tryd.f119 true [.one (.ptr 0 0)] [boxD 161 TR x]) (fun r => ∃ (v : Gram × GTree) (x' : Rd), r = (.tup [ofD TG v.1, ofD .tree v.2], [(0, some (boxD 161 TR x'))]) ∧ ((szG 40 v.1 = true ∧ tOkW v.2 = true) ∧ Adv x x' 2000000000)) := by
    have f0 := fit_fitR hx
    have hb : BY x := byB_iff.1 (andd.1 f0).1
    have k0 : rdAt x 10000000900000 = true := (Adv.refl x).at hpre (by omega)
    obtain ⟨g1, g2⟩ := p_spec_l1Gram x hx k0
    rw [y_spec_l3Some]
    change Ok (need _ (need _ (need _ (need (rdOk (sA x).2) _)))) _
    have b1 : BY (F_spec_l1Gram x).2 := BY_adv g2 hb
    have r1 : rdAt (F_spec_l1Gram x).2 800000100 = true := g2.at hpre (by omega)
    have k1 : rdOk (F_spec_l1Gram x).2 = true := ok1 r1 (by omega)
    have hn := numV_le (x := (F_spec_l1Gram x).2) (l := nT4) (a := 3) (b := 8) (by decide) b1 k1 (by decide)
    have a1 : Adv x (rdGo (F_spec_l1Gram x).2 1) 101 := g2.trans (Adv.one _)
    have r2 : rdAt (rdGo (F_spec_l1Gram x).2 1) 800000101 = true := a1.at hpre (by omega)
    have g20 := szG_le g1 (m := 20) (by omega)
    have gl : List.length (F_spec_l1Gram x).1.1 ≤ 8 := by
      unfold szG at g1
      rw [andd, ble_iff] at g1
      exact g1.1
    have hpre9 : anyPre 9 (rdGo (F_spec_l1Gram x).2 1) (F_spec_l1Gram x).1 (F_spec_l1Gram x).1.1 (numV (F_spec_l1Gram x).2 nT4) = true := by
      unfold anyPre
      simp only [andd, dec_iff, ble_iff]
      refine ⟨a1.at hpre (by rw [show pw 9 = 1000000000 from rfl]; omega), g20, by omega, by omega, gl, by omega⟩
    have hf2 : fitR (rdGo (F_spec_l1Gram x).2 1) = true := by rw [fitR_adv a1]; exact f0
    obtain ⟨t1, t2⟩ := (oneOf_spec (anyF9 (rdGo (F_spec_l1Gram x).2 1) (F_spec_l1Gram x).1 (F_spec_l1Gram x).1.1 (numV (F_spec_l1Gram x).2 nT4) (fitR_fit hf2 r2 (by omega)) (szG_fit g20 (by omega)) (by show (F_spec_l1Gram x).1.1.length ≤ 9223372036854775807; omega) (wrap_small (by omega) (by omega)) hpre9)).2
    have t1 : tOk 9 (sA x).1 = true := t1
    have t2 : Adv (rdGo (F_spec_l1Gram x).2 1) (sA x).2 (pw 9) := t2
    obtain ⟨w1, w2, w3, w4, w5⟩ := tOk_W t1
    have a3 : Adv x (sA x).2 1000000101 := (a1.trans t2).le (by rw [show pw 9 = 1000000000 from rfl]; omega)
    have r3 : rdAt (sA x).2 1800000101 = true := a3.at hpre (by omega)
    have b3' : BY (sA x).2 := BY_adv a3 hb
    have k3 : rdOk (sA x).2 = true := ok1 r3 (by omega)
    have a4 : Adv x (rdGo (sA x).2 1) 1000000102 := a3.trans (Adv.one _)
    have r4 : rdAt (rdGo (sA x).2 1) 1800000102 = true := a4.at hpre (by omega)
    have k4 : rdOk (rdGo (sA x).2 1) = true := ok1 r4 (by omega)
    have a5 : Adv x (rdGo (rdGo (sA x).2 1) 1) 1000000103 := a4.trans (Adv.one _)
    have g40 := szG_le g1 (m := 40) (by omega)
    have hsix : szG 6 (F_spec_l1Gram x).1 = true := g1
    refine Ok.need k0 (Ok.need (andd.2 ⟨k1, rfl⟩) (Ok.need hpre9 (Ok.need k3 (Ok.br (fun _ => ?_) fun _ => Ok.br (fun _ => ?_) fun _ => Ok.br (fun _ => ?_) fun _ => Ok.br (fun _ => ?_) fun _ => ?_))))
    · have hm := numV_le (x := rdGo (sA x).2 1) (l := [-1, 1, 9, -2]) (a := -2) (b := 9) (by decide) (BY_adv (Adv.one _) b3') k4 (by decide)
      refine Ok.need (andd.2 ⟨k4, rfl⟩) (Ok.ret ⟨((F_spec_l1Gram x).1, .node (sA x).1.sign (numV (rdGo (sA x).2 1) [-1, 1, 9, -2]) (sA x).1.kids), _, rfl, ⟨g40, tOkW_iff.2 ⟨w1, ?_, ?_, by show (sA x).1.kids.length ≤ 9; omega, w5⟩⟩, a5.le (by omega)⟩)
      · show (-2 : Int) ≤ numV _ _; omega
      · show numV _ _ ≤ 1000; omega
    · have hof : (ofV (rdGo (sA x).2 1) [[66], [97], [], [70]]).length ≤ 1 := ofV_len (by decide)
      refine Ok.need (andd.2 ⟨k4, rfl⟩) (Ok.ret ⟨((F_spec_l1Gram x).1, .node (ofV (rdGo (sA x).2 1) [[66], [97], [], [70]]) (sA x).1.rule (sA x).1.kids), _, rfl, ⟨g40, tOkW_iff.2 ⟨?_, ?_, w3, by show (sA x).1.kids.length ≤ 9; omega, w5⟩⟩, a5.le (by omega)⟩)
      · show (ofV _ _).length ≤ 8; omega
      · show (-2 : Int) ≤ (sA x).1.rule; omega
    · have k5 : fits ((sA x).1.kids.length + 1) Tryd.t60.bytes = true := by rw [treeBytes]; exact fits_ok (by omega) (by omega)
      refine Ok.need k5 (Ok.ret ⟨((F_spec_l1Gram x).1, .node (sA x).1.sign (sA x).1.rule ((sA x).1.kids ++ [.node [97] (-1) []])), _, rfl, ⟨g40, tOkW_iff.2 ⟨w1, ?_, w3, ?_, ?_⟩⟩, a4.le (by omega)⟩)
      · show (-2 : Int) ≤ (sA x).1.rule; omega
      · show ((sA x).1.kids ++ [_]).length ≤ 9
        rw [List.length_append, List.length_singleton]; omega
      · show List.all ((sA x).1.kids ++ [_]) (tOk 8) = true
        rw [List.all_append, w5, List.all_cons, leaf_ok (show List.length ([97] : Str) ≤ 8 by decide)]; rfl
    · have hp1 : (rdAt (rdGo (sA x).2 1) 10000000940000 && szG 20 (F_spec_l1Gram x).1) = true := andd.2 ⟨a4.at hpre (by omega), g20⟩
      have hf4 : fitR (rdGo (sA x).2 1) = true := by rw [fitR_adv a4]; exact f0
      obtain ⟨p1, p2⟩ := p_spec_l1Bent (rdGo (sA x).2 1) (F_spec_l1Gram x).1 (fitR_fit hf4 r4 (by omega)) hp1
      have q1 := p1 6 (by omega) hsix
      have a6 : Adv x (F_spec_l1Bent (rdGo (sA x).2 1) (F_spec_l1Gram x).1).2 1000000302 := (a4.trans p2).le (by omega)
      have hp2 : (rdAt (F_spec_l1Bent (rdGo (sA x).2 1) (F_spec_l1Gram x).1).2 10000000940000 && szG 20 (F_spec_l1Bent (rdGo (sA x).2 1) (F_spec_l1Gram x).1).1) = true := andd.2 ⟨a6.at hpre (by omega), q1⟩
      have hf6 : fitR (F_spec_l1Bent (rdGo (sA x).2 1) (F_spec_l1Gram x).1).2 = true := by rw [fitR_adv a6]; exact f0
      have r6 : rdAt (F_spec_l1Bent (rdGo (sA x).2 1) (F_spec_l1Gram x).1).2 1800000302 = true := a6.at hpre (by omega)
      obtain ⟨p3, p4⟩ := p_spec_l1Bent _ (F_spec_l1Bent (rdGo (sA x).2 1) (F_spec_l1Gram x).1).1 (fitR_fit hf6 r6 (by omega)) hp2
      have q2 := p3 20 (by omega) q1
      exact Ok.need hp1 (Ok.need hp2 (Ok.ret ⟨(_, (sA x).1), _, rfl, ⟨szG_le q2 (by omega), tOkW_iff.2 ⟨w1, by show (-2 : Int) ≤ (sA x).1.rule; omega, w3, by show (sA x).1.kids.length ≤ 9; omega, w5⟩⟩, (a6.trans p4).le (by omega)⟩))
    · exact Ok.ret ⟨((F_spec_l1Gram x).1, (sA x).1), _, rfl, ⟨g40, tOkW_iff.2 ⟨w1, by show (-2 : Int) ≤ (sA x).1.rule; omega, w3, by show (sA x).1.kids.length ≤ 9; omega, w5⟩⟩, a4.le (by omega)⟩
  obtain ⟨v, x', h2, h3⟩ := h2
  exact ⟨(v, x'), by rw [h1, h2], h3⟩
noncomputable def F_spec_l3Some (x : Rd)  : (Gram × GTree) × Rd := oneOf (fun q : (Gram × GTree) × Rd => evFn (((cxOf Γ93 Tryd.f119.ntmps [] [(0, [2, 3, 4, 5]), (1000000, [2, 3])] [] []))) Tryd.f119 true [.one (.ptr 0 0)] [boxD 161 TR x] = some (.tup [ofD TG q.1.1, ofD .tree q.1.2], [(0, some (boxD 161 TR q.2))]) ∧ ((szG 40 q.1.1 = true ∧ tOkW q.1.2 = true) ∧ Adv x q.2 2000000000))
theorem p_spec_l3Some (x : Rd)  (hx : Fit TR x)  (hpre : (rdAt x 800000000) = true) : (szG 40 (F_spec_l3Some x ).1.1 = true ∧ tOkW (F_spec_l3Some x ).1.2 = true) ∧ Adv x (F_spec_l3Some x ).2 2000000000 := (oneOf_spec (e_spec_l3Some x  hx  hpre)).2
theorem s_spec_l3Some (x : Rd)  (hx : Fit TR x)  (hpre : (rdAt x 800000000) = true) : Sat Tryd.prog 119 [.one (.ptr 0 0)] [boxD 161 TR x] (.tup [ofD TG (F_spec_l3Some x ).1.1, ofD .tree (F_spec_l3Some x ).1.2]) [(0, some (boxD 161 TR (F_spec_l3Some x ).2))] :=
  fn_sound (cx := ((cxOf Γ93 Tryd.f119.ntmps [] [(0, [2, 3, 4, 5]), (1000000, [2, 3])] [] []))) Tryd.func119 rfl ttOk Γ93ok mixed (fun _ _ => LoopsOk.no fun _ => rfl) (ro := true) (oneOf_spec (e_spec_l3Some x  hx  hpre)).1
noncomputable def c_spec_l3Some : Con := conB 161 TR [] fun (x : Rd)  => (some (rdAt x 800000000), .tup [ofD TG (F_spec_l3Some x ).1.1, ofD .tree (F_spec_l3Some x ).1.2], (F_spec_l3Some x ).2)
theorem k_spec_l3Some : ConOk Tryd.prog 119 c_spec_l3Some := conB_ok Tryd.call119 fun x hx  hqq => s_spec_l3Some x  hx  (pre_of hqq)
noncomputable def Γ94 : List (Nat × Con) := (119, c_spec_l3Some) :: Γ93
theorem Γ94ok : EnvOk Tryd.prog (look Γ94) := .cons k_spec_l3Some Γ93ok

noncomputable def c_spec_l3AnyZ : Con := conAny 9
theorem k_spec_l3AnyZ : ConOk Tryd.prog 155 c_spec_l3AnyZ := k_any (any_all 9)
noncomputable def Γ95 : List (Nat × Con) := (155, c_spec_l3AnyZ) :: Γ94
theorem Γ95ok : EnvOk Tryd.prog (look Γ95) := .cons k_spec_l3AnyZ Γ94ok

theorem y_spec_DrawTreeOk (l : List Int) : evFn (cxOf Γ95 Tryd.f111.ntmps [] [] [] []) Tryd.f111 true [ofD TB l] [] = (
some ((.tup [(.agg [(.r (.v (Value.string (mk (F_spec_l3Some (openV l)).fst.fst.fst)))), (.r (.li TRu ((F_spec_l3Some (openV l)).fst.fst.snd)))]), (.agg [(.r (.v (Value.string (mk (F_spec_l3Some (openV l)).fst.snd.sign)))), (.r (.v (Value.int IntKind.i64 (F_spec_l3Some (openV l)).fst.snd.rule))), (.r (.li (Ty.tree) ((F_spec_l3Some (openV l)).fst.snd.kids)))])]), [])) := by kernel_rfl
theorem e_spec_DrawTreeOk (l : List Int) (hl : Fit TB l) : ∃ q : Gram × GTree, evFn (cxOf Γ95 Tryd.f111.ntmps [] [] [] []) Tryd.f111 true [ofD TB l] [] = some (.tup [ofD TG q.1, ofD .tree q.2], []) ∧ (szG 40 q.1 = true ∧ tOkW q.2 = true) := by
  obtain ⟨r, h1, h2⟩ : Ok (evFn (cxOf Γ95 Tryd.f111.ntmps [] [] [] []) Tryd.f111 true [ofD TB l] []) (fun r => ∃ (v : Gram × GTree), r = (.tup [ofD TG v.1, ofD .tree v.2], []) ∧ (szG 40 v.1 = true ∧ tOkW v.2 = true)) := by
    rw [y_spec_DrawTreeOk]
    have h1 : rdAt (openV l) 800000000 = true := openV_at l
    have h2 := p_spec_l3Some (openV l) (openV_fit hl) h1
    exact Ok.ret ⟨(F_spec_l3Some (openV l)).1, rfl, h2.1⟩
  obtain ⟨v, h2, h3⟩ := h2
  exact ⟨v, by rw [h1, h2], h3⟩
noncomputable def F_spec_DrawTreeOk (l : List Int) : Gram × GTree := oneOf (fun q : Gram × GTree => evFn (cxOf Γ95 Tryd.f111.ntmps [] [] [] []) Tryd.f111 true [ofD TB l] [] = some (.tup [ofD TG q.1, ofD .tree q.2], []) ∧ (szG 40 q.1 = true ∧ tOkW q.2 = true))
theorem p_spec_DrawTreeOk (l : List Int) (hl : Fit TB l) : szG 40 (F_spec_DrawTreeOk l).1 = true ∧ tOkW (F_spec_DrawTreeOk l).2 = true := (oneOf_spec (e_spec_DrawTreeOk l hl)).2
theorem s_spec_DrawTreeOk (l : List Int) (hl : Fit TB l) : Sat Tryd.prog 111 [ofD TB l] [] (.tup [ofD TG (F_spec_DrawTreeOk l).1, ofD .tree (F_spec_DrawTreeOk l).2]) [] :=
  fn_sound (cx := cxOf Γ95 Tryd.f111.ntmps [] [] [] []) Tryd.func111 rfl ttOk Γ95ok mixed (fun _ _ => LoopsOk.no fun _ => rfl) (ro := true) (oneOf_spec (e_spec_DrawTreeOk l hl)).1
noncomputable def c_spec_DrawTreeOk : Con := conT [TB] fun (l : List Int) => (none, .tup [ofD TG (F_spec_DrawTreeOk l).1, ofD .tree (F_spec_DrawTreeOk l).2])
theorem k_spec_DrawTreeOk : ConOk Tryd.prog 111 c_spec_DrawTreeOk := conT_ok Tryd.call111 fun l hl _ => s_spec_DrawTreeOk l hl
noncomputable def Γ96 : List (Nat × Con) := (111, c_spec_DrawTreeOk) :: Γ95
theorem Γ96ok : EnvOk Tryd.prog (look Γ96) := .cons k_spec_DrawTreeOk Γ95ok

theorem e_spec_DrawTreeText (l : List Int) (hl : Fit TB l) : ∃ q : Gram × GTree, evFn (cxOf Γ96 Tryd.f42.ntmps [] [] [] []) Tryd.f42 true [ofD TB l] [] = some (.tup [ofD TG q.1, ofD .tree q.2], []) ∧ (szG 40 q.1 = true ∧ tOkW q.2 = true) := by
  obtain ⟨r, h1, h2⟩ : Ok (evFn (cxOf Γ96 Tryd.f42.ntmps [] [] [] []) Tryd.f42 true [ofD TB l] []) (fun r => ∃ (v : Gram × GTree), r = (.tup [ofD TG v.1, ofD .tree v.2], []) ∧ (szG 40 v.1 = true ∧ tOkW v.2 = true)) := by
    have y : evFn (cxOf Γ96 Tryd.f42.ntmps [] [] [] []) Tryd.f42 true [ofD TB l] [] = some (.tup [ofD TG (F_spec_DrawTreeOk l).1, ofD .tree (F_spec_DrawTreeOk l).2], []) := by kernel_rfl
    rw [y]
    exact Ok.ret ⟨_, rfl, p_spec_DrawTreeOk l hl⟩
  obtain ⟨v, h2, h3⟩ := h2
  exact ⟨v, by rw [h1, h2], h3⟩
noncomputable def F_spec_DrawTreeText (l : List Int) : Gram × GTree := oneOf (fun q : Gram × GTree => evFn (cxOf Γ96 Tryd.f42.ntmps [] [] [] []) Tryd.f42 true [ofD TB l] [] = some (.tup [ofD TG q.1, ofD .tree q.2], []) ∧ (szG 40 q.1 = true ∧ tOkW q.2 = true))
theorem p_spec_DrawTreeText (l : List Int) (hl : Fit TB l) : szG 40 (F_spec_DrawTreeText l).1 = true ∧ tOkW (F_spec_DrawTreeText l).2 = true := (oneOf_spec (e_spec_DrawTreeText l hl)).2
theorem s_spec_DrawTreeText (l : List Int) (hl : Fit TB l) : Sat Tryd.prog 42 [ofD TB l] [] (.tup [ofD TG (F_spec_DrawTreeText l).1, ofD .tree (F_spec_DrawTreeText l).2]) [] :=
  fn_sound (cx := cxOf Γ96 Tryd.f42.ntmps [] [] [] []) Tryd.func42 rfl ttOk Γ96ok mixed (fun _ _ => LoopsOk.no fun _ => rfl) (ro := true) (oneOf_spec (e_spec_DrawTreeText l hl)).1
noncomputable def c_spec_DrawTreeText : Con := conT [TB] fun (l : List Int) => (none, .tup [ofD TG (F_spec_DrawTreeText l).1, ofD .tree (F_spec_DrawTreeText l).2])
theorem k_spec_DrawTreeText : ConOk Tryd.prog 42 c_spec_DrawTreeText := conT_ok Tryd.call42 fun l hl _ => s_spec_DrawTreeText l hl
noncomputable def Γ97 : List (Nat × Con) := (42, c_spec_DrawTreeText) :: Γ96
theorem Γ97ok : EnvOk Tryd.prog (look Γ97) := .cons k_spec_DrawTreeText Γ96ok

abbrev tornL : List Str := [[], [91], [93], [48], [49], [97], [98], [57]]
abbrev gsT (g : Gram) (s : Str) : Option Fin := some (.tup [ofD TG g, ofD .str s], [])
/-- a text, one in two torn -/
def tornT (g : Gram) (s : Str) (z : Rd) : Option Fin :=
  branch (decide (decide ((s.length : Int) = 0) = false)) (
   need (rdOk z) <| branch (bif false then true else decide (pickV z 2 = 0)) (gsT g s) (
    need (rdOk (rdGo z 1)) <| need (inr 0 (pickV (rdGo z 1) (s.length : Int)) s.length) <|
    need (rdOk (rdGo (rdGo z 1) 1) && Nat.blt 0 tornL.length) <|
    need (decide ((List.take (pickV (rdGo z 1) (s.length : Int)).toNat s).length + (ofV (rdGo (rdGo z 1) 1) tornL).length ≤ 9223372036854775807)) <|
    need (rdOk (rdGo (rdGo (rdGo z 1) 1) 1)) <|
    need (inr (W64 (pickV (rdGo z 1) (s.length : Int) + pickV (rdGo (rdGo (rdGo z 1) 1) 1) 2)) (s.length : Int) s.length) <|
    need (decide (((List.take (pickV (rdGo z 1) (s.length : Int)).toNat s).append (ofV (rdGo (rdGo z 1) 1) tornL)).length + (List.take ((s.length : Int).toNat - (W64 (pickV (rdGo z 1) (s.length : Int) + pickV (rdGo (rdGo (rdGo z 1) 1) 1) 2)).toNat) (List.drop (W64 (pickV (rdGo z 1) (s.length : Int) + pickV (rdGo (rdGo (rdGo z 1) 1) 1) 2)).toNat s)).length ≤ 9223372036854775807)) <|
    gsT g (((List.take (pickV (rdGo z 1) (s.length : Int)).toNat s).append (ofV (rdGo (rdGo z 1) 1) tornL)).append (List.take ((s.length : Int).toNat - (W64 (pickV (rdGo z 1) (s.length : Int) + pickV (rdGo (rdGo (rdGo z 1) 1) 1) 2)).toNat) (List.drop (W64 (pickV (rdGo z 1) (s.length : Int) + pickV (rdGo (rdGo (rdGo z 1) 1) 1) 2)).toNat s))))) (gsT g s)
theorem torn_ok {g : Gram} {s : Str} {z : Rd} (hz : BY z) (h : rdAt z 5000000000000 = true) (hg : szG 40 g = true) (hs : s.length ≤ 558545864083284007) : Ok (tornT g s z) (fun r => ∃ v : Gram × Str, r = (.tup [ofD TG v.1, ofD .str v.2], []) ∧ (szG 40 v.1 = true ∧ v.2.length ≤ 600000000000000000)) := by
  have k0 : rdOk z = true := ok1 h (by omega)
  have a1 := Adv.one z
  have a2 : Adv z (rdGo (rdGo z 1) 1) 2 := a1.trans (Adv.one _)
  have a3 : Adv z (rdGo (rdGo (rdGo z 1) 1) 1) 3 := a2.trans (Adv.one _)
  have k1 : rdOk (rdGo z 1) = true := a1.ok h (by omega)
  have k2 : rdOk (rdGo (rdGo z 1) 1) = true := a2.ok h (by omega)
  have k3 : rdOk (rdGo (rdGo (rdGo z 1) 1) 1) = true := a3.ok h (by omega)
  have hof : (ofV (rdGo (rdGo z 1) 1) tornL).length ≤ 1 := ofV_len (by decide)
  unfold tornT
  refine Ok.br (fun hc => Ok.need k0 (Ok.br (fun _ => Ok.ret ⟨(g, s), rfl, hg, by show s.length ≤ _; omega⟩) fun _ => ?_)) fun _ => Ok.ret ⟨(g, s), rfl, hg, by show s.length ≤ _; omega⟩
  have hc := of_decide_eq_true hc
  have hc := of_decide_eq_false hc
  have p1 := pickV_range (n := (s.length : Int)) (BY_adv a1 hz) k1 (by omega)
  have p2 := pickV_range (n := 2) (BY_adv a3 hz) k3 (by omega)
  generalize pickV (rdGo z 1) (s.length : Int) = p at p1
  generalize pickV (rdGo (rdGo (rdGo z 1) 1) 1) 2 = q at p2
  generalize ofV (rdGo (rdGo z 1) 1) tornL = o at hof
  have w : W64 (p + q) = p + q := wrap_small (by omega) (by omega)
  rw [w]
  have l1 : (List.take p.toNat s).length ≤ p.toNat := List.length_take_le _ _
  have l2 : (List.take ((s.length : Int).toNat - (p + q).toNat) (List.drop (p + q).toNat s)).length ≤ s.length - (p + q).toNat := by
    rw [List.length_take, List.length_drop]; omega
  have l3 : ((List.take p.toNat s).append o).length = (List.take p.toNat s).length + o.length := List.length_append
  refine Ok.need k1 (Ok.need (inr_iff.2 (by omega)) (Ok.need (andd.2 ⟨k2, rfl⟩) (Ok.need (dec_iff.2 (by omega)) (Ok.need k3 (Ok.need (inr_iff.2 (by omega)) (Ok.need (dec_iff.2 (by omega)) (Ok.ret ⟨(g, _), rfl, hg, ?_⟩)))))))
  show (((List.take p.toNat s).append o).append _).length ≤ _
  rw [List.append_eq, List.length_append, l3]
  omega
theorem text_len (g : Gram) (t : GTree) : (textG g t).length ≤ 558545864083284007 := by
  cases h : okT g t
  · rw [text_nil h]; exact Nat.zero_le _
  · rw [text_txt h]; exact txt_lenB (okT_tx h) (by omega)
theorem y_spec_DrawTreeRead (l : List Int) : evFn ((cxOf Γ97 Tryd.f49.ntmps [] [] [] []).parted [4]) Tryd.f49 true [ofD TB l] [] = tornT (F_spec_l3Some (openV l)).1.1 (textG (F_spec_l3Some (openV l)).1.1 (.node (F_spec_l3Some (openV l)).1.2.sign (F_spec_l3Some (openV l)).1.2.rule (F_spec_l3Some (openV l)).1.2.kids)) (F_spec_l3Some (openV l)).2 := by kernel_rfl
theorem e_spec_DrawTreeRead (l : List Int) (hl : Fit TB l) : ∃ q : Gram × Str, evFn (((cxOf Γ97 Tryd.f49.ntmps [] [] [] []).parted [4])) Tryd.f49 true [ofD TB l] [] = some (.tup [ofD TG q.1, ofD .str q.2], []) ∧ (szG 40 q.1 = true ∧ q.2.length ≤ 600000000000000000) := by
  obtain ⟨r, h1, h2⟩ : Ok (evFn (((cxOf Γ97 Tryd.f49.ntmps [] [] [] []).parted [4])) Tryd.f49 true [ofD TB l] []) (fun r => ∃ (v : Gram × Str), r = (.tup [ofD TG v.1, ofD .str v.2], []) ∧ (szG 40 v.1 = true ∧ v.2.length ≤ 600000000000000000)) := by
    have h1 : rdAt (openV l) 800000000 = true := openV_at l
    obtain ⟨⟨h2, _⟩, h3⟩ := p_spec_l3Some (openV l) (openV_fit hl) h1
    rw [y_spec_DrawTreeRead]
    refine torn_ok (BY_adv h3 ?_) (h3.at (openV_at l) (by omega)) h2 (text_len _ _)
    have f0 := fit_fitR (openV_fit hl)
    exact byB_iff.1 (andd.1 f0).1
  obtain ⟨v, h2, h3⟩ := h2
  exact ⟨v, by rw [h1, h2], h3⟩
noncomputable def F_spec_DrawTreeRead (l : List Int) : Gram × Str := oneOf (fun q : Gram × Str => evFn (((cxOf Γ97 Tryd.f49.ntmps [] [] [] []).parted [4])) Tryd.f49 true [ofD TB l] [] = some (.tup [ofD TG q.1, ofD .str q.2], []) ∧ (szG 40 q.1 = true ∧ q.2.length ≤ 600000000000000000))
theorem p_spec_DrawTreeRead (l : List Int) (hl : Fit TB l) : szG 40 (F_spec_DrawTreeRead l).1 = true ∧ (F_spec_DrawTreeRead l).2.length ≤ 600000000000000000 := (oneOf_spec (e_spec_DrawTreeRead l hl)).2
theorem s_spec_DrawTreeRead (l : List Int) (hl : Fit TB l) : Sat Tryd.prog 49 [ofD TB l] [] (.tup [ofD TG (F_spec_DrawTreeRead l).1, ofD .str (F_spec_DrawTreeRead l).2]) [] :=
  fn_sound (cx := ((cxOf Γ97 Tryd.f49.ntmps [] [] [] []).parted [4])) Tryd.func49 rfl ttOk Γ97ok mixed (fun _ _ => LoopsOk.no fun _ => rfl) (ro := true) (oneOf_spec (e_spec_DrawTreeRead l hl)).1
noncomputable def c_spec_DrawTreeRead : Con := conT [TB] fun (l : List Int) => (none, .tup [ofD TG (F_spec_DrawTreeRead l).1, ofD .str (F_spec_DrawTreeRead l).2])
theorem k_spec_DrawTreeRead : ConOk Tryd.prog 49 c_spec_DrawTreeRead := conT_ok Tryd.call49 fun l hl _ => s_spec_DrawTreeRead l hl
noncomputable def Γ98 : List (Nat × Con) := (49, c_spec_DrawTreeRead) :: Γ97
theorem Γ98ok : EnvOk Tryd.prog (look Γ98) := .cons k_spec_DrawTreeRead Γ97ok

theorem depB_le : ∀ {n m : Nat} {t : GTree}, n ≤ m → depB n t = true → depB m t = true
  | 0, _, _, _, h => by cases h
  | n + 1, 0, _, h, _ => by omega
  | n + 1, m + 1, t, h, h2 => List.all_eq_true.2 fun k hk => depB_le (by omega) (List.all_eq_true.1 h2 k hk)
theorem shape_dep {g : Gram} : ∀ {n : Nat} {t : GTree}, shapeT g n t = true → depB n t = true
  | 0, _, h => by cases h
  | n + 1, t, h => by
    unfold shapeT at h
    unfold depB
    cases hs : smallS t.sign <;> rw [hs] at h
    · cases h2 : nodeOk g t <;> rw [h2] at h
      · cases h
      · exact kidsL_all (fun k _ hk => shape_dep hk) h
    · rw [List.length_eq_zero_iff.1 (Nat.eq_of_beq_eq_true (andd.1 h).2)]; rfl
theorem okT_dep {g : Gram} {t : GTree} (h : okT g t = true) : depB 40 t = true := depB_le (by omega) (shape_dep (andd.1 (andd.1 h).2).1)
theorem read_nil (g : Gram) : readG g [] = (tz, false) := by
  unfold readG
  cases okG g <;> rfl
theorem read_text {g : Gram} {t : GTree} (h : okT g t = true) : readG g (textG g t) = (t, true) ∧ textG g t ≠ [] := by
  obtain ⟨h1, h2⟩ := andd.1 h
  have e := rd_txt h1 (rest := []) (andd.1 h2).1
  rw [List.append_nil] at e
  rw [text_txt h]
  refine ⟨?_, fun e2 => ?_⟩
  · unfold readG
    rw [h1, e]
    show (bif true && decide (([] : Str) = []) && okT g t then (t, true) else (tz, false)) = _
    rw [h]; rfl
  · rw [e2] at e; cases e
theorem read_cases (g : Gram) (s : Str) : readG g s = (tz, false) ∨ ∃ t, readG g s = (t, true) ∧ okT g t = true ∧ textG g t = s := by
  unfold readG
  cases hG : okG g
  · exact .inl rfl
  · cases h1 : (rdT g 20 s).2.2
    · exact .inl rfl
    · by_cases h2 : (rdT g 20 s).2.1 = []
      · cases h3 : okT g (rdT g 20 s).1
        · rw [decide_eq_true h2]; exact .inl rfl
        · refine .inr ⟨(rdT g 20 s).1, by rw [decide_eq_true h2]; rfl, h3, ?_⟩
          have := txt_rd hG h1
          rw [h2, List.append_nil] at this
          rw [text_txt h3, ← this]
      · rw [decide_eq_false h2]; exact .inl rfl
theorem tz_dep : depB 40 tz = true := rfl
theorem y_laws_FnTreeText (l : List Int) (m : List Int) : evFn ((cxOf Γ98 Tryd.f7.ntmps [] [] [] []).parted [6, 11]) Tryd.f7 true [ofD TB l, ofD TB m] [] = (
branch (bif decide (1048576 < (l.length : Int)) then true else decide (1048576 < (m.length : Int))) ( some ((vB true), [])) (
 branch (decide ((!decide ((textG (F_spec_DrawTreeText l).fst (GTree.node (F_spec_DrawTreeText l).snd.sign (F_spec_DrawTreeText l).snd.rule (F_spec_DrawTreeText l).snd.kids)) = (textG (F_spec_DrawTreeText l).fst (GTree.node (F_spec_DrawTreeText l).snd.sign (F_spec_DrawTreeText l).snd.rule (F_spec_DrawTreeText l).snd.kids)))) = false)) (
  branch (decide ((bif false then true else !decide ((readG (F_spec_DrawTreeText l).fst (textG (F_spec_DrawTreeText l).fst (GTree.node (F_spec_DrawTreeText l).snd.sign (F_spec_DrawTreeText l).snd.rule (F_spec_DrawTreeText l).snd.kids))).snd = !decide ((textG (F_spec_DrawTreeText l).fst (GTree.node (F_spec_DrawTreeText l).snd.sign (F_spec_DrawTreeText l).snd.rule (F_spec_DrawTreeText l).snd.kids)) = []))) = false)) (
   branch (decide ((readG (F_spec_DrawTreeText l).fst (textG (F_spec_DrawTreeText l).fst (GTree.node (F_spec_DrawTreeText l).snd.sign (F_spec_DrawTreeText l).snd.rule (F_spec_DrawTreeText l).snd.kids))).snd = true)) (
    need (depB 40 (GTree.node (readG (F_spec_DrawTreeText l).fst (textG (F_spec_DrawTreeText l).fst (GTree.node (F_spec_DrawTreeText l).snd.sign (F_spec_DrawTreeText l).snd.rule (F_spec_DrawTreeText l).snd.kids))).fst.sign (readG (F_spec_DrawTreeText l).fst (textG (F_spec_DrawTreeText l).fst (GTree.node (F_spec_DrawTreeText l).snd.sign (F_spec_DrawTreeText l).snd.rule (F_spec_DrawTreeText l).snd.kids))).fst.rule (readG (F_spec_DrawTreeText l).fst (textG (F_spec_DrawTreeText l).fst (GTree.node (F_spec_DrawTreeText l).snd.sign (F_spec_DrawTreeText l).snd.rule (F_spec_DrawTreeText l).snd.kids))).fst.kids)) <|
    branch (decide ((bif false then true else bif true then !eqT 40 (GTree.node (readG (F_spec_DrawTreeText l).fst (textG (F_spec_DrawTreeText l).fst (GTree.node (F_spec_DrawTreeText l).snd.sign (F_spec_DrawTreeText l).snd.rule (F_spec_DrawTreeText l).snd.kids))).fst.sign (readG (F_spec_DrawTreeText l).fst (textG (F_spec_DrawTreeText l).fst (GTree.node (F_spec_DrawTreeText l).snd.sign (F_spec_DrawTreeText l).snd.rule (F_spec_DrawTreeText l).snd.kids))).fst.rule (readG (F_spec_DrawTreeText l).fst (textG (F_spec_DrawTreeText l).fst (GTree.node (F_spec_DrawTreeText l).snd.sign (F_spec_DrawTreeText l).snd.rule (F_spec_DrawTreeText l).snd.kids))).fst.kids) (GTree.node (F_spec_DrawTreeText l).snd.sign (F_spec_DrawTreeText l).snd.rule (F_spec_DrawTreeText l).snd.kids) else false) = false)) (
     branch (bif false then true else !decide (okT (F_spec_DrawTreeText l).fst (GTree.node (F_spec_DrawTreeText l).snd.sign (F_spec_DrawTreeText l).snd.rule (F_spec_DrawTreeText l).snd.kids) = okT (F_spec_DrawTreeText l).fst (GTree.node (F_spec_DrawTreeText l).snd.sign (F_spec_DrawTreeText l).snd.rule (F_spec_DrawTreeText l).snd.kids))) ( some ((vB false), [])) (
      branch (decide (decide ((readG (F_spec_DrawTreeRead m).fst (F_spec_DrawTreeRead m).snd).snd = (readG (F_spec_DrawTreeRead m).fst (F_spec_DrawTreeRead m).snd).snd) = true)) (
       need (depB 40 (GTree.node (readG (F_spec_DrawTreeRead m).fst (F_spec_DrawTreeRead m).snd).fst.sign (readG (F_spec_DrawTreeRead m).fst (F_spec_DrawTreeRead m).snd).fst.rule (readG (F_spec_DrawTreeRead m).fst (F_spec_DrawTreeRead m).snd).fst.kids)) <|
       branch (decide ((bif true then eqT 40 (GTree.node (readG (F_spec_DrawTreeRead m).fst (F_spec_DrawTreeRead m).snd).fst.sign (readG (F_spec_DrawTreeRead m).fst (F_spec_DrawTreeRead m).snd).fst.rule (readG (F_spec_DrawTreeRead m).fst (F_spec_DrawTreeRead m).snd).fst.kids) (GTree.node (readG (F_spec_DrawTreeRead m).fst (F_spec_DrawTreeRead m).snd).fst.sign (readG (F_spec_DrawTreeRead m).fst (F_spec_DrawTreeRead m).snd).fst.rule (readG (F_spec_DrawTreeRead m).fst (F_spec_DrawTreeRead m).snd).fst.kids) else false) = true)) (
        branch (decide ((!(readG (F_spec_DrawTreeRead m).fst (F_spec_DrawTreeRead m).snd).snd) = false)) (
         branch (decide (decide ((textG (F_spec_DrawTreeRead m).fst (GTree.node (readG (F_spec_DrawTreeRead m).fst (F_spec_DrawTreeRead m).snd).fst.sign (readG (F_spec_DrawTreeRead m).fst (F_spec_DrawTreeRead m).snd).fst.rule (readG (F_spec_DrawTreeRead m).fst (F_spec_DrawTreeRead m).snd).fst.kids)) = (F_spec_DrawTreeRead m).snd) = true)) ( some ((vB (bif true then bif false then true else bif true then okT (F_spec_DrawTreeRead m).fst (GTree.node (readG (F_spec_DrawTreeRead m).fst (F_spec_DrawTreeRead m).snd).fst.sign (readG (F_spec_DrawTreeRead m).fst (F_spec_DrawTreeRead m).snd).fst.rule (readG (F_spec_DrawTreeRead m).fst (F_spec_DrawTreeRead m).snd).fst.kids) else false else false)), [])) ( some ((vB (bif true then bif false then true else false else false)), []))) ( some ((vB (bif true then true else false)), []))) ( some ((vB false), []))) ( some ((vB false), [])))) ( some ((vB false), []))) (
    branch (bif false then true else !decide (okT (F_spec_DrawTreeText l).fst (GTree.node (F_spec_DrawTreeText l).snd.sign (F_spec_DrawTreeText l).snd.rule (F_spec_DrawTreeText l).snd.kids) = okT (F_spec_DrawTreeText l).fst (GTree.node (F_spec_DrawTreeText l).snd.sign (F_spec_DrawTreeText l).snd.rule (F_spec_DrawTreeText l).snd.kids))) ( some ((vB false), [])) (
     branch (decide (decide ((readG (F_spec_DrawTreeRead m).fst (F_spec_DrawTreeRead m).snd).snd = (readG (F_spec_DrawTreeRead m).fst (F_spec_DrawTreeRead m).snd).snd) = true)) (
      need (depB 40 (GTree.node (readG (F_spec_DrawTreeRead m).fst (F_spec_DrawTreeRead m).snd).fst.sign (readG (F_spec_DrawTreeRead m).fst (F_spec_DrawTreeRead m).snd).fst.rule (readG (F_spec_DrawTreeRead m).fst (F_spec_DrawTreeRead m).snd).fst.kids)) <|
      branch (decide ((bif true then eqT 40 (GTree.node (readG (F_spec_DrawTreeRead m).fst (F_spec_DrawTreeRead m).snd).fst.sign (readG (F_spec_DrawTreeRead m).fst (F_spec_DrawTreeRead m).snd).fst.rule (readG (F_spec_DrawTreeRead m).fst (F_spec_DrawTreeRead m).snd).fst.kids) (GTree.node (readG (F_spec_DrawTreeRead m).fst (F_spec_DrawTreeRead m).snd).fst.sign (readG (F_spec_DrawTreeRead m).fst (F_spec_DrawTreeRead m).snd).fst.rule (readG (F_spec_DrawTreeRead m).fst (F_spec_DrawTreeRead m).snd).fst.kids) else false) = true)) (
       branch (decide ((!(readG (F_spec_DrawTreeRead m).fst (F_spec_DrawTreeRead m).snd).snd) = false)) (
        branch (decide (decide ((textG (F_spec_DrawTreeRead m).fst (GTree.node (readG (F_spec_DrawTreeRead m).fst (F_spec_DrawTreeRead m).snd).fst.sign (readG (F_spec_DrawTreeRead m).fst (F_spec_DrawTreeRead m).snd).fst.rule (readG (F_spec_DrawTreeRead m).fst (F_spec_DrawTreeRead m).snd).fst.kids)) = (F_spec_DrawTreeRead m).snd) = true)) ( some ((vB (bif true then bif false then true else bif true then okT (F_spec_DrawTreeRead m).fst (GTree.node (readG (F_spec_DrawTreeRead m).fst (F_spec_DrawTreeRead m).snd).fst.sign (readG (F_spec_DrawTreeRead m).fst (F_spec_DrawTreeRead m).snd).fst.rule (readG (F_spec_DrawTreeRead m).fst (F_spec_DrawTreeRead m).snd).fst.kids) else false else false)), [])) ( some ((vB (bif true then bif false then true else false else false)), []))) ( some ((vB (bif true then true else false)), []))) ( some ((vB false), []))) ( some ((vB false), []))))) ( some ((vB false), []))) ( some ((vB false), [])))) := by kernel_rfl
theorem s_laws_FnTreeText (l : List Int) (_hl : Fit TB l) (m : List Int) (_hm : Fit TB m) : Sat Tryd.prog 7 [ofD TB l, ofD TB m] [] (.d (ofD .bool true)) [] :=
  fn_sound (cx := ((cxOf Γ98 Tryd.f7.ntmps [] [] [] []).parted [6, 11])) Tryd.func7 rfl ttOk Γ98ok mixed (fun _ _ => LoopsOk.no fun _ => rfl) (ro := true) (by
    refine (y_laws_FnTreeText l m).trans ?_
    generalize F_spec_DrawTreeText l = p
    generalize F_spec_DrawTreeRead m = q
    obtain ⟨g, t⟩ := p
    obtain ⟨h, s⟩ := q
    dsimp only
    rw [tEta t, tEta (readG g (textG g t)).1, tEta (readG h s).1]
    rw [decide_eq_true (rfl : textG g t = textG g t), decide_eq_true (rfl : okT g t = okT g t), decide_eq_true (rfl : (readG h s).2 = (readG h s).2)]
    cases (bif decide (1048576 < (List.length l : Int)) then true else decide (1048576 < (List.length m : Int)))
    · have fin : ∀ x : Option Fin, (branch (decide (true = true)) (need (depB 40 (readG h s).1) (branch (decide ((bif true then eqT 40 (readG h s).1 (readG h s).1 else false) = true)) (branch (decide ((!(readG h s).2) = false)) (branch (decide (decide (textG h (readG h s).1 = s) = true)) (some (vB (bif true then bif false then true else bif true then okT h (readG h s).1 else false else false), [])) (some (vB (bif true then bif false then true else false else false), []))) (some (vB (bif true then true else false), []))) (some (vB false, [])))) x : Option Fin) = some (vB true, []) := fun x => by
        rcases read_cases h s with e | ⟨t', e, e2, e3⟩
        · rw [e]
          show need (depB 40 tz) (branch (decide ((bif true then eqT 40 tz tz else false) = true)) _ _) = _
          rw [eqT_self tz_dep, tz_dep]; rfl
        · rw [e]
          show need (depB 40 t') (branch (decide ((bif true then eqT 40 t' t' else false) = true)) (branch (decide ((!true) = false)) (branch (decide (decide (textG h t' = s) = true)) (some (vB (bif true then bif false then true else bif true then okT h t' else false else false), [])) _) _) _) = _
          rw [eqT_self (okT_dep e2), okT_dep e2, e2, decide_eq_true e3]; rfl
      cases hO : okT g t
      · rw [text_nil hO, read_nil]
        exact fin (some (vB false, []))
      · obtain ⟨e1, e2⟩ := read_text hO
        rw [e1]
        show branch false _ (branch true (branch (decide ((bif false then true else !decide (true = !decide (textG g t = []))) = false)) (branch true (need (depB 40 t) (branch (decide ((bif false then true else bif true then !eqT 40 t t else false) = false)) (branch false _ _) _)) _) _) _) = _
        rw [decide_eq_false e2, eqT_self (okT_dep hO), okT_dep hO]
        exact fin (some (vB false, []))
    · rfl)
noncomputable def c_laws_FnTreeText : Con := conT [TB, TB] fun (_l : List Int) (_m : List Int) => (none, .d (ofD .bool true))
theorem k_laws_FnTreeText : ConOk Tryd.prog 7 c_laws_FnTreeText := conT_ok Tryd.call7 fun l hl m hm _ => s_laws_FnTreeText l hl m hm
noncomputable def Γ99 : List (Nat × Con) := (7, c_laws_FnTreeText) :: Γ98
theorem Γ99ok : EnvOk Tryd.prog (look Γ99) := .cons k_laws_FnTreeText Γ98ok

end Go.Proofs.YthbpnbbilaobbaaDoor.Ev

-- G=99