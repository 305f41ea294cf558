/-
  Operations that turn no memory, one by one.
-/
import Derived.Test.YthhmpjnmmhfngaaDoorEvD
namespace Go.Proofs.YthhmpjnmmhfngaaDoor.Ev
open Go

/-- What an operation leaves: its value, and memory. -/
def Out (w0 : World) (O0 F0 : Nat → Prop) (w : World) (F : Nat → Prop) (h : HF) (β : Nat → Value) (tm : Array Value) (ups : Ups) (x : T) (v : Value) (w' : World) : Prop :=
  ∃ F' β', Inv w0 O0 F0 w' F' (upd ups h) β' ∧ Per w F h β w' F' (upd ups h) β' ∧ RepX tm w' F' (upd ups h) β' x v

section
variable {P : Program} {TT : Types} {w0 w : World} {O0 F0 F : Nat → Prop} {h : HF} {β : Nat → Value} {a : Act} {o : Oper} {K : Act → World → Prop} {Q : Exit → Act → World → Prop} {x : T} {v : Value}

theorem op_quiet (H : Inv w0 O0 F0 w F h β) (hr : (execOp a.eval o).run P w = .ok (.value v) w) (hx : RepX a.tmps w F h β x v)
    (hK : ∀ v w', Out w0 O0 F0 w F h β a.tmps [] x v w' → K (a.put o.dst v) w') : o.wp P a w K Q :=
  wp_val hr (hK v w ⟨F, β, H, Per.refl w F h β, hx⟩)

theorem rep_v {tm : Array Value} {u : Value} (hu : plain u = true) : RepX tm w F h β (.d (.one (.r (.v u)))) u := ⟨rfl, hu⟩

theorem ops1 {xs : List T} {X : Operand} (hx : All2 (RepX a.tmps w F h β) xs ([X].map a.eval)) : ∃ x, xs = [x] ∧ RepX a.tmps w F h β x (a.eval X) := by
  cases hx with | cons h1 h2 => cases h2; exact ⟨_, rfl, h1⟩
theorem ops2 {xs : List T} {X Y : Operand} (hx : All2 (RepX a.tmps w F h β) xs ([X, Y].map a.eval)) : ∃ x y, xs = [x, y] ∧ RepX a.tmps w F h β x (a.eval X) ∧ RepX a.tmps w F h β y (a.eval Y) := by
  cases hx with | cons h1 h2 => cases h2 with | cons h2 h3 => cases h3; exact ⟨_, _, rfl, h1, h2⟩

theorem intD_sound {tm : Array Value} {y : T} {n : Int} {u : Value} (hn : intD y = some n) (hy : RepX tm w F h β y u) : ∃ k, u = .int k n := by
  unfold intD at hn
  split at hn
  · cases hn; exact ⟨_, hy.1⟩
  · cases hn

theorem rep_mk {ti : TI} {cs : List C} {d : D} {us : List Value} (hd : D.mkOf ti cs = some d) (hc : All2 (RepC w F h β) cs us) :
    (aggDesc ti.desc = true ∧ RepD w F h β d (.agg us.toArray)) ∨ (aggDesc ti.desc = false ∧ ∃ y, us = [y] ∧ RepD w F h β d y) := by
  cases ha : aggDesc ti.desc
  · obtain ⟨c, rfl, rfl⟩ := mkOf_one ha hd
    cases hc with | cons h1 h2 => cases h2; exact .inr ⟨rfl, _, rfl, h1⟩
  · rw [mkOf_agg ha] at hd
    cases hd
    exact .inl ⟨rfl, us.toArray, rfl, by simpa using hc⟩

theorem part_sound (ht : TTok P TT) {t : TypeId} {ti : TI} (hti : TT t = some ti) {cs : List C} {us : Array Value} {off : Nat} {d : D} (hc : All2 (RepC w F h β) cs us.toList)
    (hd : D.mkOf ti ((cs.drop off).take ti.info.size) = some d) :
    ∃ v, (part t us off).run P w = .ok v w ∧ RepD w F h β d v := by
  have hlen := hc.len
  have e : (us.extract off (off + ti.info.size)).toList = (us.toList.drop off).take ti.info.size := by
    simp [Array.toList_extract, List.extract_eq_take_drop]
  rcases rep_mk hd ((hc.drop off).take ti.info.size) with ⟨ha, hr⟩ | ⟨ha, y, hy, hr⟩
  · refine ⟨_, ?_, hr⟩
    simp only [part, Sem.run_bind, ht.run_agg hti, ha, Result.andThen_ok, if_true, ht.run_size hti, Sem.run_pure]
    rw [← e, Array.toArray_toList]
  · refine ⟨y, ?_, hr⟩
    have hs : us[off]? = some y := by
      have h0 : ((us.toList.drop off).take ti.info.size)[0]? = some y := by rw [hy]; rfl
      rw [List.getElem?_take] at h0
      split at h0
      · rw [List.getElem?_drop] at h0; simpa using h0
      · cases h0
    simp only [part, Sem.run_bind, ht.run_agg hti, ha, Result.andThen_ok, Bool.false_eq_true, if_false, hs, Sem.run_pure]

theorem load_sound (ht : TTok P TT) {t : TypeId} {ti : TI} (hti : TT t = some ti) {cs : List C} {us : List Value} {b off : Nat} {d : D} (hc : All2 (RepC w F h β) cs us)
    (hl : us.length = ti.info.size) (hat : CellsAt w b off us) (hd : D.mkOf ti cs = some d) :
    ∃ v, (loadVar t ⟨b, off, none⟩).run P w = .ok v w ∧ RepD w F h β d v := by
  rcases rep_mk hd hc with ⟨ha, hr⟩ | ⟨ha, y, hy, hr⟩
  · refine ⟨_, ?_, hr⟩
    have := run_loadCells_at (P := P) hat
    rw [hl] at this
    simp only [loadVar, Sem.run_bind, ht.run_agg hti, ha, Result.andThen_ok, if_true, ht.run_size hti, Sem.run_pure, this]
  · refine ⟨y, ?_, hr⟩
    have h0 := hat 0 y (by rw [hy]; rfl)
    simp only [Nat.add_zero] at h0
    simp only [loadVar, Sem.run_bind, ht.run_agg hti, ha, Result.andThen_ok, Bool.false_eq_true, if_false, run_load, h0]

theorem plain_rep {u : Value} (hu : plain u = true) : RepC w F h β (.r (.v u)) u := ⟨rfl, hu⟩

theorem cellOf_sound {u : Value} {c : C} (hc : cellOf u = some c) : RepC w F h β c u := by
  unfold cellOf at hc
  cases hp : plain u <;> simp [hp] at hc
  subst hc; exact plain_rep hp

theorem mapM_cells {us : List Value} : ∀ {cs : List C}, us.mapM cellOf = some cs → All2 (RepC w F h β) cs us := by
  induction us with
  | nil => intro cs hc; simp at hc; subst hc; exact .nil
  | cons u us ih =>
    intro cs hc
    simp only [List.mapM_cons, Option.bind_eq_bind, Option.bind_eq_some_iff, Option.pure_def, Option.some.injEq] at hc
    obtain ⟨c, h1, cs', h2, rfl⟩ := hc
    exact .cons (cellOf_sound h1) (ih h2)

theorem allSome_map {α γ : Type} {f : α → Option γ} : ∀ {l : List α} {m : List γ}, allSome (l.map f) = some m → All2 (fun y x => f x = some y) m l
  | [], m, hm => by simp [allSome] at hm; subst hm; exact .nil
  | a :: l, m, hm => by
    simp only [List.map_cons] at hm
    cases ha : f a with
    | none => simp [ha, allSome] at hm
    | some y =>
      simp only [ha, allSome, Option.map_eq_some_iff] at hm
      obtain ⟨m', h1, rfl⟩ := hm
      exact .cons ha (allSome_map h1)

theorem evConst_sound {tm : Array Value} {u : Value} {t : T} (hc : evConst u = some t) : RepX tm w F h β t u := by
  unfold evConst at hc
  split at hc
  · simp only [Option.map_eq_some_iff] at hc
    obtain ⟨l, h1, rfl⟩ := hc
    exact ⟨_, rfl, mapM_cells h1⟩
  · simp only [Option.map_eq_some_iff] at hc
    obtain ⟨c, h1, rfl⟩ := hc
    exact cellOf_sound h1

/-! ### the operations -/
theorem op_move (H : Inv w0 O0 F0 w F h β) {X : Operand} (ho : o.op = .move X ∨ o.op = .assign X) (hx : RepX a.tmps w F h β x (a.eval X))
    (hK : ∀ v w', Out w0 O0 F0 w F h β a.tmps [] x v w' → K (a.put o.dst v) w') : o.wp P a w K Q :=
  op_quiet H (by rcases ho with ho | ho <;> simp [execOp, ho]) hx hK

theorem pickBool_sound {c Y : Operand} {want b t : Bool} {y : T} (hb : pickBool c want Y y = some b) (hc : a.eval c = .bool t) (ht : t = want) {u : Value} (hy : RepX a.tmps w F h β y u) : u = .bool b := by
  unfold pickBool at hb
  split at hb
  · cases hb; exact hy.1
  · split at hb
    · split at hb
      · rename_i hst
        cases hb
        simp only [Bool.and_eq_true, beq_iff_eq, Nat.beq_eq] at hst
        obtain ⟨rfl, rfl⟩ := hst
        refine (hy.1 ?_).1
        rename_i s w' b' t'
        simp only [Act.eval, Array.getD_eq_getD_getElem?] at hc
        revert hc
        generalize (a.tmps : Array Value)[(_ : Nat)]? = q
        cases q with
        | none => intro hc; simp [undef] at hc
        | some q => intro hc; simp at hc; rw [hc, ht]
      · cases hb
    · cases hb
  · cases hb

theorem op_pick (H : Inv w0 O0 F0 w F h β) {c X Y : Operand} (ho : o.op = .pick c X Y) {t p q : Bool} (hc : a.eval c = .bool t) {x y : T}
    (hx : RepX a.tmps w F h β x (a.eval X)) (hy : RepX a.tmps w F h β y (a.eval Y)) (h1 : pickBool c true X x = some p) (h2 : pickBool c false Y y = some q)
    (hK : ∀ v w', Out w0 O0 F0 w F h β a.tmps [] (.d (.one (.r (.v (.bool (bif t then p else q)))))) v w' → K (a.put o.dst v) w') : o.wp P a w K Q := by
  refine op_quiet H (v := .bool (bif t then p else q)) ?_ (rep_v rfl) hK
  cases t
  · have := pickBool_sound h2 hc rfl hy
    simp [execOp, ho, hc, asBool, this]
  · have := pickBool_sound h1 hc rfl hx
    simp [execOp, ho, hc, asBool, this]

theorem op_nilCheck (H : Inv w0 O0 F0 w F h β) {X : Operand} (ho : o.op = .nilCheck X) (hp : (∃ ad, a.eval X = .pointer (some ad)) ∨ ∃ f c, a.eval X = .func (.func f) #[] c) (hx : RepX a.tmps w F h β x (a.eval X))
    (hK : ∀ v w', Out w0 O0 F0 w F h β a.tmps [] x v w' → K (a.put o.dst v) w') : o.wp P a w K Q := by
  refine op_quiet H (v := a.eval X) ?_ hx hK
  rcases hp with ⟨ad, hp⟩ | ⟨f, c, hp⟩ <;> simp [execOp, ho, hp]

theorem op_binOp (H : Inv w0 O0 F0 w F h β) {op : BinOp} {ty ty2 : TypeId} {X Y : Operand} (ho : o.op = .binOp op ty X Y ty2) {u1 u2 r : Value} {c : Option Bool} (he : evBin op u1 u2 = some (c, r)) (hc : c = none ∨ c = some true)
    (hpx : plain u1 = true) (hX : a.eval X = u1) (hY : a.eval Y = u2) (hK : ∀ v w', Out w0 O0 F0 w F h β a.tmps [] (.d (.one (.r (.v r)))) v w' → K (a.put o.dst v) w') : o.wp P a w K Q := by
  obtain ⟨h1, h2⟩ := evBin_sound (P := P) (w := w) he hc hpx ty X Y
  refine op_quiet H (v := r) ?_ (rep_v h2) hK
  simp only [execOp, ho, hX, hY]
  rw [Sem.run_bind, h1]
  rfl

theorem op_boolEq (H : Inv w0 O0 F0 w F h β) (ht : TTok P TT) {op : BinOp} {ty ty2 : TypeId} {ti : TI} {X Y : Operand} (ho : o.op = .binOp op ty X Y ty2) (hti : TT ty = some ti) (hb : isBool ti.desc = true) {p q r : Bool}
    (hX : a.eval X = .bool p) (hY : a.eval Y = .bool q) (hr : (op = .eql ∧ r = (p == q)) ∨ (op = .neq ∧ r = !(p == q)))
    (hK : ∀ v w', Out w0 O0 F0 w F h β a.tmps [] (.d (.one (.r (.v (.bool r))))) v w' → K (a.put o.dst v) w') : o.wp P a w K Q := by
  have hd : ti.desc = .bool := by unfold isBool at hb; split at hb <;> first | assumption | cases hb
  have hu : P.underlying ty = some .bool := hd ▸ ht.under ty ti hti
  refine op_quiet H (v := .bool r) ?_ (rep_v rfl) hK
  rcases hr with ⟨rfl, rfl⟩ | ⟨rfl, rfl⟩
  · simp only [execOp, ho, hX, hY, eqGuard_at_bool, binOp, Op.equal, Op.maxDepth]
    simp [run_equalIn_bool' w 9999 ty p q hu]
  · simp only [execOp, ho, hX, hY, eqGuard_at_bool, binOp, Op.equal, Op.maxDepth]
    simp [run_equalIn_bool' w 9999 ty p q hu]

theorem run_nilEq {P : Program} (w : World) (d : Nat) (t e : TypeId) (a : Option Addr) (n c : Nat) (h : P.underlying t = some (.slice e)) : (Op.equalIn (d + 1) t (.slice a n c) (.slice none 0 0)).run P w = .ok a.isNone w := by
  simp only [Op.equalIn, Sem.run_bind, run_underlying h, Result.andThen_ok]
  cases a <;> rfl

/-- a slice compared with nil -/
theorem op_nilEq (H : Inv w0 O0 F0 w F h β) (ht : TTok P TT) {ty ty2 : TypeId} {X Y : Operand} (ho : o.op = .binOp .eql ty X Y ty2) (hs : isSlc TT ty = true) {ad : Option Addr} {n cap : Nat}
    (hX : a.eval X = .slice ad n cap) (hY : a.eval Y = .slice none 0 0) (hr : RepX a.tmps w F h β x (.bool ad.isNone))
    (hK : ∀ v w', Out w0 O0 F0 w F h β a.tmps [] x v w' → K (a.put o.dst v) w') : o.wp P a w K Q := by
  obtain ⟨e, hu⟩ : ∃ e, P.underlying ty = some (.slice e) := by
    unfold isSlc at hs
    split at hs
    · rename_i ti hti
      split at hs
      · rename_i e hd; exact ⟨e, hd ▸ ht.under ty ti hti⟩
      · cases hs
    · cases hs
  refine op_quiet H (v := .bool ad.isNone) ?_ hr hK
  simp only [execOp, ho, hX, hY, eqGuard_at_slice, binOp, Op.equal, Op.maxDepth]
  simp [run_nilEq w 9999 ty e ad n cap hu]

theorem op_unOp (H : Inv w0 O0 F0 w F h β) {op : UnOp} {ty : TypeId} {X : Operand} (ho : o.op = .unOp op ty X) {u r : Value} (he : evUn op u = some r) (hX : a.eval X = u)
    (hK : ∀ v w', Out w0 O0 F0 w F h β a.tmps [] (.d (.one (.r (.v r)))) v w' → K (a.put o.dst v) w') : o.wp P a w K Q := by
  have hp : plain r = true := by
    unfold evUn at he; split at he <;> first | (cases he; exact plain_wrap _ _) | (cases he; rfl) | cases he
  refine op_quiet H (v := r) ?_ (rep_v hp) hK
  unfold evUn at he
  split at he
  · cases he; simp [execOp, ho, hX, Op.unary, Op.intArith]
  · cases he; simp [execOp, ho, hX, Op.unary]
  · cases he

theorem op_extract (H : Inv w0 O0 F0 w F h β) {X : Operand} {k : Nat} (ho : o.op = .extract X k) {xs : List D} {d : D} (hd : xs[k]? = some d) (hx : RepX a.tmps w F h β (.tup xs) (a.eval X))
    (hK : ∀ v w', Out w0 O0 F0 w F h β a.tmps [] (.d d) v w' → K (a.put o.dst v) w') : o.wp P a w K Q := by
  obtain ⟨us, hu, hh⟩ := hx
  obtain ⟨y, hy, hr⟩ := hh.get hd
  refine op_quiet H (x := .d d) (v := y) ?_ hr hK
  have hy' : us[k]? = some y := by simpa using hy
  simp [execOp, ho, hu, Instr.extract, hy']

theorem fieldsOf_some {ti : TI} {fs : Array Field} (hf : fieldsOf ti = some fs) : ti.desc = .struct fs := by
  unfold fieldsOf at hf; split at hf
  · rename_i e; cases hf; exact e
  · cases hf

theorem op_field (H : Inv w0 O0 F0 w F h β) (ht : TTok P TT) {s : TypeId} {X : Operand} {k : Nat} (ho : o.op = .field s X k) {ti fi : TI} {fs : Array Field} {f : Field} (hti : TT s = some ti) (hfs : fieldsOf ti = some fs) (hf : fs[k]? = some f)
    (hfi : TT f.type = some fi) {cs : List C} {d : D} (hd : D.mkOf fi ((cs.drop f.offset).take fi.info.size) = some d) (hx : RepX a.tmps w F h β (.d (.agg cs)) (a.eval X))
    (hK : ∀ v w', Out w0 O0 F0 w F h β a.tmps [] (.d d) v w' → K (a.put o.dst v) w') : o.wp P a w K Q := by
  obtain ⟨us, hu, hh⟩ := hx
  obtain ⟨v, hv, hr⟩ := part_sound ht hfi hh hd
  refine op_quiet H (x := .d d) (v := v) ?_ hr hK
  have e := fieldsOf_some hfs
  simp only [execOp, ho, Instr.field, Sem.run_bind, ht.run_under hti, e, Result.andThen_ok, hf, hu, asAgg, Sem.run_pure, hv]

theorem op_fieldAddr (H : Inv w0 O0 F0 w F h β) (ht : TTok P TT) {s : TypeId} {X : Operand} {k : Nat} (ho : o.op = .fieldAddr s X k) {ti fi : TI} {fs : Array Field} {f : Field} (hti : TT s = some ti) (hfs : fieldsOf ti = some fs) (hf : fs[k]? = some f)
    (hfi : TT f.type = some fi) (hpos : 0 < fi.info.size) {b off : Nat} (hu : a.eval X = .pointer (some ⟨b, off, none⟩)) {c : C} (hx : RepC w F h β c (.pointer (some ⟨b, off + f.offset, none⟩)))
    (hK : ∀ v w', Out w0 O0 F0 w F h β a.tmps [] (.d (.one c)) v w' → K (a.put o.dst v) w') : o.wp P a w K Q := by
  refine op_quiet H (x := .d (.one c)) (v := .pointer (some ⟨b, off + f.offset, none⟩)) ?_ hx hK
  have e := fieldsOf_some hfs
  have hz : ¬ fi.info.size = 0 := by omega
  simp only [execOp, ho, Instr.fieldAt, Sem.run_bind, ht.run_under hti, e, Result.andThen_ok, hf, hu, Instr.sureAddr, Sem.run_pure, fieldPlace, ht.run_size hfi, hz, if_false, Addr.add_lit]

theorem ptr_loose {i off : Nat} {u : Value} (hx : RepC w F h β (.ptr i off) u) {ob : Obj} (hi : h i = some (some ob)) :
    ∃ b, β i = .pointer (some ⟨b, 0, none⟩) ∧ u = .pointer (some ⟨b, off, none⟩) := hx.2.2 ob hi

theorem op_index (H : Inv w0 O0 F0 w F h β) (ht : TTok P TT) {ty : TypeId} {ti : TI} {X Y : Operand} (ho : o.op = .index ty X Y) (hti : TT ty = some ti) (hs : isStr ti.desc = true) {s : ByteArray} {k : IntKind} {i : Int}
    (hX : a.eval X = .string s) (hY : a.eval Y = .int k i) (hb : inb i s.data.toList.length = true)
    (hK : ∀ v w', Out w0 O0 F0 w F h β a.tmps [] (.d (.one (.r (.v (.int .u8 (byteAt s.data.toList i)))))) v w' → K (a.put o.dst v) w') : o.wp P a w K Q := by
  have hd : ti.desc = .string := by unfold isStr at hs; split at hs <;> first | assumption | cases hs
  obtain ⟨h0, h1⟩ := inb_iff.1 hb
  have hlt : i.toNat < s.data.toList.length := by omega
  refine op_quiet H (v := .int .u8 (byteAt s.data.toList i)) ?_ (rep_v (plain_u8 _)) hK
  have hget : s[i.toNat]? = some (s.data.toList[i.toNat]) := by
    obtain ⟨⟨l⟩⟩ := s
    rw [getElem?_pos (⟨⟨l⟩⟩ : ByteArray) i.toNat (show i.toNat < (⟨⟨l⟩⟩ : ByteArray).size from hlt)]
    rfl
  have e : byteAt s.data.toList i = ((s.data.toList[i.toNat]).toNat : Int) := by
    simp only [byteAt, List.getD, List.getElem?_eq_getElem hlt, Option.getD_some]
  rw [e]
  simp only [execOp, ho, hX, hY, Instr.index, Sem.run_bind, asIntOf, Sem.run_pure, Result.andThen_ok, ht.run_under hti, hd, h0, if_true, hget]
end
end Go.Proofs.YthhmpjnmmhfngaaDoor.Ev
