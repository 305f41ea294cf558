/-
  More operations that turn no memory.
-/
import Derived.Test.YthhmpjnmmhfngaaDoorEvE
namespace Go.Proofs.YthhmpjnmmhfngaaDoor.Ev
open Go

section
variable {P : Program} {TT : Types} {w0 w : World} {O0 F0 F : Nat → Prop} {h : HF} {β : Nat → Value} {a : Act} {o : Oper} {K : Act → World → Prop} {Q : Exit → Act → World → Prop} {x : T} {v : Value}

theorem run_indexAt_in (ht : TTok P TT) {ty e : TypeId} {ti ei : TI} (hti : TT ty = some ti) (hd : ti.desc = .slice e) (hei : TT e = some ei) {b off n cap : Nat} {k : IntKind} {i : Int} (h0 : 0 ≤ i) (h1 : i < (n : Int)) (w : World) :
    (Instr.indexAt ty (.slice (some ⟨b, off, none⟩) n cap) (.int k i)).run P w = .ok (.pointer (some ⟨b, off + i.toNat * ei.info.size, none⟩)) w := by
  simp only [Instr.indexAt, Sem.run_bind, asIntOf, Sem.run_pure, Result.andThen_ok, ht.run_under hti, hd, h0, h1, and_self, if_true, ht.run_size hei, Addr.add_lit]

theorem op_indexAddr_ro (H : Inv w0 O0 F0 w F h β) (ht : TTok P TT) {ty e : TypeId} {ti ei : TI} {X Y : Operand} (ho : o.op = .indexAddr ty X Y) (hti : TT ty = some ti) (hd : ti.desc = .slice e) (hei : TT e = some ei)
    {sz n : Nat} {get : Nat → Nat → R} (hsz : ei.info.size = sz) (hx : RepX a.tmps w F h β (.d (.one (.r (.sl sz n get)))) (a.eval X)) {k : IntKind} {i : Int} (hY : a.eval Y = .int k i) (hb : inb i n = true)
    (hK : ∀ v w', Out w0 O0 F0 w F h β a.tmps [] (.d (.one (.r (.rop sz (get i.toNat))))) v w' → K (a.put o.dst v) w') : o.wp P a w K Q := by
  obtain ⟨h0, h1⟩ := inb_iff.1 hb
  obtain ⟨ad, cap, hu, hnc, hcm, hh⟩ := hx
  rcases hh with hh | ⟨b, off, rfl, hf, hh⟩
  · omega
  · refine op_quiet H (x := .d (.one (.r (.rop sz (get i.toNat))))) (v := .pointer (some ⟨b, off + i.toNat * ei.info.size, none⟩)) ?_ ⟨b, _, rfl, hf, fun j hj => ?_⟩ hK
    · simp only [execOp, ho, hu, hY, Sem.run_bind, run_indexAt_in ht hti hd hei h0 h1 w, Result.andThen_ok, Sem.run_pure]
    · rw [hsz, Nat.add_assoc]; exact hh i.toNat (by omega) j hj

theorem op_indexAddr_own (H : Inv w0 O0 F0 w F h β) (ht : TTok P TT) {ty e : TypeId} {ti ei : TI} {X Y : Operand} (ho : o.op = .indexAddr ty X Y) (hti : TT ty = some ti) (hd : ti.desc = .slice e) (hei : TT e = some ei)
    {id sz n : Nat} {t : TypeId} {get : Nat → Nat → R} (hsz : ei.info.size = sz) (hid : h id = some (some (.arr t sz n get))) (hx : RepX a.tmps w F h β (.d (.one (.own id))) (a.eval X)) {k : IntKind} {i : Int} (hY : a.eval Y = .int k i) (hb : inb i n = true)
    (hK : ∀ v w', Out w0 O0 F0 w F h β a.tmps [] (.d (.one (.eptr id sz i.toNat 0))) v w' → K (a.put o.dst v) w') : o.wp P a w K Q := by
  obtain ⟨h0, h1⟩ := inb_iff.1 hb
  have hu := hx.2.2 _ hid
  rcases H.obj _ _ hid with ⟨ad, h2, h3⟩ | ⟨b, cap, cur, h2, h3, h4, h5, h6, h7, h8⟩
  · omega
  · refine op_quiet H (x := .d (.one (.eptr id sz i.toNat 0))) (v := .pointer (some ⟨b, 0 + i.toNat * ei.info.size, none⟩)) ?_ ⟨rfl, ⟨_, hid⟩, fun ob _ => ⟨b, n, cap, h2, by omega, ?_⟩⟩ hK
    · simp only [execOp, ho, hu, h2, hY, Sem.run_bind, run_indexAt_in ht hti hd hei h0 h1 w, Result.andThen_ok, Sem.run_pure]
    · rw [hsz]; simp

theorem run_indexAt_arr (ht : TTok P TT) {ty e : TypeId} {ti ei : TI} {n : Nat} (hti : TT ty = some ti) (hd : ti.desc = .array n e) (hei : TT e = some ei) {b off : Nat} {k : IntKind} {i : Int} (h0 : 0 ≤ i) (h1 : i < (n : Int)) (w : World) :
    (Instr.indexAt ty (.pointer (some ⟨b, off, none⟩)) (.int k i)).run P w = .ok (.pointer (some ⟨b, off + i.toNat * ei.info.size, none⟩)) w := by
  simp only [Instr.indexAt, Sem.run_bind, asIntOf, Sem.run_pure, Result.andThen_ok, ht.run_under hti, hd, Instr.sureAddr, h0, h1, and_self, if_true, ht.run_size hei, Addr.add_lit]

theorem op_arr (H : Inv w0 O0 F0 w F h β) (ht : TTok P TT) {hh : Nat → Option Obj} (hhh : ∀ i ob, hh i = some ob → h i = some (some ob)) {ty : TypeId} {X Y : Operand} (ho : o.op = .indexAddr ty X Y)
    {cc : C} {k : IntKind} {i : Int} {c : Option Bool} {ups : Ups} (he : evArr TT ty cc i hh = some (c, x, ups)) (hc : c = none ∨ c = some true) (hx : RepC w F h β cc (a.eval X)) (hY : a.eval Y = .int k i)
    (hK : ∀ v w', Out w0 O0 F0 w F h β a.tmps ups x v w' → K (a.put o.dst v) w') : o.wp P a w K Q := by
  unfold evArr at he
  split at he
  · rename_i n es hty
    simp only [Option.bind_eq_some_iff] at hty
    obtain ⟨ti, hti, hty⟩ := hty
    split at hty
    · rename_i n' e hd
      simp only [Option.map_eq_some_iff, Prod.mk.injEq] at hty
      obtain ⟨ei, hei, rfl, rfl⟩ := hty
      split at he
      · rename_i m get
        split at he
        · rename_i hle
          cases he
          simp only [reduceCtorEq, Option.some.injEq, false_or] at hc
          obtain ⟨h0, h1⟩ := inb_iff.1 hc
          have hle : n' * ei.info.size ≤ m := Nat.le_of_ble_eq_true hle
          obtain ⟨b, off, hu, hf, hcell⟩ := hx
          have hi2 : i.toNat * ei.info.size + ei.info.size ≤ n' * ei.info.size := by
            have : i.toNat + 1 ≤ n' := by omega
            calc i.toNat * ei.info.size + ei.info.size = (i.toNat + 1) * ei.info.size := by rw [Nat.add_mul, Nat.one_mul]
              _ ≤ n' * ei.info.size := Nat.mul_le_mul_right _ this
          refine op_quiet H (x := .d (.one (.r (.rop ei.info.size fun j => get (i.toNat * ei.info.size + j))))) (v := .pointer (some ⟨b, off + i.toNat * ei.info.size, none⟩)) ?_ ⟨b, _, rfl, hf, fun j hj => ?_⟩ hK
          · simp only [execOp, ho, hu, hY, Sem.run_bind, run_indexAt_arr ht hti hd hei h0 h1 w, Result.andThen_ok, Sem.run_pure]
          · rw [Nat.add_assoc]; exact hcell _ (by omega)
        · cases he
      · rename_i id off
        split at he
        · rename_i cs hid
          split at he
          · cases he
            simp only [reduceCtorEq, Option.some.injEq, false_or] at hc
            obtain ⟨h0, h1⟩ := inb_iff.1 hc
            have hid' := hhh _ _ hid
            obtain ⟨b, e1, e2⟩ := hx.2.2 _ hid'
            refine op_quiet H (x := .d (.one (.ptr id (off + i.toNat * ei.info.size)))) (v := .pointer (some ⟨b, off + i.toNat * ei.info.size, none⟩)) ?_ ⟨rfl, ⟨_, hid'⟩, fun ob _ => ⟨b, e1, rfl⟩⟩ hK
            simp only [execOp, ho, e2, hY, Sem.run_bind, run_indexAt_arr ht hti hd hei h0 h1 w, Result.andThen_ok, Sem.run_pure]
          · cases he
        · cases he
      · cases he
    · cases hty
  · cases he

theorem op_load (H : Inv w0 O0 F0 w F h β) (ht : TTok P TT) {hh : Nat → Option Obj} (hhh : ∀ i ob, hh i = some ob → h i = some (some ob)) {ty : TypeId} {ti : TI} {X : Operand} (ho : o.op = .load ty X) (hti : TT ty = some ti)
    {c : C} {cs : List C} {d : D} (hcs : cellsAt hh ti.info.size c = some cs) (hd : D.mkOf ti cs = some d) (hx : RepC w F h β c (a.eval X))
    (hK : ∀ v w', Out w0 O0 F0 w F h β a.tmps [] (.d d) v w' → K (a.put o.dst v) w') : o.wp P a w K Q := by
  obtain ⟨b, off, us, hu, hl, hat, hc⟩ := cellsAt_sound H hhh hx hcs
  obtain ⟨v, hv, hr⟩ := load_sound ht hti hc hl hat hd
  refine op_quiet H (x := .d d) (v := v) ?_ hr hK
  simp only [execOp, ho, hu, Instr.loadAt, Instr.sureAddr, Sem.run_bind, Sem.run_pure, Result.andThen_ok, hv]

/-! ### equality of structs -/
theorem eqCell_sound (d : Nat) {t : TypeId} {ti : TI} (hu : P.underlying t = some ti.desc) {x y : C} {u1 u2 : Value} {b : Bool} (he : eqCell ti.desc x y = some b) (hx : RepC w F h β x u1) (hy : RepC w F h β y u2) :
    (Op.equalIn (d + 1) t u1 u2).run P w = .ok b w := by
  unfold eqCell at he
  split at he
  · rename_i hd
    obtain ⟨rfl, _⟩ := hx
    obtain ⟨rfl, _⟩ := hy
    split at he
    · rename_i hk
      cases he
      have hk : _ = _ := of_decide_eq_true hk
      subst hk
      rw [hd] at hu
      rw [run_equalIn_int w d t _ _ _ _ hu]
      rfl
    · cases he
  · rename_i hd
    obtain ⟨rfl, _⟩ := hx
    obtain ⟨rfl, _⟩ := hy
    cases he
    rw [hd] at hu
    rw [run_equalIn_string w d t _ _ hu, run_seq_eq]
  · rename_i hd
    obtain ⟨rfl, _⟩ := hx
    obtain ⟨rfl, _⟩ := hy
    cases he
    rw [hd] at hu
    rw [run_equalIn_bool' w d t _ _ hu]
  · cases he

theorem eqCell_plain {ds : TypeDesc} {x y : C} {b : Bool} (he : eqCell ds x y = some b) : aggDesc ds = false := by
  unfold eqCell at he
  split at he <;> first | rfl | cases he

theorem eqFields_sound (ht : TTok P TT) (d : Nat) {us1 us2 : Array Value} {xs ys : List C} (hx : All2 (RepC w F h β) xs us1.toList) (hy : All2 (RepC w F h β) ys us2.toList) :
    ∀ (fs : List Field) (k : Nat) {ts : List TypeDesc} {b : Bool}, (∀ f ∈ fs, f.name ≠ "_") → descs TT fs k = some ts → eqCells ts (xs.drop k) (ys.drop k) = some b →
      (Op.eqFields (d + 1) us1 us2 fs).run P w = .ok b w
  | [], k, ts, b, _, hd, he => by
    simp [descs] at hd
    subst hd
    have : b = true := by
      unfold eqCells at he
      split at he <;> first | (cases he; rfl) | cases he | skip
      all_goals simp_all
    subst this
    rfl
  | f :: fs, k, ts, b, hn, hd, he => by
    simp only [descs] at hd
    split at hd
    · rename_i ti r e1 e2 e3
      split at hd
      · rename_i e4
        cases hd
        have e3 := Nat.eq_of_beq_eq_true e3
        have e4 := Nat.eq_of_beq_eq_true e4
        cases hxk : xs.drop k with
        | nil => rw [hxk] at he; simp [eqCells] at he
        | cons x xr =>
          cases hyk : ys.drop k with
          | nil => rw [hxk, hyk] at he; simp [eqCells] at he
          | cons y yr =>
            rw [hxk, hyk] at he
            simp only [eqCells] at he
            split at he
            · rename_i b1 b2 e5 e6
              cases he
              have hxd : xs.drop (k + 1) = xr := by rw [← List.drop_drop, hxk]; rfl
              have hyd : ys.drop (k + 1) = yr := by rw [← List.drop_drop, hyk]; rfl
              have ih := eqFields_sound ht d hx hy fs (k + 1) (b := b2) (fun f hf => hn f (List.mem_cons_of_mem _ hf)) e2 (by rw [hxd, hyd]; exact e6)
              have hag : aggDesc ti.desc = false := eqCell_plain e5
              have gx : xs[k]? = some x := by have := congrArg (·[0]?) hxk; simpa [List.getElem?_drop] using this
              have gy : ys[k]? = some y := by have := congrArg (·[0]?) hyk; simpa [List.getElem?_drop] using this
              obtain ⟨u1, hu1, r1⟩ := hx.get gx
              obtain ⟨u2, hu2, r2⟩ := hy.get gy
              have hu1' : us1[k]? = some u1 := by simpa using hu1
              have hu2' : us2[k]? = some u2 := by simpa using hu2
              have hp1 : (part f.type us1 f.offset).run P w = .ok u1 w := by
                simp only [part, Sem.run_bind, ht.run_agg e1, hag, Result.andThen_ok, Bool.false_eq_true, if_false, e3, hu1', Sem.run_pure]
              have hp2 : (part f.type us2 f.offset).run P w = .ok u2 w := by
                simp only [part, Sem.run_bind, ht.run_agg e1, hag, Result.andThen_ok, Bool.false_eq_true, if_false, e3, hu2', Sem.run_pure]
              have heq := eqCell_sound (P := P) d (ht.under f.type ti e1) e5 r1 r2
              simp only [Op.eqFields, ne_eq, hn f (List.mem_cons_self ..), not_false_eq_true, if_true, Sem.run_bind, hp1, hp2, heq, Result.andThen_ok]
              cases b1
              · simp
              · simp [ih]
            · cases he
      · cases hd
    · cases hd

theorem op_structEq (H : Inv w0 O0 F0 w F h β) (ht : TTok P TT) {op : BinOp} {ty ty2 : TypeId} {ti : TI} {X Y : Operand} (ho : o.op = .binOp op ty X Y ty2) (hti : TT ty = some ti) {fs : Array Field} (hfs : fieldsOf ti = some fs)
    (hn : fs.toList.all (fun f => f.name != "_") = true) {ts : List TypeDesc} (hds : descs TT fs.toList 0 = some ts) {xs ys : List C} {b r : Bool} (he : eqCells ts xs ys = some b) (hx : RepX a.tmps w F h β (.d (.agg xs)) (a.eval X)) (hy : RepX a.tmps w F h β (.d (.agg ys)) (a.eval Y))
    (hr : (op = .eql ∧ r = b) ∨ (op = .neq ∧ r = !b))
    (hK : ∀ v w', Out w0 O0 F0 w F h β a.tmps [] (.d (.one (.r (.v (.bool r))))) v w' → K (a.put o.dst v) w') : o.wp P a w K Q := by
  obtain ⟨us1, hu1, h1⟩ := hx
  obtain ⟨us2, hu2, h2⟩ := hy
  have hd := fieldsOf_some hfs
  obtain ⟨hheld, hguard⟩ := ht.held ty ti fs hti hd
  have hu : P.underlying ty = some (.struct fs) := by rw [ht.under ty ti hti, hd]
  have hfo : P.fieldsOf ty = fs := by simp [Program.fieldsOf, hu]
  have heq := eqFields_sound (P := P) ht 9998 h1 h2 fs.toList 0 (fun f hf => by have := List.all_eq_true.1 hn f hf; simpa using this) hds (by simpa using he)
  have hrun : (Op.equalIn 10000 ty (.agg us1) (.agg us2)).run P w = .ok b w := by
    rw [run_equalIn_struct w 9999 ty us1 us2 (by rw [hfo]; exact hu) hheld, hfo]
    exact heq
  refine op_quiet H (v := .bool r) ?_ (rep_v rfl) hK
  rcases hr with ⟨rfl, rfl⟩ | ⟨rfl, rfl⟩
  · simp only [execOp, ho, hu1, hu2, Sem.run_bind, run_eqGuard_agg w _ ty X Y us1 us2 hguard, Result.andThen_ok, run_eql_struct, hrun, Sem.run_pure]
  · simp only [execOp, ho, hu1, hu2, Sem.run_bind, run_eqGuard_agg w _ ty X Y us1 us2 hguard, Result.andThen_ok, run_neq_struct, hrun, Sem.run_pure]

/-! ### builtins that only read -/
theorem op_builtin {b : Builtin} {args : Array Operand} {ats : Array TypeId} (ho : o.op = .call { callee := .builtin b, args := args, argTypes := ats }) {v : Value} {w' : World} {f : Sem Value}
    (hb : ∀ cs, builtin b ats o.type cs (args.map a.eval) = (do pure (.value (← f)))) (hf : f.run P w = .ok v w') : (execOp a.eval o).run P w = .ok (.value v) w' := by
  simp only [execOp, ho, resolve, Sem.run_bind, Sem.run_pure, Result.andThen_ok, invoke, hb, hf]

theorem sliceLen_sound (H : Inv w0 O0 F0 w F h β) {hh : Nat → Option Obj} (hhh : ∀ i ob, hh i = some ob → h i = some (some ob)) {c : C} {n : Nat} {u : Value}
    (hs : sliceLen hh c = some n) (hc : RepC w F h β c u) : ∃ ad cap, u = .slice ad n cap ∧ n ≤ 9223372036854775807 := by
  unfold sliceLen at hs
  split at hs
  · cases hs
    obtain ⟨ad, cap, rfl, g1, g2, _⟩ := hc
    exact ⟨ad, cap, rfl, by simp only [maxLen] at g2; omega⟩
  · cases hs; obtain ⟨rfl, _⟩ := hc; exact ⟨none, 0, rfl, by omega⟩
  · split at hs
    · rename_i hi
      cases hs
      have hi' := hhh _ _ hi
      rw [hc.2.2 _ hi']
      rcases H.obj _ _ hi' with ⟨ad, h2, h3⟩ | ⟨b, cap, cur, h2, h3, _, g1, g2, _⟩
      · exact ⟨ad, 0, by rw [h2, h3], by omega⟩
      · exact ⟨_, cap, h2, by simp only [maxLen] at g2; omega⟩
    · cases hs
  · cases hs

theorem evLen_plain (H : Inv w0 O0 F0 w F h β) {hh : Nat → Option Obj} (hhh : ∀ i ob, hh i = some ob → h i = some (some ob)) {d : TypeDesc} {x : T} {tm : Array Value} {u : Value} {n : Int} (hl : evLen hh d x = some n) (hx : RepX tm w F h β x u) : plain (.int .i64 n) = true := by
  unfold evLen at hl
  split at hl
  · cases hl
    have h2 := hx.2
    simp only [plain, Nat.ble_eq] at h2
    exact plain_i64 (by omega) (by omega)
  · split at hl
    · rename_i hs
      cases hl
      obtain ⟨ad, cap, _, h2⟩ := sliceLen_sound H hhh hs hx
      exact plain_i64 (by omega) (by omega)
    · cases hl
  · cases hl

theorem op_len' (H : Inv w0 O0 F0 w F h β) (ht : TTok P TT) {hh : Nat → Option Obj} (hhh : ∀ i ob, hh i = some ob → h i = some (some ob)) {X : Operand} {t : TypeId} {ts : List TypeId} {ti : TI} (ho : o.op = .call { callee := .builtin .len, args := #[X], argTypes := (t :: ts).toArray }) (hti : TT t = some ti)
    {n : Int} (hl : evLen hh ti.desc x = some n) (hx : RepX a.tmps w F h β x (a.eval X))
    (hK : ∀ v w', Out w0 O0 F0 w F h β a.tmps [] (.d (.one (.r (.v (.int .i64 n))))) v w' → K (a.put o.dst v) w') : o.wp P a w K Q := by
  refine op_quiet H (v := .int .i64 n) ?_ (rep_v (evLen_plain H hhh hl hx)) hK
  refine op_builtin ho (f := Builtin.len_ (t :: ts).toArray o.type #[a.eval X]) (by simp [builtin]) ?_
  unfold evLen at hl
  split at hl
  · rename_i s hd
    cases hl
    have hu : a.eval X = .string s := hx.1
    simp only [Builtin.len_, hu, Sem.run_bind, List.getElem?_toArray, List.getElem?_cons_zero, ht.run_under hti, hd, Result.andThen_ok, Sem.run_pure, goInt, size_list]
  · rename_i c e hd
    split at hl
    · rename_i hs
      cases hl
      obtain ⟨ad, cap, hu, _⟩ := sliceLen_sound H hhh hs hx
      simp [Builtin.len_, hu, ht.run_under hti, hd, goInt]
    · cases hl
  · cases hl
end
end Go.Proofs.YthhmpjnmmhfngaaDoor.Ev
