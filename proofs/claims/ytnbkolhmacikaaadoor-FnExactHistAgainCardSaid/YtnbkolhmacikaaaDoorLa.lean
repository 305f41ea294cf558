/-
  The table of the types that these functions use.
-/
import Derived.Test.YtnbkolhmacikaaaDoorProg
import Derived.Test.YtnbkolhmacikaaaDoorEvZ
namespace Go.Proofs.YtnbkolhmacikaaaDoor.Ev
open Go
abbrev ty3 : Ty := (.int .i64)
abbrev ty4 : Ty := .bool
abbrev ty5 : Ty := (.int .u8)
abbrev ty9 : Ty := .str
abbrev ty22 : Ty := (.list (.struct (.pair (.int .i64) (.pair (.int .i64) .str))))
abbrev ty24 : Ty := (.struct (.pair .str (.pair (.list (.struct (.pair (.int .i64) (.pair (.int .i64) .str)))) (.list (.struct (.pair (.int .i64) (.pair (.int .i64) .str)))))))
abbrev ty29 : Ty := (.list (.struct (.pair (.int .i64) (.pair (.int .i64) .str))))
abbrev ty31 : Ty := (.struct (.pair .str (.pair (.list (.struct (.pair (.int .i64) (.pair (.int .i64) .str)))) (.list (.struct (.pair (.int .i64) (.pair (.int .i64) .str)))))))
abbrev ty37 : Ty := (.list (.int .u8))
abbrev ty43 : Ty := (.struct (.pair (.int .i64) (.pair (.int .i64) .str)))
abbrev ty46 : Ty := (.struct (.pair (.int .i64) (.pair (.int .i64) .str)))
abbrev ty79 : Ty := (.list (.int .i64))
abbrev ty82 : Ty := (.list .str)
abbrev ty87 : Ty := (.struct (.pair (.list (.int .u8)) (.int .i64)))
abbrev ty126 : Ty := (.int .u64)
noncomputable def ttList : List (Nat × TI) := [(3, ⟨Tryd.t3, Tryd.t3.desc, [], some ty3⟩),
  (4, ⟨Tryd.t4, Tryd.t4.desc, [], some ty4⟩),
  (5, ⟨Tryd.t5, Tryd.t5.desc, [], some ty5⟩),
  (9, ⟨Tryd.t9, Tryd.t9.desc, [], some ty9⟩),
  (22, ⟨Tryd.t22, Tryd.t22.desc, [.v (.int .i64 0), .v (.int .i64 0), .v (.string (mk []))], some ty22⟩),
  (24, ⟨Tryd.t24, Tryd.t23.desc, [], some ty24⟩),
  (29, ⟨Tryd.t29, Tryd.t29.desc, [.v (.int .i64 0), .v (.int .i64 0), .v (.string (mk []))], some ty29⟩),
  (31, ⟨Tryd.t31, Tryd.t30.desc, [], some ty31⟩),
  (37, ⟨Tryd.t37, Tryd.t37.desc, [.v (.int .u8 0)], some ty37⟩),
  (43, ⟨Tryd.t43, Tryd.t42.desc, [], some ty43⟩),
  (46, ⟨Tryd.t46, Tryd.t42.desc, [], some ty46⟩),
  (68, ⟨Tryd.t68, Tryd.t68.desc, [], none⟩),
  (79, ⟨Tryd.t79, Tryd.t79.desc, [.v (.int .i64 0)], some ty79⟩),
  (82, ⟨Tryd.t82, Tryd.t82.desc, [.v (.string (mk []))], some ty82⟩),
  (87, ⟨Tryd.t87, Tryd.t86.desc, [], some ty87⟩),
  (90, ⟨Tryd.t90, Tryd.t89.desc, [], none⟩),
  (94, ⟨Tryd.t94, Tryd.t94.desc, [], none⟩),
  (126, ⟨Tryd.t126, Tryd.t126.desc, [], some ty126⟩)]
noncomputable def tt : Types := look ttList
theorem ttOk : TTok Tryd.prog tt := TTok.of (l := ttList) ⟨
  ⟨(by kernel_rfl), (by kernel_rfl), fun _ h => (by cases h)⟩,
  ⟨(by kernel_rfl), (by kernel_rfl), fun _ h => (by cases h)⟩,
  ⟨(by kernel_rfl), (by kernel_rfl), fun _ h => (by cases h)⟩,
  ⟨(by kernel_rfl), (by kernel_rfl), fun _ h => (by cases h)⟩,
  ⟨(by kernel_rfl), (by kernel_rfl), fun _ h => (by cases h)⟩,
  ⟨(by kernel_rfl), (by kernel_rfl), fun _ _ => ⟨Tryd.stoodInHeld24, Tryd.eqGuardType24⟩⟩,
  ⟨(by kernel_rfl), (by kernel_rfl), fun _ h => (by cases h)⟩,
  ⟨(by kernel_rfl), (by kernel_rfl), fun _ _ => ⟨Tryd.stoodInHeld31, Tryd.eqGuardType31⟩⟩,
  ⟨(by kernel_rfl), (by kernel_rfl), fun _ h => (by cases h)⟩,
  ⟨(by kernel_rfl), (by kernel_rfl), fun _ _ => ⟨Tryd.stoodInHeld43, Tryd.eqGuardType43⟩⟩,
  ⟨(by kernel_rfl), (by kernel_rfl), fun _ _ => ⟨Tryd.stoodInHeld46, Tryd.eqGuardType46⟩⟩,
  ⟨(by kernel_rfl), (by kernel_rfl), fun _ h => (by cases h)⟩,
  ⟨(by kernel_rfl), (by kernel_rfl), fun _ h => (by cases h)⟩,
  ⟨(by kernel_rfl), (by kernel_rfl), fun _ h => (by cases h)⟩,
  ⟨(by kernel_rfl), (by kernel_rfl), fun _ _ => ⟨Tryd.stoodInHeld87, Tryd.eqGuardType87⟩⟩,
  ⟨(by kernel_rfl), (by kernel_rfl), fun _ h => (by cases h)⟩,
  ⟨(by kernel_rfl), (by kernel_rfl), fun _ h => (by cases h)⟩,
  ⟨(by kernel_rfl), (by kernel_rfl), fun _ h => (by cases h)⟩,
  trivial⟩


noncomputable def cxOf (Γ : List (Nat × Con)) (size : Nat) (heads ends : List (Nat × List Nat)) (nils : List (Nat × List (Nat × TypeId × Ty))) (loops : List (Nat × (St → Cont → Option Fin))) : Cx := ⟨tt, look Γ, size, heads, ends, [], nils, look loops⟩
theorem mixed : Tryd.prog.follows .mixedOrders = true := by kernel_rfl
noncomputable def bodyOf (fn : Func) : Code := match fn.body with | some c => c | none => .skip
noncomputable def loopOf (fn : Func) (k : Nat) : Code := match (loopsOf (bodyOf fn))[k]? with | some (_, b) => b | none => .skip
noncomputable def Γ0 : List (Nat × Con) := []
theorem Γ0ok : EnvOk Tryd.prog (look Γ0) := .nil
abbrev yes : Option Fin := some (.d (ofD .bool true), [])
abbrev no : Option Fin := some (.d (ofD .bool false), [])
end Go.Proofs.YtnbkolhmacikaaaDoor.Ev
