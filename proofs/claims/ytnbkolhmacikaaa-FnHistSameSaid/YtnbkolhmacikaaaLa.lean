/-
  The table of the types that these functions use.
-/
import Derived.Test.YtnbkolhmacikaaaProg
import Derived.Test.YtnbkolhmacikaaaEvZ
namespace Go.Proofs.Ytnbkolhmacikaaa.Ev
open Go
abbrev ty3 : Ty := (.int .i64)
abbrev ty4 : Ty := .bool
abbrev ty5 : Ty := (.int .u8)
abbrev ty9 : Ty := .str
abbrev ty22 : Ty := (.list (.struct (.pair (.int .i64) (.pair (.int .i64) .str))))
abbrev ty24 : Ty := (.struct (.pair .str (.pair (.list (.struct (.pair (.int .i64) (.pair (.int .i64) .str)))) (.list (.struct (.pair (.int .i64) (.pair (.int .i64) .str)))))))
abbrev ty27 : Ty := (.list (.struct (.pair (.int .i64) (.pair (.int .i64) .str))))
abbrev ty29 : Ty := (.struct (.pair .str (.pair (.list (.struct (.pair (.int .i64) (.pair (.int .i64) .str)))) (.list (.struct (.pair (.int .i64) (.pair (.int .i64) .str)))))))
abbrev ty32 : Ty := (.list (.int .u8))
abbrev ty36 : Ty := (.struct (.pair (.int .i64) (.pair (.int .i64) .str)))
abbrev ty50 : Ty := (.struct (.pair (.int .i64) (.pair (.int .i64) .str)))
abbrev ty54 : Ty := (.struct (.pair (.list (.int .u8)) (.int .i64)))
abbrev ty58 : Ty := (.list (.int .i64))
abbrev ty67 : Ty := (.list .str)
abbrev ty93 : Ty := (.int .u64)
noncomputable def ttList : List (Nat × TI) := [(3, ⟨Try.t3, Try.t3.desc, [], some ty3⟩),
  (4, ⟨Try.t4, Try.t4.desc, [], some ty4⟩),
  (5, ⟨Try.t5, Try.t5.desc, [], some ty5⟩),
  (9, ⟨Try.t9, Try.t9.desc, [], some ty9⟩),
  (22, ⟨Try.t22, Try.t22.desc, [.v (.int .i64 0), .v (.int .i64 0), .v (.string (mk []))], some ty22⟩),
  (24, ⟨Try.t24, Try.t23.desc, [], some ty24⟩),
  (27, ⟨Try.t27, Try.t27.desc, [.v (.int .i64 0), .v (.int .i64 0), .v (.string (mk []))], some ty27⟩),
  (29, ⟨Try.t29, Try.t28.desc, [], some ty29⟩),
  (32, ⟨Try.t32, Try.t32.desc, [.v (.int .u8 0)], some ty32⟩),
  (36, ⟨Try.t36, Try.t35.desc, [], some ty36⟩),
  (41, ⟨Try.t41, Try.t41.desc, [], none⟩),
  (50, ⟨Try.t50, Try.t35.desc, [], some ty50⟩),
  (54, ⟨Try.t54, Try.t53.desc, [], some ty54⟩),
  (58, ⟨Try.t58, Try.t58.desc, [.v (.int .i64 0)], some ty58⟩),
  (67, ⟨Try.t67, Try.t67.desc, [.v (.string (mk []))], some ty67⟩),
  (93, ⟨Try.t93, Try.t93.desc, [], some ty93⟩)]
noncomputable def tt : Types := look ttList
theorem ttOk : TTok Try.prog tt := TTok.of (l := ttList) ⟨
  ⟨(by kernel_rfl), (by kernel_rfl), fun _ h => (by cases h)⟩,
  ⟨(by kernel_rfl), (by kernel_rfl), fun _ h => (by cases h)⟩,
  ⟨(by kernel_rfl), (by kernel_rfl), fun _ h => (by cases h)⟩,
  ⟨(by kernel_rfl), (by kernel_rfl), fun _ h => (by cases h)⟩,
  ⟨(by kernel_rfl), (by kernel_rfl), fun _ h => (by cases h)⟩,
  ⟨(by kernel_rfl), (by kernel_rfl), fun _ _ => ⟨Try.stoodInHeld24, Try.eqGuardType24⟩⟩,
  ⟨(by kernel_rfl), (by kernel_rfl), fun _ h => (by cases h)⟩,
  ⟨(by kernel_rfl), (by kernel_rfl), fun _ _ => ⟨Try.stoodInHeld29, Try.eqGuardType29⟩⟩,
  ⟨(by kernel_rfl), (by kernel_rfl), fun _ h => (by cases h)⟩,
  ⟨(by kernel_rfl), (by kernel_rfl), fun _ _ => ⟨Try.stoodInHeld36, Try.eqGuardType36⟩⟩,
  ⟨(by kernel_rfl), (by kernel_rfl), fun _ h => (by cases h)⟩,
  ⟨(by kernel_rfl), (by kernel_rfl), fun _ _ => ⟨Try.stoodInHeld50, Try.eqGuardType50⟩⟩,
  ⟨(by kernel_rfl), (by kernel_rfl), fun _ _ => ⟨Try.stoodInHeld54, Try.eqGuardType54⟩⟩,
  ⟨(by kernel_rfl), (by kernel_rfl), fun _ h => (by cases h)⟩,
  ⟨(by kernel_rfl), (by kernel_rfl), fun _ h => (by cases h)⟩,
  ⟨(by kernel_rfl), (by kernel_rfl), fun _ h => (by cases h)⟩,
  trivial⟩


noncomputable def cxOf (Γ : List (Nat × Con)) (size : Nat) (heads ends : List (Nat × List Nat)) (nils : List (Nat × List (Nat × TypeId × Ty))) (loops : List (Nat × (St → Cont → Option Fin))) : Cx := ⟨tt, look Γ, size, heads, ends, [], nils, look loops⟩
theorem mixed : Try.prog.follows .mixedOrders = true := by kernel_rfl
noncomputable def bodyOf (fn : Func) : Code := match fn.body with | some c => c | none => .skip
noncomputable def loopOf (fn : Func) (k : Nat) : Code := match (loopsOf (bodyOf fn))[k]? with | some (_, b) => b | none => .skip
noncomputable def Γ0 : List (Nat × Con) := []
theorem Γ0ok : EnvOk Try.prog (look Γ0) := .nil
abbrev yes : Option Fin := some (.d (ofD .bool true), [])
abbrev no : Option Fin := some (.d (ofD .bool false), [])
end Go.Proofs.Ytnbkolhmacikaaa.Ev
