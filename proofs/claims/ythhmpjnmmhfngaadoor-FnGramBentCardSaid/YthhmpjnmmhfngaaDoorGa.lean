/-
  The table of the types that these functions use.
-/
import Derived.Test.YthhmpjnmmhfngaaDoorProg
import Derived.Test.YthhmpjnmmhfngaaDoorEvZ
namespace Go.Proofs.YthhmpjnmmhfngaaDoor.Ev
open Go
abbrev ty3 : Ty := (.int .i64)
abbrev ty4 : Ty := .bool
abbrev ty5 : Ty := (.int .u8)
abbrev ty9 : Ty := .str
abbrev ty21 : Ty := (.int .i32)
abbrev ty22 : Ty := (.list (.int .u8))
abbrev ty23 : Ty := (.list (.struct (.pair .str .str)))
abbrev ty25 : Ty := (.struct (.pair .str (.list (.struct (.pair .str .str)))))
abbrev ty30 : Ty := (.list (.int .i64))
abbrev ty39 : Ty := (.struct (.pair .str .str))
abbrev ty40 : Ty := (.list .bool)
abbrev ty41 : Ty := (.list (.list (.int .i64)))
abbrev ty43 : Ty := (.struct (.pair (.int .i64) (.pair (.list .bool) (.list (.list (.int .i64))))))
abbrev ty54 : Ty := (.list (.struct (.pair .str (.pair (.int .i64) (.int .i64)))))
abbrev ty58 : Ty := (.struct (.pair (.int .i64) (.pair (.int .i64) .str)))
abbrev ty61 : Ty := (.list (.struct (.pair (.int .i64) (.pair (.int .i64) .str))))
abbrev ty67 : Ty := (.struct (.pair .str (.pair (.int .i64) (.int .i64))))
abbrev ty71 : Ty := (.list .str)
abbrev ty74 : Ty := (.list (.struct (.pair .str .str)))
abbrev ty76 : Ty := (.struct (.pair .str (.list (.struct (.pair .str .str)))))
abbrev ty80 : Ty := (.list .tree)
abbrev ty82 : Ty := .tree
abbrev ty91 : Ty := (.ref (.struct (.pair (.list (.int .u8)) (.int .i64))))
abbrev ty122 : Ty := (.ref (.struct (.pair (.struct (.pair (.int .i64) (.pair (.list .bool) (.list (.list (.int .i64)))))) (.map (.struct (.pair .str (.pair (.int .i64) (.int .i64)))) (.int .i64)))))
abbrev ty130 : Ty := (.ref (.struct (.pair (.struct (.pair .str (.list (.struct (.pair .str .str))))) (.pair .str (.map (.struct (.pair .str (.pair (.int .i64) (.int .i64)))) .bool)))))
abbrev ty134 : Ty := (.list (.list (.list .bool)))
abbrev ty136 : Ty := (.list (.list .bool))
abbrev ty148 : Ty := (.ref (.int .i64))
abbrev ty156 : Ty := (.struct (.pair (.list (.int .u8)) (.int .i64)))
abbrev ty175 : Ty := (.map (.struct (.pair .str (.pair (.int .i64) (.int .i64)))) (.int .i64))
abbrev ty177 : Ty := (.struct (.pair (.struct (.pair (.int .i64) (.pair (.list .bool) (.list (.list (.int .i64)))))) (.map (.struct (.pair .str (.pair (.int .i64) (.int .i64)))) (.int .i64))))
abbrev ty181 : Ty := (.ref (.struct (.pair (.struct (.pair .str (.list (.struct (.pair .str .str))))) (.pair .str (.map (.struct (.pair .str (.pair (.int .i64) (.int .i64)))) (.int .i64))))))
abbrev ty183 : Ty := (.struct (.pair (.struct (.pair .str (.list (.struct (.pair .str .str))))) (.pair .str (.map (.struct (.pair .str (.pair (.int .i64) (.int .i64)))) (.int .i64)))))
abbrev ty184 : Ty := (.map (.struct (.pair .str (.pair (.int .i64) (.int .i64)))) .bool)
abbrev ty186 : Ty := (.struct (.pair (.struct (.pair .str (.list (.struct (.pair .str .str))))) (.pair .str (.map (.struct (.pair .str (.pair (.int .i64) (.int .i64)))) .bool))))
abbrev ty191 : Ty := (.struct (.pair .str .str))
abbrev ty211 : Ty := (.int .u64)
noncomputable def ttList : List (Nat × TI) := [(3, ⟨Tryd.t3, Tryd.t3.desc, [], some ty3⟩),
  (4, ⟨Tryd.t4, Tryd.t4.desc, [], some ty4⟩),
  (5, ⟨Tryd.t5, Tryd.t5.desc, [], some ty5⟩),
  (9, ⟨Tryd.t9, Tryd.t9.desc, [], some ty9⟩),
  (21, ⟨Tryd.t21, Tryd.t21.desc, [], some ty21⟩),
  (22, ⟨Tryd.t22, Tryd.t22.desc, [.v (.int .u8 0)], some ty22⟩),
  (23, ⟨Tryd.t23, Tryd.t23.desc, [.v (.string (mk [])), .v (.string (mk []))], some ty23⟩),
  (25, ⟨Tryd.t25, Tryd.t24.desc, [], some ty25⟩),
  (30, ⟨Tryd.t30, Tryd.t30.desc, [.v (.int .i64 0)], some ty30⟩),
  (39, ⟨Tryd.t39, Tryd.t38.desc, [], some ty39⟩),
  (40, ⟨Tryd.t40, Tryd.t40.desc, [.v (.bool false)], some ty40⟩),
  (41, ⟨Tryd.t41, Tryd.t41.desc, [], some ty41⟩),
  (43, ⟨Tryd.t43, Tryd.t42.desc, [], some ty43⟩),
  (54, ⟨Tryd.t54, Tryd.t54.desc, [.v (.string (mk [])), .v (.int .i64 0), .v (.int .i64 0)], some ty54⟩),
  (58, ⟨Tryd.t58, Tryd.t57.desc, [], some ty58⟩),
  (61, ⟨Tryd.t61, Tryd.t61.desc, [.v (.int .i64 0), .v (.int .i64 0), .v (.string (mk []))], some ty61⟩),
  (67, ⟨Tryd.t67, Tryd.t66.desc, [], some ty67⟩),
  (71, ⟨Tryd.t71, Tryd.t71.desc, [.v (.string (mk []))], some ty71⟩),
  (74, ⟨Tryd.t74, Tryd.t74.desc, [.v (.string (mk [])), .v (.string (mk []))], some ty74⟩),
  (76, ⟨Tryd.t76, Tryd.t75.desc, [], some ty76⟩),
  (80, ⟨Tryd.t80, Tryd.t80.desc, [], some ty80⟩),
  (82, ⟨Tryd.t82, Tryd.t81.desc, [], some ty82⟩),
  (91, ⟨Tryd.t91, Tryd.t91.desc, [], some ty91⟩),
  (115, ⟨Tryd.t115, Tryd.t115.desc, [], none⟩),
  (116, ⟨Tryd.t116, Tryd.t116.desc, [.v (.int .i64 0), .v (.int .i64 0)], none⟩),
  (122, ⟨Tryd.t122, Tryd.t122.desc, [], some ty122⟩),
  (130, ⟨Tryd.t130, Tryd.t130.desc, [], some ty130⟩),
  (134, ⟨Tryd.t134, Tryd.t134.desc, [], some ty134⟩),
  (136, ⟨Tryd.t136, Tryd.t136.desc, [], some ty136⟩),
  (148, ⟨Tryd.t148, Tryd.t148.desc, [], some ty148⟩),
  (156, ⟨Tryd.t156, Tryd.t155.desc, [], some ty156⟩),
  (175, ⟨Tryd.t175, Tryd.t175.desc, [], some ty175⟩),
  (177, ⟨Tryd.t177, Tryd.t176.desc, [], some ty177⟩),
  (181, ⟨Tryd.t181, Tryd.t181.desc, [], some ty181⟩),
  (183, ⟨Tryd.t183, Tryd.t182.desc, [], some ty183⟩),
  (184, ⟨Tryd.t184, Tryd.t184.desc, [], some ty184⟩),
  (186, ⟨Tryd.t186, Tryd.t185.desc, [], some ty186⟩),
  (191, ⟨Tryd.t191, Tryd.t38.desc, [], some ty191⟩),
  (198, ⟨Tryd.t198, Tryd.t197.desc, [], none⟩),
  (202, ⟨Tryd.t202, Tryd.t202.desc, [], none⟩),
  (211, ⟨Tryd.t211, Tryd.t211.desc, [], some ty211⟩)]
noncomputable def tt : Types := look ttList
theorem ttOk : TTok Tryd.prog tt := TTok.of (l := ttList) ⟨
  ⟨(by kernel_rfl), (by kernel_rfl), fun _ h => (by cases h)⟩,
  ⟨(by kernel_rfl), (by kernel_rfl), fun _ h => (by cases h)⟩,
  ⟨(by kernel_rfl), (by kernel_rfl), fun _ h => (by cases h)⟩,
  ⟨(by kernel_rfl), (by kernel_rfl), fun _ h => (by cases h)⟩,
  ⟨(by kernel_rfl), (by kernel_rfl), fun _ h => (by cases h)⟩,
  ⟨(by kernel_rfl), (by kernel_rfl), fun _ h => (by cases h)⟩,
  ⟨(by kernel_rfl), (by kernel_rfl), fun _ h => (by cases h)⟩,
  ⟨(by kernel_rfl), (by kernel_rfl), fun _ _ => ⟨Tryd.stoodInHeld25, Tryd.eqGuardType25⟩⟩,
  ⟨(by kernel_rfl), (by kernel_rfl), fun _ h => (by cases h)⟩,
  ⟨(by kernel_rfl), (by kernel_rfl), fun _ _ => ⟨Tryd.stoodInHeld39, Tryd.eqGuardType39⟩⟩,
  ⟨(by kernel_rfl), (by kernel_rfl), fun _ h => (by cases h)⟩,
  ⟨(by kernel_rfl), (by kernel_rfl), fun _ h => (by cases h)⟩,
  ⟨(by kernel_rfl), (by kernel_rfl), fun _ _ => ⟨Tryd.stoodInHeld43, Tryd.eqGuardType43⟩⟩,
  ⟨(by kernel_rfl), (by kernel_rfl), fun _ h => (by cases h)⟩,
  ⟨(by kernel_rfl), (by kernel_rfl), fun _ _ => ⟨Tryd.stoodInHeld58, Tryd.eqGuardType58⟩⟩,
  ⟨(by kernel_rfl), (by kernel_rfl), fun _ h => (by cases h)⟩,
  ⟨(by kernel_rfl), (by kernel_rfl), fun _ _ => ⟨Tryd.stoodInHeld67, Tryd.eqGuardType67⟩⟩,
  ⟨(by kernel_rfl), (by kernel_rfl), fun _ h => (by cases h)⟩,
  ⟨(by kernel_rfl), (by kernel_rfl), fun _ h => (by cases h)⟩,
  ⟨(by kernel_rfl), (by kernel_rfl), fun _ _ => ⟨Tryd.stoodInHeld76, Tryd.eqGuardType76⟩⟩,
  ⟨(by kernel_rfl), (by kernel_rfl), fun _ h => (by cases h)⟩,
  ⟨(by kernel_rfl), (by kernel_rfl), fun _ _ => ⟨Tryd.stoodInHeld82, Tryd.eqGuardType82⟩⟩,
  ⟨(by kernel_rfl), (by kernel_rfl), fun _ h => (by cases h)⟩,
  ⟨(by kernel_rfl), (by kernel_rfl), fun _ h => (by cases h)⟩,
  ⟨(by kernel_rfl), (by kernel_rfl), fun _ h => (by cases h)⟩,
  ⟨(by kernel_rfl), (by kernel_rfl), fun _ h => (by cases h)⟩,
  ⟨(by kernel_rfl), (by kernel_rfl), fun _ h => (by cases h)⟩,
  ⟨(by kernel_rfl), (by kernel_rfl), fun _ h => (by cases h)⟩,
  ⟨(by kernel_rfl), (by kernel_rfl), fun _ h => (by cases h)⟩,
  ⟨(by kernel_rfl), (by kernel_rfl), fun _ h => (by cases h)⟩,
  ⟨(by kernel_rfl), (by kernel_rfl), fun _ _ => ⟨Tryd.stoodInHeld156, Tryd.eqGuardType156⟩⟩,
  ⟨(by kernel_rfl), (by kernel_rfl), fun _ h => (by cases h)⟩,
  ⟨(by kernel_rfl), (by kernel_rfl), fun _ _ => ⟨Tryd.stoodInHeld177, Tryd.eqGuardType177⟩⟩,
  ⟨(by kernel_rfl), (by kernel_rfl), fun _ h => (by cases h)⟩,
  ⟨(by kernel_rfl), (by kernel_rfl), fun _ _ => ⟨Tryd.stoodInHeld183, Tryd.eqGuardType183⟩⟩,
  ⟨(by kernel_rfl), (by kernel_rfl), fun _ h => (by cases h)⟩,
  ⟨(by kernel_rfl), (by kernel_rfl), fun _ _ => ⟨Tryd.stoodInHeld186, Tryd.eqGuardType186⟩⟩,
  ⟨(by kernel_rfl), (by kernel_rfl), fun _ _ => ⟨Tryd.stoodInHeld191, Tryd.eqGuardType191⟩⟩,
  ⟨(by kernel_rfl), (by kernel_rfl), fun _ h => (by cases h)⟩,
  ⟨(by kernel_rfl), (by kernel_rfl), fun _ h => (by cases h)⟩,
  ⟨(by kernel_rfl), (by kernel_rfl), fun _ h => (by cases h)⟩,
  trivial⟩


noncomputable def cxOf (Γ : List (Nat × Con)) (size : Nat) (heads ends : List (Nat × List Nat)) (nils : List (Nat × List (Nat × TypeId × Ty))) (loops : List (Nat × (St → Cont → Option Fin))) : Cx := ⟨tt, look Γ, size, heads, ends, [], nils, look loops⟩
def Cx.parted (cx : Cx) (l : List Nat) : Cx := { cx with parts := l }
theorem mixed : Tryd.prog.follows .mixedOrders = true := by kernel_rfl
noncomputable def bodyOf (fn : Func) : Code := match fn.body with | some c => c | none => .skip
noncomputable def loopOf (fn : Func) (k : Nat) : Code := match (loopsOf (bodyOf fn))[k]? with | some (_, b) => b | none => .skip
noncomputable def Γ0 : List (Nat × Con) := []
theorem Γ0ok : EnvOk Tryd.prog (look Γ0) := .nil
abbrev yes : Option Fin := some (.d (ofD .bool true), [])
abbrev no : Option Fin := some (.d (ofD .bool false), [])
end Go.Proofs.YthhmpjnmmhfngaaDoor.Ev
