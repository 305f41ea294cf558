/-
  The table of the types that these functions use.
-/
import Derived.Test.YtbijdgkkneffgaaGreatDoorProg
import Derived.Test.YtbijdgkkneffgaaGreatDoorEv3
namespace Go.Proofs.YtbijdgkkneffgaaGreatDoor.Ev
open Go
abbrev ty3 : Ty := (.int .i64)
abbrev ty4 : Ty := .bool
abbrev ty5 : Ty := (.int .u8)
abbrev ty9 : Ty := .str
abbrev ty21 : Ty := (.int .i32)
abbrev ty22 : Ty := (.list (.int .u8))
abbrev ty23 : Ty := (.list (.struct (.pair .str .str)))
abbrev ty25 : Ty := (.struct (.pair .str (.list (.struct (.pair .str .str)))))
abbrev ty32 : Ty := (.struct (.pair .str .str))
abbrev ty34 : Ty := (.list .str)
abbrev ty52 : Ty := (.ref (.struct (.pair (.list (.int .u8)) (.int .i64))))
abbrev ty59 : Ty := (.list (.int .i64))
abbrev ty77 : Ty := (.ref (.struct (.pair (.struct (.pair .str (.list (.struct (.pair .str .str))))) (.pair .str (.map (.struct (.pair .str (.pair (.int .i64) (.int .i64)))) .bool)))))
abbrev ty81 : Ty := (.struct (.pair (.list (.int .u8)) (.int .i64)))
abbrev ty96 : Ty := (.map (.struct (.pair .str (.pair (.int .i64) (.int .i64)))) .bool)
abbrev ty98 : Ty := (.struct (.pair (.struct (.pair .str (.list (.struct (.pair .str .str))))) (.pair .str (.map (.struct (.pair .str (.pair (.int .i64) (.int .i64)))) .bool))))
abbrev ty100 : Ty := (.struct (.pair .str (.pair (.int .i64) (.int .i64))))
abbrev ty115 : Ty := (.int .u64)
abbrev ty125 : Ty := (.int .i64)
abbrev ty134 : Ty := (.int .u32)
abbrev ty136 : Ty := (.int .u64)
abbrev ty140 : Ty := (.int .u64)
abbrev ty144 : Ty := (.ref (.int .i64))
abbrev ty151 : Ty := (.ref (.int .u64))
noncomputable def ttList : List (Nat × TI) := [(3, ⟨Tryz.t3, Tryz.t3.desc, [], some ty3⟩),
 (4, ⟨Tryz.t4, Tryz.t4.desc, [], some ty4⟩),
 (5, ⟨Tryz.t5, Tryz.t5.desc, [], some ty5⟩),
 (9, ⟨Tryz.t9, Tryz.t9.desc, [], some ty9⟩),
 (21, ⟨Tryz.t21, Tryz.t21.desc, [], some ty21⟩),
 (22, ⟨Tryz.t22, Tryz.t22.desc, [.v (.int .u8 0)], some ty22⟩),
 (23, ⟨Tryz.t23, Tryz.t23.desc, [.v (.string (mk [])), .v (.string (mk []))], some ty23⟩),
 (25, ⟨Tryz.t25, Tryz.t24.desc, [], some ty25⟩),
 (30, ⟨Tryz.t30, Tryz.t30.desc, [], none⟩),
 (32, ⟨Tryz.t32, Tryz.t31.desc, [], some ty32⟩),
 (34, ⟨Tryz.t34, Tryz.t34.desc, [.v (.string (mk []))], some ty34⟩),
 (52, ⟨Tryz.t52, Tryz.t52.desc, [], some ty52⟩),
 (59, ⟨Tryz.t59, Tryz.t59.desc, [.v (.int .i64 0)], some ty59⟩),
 (73, ⟨Tryz.t73, Tryz.t73.desc, [], none⟩),
 (74, ⟨Tryz.t74, Tryz.t74.desc, [], none⟩),
 (77, ⟨Tryz.t77, Tryz.t77.desc, [], some ty77⟩),
 (81, ⟨Tryz.t81, Tryz.t80.desc, [], some ty81⟩),
 (96, ⟨Tryz.t96, Tryz.t96.desc, [], some ty96⟩),
 (98, ⟨Tryz.t98, Tryz.t97.desc, [], some ty98⟩),
 (100, ⟨Tryz.t100, Tryz.t99.desc, [], some ty100⟩),
 (108, ⟨Tryz.t108, Tryz.t107.desc, [], none⟩),
 (112, ⟨Tryz.t112, Tryz.t112.desc, [], none⟩),
 (115, ⟨Tryz.t115, Tryz.t115.desc, [], some ty115⟩),
 (125, ⟨Tryz.t125, Tryz.t3.desc, [], some ty125⟩),
 (134, ⟨Tryz.t134, Tryz.t134.desc, [], some ty134⟩),
 (136, ⟨Tryz.t136, Tryz.t136.desc, [], some ty136⟩),
 (140, ⟨Tryz.t140, Tryz.t136.desc, [], some ty140⟩),
 (144, ⟨Tryz.t144, Tryz.t144.desc, [], some ty144⟩),
 (151, ⟨Tryz.t151, Tryz.t151.desc, [], some ty151⟩)]
noncomputable def tt : Types := look ttList
theorem ttOk : TTok Tryz.prog tt := TTok.of (l := ttList) ⟨
 ⟨(by kernel_rfl), (by kernel_rfl), fun _ h => (by cases h)⟩,
 ⟨(by kernel_rfl), (by kernel_rfl), fun _ h => (by cases h)⟩,
 ⟨(by kernel_rfl), (by kernel_rfl), fun _ h => (by cases h)⟩,
 ⟨(by kernel_rfl), (by kernel_rfl), fun _ h => (by cases h)⟩,
 ⟨(by kernel_rfl), (by kernel_rfl), fun _ h => (by cases h)⟩,
 ⟨(by kernel_rfl), (by kernel_rfl), fun _ h => (by cases h)⟩,
 ⟨(by kernel_rfl), (by kernel_rfl), fun _ h => (by cases h)⟩,
 ⟨(by kernel_rfl), (by kernel_rfl), fun _ _ => ⟨Tryz.stoodInHeld25, Tryz.eqGuardType25⟩⟩,
 ⟨(by kernel_rfl), (by kernel_rfl), fun _ h => (by cases h)⟩,
 ⟨(by kernel_rfl), (by kernel_rfl), fun _ _ => ⟨Tryz.stoodInHeld32, Tryz.eqGuardType32⟩⟩,
 ⟨(by kernel_rfl), (by kernel_rfl), fun _ h => (by cases h)⟩,
 ⟨(by kernel_rfl), (by kernel_rfl), fun _ h => (by cases h)⟩,
 ⟨(by kernel_rfl), (by kernel_rfl), fun _ h => (by cases h)⟩,
 ⟨(by kernel_rfl), (by kernel_rfl), fun _ h => (by cases h)⟩,
 ⟨(by kernel_rfl), (by kernel_rfl), fun _ h => (by cases h)⟩,
 ⟨(by kernel_rfl), (by kernel_rfl), fun _ h => (by cases h)⟩,
 ⟨(by kernel_rfl), (by kernel_rfl), fun _ _ => ⟨Tryz.stoodInHeld81, Tryz.eqGuardType81⟩⟩,
 ⟨(by kernel_rfl), (by kernel_rfl), fun _ h => (by cases h)⟩,
 ⟨(by kernel_rfl), (by kernel_rfl), fun _ _ => ⟨Tryz.stoodInHeld98, Tryz.eqGuardType98⟩⟩,
 ⟨(by kernel_rfl), (by kernel_rfl), fun _ _ => ⟨Tryz.stoodInHeld100, Tryz.eqGuardType100⟩⟩,
 ⟨(by kernel_rfl), (by kernel_rfl), fun _ h => (by cases h)⟩,
 ⟨(by kernel_rfl), (by kernel_rfl), fun _ h => (by cases h)⟩,
 ⟨(by kernel_rfl), (by kernel_rfl), fun _ h => (by cases h)⟩,
 ⟨(by kernel_rfl), (by kernel_rfl), fun _ h => (by cases h)⟩,
 ⟨(by kernel_rfl), (by kernel_rfl), fun _ h => (by cases h)⟩,
 ⟨(by kernel_rfl), (by kernel_rfl), fun _ h => (by cases h)⟩,
 ⟨(by kernel_rfl), (by kernel_rfl), fun _ h => (by cases h)⟩,
 ⟨(by kernel_rfl), (by kernel_rfl), fun _ h => (by cases h)⟩,
 ⟨(by kernel_rfl), (by kernel_rfl), fun _ h => (by cases h)⟩,
 trivial⟩
noncomputable def cxOf (Γ : List (Nat × Con)) (size : Nat) (heads ends : List (Nat × List Nat)) (nils : List (Nat × List (Nat × TypeId × Ty))) (loops : List (Nat × (St → Cont → Option Fin))) : Cx := ⟨tt, look Γ, size, heads, ends, [], nils, look loops⟩
def Cx.parted (cx : Cx) (l : List Nat) : Cx := { cx with parts := l }
theorem mixed : Tryz.prog.follows .mixedOrders = true := by kernel_rfl
noncomputable def bodyOf (fn : Func) : Code := match fn.body with | some c => c | none => .skip
noncomputable def loopOf (fn : Func) (k : Nat) : Code := match (loopsOf (bodyOf fn))[k]? with | some (_, b) => b | none => .skip
noncomputable def Γ0 : List (Nat × Con) := []
theorem Γ0ok : EnvOk Tryz.prog (look Γ0) := .nil
abbrev yes : Option Fin := some (.d (ofD .bool true), [])
abbrev no : Option Fin := some (.d (ofD .bool false), [])
end Go.Proofs.YtbijdgkkneffgaaGreatDoor.Ev
