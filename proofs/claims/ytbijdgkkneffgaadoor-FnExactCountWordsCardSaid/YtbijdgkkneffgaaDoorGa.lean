/-
  The table of the types that these functions use.
-/
import Derived.Test.YtbijdgkkneffgaaDoorProg
import Derived.Test.YtbijdgkkneffgaaDoorEv3
namespace Go.Proofs.YtbijdgkkneffgaaDoor.Ev
open Go
abbrev ty3 : Ty := (.int .i64)
abbrev ty4 : Ty := .bool
abbrev ty5 : Ty := (.int .u8)
abbrev ty9 : Ty := .str
abbrev ty21 : Ty := (.int .i32)
abbrev ty22 : Ty := (.list (.int .u8))
abbrev ty23 : Ty := (.list (.struct (.pair .str .str)))
abbrev ty25 : Ty := (.struct (.pair .str (.list (.struct (.pair .str .str)))))
abbrev ty31 : Ty := (.struct (.pair .str (.pair (.int .i64) (.int .i64))))
abbrev ty49 : Ty := (.list .bool)
abbrev ty72 : Ty := (.list (.struct (.pair .str .str)))
abbrev ty74 : Ty := (.struct (.pair .str (.list (.struct (.pair .str .str)))))
abbrev ty82 : Ty := (.list .str)
abbrev ty85 : Ty := (.ref (.struct (.pair (.struct (.pair .str (.list (.struct (.pair .str .str))))) (.pair .str (.map (.struct (.pair .str (.pair (.int .i64) (.int .i64)))) .bool)))))
abbrev ty90 : Ty := (.list (.list (.list .bool)))
abbrev ty92 : Ty := (.list (.list .bool))
abbrev ty94 : Ty := (.ref (.struct (.pair (.list (.int .u8)) (.int .i64))))
abbrev ty97 : Ty := (.ref (.int .i64))
abbrev ty111 : Ty := (.list (.int .i64))
abbrev ty160 : Ty := (.struct (.pair .str .str))
abbrev ty162 : Ty := (.map (.struct (.pair .str (.pair (.int .i64) (.int .i64)))) .bool)
abbrev ty164 : Ty := (.struct (.pair (.struct (.pair .str (.list (.struct (.pair .str .str))))) (.pair .str (.map (.struct (.pair .str (.pair (.int .i64) (.int .i64)))) .bool))))
abbrev ty170 : Ty := (.struct (.pair (.list (.int .u8)) (.int .i64)))
abbrev ty186 : Ty := (.int .u64)
abbrev ty195 : Ty := (.struct (.pair .str .str))
abbrev ty214 : Ty := (.int .u32)
abbrev ty217 : Ty := (.int .u64)
abbrev ty247 : Ty := (.int .i64)
abbrev ty261 : Ty := (.int .u64)
abbrev ty268 : Ty := (.ref (.int .u64))
noncomputable def ttList : List (Nat × TI) := [(3, ⟨Tryd.t3, Tryd.t3.desc, [], some ty3⟩),
 (4, ⟨Tryd.t4, Tryd.t4.desc, [], some ty4⟩),
 (5, ⟨Tryd.t5, Tryd.t5.desc, [], some ty5⟩),
 (9, ⟨Tryd.t9, Tryd.t9.desc, [], some ty9⟩),
 (21, ⟨Tryd.t21, Tryd.t21.desc, [], some ty21⟩),
 (22, ⟨Tryd.t22, Tryd.t22.desc, [.v (.int .u8 0)], some ty22⟩),
 (23, ⟨Tryd.t23, Tryd.t23.desc, [.v (.string (mk [])), .v (.string (mk []))], some ty23⟩),
 (25, ⟨Tryd.t25, Tryd.t24.desc, [], some ty25⟩),
 (31, ⟨Tryd.t31, Tryd.t30.desc, [], some ty31⟩),
 (49, ⟨Tryd.t49, Tryd.t49.desc, [.v (.bool false)], some ty49⟩),
 (72, ⟨Tryd.t72, Tryd.t72.desc, [.v (.string (mk [])), .v (.string (mk []))], some ty72⟩),
 (74, ⟨Tryd.t74, Tryd.t73.desc, [], some ty74⟩),
 (82, ⟨Tryd.t82, Tryd.t82.desc, [.v (.string (mk []))], some ty82⟩),
 (85, ⟨Tryd.t85, Tryd.t85.desc, [], some ty85⟩),
 (89, ⟨Tryd.t89, Tryd.t89.desc, [], none⟩),
 (90, ⟨Tryd.t90, Tryd.t90.desc, [], some ty90⟩),
 (92, ⟨Tryd.t92, Tryd.t92.desc, [], some ty92⟩),
 (94, ⟨Tryd.t94, Tryd.t94.desc, [], some ty94⟩),
 (97, ⟨Tryd.t97, Tryd.t97.desc, [], some ty97⟩),
 (111, ⟨Tryd.t111, Tryd.t111.desc, [.v (.int .i64 0)], some ty111⟩),
 (160, ⟨Tryd.t160, Tryd.t159.desc, [], some ty160⟩),
 (162, ⟨Tryd.t162, Tryd.t162.desc, [], some ty162⟩),
 (164, ⟨Tryd.t164, Tryd.t163.desc, [], some ty164⟩),
 (166, ⟨Tryd.t166, Tryd.t166.desc, [], none⟩),
 (170, ⟨Tryd.t170, Tryd.t169.desc, [], some ty170⟩),
 (186, ⟨Tryd.t186, Tryd.t186.desc, [], some ty186⟩),
 (195, ⟨Tryd.t195, Tryd.t159.desc, [], some ty195⟩),
 (206, ⟨Tryd.t206, Tryd.t205.desc, [], none⟩),
 (210, ⟨Tryd.t210, Tryd.t210.desc, [], none⟩),
 (214, ⟨Tryd.t214, Tryd.t214.desc, [], some ty214⟩),
 (217, ⟨Tryd.t217, Tryd.t217.desc, [], some ty217⟩),
 (247, ⟨Tryd.t247, Tryd.t3.desc, [], some ty247⟩),
 (261, ⟨Tryd.t261, Tryd.t217.desc, [], some ty261⟩),
 (268, ⟨Tryd.t268, Tryd.t268.desc, [], some ty268⟩)]
noncomputable def tt : Types := look ttList
theorem ttOk : TTok Tryd.prog tt := TTok.of (l := ttList) ⟨
 ⟨(by kernel_rfl), (by kernel_rfl), fun _ h => (by cases h)⟩,
 ⟨(by kernel_rfl), (by kernel_rfl), fun _ h => (by cases h)⟩,
 ⟨(by kernel_rfl), (by kernel_rfl), fun _ h => (by cases h)⟩,
 ⟨(by kernel_rfl), (by kernel_rfl), fun _ h => (by cases h)⟩,
 ⟨(by kernel_rfl), (by kernel_rfl), fun _ h => (by cases h)⟩,
 ⟨(by kernel_rfl), (by kernel_rfl), fun _ h => (by cases h)⟩,
 ⟨(by kernel_rfl), (by kernel_rfl), fun _ h => (by cases h)⟩,
 ⟨(by kernel_rfl), (by kernel_rfl), fun _ _ => ⟨Tryd.stoodInHeld25, Tryd.eqGuardType25⟩⟩,
 ⟨(by kernel_rfl), (by kernel_rfl), fun _ _ => ⟨Tryd.stoodInHeld31, Tryd.eqGuardType31⟩⟩,
 ⟨(by kernel_rfl), (by kernel_rfl), fun _ h => (by cases h)⟩,
 ⟨(by kernel_rfl), (by kernel_rfl), fun _ h => (by cases h)⟩,
 ⟨(by kernel_rfl), (by kernel_rfl), fun _ _ => ⟨Tryd.stoodInHeld74, Tryd.eqGuardType74⟩⟩,
 ⟨(by kernel_rfl), (by kernel_rfl), fun _ h => (by cases h)⟩,
 ⟨(by kernel_rfl), (by kernel_rfl), fun _ h => (by cases h)⟩,
 ⟨(by kernel_rfl), (by kernel_rfl), fun _ h => (by cases h)⟩,
 ⟨(by kernel_rfl), (by kernel_rfl), fun _ h => (by cases h)⟩,
 ⟨(by kernel_rfl), (by kernel_rfl), fun _ h => (by cases h)⟩,
 ⟨(by kernel_rfl), (by kernel_rfl), fun _ h => (by cases h)⟩,
 ⟨(by kernel_rfl), (by kernel_rfl), fun _ h => (by cases h)⟩,
 ⟨(by kernel_rfl), (by kernel_rfl), fun _ h => (by cases h)⟩,
 ⟨(by kernel_rfl), (by kernel_rfl), fun _ _ => ⟨Tryd.stoodInHeld160, Tryd.eqGuardType160⟩⟩,
 ⟨(by kernel_rfl), (by kernel_rfl), fun _ h => (by cases h)⟩,
 ⟨(by kernel_rfl), (by kernel_rfl), fun _ _ => ⟨Tryd.stoodInHeld164, Tryd.eqGuardType164⟩⟩,
 ⟨(by kernel_rfl), (by kernel_rfl), fun _ h => (by cases h)⟩,
 ⟨(by kernel_rfl), (by kernel_rfl), fun _ _ => ⟨Tryd.stoodInHeld170, Tryd.eqGuardType170⟩⟩,
 ⟨(by kernel_rfl), (by kernel_rfl), fun _ h => (by cases h)⟩,
 ⟨(by kernel_rfl), (by kernel_rfl), fun _ _ => ⟨Tryd.stoodInHeld195, Tryd.eqGuardType195⟩⟩,
 ⟨(by kernel_rfl), (by kernel_rfl), fun _ h => (by cases h)⟩,
 ⟨(by kernel_rfl), (by kernel_rfl), fun _ h => (by cases h)⟩,
 ⟨(by kernel_rfl), (by kernel_rfl), fun _ h => (by cases h)⟩,
 ⟨(by kernel_rfl), (by kernel_rfl), fun _ h => (by cases h)⟩,
 ⟨(by kernel_rfl), (by kernel_rfl), fun _ h => (by cases h)⟩,
 ⟨(by kernel_rfl), (by kernel_rfl), fun _ h => (by cases h)⟩,
 ⟨(by kernel_rfl), (by kernel_rfl), fun _ h => (by cases h)⟩,
 trivial⟩
noncomputable def cxOf (Γ : List (Nat × Con)) (size : Nat) (heads ends : List (Nat × List Nat)) (nils : List (Nat × List (Nat × TypeId × Ty))) (loops : List (Nat × (St → Cont → Option Fin))) : Cx := ⟨tt, look Γ, size, heads, ends, [], nils, look loops⟩
def Cx.parted (cx : Cx) (l : List Nat) : Cx := { cx with parts := l }
theorem mixed : Tryd.prog.follows .mixedOrders = true := by kernel_rfl
noncomputable def bodyOf (fn : Func) : Code := match fn.body with | some c => c | none => .skip
noncomputable def loopOf (fn : Func) (k : Nat) : Code := match (loopsOf (bodyOf fn))[k]? with | some (_, b) => b | none => .skip
noncomputable def Γ0 : List (Nat × Con) := []
theorem Γ0ok : EnvOk Tryd.prog (look Γ0) := .nil
abbrev yes : Option Fin := some (.d (ofD .bool true), [])
abbrev no : Option Fin := some (.d (ofD .bool false), [])
end Go.Proofs.YtbijdgkkneffgaaDoor.Ev
