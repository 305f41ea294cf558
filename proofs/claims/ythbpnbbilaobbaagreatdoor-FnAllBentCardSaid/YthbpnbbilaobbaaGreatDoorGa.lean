/-
  The table of the types that these functions use.
-/
import Derived.Test.YthbpnbbilaobbaaGreatDoorProg
import Derived.Test.YthbpnbbilaobbaaGreatDoorEv3
namespace Go.Proofs.YthbpnbbilaobbaaGreatDoor.Ev
open Go
abbrev ty3 : Ty := (.int .i64)
abbrev ty4 : Ty := .bool
abbrev ty5 : Ty := (.int .u8)
abbrev ty9 : Ty := .str
abbrev ty21 : Ty := (.int .i32)
abbrev ty22 : Ty := (.list (.int .u8))
abbrev ty23 : Ty := (.list (.struct (.pair .str .str)))
abbrev ty25 : Ty := (.struct (.pair .str (.list (.struct (.pair .str .str)))))
abbrev ty32 : Ty := (.struct (.pair .str .str))
abbrev ty34 : Ty := (.list .str)
abbrev ty42 : Ty := (.list .tree)
abbrev ty44 : Ty := (.list (.struct (.pair .str (.pair (.int .i64) (.int .i64)))))
abbrev ty56 : Ty := (.ref (.struct (.pair (.list (.int .u8)) (.int .i64))))
abbrev ty63 : Ty := (.list (.int .i64))
abbrev ty68 : Ty := (.ref (.struct (.pair (.struct (.pair .str (.list (.struct (.pair .str .str))))) (.pair .str (.map (.struct (.pair .str (.pair (.int .i64) (.int .i64)))) .bool)))))
abbrev ty73 : Ty := (.struct (.pair .str (.pair (.int .i64) (.int .i64))))
abbrev ty76 : Ty := (.ref (.struct (.pair .str (.list (.struct (.pair .str .str))))))
abbrev ty87 : Ty := (.struct (.pair (.list (.int .u8)) (.int .i64)))
abbrev ty91 : Ty := (.list .bool)
abbrev ty92 : Ty := (.list (.list .bool))
abbrev ty93 : Ty := (.list (.list (.list .bool)))
abbrev ty97 : Ty := (.ref (.struct (.pair (.ref (.struct (.pair (.struct (.pair .str (.list (.struct (.pair .str .str))))) (.pair .str (.map (.struct (.pair .str (.pair (.int .i64) (.int .i64)))) .bool))))) (.map (.struct (.pair (.struct (.pair .str (.pair (.int .i64) (.int .i64)))) (.pair (.int .i64) .str))) (.list .tree)))))
abbrev ty98 : Ty := (.map (.struct (.pair (.struct (.pair .str (.pair (.int .i64) (.int .i64)))) (.pair (.int .i64) .str))) (.list .tree))
abbrev ty100 : Ty := (.struct (.pair (.ref (.struct (.pair (.struct (.pair .str (.list (.struct (.pair .str .str))))) (.pair .str (.map (.struct (.pair .str (.pair (.int .i64) (.int .i64)))) .bool))))) (.map (.struct (.pair (.struct (.pair .str (.pair (.int .i64) (.int .i64)))) (.pair (.int .i64) .str))) (.list .tree))))
abbrev ty103 : Ty := (.struct (.pair (.struct (.pair .str (.pair (.int .i64) (.int .i64)))) (.pair (.int .i64) .str)))
abbrev ty105 : Ty := .tree
abbrev ty107 : Ty := (.map (.struct (.pair .str (.pair (.int .i64) (.int .i64)))) .bool)
abbrev ty109 : Ty := (.struct (.pair (.struct (.pair .str (.list (.struct (.pair .str .str))))) (.pair .str (.map (.struct (.pair .str (.pair (.int .i64) (.int .i64)))) .bool))))
abbrev ty127 : Ty := (.list (.list .tree))
abbrev ty131 : Ty := (.int .u64)
abbrev ty140 : Ty := (.int .i64)
abbrev ty151 : Ty := (.int .u64)
abbrev ty155 : Ty := (.int .u64)
abbrev ty159 : Ty := (.ref (.int .i64))
abbrev ty166 : Ty := (.ref (.int .u64))
noncomputable def ttList : List (Nat × TI) := [(3, ⟨Tryz.t3, Tryz.t3.desc, [], some ty3⟩),
  (4, ⟨Tryz.t4, Tryz.t4.desc, [], some ty4⟩),
  (5, ⟨Tryz.t5, Tryz.t5.desc, [], some ty5⟩),
  (9, ⟨Tryz.t9, Tryz.t9.desc, [], some ty9⟩),
  (21, ⟨Tryz.t21, Tryz.t21.desc, [], some ty21⟩),
  (22, ⟨Tryz.t22, Tryz.t22.desc, [.v (.int .u8 0)], some ty22⟩),
  (23, ⟨Tryz.t23, Tryz.t23.desc, [.v (.string (mk [])), .v (.string (mk []))], some ty23⟩),
  (25, ⟨Tryz.t25, Tryz.t24.desc, [], some ty25⟩),
  (30, ⟨Tryz.t30, Tryz.t30.desc, [], none⟩),
  (32, ⟨Tryz.t32, Tryz.t31.desc, [], some ty32⟩),
  (34, ⟨Tryz.t34, Tryz.t34.desc, [.v (.string (mk []))], some ty34⟩),
  (42, ⟨Tryz.t42, Tryz.t42.desc, [], some ty42⟩),
  (44, ⟨Tryz.t44, Tryz.t44.desc, [.v (.string (mk [])), .v (.int .i64 0), .v (.int .i64 0)], some ty44⟩),
  (56, ⟨Tryz.t56, Tryz.t56.desc, [], some ty56⟩),
  (63, ⟨Tryz.t63, Tryz.t63.desc, [.v (.int .i64 0)], some ty63⟩),
  (67, ⟨Tryz.t67, Tryz.t67.desc, [], none⟩),
  (68, ⟨Tryz.t68, Tryz.t68.desc, [], some ty68⟩),
  (73, ⟨Tryz.t73, Tryz.t72.desc, [], some ty73⟩),
  (76, ⟨Tryz.t76, Tryz.t76.desc, [], some ty76⟩),
  (83, ⟨Tryz.t83, Tryz.t83.desc, [], none⟩),
  (87, ⟨Tryz.t87, Tryz.t86.desc, [], some ty87⟩),
  (91, ⟨Tryz.t91, Tryz.t91.desc, [.v (.bool false)], some ty91⟩),
  (92, ⟨Tryz.t92, Tryz.t92.desc, [], some ty92⟩),
  (93, ⟨Tryz.t93, Tryz.t93.desc, [], some ty93⟩),
  (97, ⟨Tryz.t97, Tryz.t97.desc, [], some ty97⟩),
  (98, ⟨Tryz.t98, Tryz.t98.desc, [], some ty98⟩),
  (100, ⟨Tryz.t100, Tryz.t99.desc, [], some ty100⟩),
  (103, ⟨Tryz.t103, Tryz.t102.desc, [], some ty103⟩),
  (105, ⟨Tryz.t105, Tryz.t104.desc, [], some ty105⟩),
  (107, ⟨Tryz.t107, Tryz.t107.desc, [], some ty107⟩),
  (109, ⟨Tryz.t109, Tryz.t108.desc, [], some ty109⟩),
  (119, ⟨Tryz.t119, Tryz.t118.desc, [], none⟩),
  (123, ⟨Tryz.t123, Tryz.t123.desc, [], none⟩),
  (127, ⟨Tryz.t127, Tryz.t127.desc, [], some ty127⟩),
  (131, ⟨Tryz.t131, Tryz.t131.desc, [], some ty131⟩),
  (140, ⟨Tryz.t140, Tryz.t3.desc, [], some ty140⟩),
  (151, ⟨Tryz.t151, Tryz.t151.desc, [], some ty151⟩),
  (155, ⟨Tryz.t155, Tryz.t151.desc, [], some ty155⟩),
  (159, ⟨Tryz.t159, Tryz.t159.desc, [], some ty159⟩),
  (166, ⟨Tryz.t166, Tryz.t166.desc, [], some ty166⟩)]
noncomputable def tt : Types := look ttList
theorem ttOk : TTok Tryz.prog tt := TTok.of (l := ttList) ⟨
  ⟨(by kernel_rfl), (by kernel_rfl), fun _ h => (by cases h)⟩,
  ⟨(by kernel_rfl), (by kernel_rfl), fun _ h => (by cases h)⟩,
  ⟨(by kernel_rfl), (by kernel_rfl), fun _ h => (by cases h)⟩,
  ⟨(by kernel_rfl), (by kernel_rfl), fun _ h => (by cases h)⟩,
  ⟨(by kernel_rfl), (by kernel_rfl), fun _ h => (by cases h)⟩,
  ⟨(by kernel_rfl), (by kernel_rfl), fun _ h => (by cases h)⟩,
  ⟨(by kernel_rfl), (by kernel_rfl), fun _ h => (by cases h)⟩,
  ⟨(by kernel_rfl), (by kernel_rfl), fun _ _ => ⟨Tryz.stoodInHeld25, Tryz.eqGuardType25⟩⟩,
  ⟨(by kernel_rfl), (by kernel_rfl), fun _ h => (by cases h)⟩,
  ⟨(by kernel_rfl), (by kernel_rfl), fun _ _ => ⟨Tryz.stoodInHeld32, Tryz.eqGuardType32⟩⟩,
  ⟨(by kernel_rfl), (by kernel_rfl), fun _ h => (by cases h)⟩,
  ⟨(by kernel_rfl), (by kernel_rfl), fun _ h => (by cases h)⟩,
  ⟨(by kernel_rfl), (by kernel_rfl), fun _ h => (by cases h)⟩,
  ⟨(by kernel_rfl), (by kernel_rfl), fun _ h => (by cases h)⟩,
  ⟨(by kernel_rfl), (by kernel_rfl), fun _ h => (by cases h)⟩,
  ⟨(by kernel_rfl), (by kernel_rfl), fun _ h => (by cases h)⟩,
  ⟨(by kernel_rfl), (by kernel_rfl), fun _ h => (by cases h)⟩,
  ⟨(by kernel_rfl), (by kernel_rfl), fun _ _ => ⟨Tryz.stoodInHeld73, Tryz.eqGuardType73⟩⟩,
  ⟨(by kernel_rfl), (by kernel_rfl), fun _ h => (by cases h)⟩,
  ⟨(by kernel_rfl), (by kernel_rfl), fun _ h => (by cases h)⟩,
  ⟨(by kernel_rfl), (by kernel_rfl), fun _ _ => ⟨Tryz.stoodInHeld87, Tryz.eqGuardType87⟩⟩,
  ⟨(by kernel_rfl), (by kernel_rfl), fun _ h => (by cases h)⟩,
  ⟨(by kernel_rfl), (by kernel_rfl), fun _ h => (by cases h)⟩,
  ⟨(by kernel_rfl), (by kernel_rfl), fun _ h => (by cases h)⟩,
  ⟨(by kernel_rfl), (by kernel_rfl), fun _ h => (by cases h)⟩,
  ⟨(by kernel_rfl), (by kernel_rfl), fun _ h => (by cases h)⟩,
  ⟨(by kernel_rfl), (by kernel_rfl), fun _ _ => ⟨Tryz.stoodInHeld100, Tryz.eqGuardType100⟩⟩,
  ⟨(by kernel_rfl), (by kernel_rfl), fun _ _ => ⟨Tryz.stoodInHeld103, Tryz.eqGuardType103⟩⟩,
  ⟨(by kernel_rfl), (by kernel_rfl), fun _ _ => ⟨Tryz.stoodInHeld105, Tryz.eqGuardType105⟩⟩,
  ⟨(by kernel_rfl), (by kernel_rfl), fun _ h => (by cases h)⟩,
  ⟨(by kernel_rfl), (by kernel_rfl), fun _ _ => ⟨Tryz.stoodInHeld109, Tryz.eqGuardType109⟩⟩,
  ⟨(by kernel_rfl), (by kernel_rfl), fun _ h => (by cases h)⟩,
  ⟨(by kernel_rfl), (by kernel_rfl), fun _ h => (by cases h)⟩,
  ⟨(by kernel_rfl), (by kernel_rfl), fun _ h => (by cases h)⟩,
  ⟨(by kernel_rfl), (by kernel_rfl), fun _ h => (by cases h)⟩,
  ⟨(by kernel_rfl), (by kernel_rfl), fun _ h => (by cases h)⟩,
  ⟨(by kernel_rfl), (by kernel_rfl), fun _ h => (by cases h)⟩,
  ⟨(by kernel_rfl), (by kernel_rfl), fun _ h => (by cases h)⟩,
  ⟨(by kernel_rfl), (by kernel_rfl), fun _ h => (by cases h)⟩,
  ⟨(by kernel_rfl), (by kernel_rfl), fun _ h => (by cases h)⟩,
  trivial⟩


noncomputable def cxOf (Γ : List (Nat × Con)) (size : Nat) (heads ends : List (Nat × List Nat)) (nils : List (Nat × List (Nat × TypeId × Ty))) (loops : List (Nat × (St → Cont → Option Fin))) : Cx := ⟨tt, look Γ, size, heads, ends, [], nils, look loops⟩
def Cx.parted (cx : Cx) (l : List Nat) : Cx := { cx with parts := l }
theorem mixed : Tryz.prog.follows .mixedOrders = true := by kernel_rfl
noncomputable def bodyOf (fn : Func) : Code := match fn.body with | some c => c | none => .skip
noncomputable def loopOf (fn : Func) (k : Nat) : Code := match (loopsOf (bodyOf fn))[k]? with | some (_, b) => b | none => .skip
noncomputable def Γ0 : List (Nat × Con) := []
theorem Γ0ok : EnvOk Tryz.prog (look Γ0) := .nil
abbrev yes : Option Fin := some (.d (ofD .bool true), [])
abbrev no : Option Fin := some (.d (ofD .bool false), [])
end Go.Proofs.YthbpnbbilaobbaaGreatDoor.Ev

-- G=0