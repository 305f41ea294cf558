/-
  The table of the types that these functions use.
-/
import Derived.Test.YthbpnbbilaobbaaDoorProg
import Derived.Test.YthbpnbbilaobbaaDoorEv3
namespace Go.Proofs.YthbpnbbilaobbaaDoor.Ev
open Go
abbrev ty2 : Ty := (.int .i64)
abbrev ty3 : Ty := (.int .i64)
abbrev ty4 : Ty := .bool
abbrev ty5 : Ty := (.int .u8)
abbrev ty9 : Ty := .str
abbrev ty21 : Ty := (.int .i32)
abbrev ty22 : Ty := (.list (.int .u8))
abbrev ty23 : Ty := (.list (.struct (.pair .str .str)))
abbrev ty25 : Ty := (.struct (.pair .str (.list (.struct (.pair .str .str)))))
abbrev ty28 : Ty := (.list (.struct (.pair .str (.pair (.int .i64) (.int .i64)))))
abbrev ty31 : Ty := (.struct (.pair .str (.pair (.int .i64) (.int .i64))))
abbrev ty34 : Ty := (.list .bool)
abbrev ty35 : Ty := (.list (.list (.int .i64)))
abbrev ty37 : Ty := (.struct (.pair (.int .i64) (.pair (.list .bool) (.list (.list (.int .i64))))))
abbrev ty57 : Ty := (.struct (.pair .str .str))
abbrev ty58 : Ty := (.list .tree)
abbrev ty60 : Ty := .tree
abbrev ty69 : Ty := (.list (.int .i64))
abbrev ty72 : Ty := (.list (.struct (.pair .str .str)))
abbrev ty74 : Ty := (.struct (.pair .str (.list (.struct (.pair .str .str)))))
abbrev ty81 : Ty := (.list .str)
abbrev ty84 : Ty := (.struct (.pair (.int .i64) (.pair (.int .i64) .str)))
abbrev ty87 : Ty := (.list (.struct (.pair (.int .i64) (.pair (.int .i64) .str))))
abbrev ty91 : Ty := (.ref (.struct (.pair (.struct (.pair .str (.list (.struct (.pair .str .str))))) (.pair .str (.map (.struct (.pair .str (.pair (.int .i64) (.int .i64)))) .bool)))))
abbrev ty95 : Ty := (.list (.list (.list .bool)))
abbrev ty97 : Ty := (.list (.list .bool))
abbrev ty98 : Ty := (.ref (.struct (.pair (.list (.int .u8)) (.int .i64))))
abbrev ty116 : Ty := (.ref (.struct (.pair (.struct (.pair (.int .i64) (.pair (.list .bool) (.list (.list (.int .i64)))))) (.map (.struct (.pair .str (.pair (.int .i64) (.int .i64)))) (.int .i64)))))
abbrev ty133 : Ty := (.ref (.int .i64))
abbrev ty155 : Ty := (.map (.struct (.pair .str (.pair (.int .i64) (.int .i64)))) .bool)
abbrev ty157 : Ty := (.struct (.pair (.struct (.pair .str (.list (.struct (.pair .str .str))))) (.pair .str (.map (.struct (.pair .str (.pair (.int .i64) (.int .i64)))) .bool))))
abbrev ty161 : Ty := (.struct (.pair (.list (.int .u8)) (.int .i64)))
abbrev ty168 : Ty := (.int .u64)
abbrev ty171 : Ty := (.map (.struct (.pair .str (.pair (.int .i64) (.int .i64)))) (.int .i64))
abbrev ty173 : Ty := (.struct (.pair (.struct (.pair (.int .i64) (.pair (.list .bool) (.list (.list (.int .i64)))))) (.map (.struct (.pair .str (.pair (.int .i64) (.int .i64)))) (.int .i64))))
abbrev ty189 : Ty := (.struct (.pair .str .str))
abbrev ty194 : Ty := (.ref (.struct (.pair (.struct (.pair .str (.list (.struct (.pair .str .str))))) (.pair .str (.map (.struct (.pair .str (.pair (.int .i64) (.int .i64)))) (.int .i64))))))
abbrev ty196 : Ty := (.struct (.pair (.struct (.pair .str (.list (.struct (.pair .str .str))))) (.pair .str (.map (.struct (.pair .str (.pair (.int .i64) (.int .i64)))) (.int .i64)))))
abbrev ty203 : Ty := (.int .u64)
abbrev ty221 : Ty := (.int .i64)
abbrev ty232 : Ty := (.int .u64)
abbrev ty247 : Ty := (.ref (.int .u64))
noncomputable def ttList : List (Nat × TI) := [(2, ⟨Tryd.t2, Tryd.t2.desc, [], some ty2⟩),
  (3, ⟨Tryd.t3, Tryd.t3.desc, [], some ty3⟩),
  (4, ⟨Tryd.t4, Tryd.t4.desc, [], some ty4⟩),
  (5, ⟨Tryd.t5, Tryd.t5.desc, [], some ty5⟩),
  (9, ⟨Tryd.t9, Tryd.t9.desc, [], some ty9⟩),
  (21, ⟨Tryd.t21, Tryd.t21.desc, [], some ty21⟩),
  (22, ⟨Tryd.t22, Tryd.t22.desc, [.v (.int .u8 0)], some ty22⟩),
  (23, ⟨Tryd.t23, Tryd.t23.desc, [.v (.string (mk [])), .v (.string (mk []))], some ty23⟩),
  (25, ⟨Tryd.t25, Tryd.t24.desc, [], some ty25⟩),
  (28, ⟨Tryd.t28, Tryd.t28.desc, [.v (.string (mk [])), .v (.int .i64 0), .v (.int .i64 0)], some ty28⟩),
  (31, ⟨Tryd.t31, Tryd.t30.desc, [], some ty31⟩),
  (34, ⟨Tryd.t34, Tryd.t34.desc, [.v (.bool false)], some ty34⟩),
  (35, ⟨Tryd.t35, Tryd.t35.desc, [], some ty35⟩),
  (37, ⟨Tryd.t37, Tryd.t36.desc, [], some ty37⟩),
  (55, ⟨Tryd.t55, Tryd.t55.desc, [], none⟩),
  (57, ⟨Tryd.t57, Tryd.t56.desc, [], some ty57⟩),
  (58, ⟨Tryd.t58, Tryd.t58.desc, [], some ty58⟩),
  (60, ⟨Tryd.t60, Tryd.t59.desc, [], some ty60⟩),
  (66, ⟨Tryd.t66, Tryd.t66.desc, [], none⟩),
  (69, ⟨Tryd.t69, Tryd.t69.desc, [.v (.int .i64 0)], some ty69⟩),
  (72, ⟨Tryd.t72, Tryd.t72.desc, [.v (.string (mk [])), .v (.string (mk []))], some ty72⟩),
  (74, ⟨Tryd.t74, Tryd.t73.desc, [], some ty74⟩),
  (81, ⟨Tryd.t81, Tryd.t81.desc, [.v (.string (mk []))], some ty81⟩),
  (84, ⟨Tryd.t84, Tryd.t83.desc, [], some ty84⟩),
  (87, ⟨Tryd.t87, Tryd.t87.desc, [.v (.int .i64 0), .v (.int .i64 0), .v (.string (mk []))], some ty87⟩),
  (91, ⟨Tryd.t91, Tryd.t91.desc, [], some ty91⟩),
  (95, ⟨Tryd.t95, Tryd.t95.desc, [], some ty95⟩),
  (97, ⟨Tryd.t97, Tryd.t97.desc, [], some ty97⟩),
  (98, ⟨Tryd.t98, Tryd.t98.desc, [], some ty98⟩),
  (104, ⟨Tryd.t104, Tryd.t104.desc, [], none⟩),
  (105, ⟨Tryd.t105, Tryd.t105.desc, [], none⟩),
  (109, ⟨Tryd.t109, Tryd.t109.desc, [], none⟩),
  (110, ⟨Tryd.t110, Tryd.t110.desc, [.v (.int .i64 0), .v (.int .i64 0)], none⟩),
  (115, ⟨Tryd.t115, Tryd.t115.desc, [], none⟩),
  (116, ⟨Tryd.t116, Tryd.t116.desc, [], some ty116⟩),
  (133, ⟨Tryd.t133, Tryd.t133.desc, [], some ty133⟩),
  (145, ⟨Tryd.t145, Tryd.t145.desc, [], none⟩),
  (152, ⟨Tryd.t152, Tryd.t152.desc, [], none⟩),
  (155, ⟨Tryd.t155, Tryd.t155.desc, [], some ty155⟩),
  (157, ⟨Tryd.t157, Tryd.t156.desc, [], some ty157⟩),
  (161, ⟨Tryd.t161, Tryd.t160.desc, [], some ty161⟩),
  (168, ⟨Tryd.t168, Tryd.t168.desc, [], some ty168⟩),
  (171, ⟨Tryd.t171, Tryd.t171.desc, [], some ty171⟩),
  (173, ⟨Tryd.t173, Tryd.t172.desc, [], some ty173⟩),
  (187, ⟨Tryd.t187, Tryd.t187.desc, [], none⟩),
  (189, ⟨Tryd.t189, Tryd.t56.desc, [], some ty189⟩),
  (194, ⟨Tryd.t194, Tryd.t194.desc, [], some ty194⟩),
  (196, ⟨Tryd.t196, Tryd.t195.desc, [], some ty196⟩),
  (203, ⟨Tryd.t203, Tryd.t203.desc, [], some ty203⟩),
  (207, ⟨Tryd.t207, Tryd.t206.desc, [], none⟩),
  (211, ⟨Tryd.t211, Tryd.t211.desc, [], none⟩),
  (221, ⟨Tryd.t221, Tryd.t3.desc, [], some ty221⟩),
  (232, ⟨Tryd.t232, Tryd.t203.desc, [], some ty232⟩),
  (237, ⟨Tryd.t237, Tryd.t237.desc, [], none⟩),
  (247, ⟨Tryd.t247, Tryd.t247.desc, [], some ty247⟩)]
noncomputable def tt : Types := look ttList
theorem ttOk : TTok Tryd.prog tt := TTok.of (l := ttList) ⟨
  ⟨(by kernel_rfl), (by kernel_rfl), fun _ h => (by cases h)⟩,
  ⟨(by kernel_rfl), (by kernel_rfl), fun _ h => (by cases h)⟩,
  ⟨(by kernel_rfl), (by kernel_rfl), fun _ h => (by cases h)⟩,
  ⟨(by kernel_rfl), (by kernel_rfl), fun _ h => (by cases h)⟩,
  ⟨(by kernel_rfl), (by kernel_rfl), fun _ h => (by cases h)⟩,
  ⟨(by kernel_rfl), (by kernel_rfl), fun _ h => (by cases h)⟩,
  ⟨(by kernel_rfl), (by kernel_rfl), fun _ h => (by cases h)⟩,
  ⟨(by kernel_rfl), (by kernel_rfl), fun _ h => (by cases h)⟩,
  ⟨(by kernel_rfl), (by kernel_rfl), fun _ _ => ⟨Tryd.stoodInHeld25, Tryd.eqGuardType25⟩⟩,
  ⟨(by kernel_rfl), (by kernel_rfl), fun _ h => (by cases h)⟩,
  ⟨(by kernel_rfl), (by kernel_rfl), fun _ _ => ⟨Tryd.stoodInHeld31, Tryd.eqGuardType31⟩⟩,
  ⟨(by kernel_rfl), (by kernel_rfl), fun _ h => (by cases h)⟩,
  ⟨(by kernel_rfl), (by kernel_rfl), fun _ h => (by cases h)⟩,
  ⟨(by kernel_rfl), (by kernel_rfl), fun _ _ => ⟨Tryd.stoodInHeld37, Tryd.eqGuardType37⟩⟩,
  ⟨(by kernel_rfl), (by kernel_rfl), fun _ h => (by cases h)⟩,
  ⟨(by kernel_rfl), (by kernel_rfl), fun _ _ => ⟨Tryd.stoodInHeld57, Tryd.eqGuardType57⟩⟩,
  ⟨(by kernel_rfl), (by kernel_rfl), fun _ h => (by cases h)⟩,
  ⟨(by kernel_rfl), (by kernel_rfl), fun _ _ => ⟨Tryd.stoodInHeld60, Tryd.eqGuardType60⟩⟩,
  ⟨(by kernel_rfl), (by kernel_rfl), fun _ h => (by cases h)⟩,
  ⟨(by kernel_rfl), (by kernel_rfl), fun _ h => (by cases h)⟩,
  ⟨(by kernel_rfl), (by kernel_rfl), fun _ h => (by cases h)⟩,
  ⟨(by kernel_rfl), (by kernel_rfl), fun _ _ => ⟨Tryd.stoodInHeld74, Tryd.eqGuardType74⟩⟩,
  ⟨(by kernel_rfl), (by kernel_rfl), fun _ h => (by cases h)⟩,
  ⟨(by kernel_rfl), (by kernel_rfl), fun _ _ => ⟨Tryd.stoodInHeld84, Tryd.eqGuardType84⟩⟩,
  ⟨(by kernel_rfl), (by kernel_rfl), fun _ h => (by cases h)⟩,
  ⟨(by kernel_rfl), (by kernel_rfl), fun _ h => (by cases h)⟩,
  ⟨(by kernel_rfl), (by kernel_rfl), fun _ h => (by cases h)⟩,
  ⟨(by kernel_rfl), (by kernel_rfl), fun _ h => (by cases h)⟩,
  ⟨(by kernel_rfl), (by kernel_rfl), fun _ h => (by cases h)⟩,
  ⟨(by kernel_rfl), (by kernel_rfl), fun _ h => (by cases h)⟩,
  ⟨(by kernel_rfl), (by kernel_rfl), fun _ h => (by cases h)⟩,
  ⟨(by kernel_rfl), (by kernel_rfl), fun _ h => (by cases h)⟩,
  ⟨(by kernel_rfl), (by kernel_rfl), fun _ h => (by cases h)⟩,
  ⟨(by kernel_rfl), (by kernel_rfl), fun _ h => (by cases h)⟩,
  ⟨(by kernel_rfl), (by kernel_rfl), fun _ h => (by cases h)⟩,
  ⟨(by kernel_rfl), (by kernel_rfl), fun _ h => (by cases h)⟩,
  ⟨(by kernel_rfl), (by kernel_rfl), fun _ h => (by cases h)⟩,
  ⟨(by kernel_rfl), (by kernel_rfl), fun _ h => (by cases h)⟩,
  ⟨(by kernel_rfl), (by kernel_rfl), fun _ h => (by cases h)⟩,
  ⟨(by kernel_rfl), (by kernel_rfl), fun _ _ => ⟨Tryd.stoodInHeld157, Tryd.eqGuardType157⟩⟩,
  ⟨(by kernel_rfl), (by kernel_rfl), fun _ _ => ⟨Tryd.stoodInHeld161, Tryd.eqGuardType161⟩⟩,
  ⟨(by kernel_rfl), (by kernel_rfl), fun _ h => (by cases h)⟩,
  ⟨(by kernel_rfl), (by kernel_rfl), fun _ h => (by cases h)⟩,
  ⟨(by kernel_rfl), (by kernel_rfl), fun _ _ => ⟨Tryd.stoodInHeld173, Tryd.eqGuardType173⟩⟩,
  ⟨(by kernel_rfl), (by kernel_rfl), fun _ h => (by cases h)⟩,
  ⟨(by kernel_rfl), (by kernel_rfl), fun _ _ => ⟨Tryd.stoodInHeld189, Tryd.eqGuardType189⟩⟩,
  ⟨(by kernel_rfl), (by kernel_rfl), fun _ h => (by cases h)⟩,
  ⟨(by kernel_rfl), (by kernel_rfl), fun _ _ => ⟨Tryd.stoodInHeld196, Tryd.eqGuardType196⟩⟩,
  ⟨(by kernel_rfl), (by kernel_rfl), fun _ h => (by cases h)⟩,
  ⟨(by kernel_rfl), (by kernel_rfl), fun _ h => (by cases h)⟩,
  ⟨(by kernel_rfl), (by kernel_rfl), fun _ h => (by cases h)⟩,
  ⟨(by kernel_rfl), (by kernel_rfl), fun _ h => (by cases h)⟩,
  ⟨(by kernel_rfl), (by kernel_rfl), fun _ h => (by cases h)⟩,
  ⟨(by kernel_rfl), (by kernel_rfl), fun _ h => (by cases h)⟩,
  ⟨(by kernel_rfl), (by kernel_rfl), fun _ h => (by cases h)⟩,
  trivial⟩


noncomputable def cxOf (Γ : List (Nat × Con)) (size : Nat) (heads ends : List (Nat × List Nat)) (nils : List (Nat × List (Nat × TypeId × Ty))) (loops : List (Nat × (St → Cont → Option Fin))) : Cx := ⟨tt, look Γ, size, heads, ends, [], nils, look loops⟩
def Cx.parted (cx : Cx) (l : List Nat) : Cx := { cx with parts := l }
theorem mixed : Tryd.prog.follows .mixedOrders = true := by kernel_rfl
noncomputable def bodyOf (fn : Func) : Code := match fn.body with | some c => c | none => .skip
noncomputable def loopOf (fn : Func) (k : Nat) : Code := match (loopsOf (bodyOf fn))[k]? with | some (_, b) => b | none => .skip
noncomputable def Γ0 : List (Nat × Con) := []
theorem Γ0ok : EnvOk Tryd.prog (look Γ0) := .nil
abbrev yes : Option Fin := some (.d (ofD .bool true), [])
abbrev no : Option Fin := some (.d (ofD .bool false), [])
end Go.Proofs.YthbpnbbilaobbaaDoor.Ev

-- G=0