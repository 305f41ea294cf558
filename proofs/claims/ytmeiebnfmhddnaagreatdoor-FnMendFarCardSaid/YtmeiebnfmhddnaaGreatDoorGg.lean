/-
  FnGramBent: guards, sameness of grammars.
-/
import Derived.Test.YtmeiebnfmhddnaaGreatDoorGf
namespace Go.Proofs.YtmeiebnfmhddnaaGreatDoor.Ev
open Go
noncomputable def c_impl_GramOkB:Con:=conT [TG] fun g=>(some (!okG g), .d (ofD .bool false))
theorem k_impl_GramOkB:ConOk Tryz.prog 43 c_impl_GramOkB:=conT_ok Tryz.call43 fun g hg hqq=>by
 have h:=pre_of hqq
 have:=s_impl_GramOk g hg
 rw[Bool.not_eq_true']at h
 rw[h]at this
 exact this
noncomputable def Γ30:List (Nat×Con):=(43,c_impl_GramOkB)::Γ29
theorem Γ30ok:EnvOk Tryz.prog (look Γ30) := .cons k_impl_GramOkB Γ29ok
theorem s_impl_GramSmallsB (g:Gram) (_hg:Fit TG g) (hpre:(!okG g)=true):Sat Tryz.prog 52 [ofD TG g] [] (.d (ofD .str [])) [] :=
 fn_sound (cx:=cxOf Γ30 Tryz.f52.ntmps [] [] [] []) Tryz.func52 rfl ttOk Γ30ok mixed (fun _ _=>LoopsOk.no fun _=>rfl) (ro:=true) (by
  have y:evFn (cxOf Γ30 Tryz.f52.ntmps [] [] [] []) Tryz.f52 true [ofD TG g] []=need (!okG g) (some (.d (ofD .str []),[])):=by kernel_rfl
  rw[y,hpre];rfl)
noncomputable def c_impl_GramSmallsB:Con:=conT [TG] fun(g:Gram)=>(some (!okG g), .d (ofD .str []))
theorem k_impl_GramSmallsB:ConOk Tryz.prog 52 c_impl_GramSmallsB:=conT_ok Tryz.call52 fun g hg hqq=>s_impl_GramSmallsB g hg (pre_of hqq)
noncomputable def Γ31:List (Nat×Con):=(52,c_impl_GramSmallsB)::Γ30
theorem Γ31ok:EnvOk Tryz.prog (look Γ31) := .cons k_impl_GramSmallsB Γ30ok
noncomputable def c_impl_GramOkZ:Con:=c_impl_GramOk
theorem k_impl_GramOkZ:ConOk Tryz.prog 43 c_impl_GramOkZ:=k_impl_GramOk
noncomputable def Γ32:List (Nat×Con):=(43,c_impl_GramOkZ)::Γ31
theorem Γ32ok:EnvOk Tryz.prog (look Γ32) := .cons k_impl_GramOkZ Γ31ok
end Go.Proofs.YtmeiebnfmhddnaaGreatDoor.Ev
