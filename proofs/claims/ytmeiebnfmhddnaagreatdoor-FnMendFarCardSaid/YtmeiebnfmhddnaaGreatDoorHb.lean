/-
  What is derived, the program's side.
-/
import Derived.Test.YtmeiebnfmhddnaaGreatDoorHba
namespace Go.Proofs.YtmeiebnfmhddnaaGreatDoor.Ev
open Go
theorem y_impl_isDerived (g:Gram) (s:Str):evFn (cxOf Γ78 Tryz.f49.ntmps [] [] [] []) Tryz.f49 true [ofD TG g,ofD .str s] []=(
need (okRs g.snd&&s.length.ble 1000) <|
need (okIJ s 0 (s.length:Int)) <| some ((vB (derB s (chartM s g.snd) g.fst 0 (s.length:Int))),[])):=by kernel_rfl
theorem s_impl_isDerived (g:Gram) (_hg:Fit TG g) (s:Str) (_hs:Fit .str s) (hpre:(okRs g.2&&Nat.ble (List.length s) 1000)=true):Sat Tryz.prog 49 [ofD TG g,ofD .str s] [] (.d (ofD .bool (derB s (chartM s g.2) g.1 0 (List.length s:Int)))) [] :=
 fn_sound (cx:=cxOf Γ78 Tryz.f49.ntmps [] [] [] []) Tryz.func49 rfl ttOk Γ78ok mixed (fun _ _=>LoopsOk.no fun _=>rfl) (ro:=true) (by
  have h:okIJ s 0 (List.length s:Int)=true:=okIJ_iff.2 ⟨by omega,by omega,by omega⟩
  rw[y_impl_isDerived,hpre,h];rfl)
noncomputable def c_impl_isDerived:Con:=conT [TG, .str] fun(g:Gram) (s:Str)=>(some (okRs g.2&&Nat.ble (List.length s) 1000), .d (ofD .bool (derB s (chartM s g.2) g.1 0 (List.length s:Int))))
theorem k_impl_isDerived:ConOk Tryz.prog 49 c_impl_isDerived:=conT_ok Tryz.call49 fun g hg s hs hqq=>s_impl_isDerived g hg s hs (pre_of hqq)
noncomputable def Γ79:List (Nat×Con):=(49,c_impl_isDerived)::Γ78
theorem Γ79ok:EnvOk Tryz.prog (look Γ79) := .cons k_impl_isDerived Γ78ok
def isD (g:Gram) (s:Str):Bool:=derB s (chartM s g.2) g.1 0 (s.length:Int)
theorem isD_iff {g:Gram} {s:Str} (h:bigS g.1=true):isD g s=true↔DerG s g.2 g.1 0 (s.length:Int):=by
 unfold isD derB
 rw[big_not_small h,cond_false]
 exact chartM_iff
theorem ok_rs {g:Gram} (h:okG g=true):okRs g.2=true:=by
 obtain⟨_,h2,h3⟩:=okG_iff h
 refine okRs_iff.2 ⟨by omega,List.all_eq_true.2 fun r hr=>blt_iff.2 ?_⟩
 have:=(areS_iff (h3 r hr).2).2
 omega
theorem s_impl_AllIs (g:Gram) (_hg:Fit TG g) (s:Str) (_hs:Fit .str s):Sat Tryz.prog 15 [ofD TG g,ofD .str s] [] (.d (ofD .bool (both2 g s&&isD g s))) [] :=
 fn_sound (cx:=cxOf Γ79 Tryz.f15.ntmps [] [] [] []) Tryz.func15 rfl ttOk Γ79ok mixed (fun _ _=>LoopsOk.no fun _=>rfl) (ro:=true) (by
  have y:evFn (cxOf Γ79 Tryz.f15.ntmps [] [] [] []) Tryz.f15 true [ofD TG g,ofD .str s] []=need (bif decide (both2 g s=true)then okRs g.2&&Nat.ble (List.length s) 1000 else true) (some (vB (bif both2 g s then isD g s else false),[])):=by kernel_rfl
  rw[y]
  cases hb:both2 g s
  ·rfl
  ·obtain ⟨h1,h2⟩:=both_iff hb
   rw[ok_rs h1,ble_iff.2 (by omega:List.length s≤1000)];rfl)
noncomputable def c_impl_AllIs:Con:=conT [TG, .str] fun(g:Gram) (s:Str)=>(none, .d (ofD .bool (both2 g s&&isD g s)))
theorem k_impl_AllIs:ConOk Tryz.prog 15 c_impl_AllIs:=conT_ok Tryz.call15 fun g hg s hs _=>s_impl_AllIs g hg s hs
noncomputable def Γ80:List (Nat×Con):=(15,c_impl_AllIs)::Γ79
theorem Γ80ok:EnvOk Tryz.prog (look Γ80) := .cons k_impl_AllIs Γ79ok
end Go.Proofs.YtmeiebnfmhddnaaGreatDoor.Ev
