/-
  Signs: small ones.
-/
import Derived.Test.YtmeiebnfmhddnaaGreatDoorGb
namespace Go.Proofs.YtmeiebnfmhddnaaGreatDoor.Ev
open Go
noncomputable section
def small (c:UInt8):Bool:=Nat.ble 97 c.toNat&&Nat.ble c.toNat 100
def smallS:Str→Bool
 | [c]=>small c
 |_=>false
theorem smallS_one {s:Str} (h:smallS s=true):∃c,s=[c]∧small c=true:=by
 unfold smallS at h
 split at h
 ·exact ⟨_,rfl,h⟩
 ·cases h
def smallI (c:Int):Bool:=bif decide (97≤c)then decide (c≤100)else false
theorem smallI_nat (c:UInt8):smallI (c.toNat:Int)=small c:=by
 unfold smallI small
 by_cases h1:97≤c.toNat
 ·rw[decide_eq_true (by omega:(97:Int)≤(c.toNat:Int)),Nat.ble_eq_true_of_le h1]
  by_cases h2:c.toNat≤100
  ·rw[Nat.ble_eq_true_of_le h2];simp;omega
  ·have:Nat.ble c.toNat 100=false:=by
    cases hb:Nat.ble c.toNat 100
    ·rfl
    ·exact absurd (Nat.le_of_ble_eq_true hb) h2
   rw[this];simp;omega
 ·have:Nat.ble 97 c.toNat=false:=by
   cases hb:Nat.ble 97 c.toNat
   ·rfl
   ·exact absurd (Nat.le_of_ble_eq_true hb) h1
  rw[decide_eq_false (by omega:¬(97:Int)≤(c.toNat:Int)),this];rfl
theorem byteAt_get {s:Str} {i:Int} (_h0:0≤i) (h1:i.toNat<s.length):byteAt s i=(s[i.toNat].toNat:Int):=by
 unfold byteAt;rw[List.getD_eq_getElem?_getD,List.getElem?_eq_getElem h1];rfl
theorem s_spec_l1Small (c:Int) (_hc:Fit (.int .u8) c):Sat Tryz.prog 130 [ofD (.int .u8) c] [] (.d (ofD .bool (smallI c))) [] :=
 fn_sound (cx:=cxOf Γ5 Tryz.f130.ntmps [] [] [] []) Tryz.func130 rfl ttOk Γ5ok mixed (fun _ _=>LoopsOk.no fun _=>rfl) (ro:=true) (by
  kernel_rfl)
def c_spec_l1Small:Con:=conT [(.int .u8)] fun(c:Int)=>(none, .d (ofD .bool (smallI c)))
theorem k_spec_l1Small:ConOk Tryz.prog 130 c_spec_l1Small:=conT_ok Tryz.call130 fun c hc _=>s_spec_l1Small c hc
def Γ6:GL:=(130,c_spec_l1Small)::Γ5
theorem Γ6ok:GO Γ6 := .cons k_spec_l1Small Γ5ok
theorem y_spec_SignSmall (s:Str):evFn (cxOf Γ6 Tryz.f151.ntmps [] [] [] []) Tryz.f151 true [ofD .str s] []=need (bif decide (decide ((s.length:Int)=1)=true)then inb 0 s.length else true) (some (vB (bif decide ((s.length:Int)=1)then smallI (byteAt s 0)else false),[])):=by kernel_rfl
theorem s_spec_SignSmall (s:Str) (_hs:Fit .str s):Sat Tryz.prog 151 [ofD .str s] [] (.d (ofD .bool (smallS s))) [] :=
 fn_sound (cx:=cxOf Γ6 Tryz.f151.ntmps [] [] [] []) Tryz.func151 rfl ttOk Γ6ok mixed (fun _ _=>LoopsOk.no fun _=>rfl) (ro:=true) (by
  rw[y_spec_SignSmall]
  cases s with
  |nil=>rfl
  |cons c s=>cases s with
   |nil=>exact congrArg (fun b=>some ((vB b,[]):Fin)) (smallI_nat c)
   |cons d s =>
    rw[decide_eq_false (by simp;omega:¬((c::d::s).length:Int)=1)];rfl)
def c_spec_SignSmall:Con:=conT [.str] fun(s:Str)=>(none, .d (ofD .bool (smallS s)))
theorem k_spec_SignSmall:ConOk Tryz.prog 151 c_spec_SignSmall:=conT_ok Tryz.call151 fun s hs _=>s_spec_SignSmall s hs
def Γ7:GL:=(151,c_spec_SignSmall)::Γ6
theorem Γ7ok:GO Γ7 := .cons k_spec_SignSmall Γ6ok
def isIn (s:Str) (a b:Int):Bool:=bif (bif decide ((s.length:Int)=1)then decide (a≤byteAt s 0)else false)then decide (byteAt s 0≤b)else false
theorem y_impl_isIn (s:Str) (a:Int) (b:Int):evFn (cxOf Γ7 Tryz.f90.ntmps [] [] [] []) Tryz.f90 true [ofD .str s,ofD (.int .u8) a,ofD (.int .u8) b] []=need (bif decide (decide ((s.length:Int)=1)=true)then inb 0 s.length else true) (need (bif decide ((bif decide ((s.length:Int)=1)then decide (a≤byteAt s 0)else false)=true)then inb 0 s.length else true) (some (vB (isIn s a b),[]))):=by kernel_rfl
theorem s_impl_isIn (s:Str) (_hs:Fit .str s) (a:Int) (_ha:Fit (.int .u8) a) (b:Int) (_hb:Fit (.int .u8) b):Sat Tryz.prog 90 [ofD .str s,ofD (.int .u8) a,ofD (.int .u8) b] [] (.d (ofD .bool (isIn s a b))) [] :=
 fn_sound (cx:=cxOf Γ7 Tryz.f90.ntmps [] [] [] []) Tryz.func90 rfl ttOk Γ7ok mixed (fun _ _=>LoopsOk.no fun _=>rfl) (ro:=true) (by
  rw[y_impl_isIn]
  by_cases h:s.length=1
  ·rw[decide_eq_true (by omega:(s.length:Int)=1),h]
   cases decide (a≤byteAt s 0)<;>rfl
  ·rw[decide_eq_false (by omega:¬(s.length:Int)=1)];rfl)
def c_impl_isIn:Con:=conT [.str,(.int .u8),(.int .u8)] fun(s:Str) (a:Int) (b:Int)=>(none, .d (ofD .bool (isIn s a b)))
theorem k_impl_isIn:ConOk Tryz.prog 90 c_impl_isIn:=conT_ok Tryz.call90 fun s hs a ha b hb _=>s_impl_isIn s hs a ha b hb
def Γ8:GL:=(90,c_impl_isIn)::Γ7
theorem Γ8ok:GO Γ8 := .cons k_impl_isIn Γ7ok
theorem s_impl_SignSmall (s:Str) (_hs:Fit .str s):Sat Tryz.prog 55 [ofD .str s] [] (.d (ofD .bool (smallS s))) [] :=
 fn_sound (cx:=cxOf Γ8 Tryz.f55.ntmps [] [] [] []) Tryz.func55 rfl ttOk Γ8ok mixed (fun _ _=>LoopsOk.no fun _=>rfl) (ro:=true) (by
  have:evFn (cxOf Γ8 Tryz.f55.ntmps [] [] [] []) Tryz.f55 true [ofD .str s] []=some (vB (isIn s 97 100),[]):=by kernel_rfl
  rw[this]
  have:isIn s 97 100=smallS s:=by
   unfold isIn
   cases s with
   |nil=>rfl
   |cons c s=>cases s with
    |nil=>exact smallI_nat c
    |cons d s=>rw[decide_eq_false (by simp;omega:¬((c::d::s).length:Int)=1)];rfl
  rw[this];rfl)
def c_impl_SignSmall:Con:=conT [.str] fun(s:Str)=>(none, .d (ofD .bool (smallS s)))
theorem k_impl_SignSmall:ConOk Tryz.prog 55 c_impl_SignSmall:=conT_ok Tryz.call55 fun s hs _=>s_impl_SignSmall s hs
def Γ9:GL:=(55,c_impl_SignSmall)::Γ8
theorem Γ9ok:GO Γ9 := .cons k_impl_SignSmall Γ8ok
def areSm (s:Str) (n:Int):Bool:=bif decide ((s.length:Int)≤n)then s.all small else false
theorem y_impl_areSmalls (s:Str) (n:Int):evFn (cxOf Γ9 Tryz.f56.ntmps [] [] [] []) Tryz.f56 true [ofD .str s,ofD TI64 n] [] =
 need (bif decide (decide ((s.length:Int)≤n)=true)then isCut cutA else true) (some (vB (bif decide ((s.length:Int)≤n)then decide (trim cutA s=[])else false),[])):=by kernel_rfl
theorem trimA_nil (s:Str):decide (trim cutA s=[])=s.all small:=by
 have e:(inCut cutA)=small:=by funext c;exact inCut_A c
 have h:=trim_nil (cut:=cutA) (s:=s)
 rw[e]at h
 by_cases g:trim cutA s=[]
 ·rw[decide_eq_true g,h.1 g]
 ·rw[decide_eq_false g]
  cases hs:s.all small
  ·rfl
  ·exact absurd (h.2 hs) g
theorem s_impl_areSmalls (s:Str) (_hs:Fit .str s) (n:Int) (_hn:Fit TI64 n):Sat Tryz.prog 56 [ofD .str s,ofD TI64 n] [] (.d (ofD .bool (areSm s n))) [] :=
 fn_sound (cx:=cxOf Γ9 Tryz.f56.ntmps [] [] [] []) Tryz.func56 rfl ttOk Γ9ok mixed (fun _ _=>LoopsOk.no fun _=>rfl) (ro:=true) (by
  rw[y_impl_areSmalls,trimA_nil]
  unfold areSm
  cases decide ((s.length:Int)≤n)<;>rfl)
def c_impl_areSmalls:Con:=conT [.str,TI64] fun(s:Str) (n:Int)=>(none, .d (ofD .bool (areSm s n)))
theorem k_impl_areSmalls:ConOk Tryz.prog 56 c_impl_areSmalls:=conT_ok Tryz.call56 fun s hs n hn _=>s_impl_areSmalls s hs n hn
def Γ10:GL:=(56,c_impl_areSmalls)::Γ9
theorem Γ10ok:GO Γ10 := .cons k_impl_areSmalls Γ9ok
end
end Go.Proofs.YtmeiebnfmhddnaaGreatDoor.Ev
