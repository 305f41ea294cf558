/-
  Passes until nothing is new.
-/
import Derived.Test.YtmeiebnfmhddnaaGreatDoorGv
namespace Go.Proofs.YtmeiebnfmhddnaaGreatDoor.Ev
open Go
theorem blt_iff {a b:Nat}:Nat.blt a b=true↔a<b:=by simp
def cntB {α:Type} (f:α→Bool):List α→Nat
 | []=>0
 |a::l=>cntB f l+(bif f a then 1 else 0)
theorem cnt_le {α:Type} {f g:α→Bool}:∀ {l:List α},(∀a∈l,f a=true→g a=true)→cntB f l≤cntB g l
 | [],_=>Nat.le_refl _
 |a::l,h=>by
  have h1:=cnt_le (l:=l) fun b hb=>h b (List.mem_cons_of_mem _ hb)
  have h2:=h a List.mem_cons_self
  unfold cntB
  cases hf:f a
  ·rw[cond_false];omega
  ·rw[h2 hf];omega
theorem cnt_lt {α:Type} {f g:α→Bool}:∀ {l:List α},(∀a∈l,f a=true→g a=true)→(∃a∈l,f a=false∧g a=true)→cntB f l<cntB g l
 | [],_,⟨_,h,_⟩=>by cases h
 |a::l,h,⟨b,hb,h3,h4⟩=>by
  have h1:=cnt_le (l:=l) fun c hc=>h c (List.mem_cons_of_mem _ hc)
  rcases List.mem_cons.1 hb with rfl | hb
  ·unfold cntB
   rw[h3,h4,cond_false,cond_true];omega
  ·have h5:=cnt_lt (l:=l) (fun c hc=>h c (List.mem_cons_of_mem _ hc)) ⟨b,hb,h3,h4⟩
   have h2:=h a List.mem_cons_self
   unfold cntB
   cases hf:f a
   ·rw[cond_false];omega
   ·rw[h2 hf];omega
def foldG {σ V:Type} (step:V→σ×Bool→σ×Bool):List V→σ×Bool→σ×Bool
 | [],p=>p
 |v::vs,p=>foldG step vs (step v p)
theorem foldG_app {σ V:Type} {step:V→σ×Bool→σ×Bool}:∀ {a b:List V} {p:σ×Bool},foldG step (a++b) p=foldG step b (foldG step a p)
 | [],_,_=>rfl
 |v::a,b,p=>foldG_app (a:=a) (b:=b) (p:=step v p)
structure StepOk {σ V K:Type} (I:σ→Prop) (G:V→Prop) (has:σ→K→Bool) (ks:V→List K) (step:V→σ×Bool→σ×Bool):Prop where
 inv:∀v p,G v→I p.1→I (step v p).1
 mono:∀v p x,G v→I p.1→has p.1 x=true→has (step v p).1 x=true
 new:∀v p,G v→I p.1→(step v p).2=true→p.2=true∨∃x∈ks v,has p.1 x=false∧has (step v p).1 x=true
 quiet:∀v p,G v→I p.1→(step v p).2=false→p.2=false∧step v p=p
section
variable {σ V K:Type} {I:σ→Prop} {G:V→Prop} {has:σ→K→Bool} {ks:V→List K} {step:V→σ×Bool→σ×Bool}
theorem foldG_ok (h:StepOk I G has ks step):∀ {vs:List V} {p:σ×Bool},(∀v∈vs,G v)→I p.1→I (foldG step vs p).1
 | [],_,_,h1=>h1
 |v::vs,p,hv,h1=>foldG_ok h (vs:=vs) (fun w hw=>hv w (List.mem_cons_of_mem _ hw)) (h.inv v p (hv v List.mem_cons_self) h1)
theorem foldG_mono (h:StepOk I G has ks step):∀ {vs:List V} {p:σ×Bool} {x:K},(∀v∈vs,G v)→I p.1→has p.1 x=true→has (foldG step vs p).1 x=true
 | [],_,_,_,_,h1=>h1
 |v::vs,p,x,hv,hI,h1=>foldG_mono h (vs:=vs) (fun w hw=>hv w (List.mem_cons_of_mem _ hw)) (h.inv v p (hv v List.mem_cons_self) hI) (h.mono v p x (hv v List.mem_cons_self) hI h1)
theorem foldG_new (h:StepOk I G has ks step):∀ {vs:List V} {p:σ×Bool},(∀v∈vs,G v)→I p.1→(foldG step vs p).2=true→p.2=true∨∃x∈vs.flatMap ks,has p.1 x=false∧has (foldG step vs p).1 x=true
 | [],_,_,_,h1 => .inl h1
 |v::vs,p,hv,hI,h1=>by
  have hv0:=hv v List.mem_cons_self
  have hvs:∀w∈vs,G w:=fun w hw=>hv w (List.mem_cons_of_mem _ hw)
  have hI1:=h.inv v p hv0 hI
  rcases foldG_new h (vs:=vs) (p:=step v p) hvs hI1 h1 with h2 | ⟨x,hx,h2,h3⟩
  ·rcases h.new v p hv0 hI h2 with h4 | ⟨x,hx,h4,h5⟩
   ·exact .inl h4
   ·exact .inr ⟨x,List.mem_flatMap.2 ⟨v,List.mem_cons_self,hx⟩,h4,foldG_mono h (vs:=vs) (p:=step v p) hvs hI1 h5⟩
  ·obtain ⟨w,hw,hx⟩:=List.mem_flatMap.1 hx
   refine .inr ⟨x,List.mem_flatMap.2 ⟨w,List.mem_cons_of_mem _ hw,hx⟩, ?_,h3⟩
   cases h4:has p.1 x
   ·rfl
   ·rw[h.mono v p x hv0 hI h4]at h2;cases h2
theorem foldG_quiet (h:StepOk I G has ks step):∀ {vs:List V} {p:σ×Bool},(∀v∈vs,G v)→I p.1→(foldG step vs p).2=false→p.2=false∧foldG step vs p=p∧∀v∈vs,step v p=p
 | [],_,_,_,h1=>⟨h1,rfl,fun _ hv=>by cases hv⟩
 |v::vs,p,hv,hI,h1=>by
  have hv0:=hv v List.mem_cons_self
  obtain⟨h2,h3,h4⟩:=foldG_quiet h (vs:=vs) (p:=step v p) (fun w hw=>hv w (List.mem_cons_of_mem _ hw)) (h.inv v p hv0 hI) h1
  obtain⟨h5,h6⟩:=h.quiet v p hv0 hI h2
  refine⟨h5, ?_,fun w hw => ?_⟩
  ·show foldG step vs (step v p)=p
   rw[h3,h6]
  ·rcases List.mem_cons.1 hw with rfl | hw
   ·exact h6
   ·have:=h4 w hw
    rw[h6]at this
    exact this
theorem foldG_inv {J:σ→Prop}:∀ {vs:List V} {p:σ×Bool},(∀v∈vs,∀p:σ×Bool,J p.1→J (step v p).1)→J p.1→J (foldG step vs p).1
 | [],_,_,h1=>h1
 |v::vs,p,h,h1=>foldG_inv (vs:=vs) (fun w hw=>h w (List.mem_cons_of_mem _ hw)) (h v List.mem_cons_self p h1)
end
def runG {σ V:Type} (step:V→σ×Bool→σ×Bool) (vs:List V):Nat→σ→σ
 |0,m=>m
 |n+1,m=>bif (foldG step vs (m,false)).2 then runG step vs n (foldG step vs (m,false)).1 else(foldG step vs (m,false)).1
def missG {σ K:Type} (has:σ→K→Bool) (ks:List K) (m:σ):Nat:=cntB (fun x => !has m x) ks
def runC {σ V K:Type} (has:σ→K→Bool) (ks:V→List K) (step:V→σ×Bool→σ×Bool) (vs:List V) (m:σ):σ:=runG step vs (missG has (vs.flatMap ks) m+1) m
section
variable {σ V K:Type} {I:σ→Prop} {G:V→Prop} {has:σ→K→Bool} {ks:V→List K} {step:V→σ×Bool→σ×Bool} {vs:List V}
theorem miss_lt (h:StepOk I G has ks step) (hv:∀v∈vs,G v) {m:σ} (hI:I m) (h1:(foldG step vs (m,false)).2=true):missG has (vs.flatMap ks) (foldG step vs (m,false)).1<missG has (vs.flatMap ks) m:=by
 rcases foldG_new h hv hI h1 with h2 | ⟨x,hx,h2,h3⟩
 ·cases h2
 ·refine cnt_lt (fun y _ hy => ?_) ⟨x,hx,by rw[h3];rfl,by rw[h2];rfl⟩
  cases h4:has m y
  ·rfl
  ·rw[foldG_mono h (vs:=vs) (p:=(m,false)) hv hI h4]at hy;cases hy
theorem run_fuel (h:StepOk I G has ks step) (hv:∀v∈vs,G v):∀ {n n':Nat} {m:σ},I m→missG has (vs.flatMap ks) m<n→missG has (vs.flatMap ks) m<n'→runG step vs n m=runG step vs n' m
 |0,_,_,_,h1,_=>by omega
 |n+1,0,_,_,_,h1=>by omega
 |n+1,n'+1,m,hI,h1,h2=>by
  unfold runG
  cases hc:(foldG step vs (m,false)).2
  ·rfl
  ·have:=miss_lt h hv hI hc
   exact run_fuel h hv (foldG_ok h (p:=(m,false)) hv hI) (by omega) (by omega)
theorem runC_at (h:StepOk I G has ks step) (hv:∀v∈vs,G v) {m:σ} (hI:I m):runC has ks step vs m=bif (foldG step vs (m,false)).2 then runC has ks step vs (foldG step vs (m,false)).1 else(foldG step vs (m,false)).1:=by
 show(bif (foldG step vs (m,false)).2 then runG step vs (missG has (vs.flatMap ks) m) (foldG step vs (m,false)).1 else(foldG step vs (m,false)).1)=_
 cases hc:(foldG step vs (m,false)).2
 ·rfl
 ·have:=miss_lt h hv hI hc
  exact run_fuel h hv (foldG_ok h (p:=(m,false)) hv hI) (by omega) (by omega)
theorem run_end (h:StepOk I G has ks step) (hv:∀v∈vs,G v) {J:σ→Prop} (hJ:∀v∈vs,∀p:σ×Bool,I p.1∧J p.1→J (step v p).1):∀ {n:Nat} {m:σ},missG has (vs.flatMap ks) m<n→I m→J m→I (runG step vs n m)∧J (runG step vs n m)∧∀v∈vs,step v (runG step vs n m,false)=(runG step vs n m,false)
 |0,_,h1,_,_=>by omega
 |n+1,m,h1,hI,h2=>by
  unfold runG
  have h3:=foldG_inv (J:=fun x=>I x∧J x) (step:=step) (vs:=vs) (p:=(m,false)) (fun v hv' p hp=>⟨h.inv v p (hv v hv') hp.1,hJ v hv' p hp⟩) ⟨hI,h2⟩
  cases hc:(foldG step vs (m,false)).2
  ·rw[cond_false]
   obtain⟨_,h5,h6⟩:=foldG_quiet h hv hI hc
   rw[h5]
   exact⟨hI,h2,h6⟩
  ·have:=miss_lt h hv hI hc
   exact run_end h hv hJ (by omega) h3.1 h3.2
theorem runC_end (h:StepOk I G has ks step) (hv:∀v∈vs,G v) {J:σ→Prop} (hJ:∀v∈vs,∀p:σ×Bool,I p.1∧J p.1→J (step v p).1) {m:σ} (hI:I m) (hm:J m):I (runC has ks step vs m)∧J (runC has ks step vs m)∧∀v∈vs,step v (runC has ks step vs m,false)=(runC has ks step vs m,false):=run_end h hv hJ (Nat.lt_succ_self _) hI hm
end
def subS (s:Str) (i j:Int):Str:=List.take (j.toNat-i.toNat) (List.drop i.toNat s)
theorem sub_len {s:Str} {i j:Int} (h0:0≤i) (h1:i≤j) (h2:j≤(s.length:Int)):((subS s i j).length:Int)=j-i:=by
 unfold subS
 rw[List.length_take,List.length_drop];omega
end Go.Proofs.YtmeiebnfmhddnaaGreatDoor.Ev
