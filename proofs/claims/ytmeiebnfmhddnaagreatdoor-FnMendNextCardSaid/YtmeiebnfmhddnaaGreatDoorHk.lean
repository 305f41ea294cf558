/-
  slices.Repeat at a list of one number: a new list of that number.
-/
import Derived.Test.YtmeiebnfmhddnaaGreatDoorHb
import Derived.WalkKit
import Derived.Lib.Walk
import Derived.Deep.LoopGhost
import Derived.Shelf.Spec.SlicesInsert
import Derived.Lib.Mul64
import Derived.Laws.Bits64b
namespace Go.Proofs.YtmeiebnfmhddnaaGreatDoor.Ev
open Go
theorem maskN (a:Nat) (ha:a<18446744073709551616):bits .and .u64 (a:Int) 4294967295=((a % 4294967296:Nat):Int):=by
 have h:=bits_and_u64_nat a 4294967295 ha (by omega)
 have e:a &&& 4294967295=a % 4294967296:=Nat.and_two_pow_sub_one_eq_mod a 32
 rw[e]at h
 exact h
theorem divN (a:Nat):(a:Int) / 4294967296=((a / 4294967296:Nat):Int):=by omega
theorem mulN (a b:Nat):(a:Int)*(b:Int)=((a*b:Nat):Int):=(Int.natCast_mul a b).symm
theorem addN (a b:Nat):(a:Int)+(b:Int)=((a+b:Nat):Int):=(Int.natCast_add a b).symm
theorem wrapN (a:Nat) (ha:a<18446744073709551616):IntKind.u64.wrap (a:Int)=(a:Int):=by rw[IntKind.wrap_u64];omega
theorem wrapM (a:Nat):IntKind.u64.wrap (a:Int)=((a % 18446744073709551616:Nat):Int):=by rw[IntKind.wrap_u64];omega
set_option maxHeartbeats 1000000 in
theorem walk_Mul64 (x y:Nat) (hx:x<18446744073709551616) (hy:y<18446744073709551616) (w:World) :
  Calls Tryz.prog 171 #[.int .u64 x, .int .u64 y] w fun e w'=>e = .returned (.tuple #[.int .u64 ((x*y / 18446744073709551616:Nat):Int), .int .u64 ((x*y % 18446744073709551616:Nat):Int)])∧w'=w:=by
 obtain⟨bd,bt,bw,hhi⟩:=Lib.mul64_hi x y hx hy
 have ba:=Lib.half_mul_le (a:=x / 4294967296) (b:=y / 4294967296) (by omega) (by omega)
 have bb:=Lib.half_mul_le (a:=x / 4294967296) (b:=y % 4294967296) (by omega) (by omega)
 have bc:=Lib.half_mul_le (a:=x % 4294967296) (b:=y / 4294967296) (by omega) (by omega)
 have ba':x / 4294967296*(y / 4294967296)<18446744073709551616:=by omega
 have bb':x / 4294967296*(y % 4294967296)<18446744073709551616:=by omega
 have bc':x % 4294967296*(y / 4294967296)<18446744073709551616:=by omega
 have bh1:x / 4294967296*(y / 4294967296)+(x / 4294967296*(y % 4294967296)+x % 4294967296*(y % 4294967296) / 4294967296) / 4294967296<18446744073709551616:=by omega
 have bh:x / 4294967296*(y / 4294967296)+(x / 4294967296*(y % 4294967296)+x % 4294967296*(y % 4294967296) / 4294967296) / 4294967296+((x / 4294967296*(y % 4294967296)+x % 4294967296*(y % 4294967296) / 4294967296) % 4294967296+x % 4294967296*(y / 4294967296)) / 4294967296<18446744073709551616:=by omega
 go_enter Tryz.func171,Tryz.ntmps171
 go_wp2
 simp only[maskN x hx,maskN y hy,divN,mulN,addN,wrapN _ bd,wrapN _ bb',wrapN _ bt,maskN _ bt,wrapN _ bc',wrapN _ bw,wrapN _ ba',wrapN _ bh1,wrapN _ bh,wrapM (x*y)]
 rw[hhi]
 go_ret2
 exact⟨rfl,rfl⟩
set_option maxHeartbeats 1000000 in
theorem walk_Mul (y:Nat) (hy:y≤1001) (w:World) :
  Calls Tryz.prog 153 #[.int .u64 (1:Int), .int .u64 y] w fun e w'=>e = .returned (.tuple #[.int .u64 (0:Int), .int .u64 y])∧w'=w:=by
 have c64:Calls Tryz.prog 171 #[.int .u64 (1:Int), .int .u64 y] w fun e w'=>e = .returned (.tuple #[.int .u64 (0:Int), .int .u64 y])∧w'=w:=by
  have h:=walk_Mul64 1 y (by omega) (by omega) w
  rw[show 1*y / 18446744073709551616=0 by omega,show 1*y % 18446744073709551616=y by omega]at h
  exact h
 have e264:=Tryz.call171
 go_enter Tryz.func153,Tryz.ntmps153
 go_wp2_with (refine c64.mono ?_;rintro e w' ⟨rfl,hw⟩;rw[hw])
 go_ret2
 exact⟨rfl,rfl⟩
structure RepW (w:World) (t:TypeId) (cs:List Value) (w':World):Prop where
 size:w'.heap.size=w.heap.size+1
 old:∀b,b<w.heap.size→w'.heap[b]? = w.heap[b]?
 row:w'.heap[w.heap.size]? = some (.cells cs.toArray t (0,0))
 os:w'.os=w.os
 tape:w'.tape=w.tape
 output:w'.output=w.output
theorem RepW.drew {w w':World} {t:TypeId} {cs:List Value} (h:RepW w t cs w'):RepW w t cs w'.drew:=⟨h.1,h.2,h.3,h.4,h.5,h.6⟩
theorem RepW.set {w w':World} {t:TypeId} {cs:List Value} (h:RepW w t cs w') (cs':List Value):RepW w t cs' (w'.setRow w.heap.size cs'.toArray):=by
 refine⟨by rw[setRow_size];exact h.1,fun b hb => ?_,setRow_heap _ _ _ _ _ _ h.3,h.4,h.5,h.6⟩
 rw[setRow_other _ _ _ _ (by omega)]
 exact h.2 b hb
theorem RepW.cell {w w':World} {t:TypeId} {cs:List Value} (h:RepW w t cs w') (j:Nat):w'.cell? ⟨w.heap.size,j,none⟩=cs[j]? := by
 rw[cell_of_row _ _ _ _ _ _ h.3];simp
def repR (v:Value) (k n:Nat):List Value:=List.replicate k v++List.replicate (n-k) (.int .i64 0)
theorem repR_at {v:Value} {k n j:Nat} (hj:j<k):(repR v k n)[j]? = some v:=by
 unfold repR
 rw[List.getElem?_append_left (by rw[List.length_replicate];exact hj),List.getElem?_replicate,if_pos hj]
theorem repR_len {v:Value} {k n:Nat} (h:k≤n):(repR v k n).length=n:=by
 unfold repR
 rw[List.length_append,List.length_replicate,List.length_replicate];omega
theorem repR_step {v:Value} {k m n:Nat} (h:k+m≤n):(repR v k n).take k++List.replicate m v++(repR v k n).drop (k+m)=repR v (k+m) n:=by
 unfold repR
 have h1:(List.replicate k v).length=k:=List.length_replicate ..
 rw[List.take_append_of_le_length (by omega),List.take_of_length_le (by omega),List.replicate_append_replicate,List.drop_append,List.drop_of_length_le (by omega),List.nil_append,List.drop_replicate,h1]
 congr 2
 omega
theorem addr0 (a:Addr):a.add 0=a:=by unfold Addr.add;cases a;split<;>simp_all
theorem copy_rep {w W:World} {n k m sl sc dc:Nat} {v:Value} {a:Addr} (h:RepW w 3 (repR v k n) W) (hk:k+m≤n) (hm:Nat.min sl (n-k)=m) (hv:0<m) (hsrc:∀j,j<m→W.cell? (a.add j)=some v) (h1:v.oneCell'=true:=by rfl) (ty:TypeId) :
  (Builtin.copy_ #[68,68] ty #[.slice (some ⟨w.heap.size,k,none⟩) (n-k) dc, .slice (some a) sl sc]).run Tryz.prog W = .ok (.int .i64 (m:Int)) (W.setRow w.heap.size (repR v (k+m) n).toArray):=by
 have hu:Tryz.prog.underlying 68=some (.slice 3):=by kernel_rfl
 have hi:Tryz.prog.info? 3=some Tryz.t3:=by kernel_rfl
 have hs:(Tryz.prog.info? 3).map (·.size)=some 1:=by rw[hi];rfl
 have hc:=run_copy_row (P:=Tryz.prog) W 68 68 ty 3 w.heap.size k (n-k) dc a sl sc _ 3 (List.replicate m v) hu hs h.row (by rw[List.length_replicate,hm]) (fun j x hj=>by
   rw[List.getElem?_replicate]at hj
   split at hj
   ·cases hj
    rename_i hjm
    exact hsrc j hjm
   ·cases hj) (by rw[List.length_replicate,List.size_toArray,repR_len (by omega)];exact hk) (fun x hx=>by rw[List.eq_of_mem_replicate hx];exact h1)
 rw[hc,List.length_replicate]
 have e:=repR_step (v:=v) hk
 show Result.ok (Value.int .i64 (m:Int)) (W.setRow w.heap.size ((repR v k n).take k++List.replicate m v++(repR v k n).drop (k+m)).toArray)=_
 rw[e]
set_option maxHeartbeats 4000000 in
set_option maxRecDepth 1000000 in
theorem walk_Repeat (a:Addr) (cap:Nat) (v:Int) (n:Nat) (w:World) (hn:0<n) (hn2:n≤1001) (ha:w.cell? a=some (.int .i64 v)) (hb:a.block<w.heap.size) :
  Calls Tryz.prog 129 #[.slice (some a) 1 cap, .int .i64 n] w fun e w'=>e = .returned (.slice (some ⟨w.heap.size,0,none⟩) n n)∧RepW w 3 (repR (.int .i64 v) n n) w':=by
 have hMul:=walk_Mul n hn2 w
 have e212:=Tryz.call153
 have hu:Tryz.prog.underlying 68=some (.slice 3):=by kernel_rfl
 have hi:Tryz.prog.info? 3=some Tryz.t3:=by kernel_rfl
 have hs:(Tryz.prog.info? 3).map (·.size)=some 1:=by rw[hi];rfl
 obtain⟨W1,hW1⟩:∃W1,W1=w.alloc (.cells (madeCells (Value.int .i64 0).cells (((n:Int)).toNat*1)) 3):=⟨_,rfl⟩
 have hmk:(Instr.makeSlice 68 (.int .i64 n) (.int .i64 n)).run Tryz.prog w = .ok (.slice (some ⟨w.heap.size,0,none⟩) n n) W1:=by
  have h:=run_make (P:=Tryz.prog) w 68 3 Tryz.t3 (.int .i64 0) hu hi rfl .i64 .i64 n n (by omega) (Int.le_refl _) (by show(8:Int)*n≤_;omega) (by omega)
  rw[hW1]
  exact h
 have h1:RepW w 3 (repR (.int .i64 v) 0 n) W1:=by
  have e:madeCells (Value.int .i64 0).cells (((n:Int)).toNat*1)=(repR (.int .i64 v) 0 n).toArray:=by
   rw[show (Value.int .i64 0).cells=#[Value.int .i64 0] from rfl,Int.toNat_natCast,Nat.mul_one]
   apply Array.ext'
   rw[toList_madeCells_one]
   unfold repR
   rw[Nat.sub_zero];rfl
  rw[hW1,e]
  exact⟨by simp,fun b hb=>heap_alloc_old w _ hb,heap_alloc_new w _,rfl,rfl,rfl⟩
 have hcp:∀ty,(Builtin.copy_ #[68,68] ty #[.slice (some ⟨w.heap.size,0,none⟩) n n, .slice (some a) 1 cap]).run Tryz.prog W1 = .ok (.int .i64 (1:Int)) (W1.setRow w.heap.size (repR (.int .i64 v) 1 n).toArray):=fun ty=>copy_rep (a:=a) (m:=1) (sl:=1) (sc:=cap) (dc:=n) (k:=0) (ty:=ty) h1 (by omega) (by show Nat.min 1 (n-0)=1;exact Nat.min_eq_left (by omega)) (by omega) fun j hj=>by
  obtain rfl:j=0:=by omega
  rw[addr0,World.cell?_of_block (w:=w) (h1.old _ hb)]
  exact ha
 have h2:=h1.set (repR (.int .i64 v) 1 n)
 obtain⟨W2,hW2⟩:∃W2,W2=W1.setRow w.heap.size (repR (.int .i64 v) 1 n).toArray:=⟨_,rfl⟩
 rw[← hW2]at h2 hcp
 clear hW1 hW2 h1 hi hs
 have hmix:=mixed
 go_enter Tryz.func129,Tryz.ntmps129
 go_wp2_with (first
  | (refine hMul.mono ?_;rintro e w' ⟨rfl,hw⟩;rw[hw])
  | (at_builtin;refine wpList_copy_runI _ rfl _ _ 68 68 rfl _ _ rfl rfl (hcp _) ?_))
 go_loopg [8] n (fun g s8 wx=>∃k:Nat,1≤k∧k≤n∧n-k≤g∧s8 = .int .i64 k∧RepW w 3 (repR (.int .i64 v) k n) wx)
 case atStart=>exact ⟨1,Nat.le_refl 1,hn,by omega,rfl,h2⟩
 case round =>
  obtain⟨k,k1,k2,k3,rfl,hr⟩:=hrel
  by_cases hk:(k:Int)<(n:Int)
  ·obtain ⟨m,hm⟩:∃m,Nat.min k (n-k)=m:=⟨_,rfl⟩
   have m1:0<m∧m≤k∧m≤n-k:=by rw[← hm];exact ⟨Nat.lt_min.2 ⟨by omega,by omega⟩,Nat.min_le_left _ _,Nat.min_le_right _ _⟩
   obtain⟨m2,m3,m4⟩:=m1
   have hcq:=fun ty=>copy_rep (a:=⟨w.heap.size,0,none⟩) (sl:=k) (sc:=n) (dc:=n-k) hr.drew (by omega) hm m2 (fun j hj=>by
    rw[Addr.add_lit,hr.drew.cell]
    rw[Nat.zero_add]
    exact repR_at (by omega)) rfl ty
   have hne:¬(n=k):=by omega
   have hkn:(k:Int)≤(n:Int):=by omega
   have hw1:IntKind.i64.wrap ((k:Int)+(m:Int))=(k:Int)+(m:Int):=by rw[IntKind.wrap_i64];omega
   have hr2:=hr.drew.set (repR (.int .i64 v) (k+m) n)
   have R:Aside (RepW w 3 (repR (.int .i64 v) (k+m) n) (wr.drew.setRow w.heap.size (repR (.int .i64 v) (k+m) n).toArray)):=hr2
   clear hr hr2 hm h2 hMul
   go_wp2_with fail
   go_region_law_o (refine step_copy_runI rfl _ _ 68 68 rfl (.slice (some ⟨w.heap.size,k,none⟩) (n-k) (n-k)) (.slice (some ⟨w.heap.size,0,none⟩) k n) (by simp[Act.eval,Act.put]) (by simp[Act.eval,Act.put]) (hcq _) ?_)
   go_wp2
   go_roundg (n-(k+m))
   case measure=>omega
   case rel=>exact ⟨k+m,by omega,by omega,by omega,by simp,R.out⟩
  ·have hkn:k=n:=by omega
   subst hkn
   have R:Aside (RepW w 3 (repR (.int .i64 v) k k) wr):=hr
   clear hr h2 hMul
   go_wp2
   go_ret
   exact⟨rfl,R.out⟩
def rep1 (l:List Int) (n:Int):Bool:=decide (List.length l=1)&&(decide (1≤n)&&decide (n≤1001))
theorem s_Repeat (l:List Int) (n:Int) (hq:rep1 l n=true):Sat Tryz.prog 129 [ofD TIS l,ofD TI64 n] [] (.d (.one (.own 1000))) [(1000,some (.lis 3 TI64 (List.replicate n.toNat (l.getD 0 0))))]:=by
 intro w F β args H hds
 cases hds with | cons h1 h2 =>
 cases h2 with | cons h2 h3 =>
 cases h3
 unfold rep1 at hq
 rw[andd,andd,dec_iff,dec_iff,dec_iff]at hq
 obtain⟨q1,q2,q3⟩:=hq
 have p1:List.length (α:=Den TI64) l=1:=q1
 obtain⟨N,rfl⟩:∃N:Nat,n=(N:Int):=⟨n.toNat,by omega⟩
 obtain⟨e2,_⟩:=h2
 subst e2
 obtain⟨a,cap,e1,g1,g2,g3⟩:=h1
 simp only[List.cons.injEq,and_true]at e1
 subst e1
 rcases g3 with g3 | ⟨b,o,rfl,hF,g3⟩
 ·exact absurd (q1.symm.trans g3) (by decide)
 obtain⟨ys,y1,y2⟩:=g3 0 (by rw[p1];exact Nat.zero_lt_one)
 obtain⟨y,y3,y4⟩:=y2 0 Nat.zero_lt_one
 obtain⟨rfl,y6⟩:=y1
 cases y3
 have hb:=H.low b hF
 rw[p1]
 refine(walk_Repeat ⟨b,o,none⟩ cap (l.getD 0 0) N w (by omega) (by omega) y4 hb).mono ?_
 rintro e w' ⟨rfl,R⟩
 have hlen:List.length (α:=Den TI64) (List.replicate N (l.getD 0 0))=N:=List.length_replicate (n:=N) (a:=l.getD 0 0)
 have T:=H.turn (w':=w') (F':=F) 1000 (some (.lis 3 TI64 (List.replicate N (l.getD 0 0)))) (.slice (some ⟨w.heap.size,0,none⟩) N N) R.os R.tape R.output (by rw[R.size];omega) (fun _=>False) (fun _ h=>h.elim) (fun b hb _=>R.old b hb) (fun _ h=>h) (fun _ h => .inl h)
  (fun q0 o h0=>by cases h0) (fun Pr ob ho=>by
   cases ho
   refine⟨.inr ⟨w.heap.size,N,_, ?_,by omega, .new R.row, ?_,by unfold maxLen;omega, ?_,fun k hk j hj => ?_⟩,fun b hb => ?_⟩
   ·show setB β 1000 _ 1000=_
    rw[hlen]
    exact if_pos rfl
   ·rw[hlen];exact Nat.le_refl _
   ·rw[List.size_toArray,repR_len (Nat.le_refl _)];exact (Nat.mul_one _).symm
   ·rw[hlen]at hk
    have hj:j<1:=hj
    obtain rfl:j=0:=by omega
    refine⟨.int .i64 (l.getD 0 0), ?_, ?_⟩
    ·show (repR _ N N).toArray[k*1+0]? = _
     rw[List.getElem?_toArray,Nat.mul_one,Nat.add_zero]
     exact repR_at hk
    ·show Ro _ _ (.v (.int .i64 ((List.replicate N (l.getD 0 0)).getD k 0))) _
     rw[show (List.replicate N (l.getD 0 0)).getD k 0=l.getD 0 0 by rw[List.getD_eq_getElem?_getD,List.getElem?_replicate,if_pos hk];rfl]
     exact⟨rfl,y6⟩
   ·have hb:=Blk_slice.1 hb
    simp only[blk]at hb
    split at hb
    ·cases hb
    ·cases hb;exact .inr (Nat.le_refl _))
 have e:look [(1000,some (.lis 3 TI64 (List.replicate N (l.getD 0 0)):Obj))]=setH (hOf []) 1000 (some (.lis 3 TI64 (List.replicate N (l.getD 0 0)))):=by
  funext i
  show(bif Nat.beq 1000 i then some _ else none)=if i=1000 then some _ else none
  by_cases hi:i=1000
  ·subst hi;rfl
  ·rw[if_neg hi]
   cases hc:Nat.beq 1000 i
   ·rfl
   ·exact absurd (Nat.eq_of_beq_eq_true hc).symm hi
 show ∃v F' β',_
 rw[Int.toNat_natCast,e]
 refine⟨_,F,_,rfl,T.1,fun i hi=>absurd hi (Nat.not_lt_zero i),fun i o hi=>absurd hi (Nat.not_lt_zero i),fun _ _ _ hh=>(nomatch hh), ?_⟩
 exact⟨rfl,⟨_,if_pos rfl⟩,fun _ _=>(if_pos rfl:setB β 1000 _ 1000=_).symm⟩
noncomputable def c_slices_Repeat_int_int:Con:=conN [TIS,TI64] fun(l:List Int) (n:Int)=>(some (rep1 l n), .d (.one (.own 1000)),[(1000,some (.lis 3 TI64 (List.replicate n.toNat (l.getD 0 0))))])
theorem k_slices_Repeat_int_int:ConOk Tryz.prog 129 c_slices_Repeat_int_int:=conN_ok Tryz.call129 fun l _ n _ hqq=>s_Repeat l n (pre_of hqq)
noncomputable def Γ70:GL:=(129,c_slices_Repeat_int_int)::Γ69
theorem Γ70ok:GO Γ70 := .cons k_slices_Repeat_int_int Γ69ok
end Go.Proofs.YtmeiebnfmhddnaaGreatDoor.Ev
