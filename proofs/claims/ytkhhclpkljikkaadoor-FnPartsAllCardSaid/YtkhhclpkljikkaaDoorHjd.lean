/-
  Trees' yields and parts: plain law.
-/
import Derived.Test.YtkhhclpkljikkaaDoorGzd
import Derived.WalkKit
import Derived.Lib.Walk
import Derived.Lib.Strings
import Derived.Lib.IndexBytes
import Derived.Laws.RangeString
import Derived.Deep.LoopGhost
namespace Go.Proofs.YtkhhclpkljikkaaDoor.Ev
open Go
open List (length length_append length_cons length_singleton length_replicate length_set length_take length_drop mem_cons_of_mem mem_cons_self getD replicate mem_append_left mem_append_right all_eq_true drop_eq_getElem_cons drop_eq_nil_of_le append_assoc mem_singleton getElem?_append_left getElem?_append_right getElem?_eq_none getElem?_take mem_append)
noncomputable section
def gW (s:Sh) (pre:s.V→Bool) (P:s.V→Cont→Option Fin) (g:St→Cont→Option Fin):St→Cont→Option Fin:=fun st K=>match s.p st with
 |some v=>need (pre v) (P v K)
 |none=>g st K
theorem gW_ok {s:Sh} {pre:s.V→Bool} {P:s.V→Cont→Option Fin} {g f:St→Cont→Option Fin} {head:St→St} (h2:∀st K r,g st K=some r→∃N,iter f head N st K=some r)
  (h:∀v K,pre v=true→(∀R:St→Option Fin,f (s.mk v) (onward head R K)=P v K)∨∃st',g st' K=P v K∧∀R:St→Option Fin,f (s.mk v) (onward head R K)=R st'):∀st K r,gW s pre P g st K=some r→∃N,iter f head N st K=some r:=by
 intro st K r hr;unfold gW at hr
 split at hr
 ·rename_i v hv;rw[Sh.p_some hv];obtain⟨h3,h4⟩:=need_some.1 hr;rcases h v K h3 with h5 | ⟨st',h5,h6⟩
  ·exact ⟨1,by rw[iter_succ,h5];exact h4⟩
  ·obtain ⟨N,hN⟩:=h2 st' K r (h5.trans h4);exact⟨N+1,by rw[iter_succ,h6];exact hN⟩
 ·exact h2 st K r hr
def kid9:Nat→GTree→Bool
 |0,_=>false
 |n+1,t=>Nat.ble (length t.sign) 8&&(Nat.ble t.kids.length 9&&List.all t.kids (kid9 n))
theorem kid9_iff {n:Nat} {t:GTree}:kid9 (n+1) t=true↔length t.sign≤8∧t.kids.length≤9∧∀k∈t.kids,kid9 n k=true:=by
 show(Nat.ble (length t.sign) 8&&(Nat.ble t.kids.length 9&&List.all t.kids (kid9 n)))=true↔_;rw[andd,andd,ble_iff,ble_iff,all_eq_true]
theorem kid9_up:∀ {n:Nat} {t:GTree},kid9 n t=true→kid9 (n+1) t=true
 |0,_,h=>by cases h
 |n+1,t,h=>by
  obtain⟨h1,h2,h3⟩:=kid9_iff.1 h;exact kid9_iff.2 ⟨h1,h2,fun k hk=>kid9_up (h3 k hk)⟩
theorem kid9_le {n m:Nat} {t:GTree} (hm:n≤m) (h:kid9 n t=true):kid9 m t=true:=by
 obtain⟨k,rfl⟩:=Nat.exists_eq_add_of_le hm;clear hm
 induction k with
 |zero=>exact h
 |succ k ih=>exact kid9_up ih
theorem tOkP_kid9:∀ {n:Nat} {t:GTree},tOkP n t=true→kid9 n t=true
 |0,_,h=>by cases h
 |n+1,t,h=>by
  obtain⟨h1,h2⟩:=tOkP_kids h;unfold smT at h1;rw[andd,andd,andd,ble_iff,ble_iff]at h1;exact kid9_iff.2 ⟨h1.1,by have:=h1.2.2.2;omega,fun k hk=>tOkP_kid9 (all_eq_true.1 h2 k hk)⟩
theorem flat_congr {f g:GTree→Str}:∀ {l:List GTree},(∀k∈l,f k=g k)→l.flatMap f=l.flatMap g
 | [],_=>rfl
 |a::l,h=>by rw[List.flatMap_cons,List.flatMap_cons,h a mem_cons_self,flat_congr fun k hk=>h k (mem_cons_of_mem _ hk)]
theorem yld_up:∀ {n:Nat} {t:GTree},kid9 n t=true→yldP (n+1) t=yldP n t
 |0,_,h=>by cases h
 |n+1,t,h=>by
  obtain⟨_,_,h3⟩:=kid9_iff.1 h;show(bif smallS t.sign then t.sign else t.kids.flatMap (yldP (n+1)))=(bif smallS t.sign then t.sign else t.kids.flatMap (yldP n));rw[flat_congr fun k hk=>yld_up (h3 k hk)]
theorem yld_le {n m:Nat} {t:GTree} (hm:n≤m) (h:kid9 n t=true):yldP m t=yldP n t:=by
 obtain⟨k,rfl⟩:=Nat.exists_eq_add_of_le hm;clear hm
 induction k with
 |zero=>rfl
 |succ k ih=>rw[← ih];exact yld_up (kid9_le (Nat.le_add_right n k) h)
theorem yld9_len:∀ {n:Nat} {t:GTree},kid9 n t=true→((yldP n t).length:Int)≤pw n
 |0,_,h=>by cases h
 |n+1,t,h=>by
  obtain⟨_,h2,h3⟩:=kid9_iff.1 h;have hp:=pw_pos n;rw[pw_succ];unfold yldP
  cases hs:smallS t.sign
  ·have h5:=flat_len (f:=yldP n) (m:=10 ^ n) (l:=t.kids) fun k hk=>(by have:=yld9_len (h3 k hk);unfold pw at this;omega);have h4:=Nat.mul_le_mul_right (10 ^ n) h2;rw[cond_false];unfold pw;omega
  ·obtain ⟨c,e,_⟩:=smallS_one hs;rw[cond_true,e];simp only[length_cons,List.length_nil];omega
theorem ks_at {ks:List GTree} {i:Int} (h0:0≤i) (h1:i<(ks.length:Int)):ks.drop i.toNat=ks.getD i.toNat tz::ks.drop (i+1).toNat:=by
 have hn:i.toNat<ks.length:=by omega
 rw[drop_eq_getElem_cons hn,show (i+1).toNat=i.toNat+1 by omega,zG,zE hn];rfl
abbrev Spot:Type:=GTree×(Str×Int×Int)
def sumY (y:GTree→Str):List GTree→Int
 | []=>0
 |k::ks=>((y k).length:Int)+sumY y ks
def spL (f:GTree→Int→List Spot) (y:GTree→Str):List GTree→Int→List Spot
 | [],_=>[]
 |k::ks,a=>f k a++spL f y ks (a+((y k).length:Int))
def spV:Nat→GTree→Int→List Spot
 |0,_,_=>[]
 |n+1,t,a=>bif bigS t.sign then(t,t.sign,a,a+sumY (yldP 12) t.kids)::spL (spV n) (yldP 12) t.kids a else []
theorem sumY_flat {y:GTree→Str}:∀ {ks:List GTree},sumY y ks=((ks.flatMap y).length:Int)
 | []=>rfl
 |k::ks=>by
  unfold sumY;rw[List.flatMap_cons,length_append,sumY_flat];omega
theorem spL_len {f:GTree→Int→List Spot} {y:GTree→Str} {m:Nat}:∀ {ks:List GTree} {a:Int},(∀k∈ks,∀a,(f k a).length≤m)→(spL f y ks a).length≤ks.length*m
 | [],_,_=>Nat.zero_le _
 |k::ks,a,h=>by
  have h1:=h k mem_cons_self a;have h2:=spL_len (y:=y) (ks:=ks) (a:=a+((y k).length:Int)) fun x hx=>h x (mem_cons_of_mem _ hx);unfold spL;rw[length_append,length_cons,Nat.add_mul];omega
theorem sp_len:∀ {n:Nat} {t:GTree} {a:Int},kid9 n t=true→((spV n t a).length:Int)≤pw n
 |0,_,_,h=>by cases h
 |n+1,t,a,h=>by
  obtain⟨_,h2,h3⟩:=kid9_iff.1 h;have hp:=pw_pos n;rw[pw_succ];unfold spV
  cases bigS t.sign
  ·show (0:Int)≤_;omega
  ·have h5:=spL_len (f:=spV n) (y:=yldP 12) (m:=10 ^ n) (ks:=t.kids) (a:=a) fun k hk a=>(by have:=sp_len (a:=a) (h3 k hk);unfold pw at this;omega);have h4:=Nat.mul_le_mul_right (10 ^ n) h2;rw[cond_true,length_cons];unfold pw at hp ⊢;omega
abbrev sbO (i j:Nat):Obj := .box 70 [.slf i, .own j]
abbrev sbN:Obj := .box 70 [.r (.v (.pointer none)), .r (.v (.slice none 0 0))]
abbrev bsO (l:List Int):Obj := .lis 5 (.int .u8) l
def iyPre (n:Nat) (x:GTree) (l:List Int):Bool:=kid9 n x&&(Nat.ble n 12&&decide ((l.length:Int)+pw n≤1000000000000))
theorem iyPre_iff {n:Nat} {x:GTree} {l:List Int}:iyPre n x l=true↔kid9 n x=true∧n≤12∧(l.length:Int)+pw n≤1000000000000:=by
 unfold iyPre;rw[andd,andd,ble_iff,dec_iff]
def conIY (n:Nat):Con:=⟨false,fun ds os=>match ds,os with
 | [d, .one (.ptr 0 0)],[.box t [.slf 0, .own 1],o]=>match asD .tree d,exLis 5 (.int .u8) (some o),Nat.beq t 70 with
  |some (x:GTree),some (l:List Int),true=>some (some (iyPre n x l), .tup [],[(0,some (sbO 0 1000)),(1000,some (bsO (l++intL (yldP n x)))),(1,none)])
  |_,_,_=>none
 |_,_=>none⟩
theorem conIY_ok {n:Nat} (he:∀(x:GTree) (l:List Int),iyPre n x l=true→Sat Tryd.prog 33 [ofD .tree x, .one (.ptr 0 0)] [sbO 0 1,bsO l] (.tup []) [(0,some (sbO 0 1000)),(1000,some (bsO (l++intL (yldP n x)))),(1,none)]):ConOk Tryd.prog 33 (conIY n):=by
 refine⟨Tryd.call33,fun ds os c x objs hc hok => ?_⟩;unfold conIY at hc;dsimp only at hc
 split at hc
 ·rename_i d t o
  split at hc
  ·rename_i x l e1 e2 e3
   cases hc
   have e2:=Option.some.inj (exLis_some e2);subst e2;have e3:=zB e3;subst e3;intro w F β args H hds
   cases hds with | cons h1 h2 =>
   exact he x l (pre_of hok) w F β _ H (.cons (asD_sound e1 h1 _ β) h2)
  ·cases hc
 ·cases hc
theorem intL_len {s:Str}:(intL s).length=s.length:=by unfold intL;rw[List.length_map]
theorem intL_app {a b:Str}:intL (a++b)=intL a++intL b:=by unfold intL;rw[List.map_append]
theorem sat_boxS {P:Program} {f:FuncId} {ds:List D} {os:List Obj} {t u:TypeId} {e:Ty} {l:List (Den e)} (hos:os.length≤2) (S:Sat P f ds os (.tup []) [(0,some (.box t [.slf 0, .own 1])),(1,some (.lis u e l))]) :
  Sat P f ds os (.tup []) [(0,some (.box t [.slf 0, .own 1000])),(1000,some (.lis u e l)),(1,none)]:=by
 intro w F β args H hds;refine(S w F β args H hds).mono ?_;rintro ex w' ⟨v,F',β',r1,r2,r3,r4,r5,r6⟩;have h0:look [(0,some (Obj.box t [.slf 0, .own 1])),(1,some (Obj.lis u e l))] 0=some (some (.box t [.slf 0, .own 1])):=rfl;have h1:look [(0,some (Obj.box t [.slf 0, .own 1])),(1,some (Obj.lis u e l))] 1=some (some (.lis u e l)):=rfl;obtain⟨b,us,q1,q2,q3⟩:=r2.obj 0 _ h0;obtain⟨H1,_⟩:=r2.kill 1;rw[setB_self]at H1;have hs1:setH (look [(0,some (Obj.box t [.slf 0, .own 1])),(1,some (Obj.lis u e l))]) 1 none 1000=none:=rfl;have hlook:∀j o',setH (look [(0,some (Obj.box t [.slf 0, .own 1])),(1,some (Obj.lis u e l))]) 1 none j=some (some o')→j=0:=by
  intro j o' hj
  match j with
  |0=>rfl
  |1=>cases hj
  |j+2=>cases hj
 have T:=H1.turn (w':=w') (F':=F') 1000 (some (.lis u e l)) (β' 1) rfl rfl rfl (Nat.le_refl _) (fun b=>Blk (β' 1) b)
  (fun b hb=>⟨r2.notF 1 _ b h1 hb,fun j o' _ hj hbj=>by
   have e0:=hlook j o' hj;subst e0;exact absurd (r2.apart 0 1 _ _ b h0 h1 hbj hb) (by omega),r2.fromO 1 _ b h1 hb⟩)
  (fun _ _ _=>rfl) (fun _ hf=>hf) (fun _ hf => .inl hf) (fun q0 _ hh=>by rw[hs1]at hh;cases hh)
  (fun _ ob hob=>by
   cases hob
   refine⟨RepO.leaf.2 ?_,fun b hb => .inl hb⟩;have:=RepO.leaf.1 (r2.obj 1 _ h1)
   simpa [setB]using this)
 obtain⟨H2,_⟩:=T;have hlook2:∀j o',setH (setH (look [(0,some (Obj.box t [.slf 0, .own 1])),(1,some (Obj.lis u e l))]) 1 none) 1000 (some (.lis u e l)) j=some (some o')→j=0∨j=1000:=by
  intro j o' hj
  by_cases e0:j=1000
  ·exact .inr e0
  ·refine .inl (hlook j o' ?_)
   simpa [setH,e0]using hj
 have T2:=H2.turn (w':=w') (F':=F') 0 (some (.box t [.slf 0, .own 1000])) (β' 0) rfl rfl rfl (Nat.le_refl _) (fun b=>Blk (β' 0) b)
  (fun b hb=>⟨r2.notF 0 _ b h0 hb,fun j o' hj0 hj hbj=>by
   rcases hlook2 j o' hj with e0 | e0
   ·exact hj0 e0
   ·subst e0;have hbj:Blk (β' 1) b:=by simpa [setB]using hbj
    exact absurd (r2.apart 0 1 _ _ b h0 h1 hb hbj) (by omega),r2.fromO 0 _ b h0 hb⟩)
  (fun _ _ _=>rfl) (fun _ hf=>hf) (fun _ hf => .inl hf) (fun q0 o hh _=>⟨by
   have:some (some (Obj.box t [.slf 0, .own 1]))=some q0:=hh;exact⟨_,(Option.some.inj this).symm⟩,by simp[setB]⟩)
  (fun _ ob hob=>by
   cases hob
   refine⟨⟨b,us,by simp[setB,q1],q2, ?_⟩,fun b hb => .inl hb⟩
   generalize us.toList=ul at q3
   cases q3 with | cons g1 g2=>cases g2 with | cons g2 g3 =>
   cases g3
   refine .cons ⟨g1.1,⟨_,rfl⟩,fun o _=>by simpa [setB]using g1.2.2 _ h0⟩ (.cons ⟨g2.1,⟨some (.lis u e l),by simp[setH]⟩,fun o _ => ?_⟩ .nil);have:=g2.2.2 _ h1
   simpa [setB]using this)
 obtain⟨H3,_⟩:=T2;have hcomm:setH (setH (setH (look [(0,some (Obj.box t [.slf 0, .own 1])),(1,some (Obj.lis u e l))]) 1 none) 1000 (some (.lis u e l))) 0 (some (.box t [.slf 0, .own 1000]))=look [(0,some (Obj.box t [.slf 0, .own 1000])),(1000,some (Obj.lis u e l)),(1,none)]:=by
  funext j
  match j with
  |0=>rfl
  |1=>rfl
  |j+2 =>
   by_cases hj:j+2=1000
   ·rw[hj];rfl
   ·have e2:Nat.beq 1000 (j+2)=false:=by cases h:Nat.beq 1000 (j+2)with | false=>rfl | true=>exact absurd (zB h).symm hj
    simp only[setH,look,e2,hj,if_false];rfl
 rw[hcomm]at H3;refine⟨v,F',_,r1,H3,fun i hi => ?_,fun i o hi ho => ?_,fun _ _ _=>by simp, ?_⟩
 ·match i with
  |0=>exact ⟨_,rfl⟩
  |1=>exact ⟨_,rfl⟩
  |i+2=>omega
 ·match i with
  |0 =>
   have:=r4 0 _ hi h0
   simpa [setB]using this
  |1=>cases ho
  |i+2=>omega
 ·obtain ⟨us2,hv,hall⟩:=r6;refine⟨us2,hv, ?_⟩
  generalize us2.toList=ul at hall
  cases hall
  exact .nil
structure LevYI where
 n:Nat
 h:ConOk Tryd.prog 33 (conIY n)
noncomputable section
variable [Inhabited LevYI]
abbrev lvYI:Nat:=(default:LevYI).n
def c_impl_yieldR:Con:=conIY lvYI
theorem k_impl_yieldR:ConOk Tryd.prog 33 c_impl_yieldR:=(default:LevYI).h
def Γ53:GL:=(33,c_impl_yieldR)::Γ52
theorem Γ53ok:GO Γ53 := .cons k_impl_yieldR Γ52ok
def cb_iy:Cx:=cxOf Γ53 Tryd.f33.ntmps [(4,[1,14,15,16])] [(0,[]),(1,[1,14,15,16]),(1000000,[])] [] []
theorem x_iyB (ks:List GTree) (n i:Int) (l:List Int) (R:St→Option Fin) (K:Cont):evC (cb_iy.withLoops (look [])) (loopOf Tryd.f33 0) ⟨[(1, .d (.one (.ptr 0 0))),(14, .d (ofD TTL ks)),(15,vI n),(16,vI i)],[(0,some (sbO 0 500000)),(500000,some (bsO l))]⟩ (onward (headAt (cb_iy.withLoops (look [])) 4) R K)=(
branch (decide (i<n)) (
 need (inb i ks.length) <|
 need (iyPre lvYI (GTree.node (GTree.sign (ks.getD i.toNat tz)) (GTree.rule (ks.getD i.toNat tz)) (GTree.kids (ks.getD i.toNat tz))) l) <| R (.mk [(1,(.d (.one (.ptr 0 0)))),(14,(.d (.one (.r (.li (Ty.tree) ks))))),(15,vI n),(16,vI (W64 (i+1)))] [(0,(.some (.box 70 [(.slf 0),(.own 500000)]))),(500000,(.some (.lis 5 (Ty.int IntKind.u8) (l.append (intL (yldP lvYI (GTree.node (GTree.sign (ks.getD i.toNat tz)) (GTree.rule (ks.getD i.toNat tz)) (GTree.kids (ks.getD i.toNat tz)))))))))])) ( K (.exit 0) (.mk [] [(0,(.some (.box 70 [(.slf 0),(.own 500000)]))),(500000,(.some (.lis 5 (Ty.int IntKind.u8) l)))]))):=by kernel_rfl
abbrev iyKs (l:List GTree):Bool:=Nat.ble l.length 9&&List.all l (kid9 lvYI)
def cx0_iy:Cx:=(cb_iy).withLoops (look [])
def sh_iy:Sh:=([(1, .ptr 0 0),(14, .d TTL),(15, .d TI64),(16, .d TI64)],[(0, .mix 70 [.slf 0, .own 500000]),(500000, .lis 5 (.int .u8))])
abbrev st_iy (ks:List GTree) (n i:Int) (l:List (Int)):St:=⟨[(1, .d (.one (.ptr 0 0))),(14, .d (ofD TTL ks)),(15,vI n),(16,vI i)],[(0,some (.box 70 ([.slf 0]++[.own 500000]))),(500000,some (.lis 5 (.int .u8) l))]⟩
def pre_iy (ks:List GTree) (n i:Int) (l:List (Int)):Bool:=decide (0≤i)&&(decide (n=(ks.length:Int))&&(iyKs ks&&(Nat.ble lvYI 11&&decide ((length l:Int)+(10-i)*pw lvYI≤1000000000000))))
def res_iy (ks:List GTree) (_n i:Int) (l:List (Int)) (K:Cont):Option Fin:=K (.exit 0) ⟨[],[(0,some (sbO 0 500000)),(500000,some (bsO (l++intL ((ks.drop i.toNat).flatMap (yldP lvYI)))))]⟩
def mu_iy (ks:List GTree) (_n i:Int) (_l:List (Int)):Nat:=ks.length-i.toNat
theorem r_iy (ks:List GTree) (n i:Int) (l:List (Int)) (K:Cont) (hI:pre_iy ks n i l=true):(∀R:St→Option Fin,evC cx0_iy (loopOf Tryd.f33 0) (st_iy ks n i l) (onward (headAt cx0_iy 4) R K)=res_iy ks n i l K) ∨
  (∃(ks':List GTree) (n' i':Int) (l':List (Int)),pre_iy ks' n' i' l'=true∧mu_iy ks' n' i' l'<mu_iy ks n i l∧res_iy ks' n' i' l' K=res_iy ks n i l K∧∀R:St→Option Fin,evC cx0_iy (loopOf Tryd.f33 0) (st_iy ks n i l) (onward (headAt cx0_iy 4) R K)=R (st_iy ks' n' i' l')):=by
 have hx:=fun R=>x_iyB ks n i l R K;rw[tEta (ks.getD i.toNat tz)]at hx;simp only[pre_iy]at hI;rw[andd,andd,andd,andd,andd,dec_iff,dec_iff,ble_iff,ble_iff,dec_iff]at hI;obtain⟨h0,rfl,⟨h1,h2⟩,h3,h4⟩:=hI;have hp:=pw_pos lvYI
 by_cases hi:i<(ks.length:Int)
 ·have hn:i.toNat<ks.length:=by omega
  have hk:ks.getD i.toNat tz∈ks:=by rw[zG,zE hn];exact List.getElem_mem hn
  have hkid:=all_eq_true.1 h2 _ hk;have hlen:=yld9_len hkid;have hm:1*pw lvYI≤(10-i)*pw lvYI:=Int.mul_le_mul_of_nonneg_right (by omega) (by omega);have hm2:(10-(i+1))*pw lvYI=(10-i)*pw lvYI-pw lvYI:=by rw[show 10-(i+1)=(10-i)-1 by omega,Int.sub_mul,Int.one_mul]
  have k1:iyPre lvYI (ks.getD i.toNat tz) l=true:=iyPre_iff.2 ⟨hkid,by omega,by omega⟩;have w:W64 (i+1)=i+1:=wrap_small (by omega) (by omega);rw[zT hi,inb_ok h0 hi,k1,w]at hx;have hg:(ks.drop i.toNat).flatMap (yldP lvYI)=yldP lvYI (ks.getD i.toNat tz)++(ks.drop (i+1).toNat).flatMap (yldP lvYI):=by
   rw[drop_eq_getElem_cons hn,List.flatMap_cons,show (i+1).toNat=i.toNat+1 by omega,zG,zE hn];rfl
  right;refine⟨ks,(ks.length:Int),i+1,l++intL (yldP lvYI (ks.getD i.toNat tz)), ?_, ?_, ?_,fun R=>hx R⟩
  ·simp only[pre_iy];rw[andd,andd,andd,andd,andd,dec_iff,dec_iff,ble_iff,ble_iff,dec_iff,length_append,intL_len,hm2];exact⟨by omega,trivial,⟨h1,h2⟩,h3,by omega⟩
  ·simp only[mu_iy];omega
  ·simp only[res_iy,hg,intL_app,append_assoc]
 ·left;intro R;refine(hx R).trans ?_;rw[zF hi];have e:ks.drop i.toNat=[]:=drop_eq_nil_of_le (by omega);simp only[res_iy,e,List.flatMap_nil];rw[show l++intL []=l from List.append_nil l];rfl
def g_iy:St→Cont→Option Fin:=gP sh_iy (fun v=>match v with | ((ks,n,i,()),((),l,()))=>pre_iy ks n i l) (fun v K=>match v with | ((ks,n,i,()),((),l,()))=>res_iy ks n i l K)
theorem l_iy {L:LpL} (n:Nat) (h1:L.drop n=[]) (h2:idsFree (L.take n) (loopOf Tryd.f33 0)=true):LoopsTo g_iy (cb_iy) (loopOf Tryd.f33 0) 4 L :=
 with_drop h1 h2 (gP_ok (fun v=>match v with | ((ks,n,i,()),((),l,()))=>mu_iy ks n i l) fun v K hI=>by
  obtain⟨⟨ks,n,i,⟨⟩⟩,⟨⟨⟩,l,⟨⟩⟩⟩:=v;exact(r_iy ks n i l K hI).imp id fun⟨ks',n',i',l',h⟩=>⟨((ks',n',i',()),((),l',())),h⟩)
theorem x_iyA (ks:List GTree) (n i:Int) (l:List Int) (R:St→Option Fin) (K:Cont):evC (cb_iy.withLoops (look [])) (loopOf Tryd.f33 0) ⟨[(1, .d (.one (.ptr 0 0))),(14, .d (ofD TTL ks)),(15,vI n),(16,vI i)],[(0,some (sbO 0 1)),(1,some (bsO l))]⟩ (onward (headAt (cb_iy.withLoops (look [])) 4) R K)=(
branch (decide (i<n)) (
 need (inb i ks.length) <|
 need (iyPre lvYI (GTree.node (GTree.sign (ks.getD i.toNat tz)) (GTree.rule (ks.getD i.toNat tz)) (GTree.kids (ks.getD i.toNat tz))) l) <| R (.mk [(1,(.d (.one (.ptr 0 0)))),(14,(.d (.one (.r (.li (Ty.tree) ks))))),(15,vI n),(16,vI (W64 (i+1)))] [(0,(.some (.box 70 [(.slf 0),(.own 500000)]))),(500000,(.some (.lis 5 (Ty.int IntKind.u8) (l.append (intL (yldP lvYI (GTree.node (GTree.sign (ks.getD i.toNat tz)) (GTree.rule (ks.getD i.toNat tz)) (GTree.kids (ks.getD i.toNat tz)))))))))])) ( K (.exit 0) (.mk [] [(0,(.some (.box 70 [(.slf 0),(.own 1)]))),(1,(.some (.lis 5 (Ty.int IntKind.u8) l)))]))):=by kernel_rfl
def sh_iyA:Sh:=([(1, .ptr 0 0),(14, .d TTL),(15, .d TI64),(16, .d TI64)],[(0, .mix 70 [.slf 0, .own 1]),(1, .lis 5 (.int .u8))])
def pre_iyA (ks:List GTree) (n i:Int) (l:List Int):Bool:=decide (i=0)&&pre_iy ks n i l
def res_iyA (ks:List GTree) (n i:Int) (l:List Int) (K:Cont):Option Fin:=branch (decide (i<n)) (res_iy ks n i l K) (K (.exit 0) ⟨[],[(0,some (sbO 0 1)),(1,some (bsO l))]⟩)
def g_iyA:St→Cont→Option Fin:=gW sh_iyA (fun v=>match v with | ((ks,n,i,()),((),l,()))=>pre_iyA ks n i l) (fun v K=>match v with | ((ks,n,i,()),((),l,()))=>res_iyA ks n i l K) g_iy
def cx_iyA:Cx:=cb_iy.withLoops (look [(4,g_iyA)])
theorem y_iy (t:GTree) (l:List Int):evFn cx_iyA Tryd.f33 false [ofD .tree t, .one (.ptr 0 0)] [sbO 0 1,bsO l]=(
branch (smallS t.sign) (
 need ((l.length+t.sign.length).ble 140737488355328) <| some ((.tup []),[(0,(.some (.box 70 [(.slf 0),(.own 1000)]))),(1000,(.some (.lis 5 (Ty.int IntKind.u8) (l.append (intL t.sign))))),(1,(.none))])) (
 need (pre_iyA t.kids ((t.kids.length:Int)) 0 l) <|
 branch (decide (0<(t.kids.length:Int))) ( some ((.tup []),[(0,(.some (.box 70 [(.slf 0),(.own 1000)]))),(1000,(.some (.lis 5 (Ty.int IntKind.u8) (l.append (intL (List.flatMap (yldP lvYI) t.kids)))))),(1,(.none))])) ( some ((.tup []),[(0,(.some (.box 70 [(.slf 0),(.own 1)]))),(1,(.some (.lis 5 (Ty.int IntKind.u8) l)))])))):=by kernel_rfl
theorem iy_next {ks:List GTree} {n i:Int} {l:List Int} {K:Cont} (hI:pre_iy ks n i l=true) (hi:i<n):inb i ks.length=true∧iyPre lvYI (ks.getD i.toNat tz) l=true∧W64 (i+1)=i+1 ∧
  pre_iy ks n (i+1) (l++intL (yldP lvYI (ks.getD i.toNat tz)))=true∧res_iy ks n (i+1) (l++intL (yldP lvYI (ks.getD i.toNat tz))) K=res_iy ks n i l K:=by
 simp only[pre_iy]at hI;rw[andd,andd,andd,andd,andd,dec_iff,dec_iff,ble_iff,ble_iff,dec_iff]at hI;obtain⟨h0,rfl,⟨h1,h2⟩,h3,h4⟩:=hI;have hp:=pw_pos lvYI;have hn:i.toNat<ks.length:=by omega
 have hk:ks.getD i.toNat tz∈ks:=by rw[zG,zE hn];exact List.getElem_mem hn
 have hkid:=all_eq_true.1 h2 _ hk;have hlen:=yld9_len hkid;have hm:1*pw lvYI≤(10-i)*pw lvYI:=Int.mul_le_mul_of_nonneg_right (by omega) (by omega);have hm2:(10-(i+1))*pw lvYI=(10-i)*pw lvYI-pw lvYI:=by rw[show 10-(i+1)=(10-i)-1 by omega,Int.sub_mul,Int.one_mul]
 have hg:(ks.drop i.toNat).flatMap (yldP lvYI)=yldP lvYI (ks.getD i.toNat tz)++(ks.drop (i+1).toNat).flatMap (yldP lvYI):=by
  rw[drop_eq_getElem_cons hn,List.flatMap_cons,show (i+1).toNat=i.toNat+1 by omega,zG,zE hn];rfl
 refine⟨inb_ok h0 hi,iyPre_iff.2 ⟨hkid,by omega,by omega⟩,wrap_small (by omega) (by omega), ?_, ?_⟩
 ·simp only[pre_iy];rw[andd,andd,andd,andd,andd,dec_iff,dec_iff,ble_iff,ble_iff,dec_iff,length_append,intL_len,hm2];exact⟨by omega,trivial,⟨h1,h2⟩,h3,by omega⟩
 ·simp only[res_iy,hg,intL_app,append_assoc]
theorem iyA_step (ks:List GTree) (n i:Int) (l:List Int) (K:Cont) (hI:(decide (i=0)&&pre_iy ks n i l)=true) :
  (∀R:St→Option Fin,evC (cb_iy.withLoops (look [])) (loopOf Tryd.f33 0) ⟨[(1, .d (.one (.ptr 0 0))),(14, .d (ofD TTL ks)),(15,vI n),(16,vI i)],[(0,some (sbO 0 1)),(1,some (bsO l))]⟩ (onward (headAt (cb_iy.withLoops (look [])) 4) R K)=res_iyA ks n i l K) ∨
  ∃st',g_iy st' K=res_iyA ks n i l K∧∀R:St→Option Fin,evC (cb_iy.withLoops (look [])) (loopOf Tryd.f33 0) ⟨[(1, .d (.one (.ptr 0 0))),(14, .d (ofD TTL ks)),(15,vI n),(16,vI i)],[(0,some (sbO 0 1)),(1,some (bsO l))]⟩ (onward (headAt (cb_iy.withLoops (look [])) 4) R K)=R st':=by
 have hx:=fun R=>x_iyA ks n i l R K;rw[tEta (ks.getD i.toNat tz)]at hx;obtain⟨h0,h1⟩:=andd.1 hI;unfold res_iyA
 by_cases hi:i<n
 ·obtain ⟨k1,k2,k3,k4,k5⟩:=iy_next (K:=K) h1 hi;rw[zT hi,k1,k2,k3]at hx;right;refine⟨st_iy ks n (i+1) (l++intL (yldP lvYI (ks.getD i.toNat tz))), ?_,fun R=>hx R⟩;show need (pre_iy ks n (i+1) (l++intL (yldP lvYI (ks.getD i.toNat tz)))) (res_iy ks n (i+1) (l++intL (yldP lvYI (ks.getD i.toNat tz))) K)=_;rw[k4,k5,zT hi];rfl
 ·left;intro R;refine(hx R).trans ?_;rw[zF hi];rfl
theorem l_iyA:LoopsTo g_iyA cb_iy (loopOf Tryd.f33 0) 4 [(4,g_iyA)]:=with_drop (m:=[]) (n:=1) rfl (by kernel_rfl) (gW_ok (l_iy (L:=[]) 0 rfl (by kernel_rfl)) fun v K hI=>by
 obtain⟨⟨ks,n,i,⟨⟩⟩,⟨⟨⟩,l,⟨⟩⟩⟩:=v;exact iyA_step ks n i l K hI)
theorem iy_up:ConOk Tryd.prog 33 (conIY (lvYI+1)):=conIY_ok fun x l hp=>by
 obtain⟨h1,h2,h3⟩:=iyPre_iff.1 hp;obtain⟨g1,g2,g3⟩:=kid9_iff.1 h1;have snd:∀ {r:T} {objs:Heap},evFn cx_iyA Tryd.f33 false [ofD .tree x, .one (.ptr 0 0)] [sbO 0 1,bsO l]=some (r,objs)→Sat Tryd.prog 33 [ofD .tree x, .one (.ptr 0 0)] [sbO 0 1,bsO l] r objs:=fun he =>
  fn_sound (cx:=cx_iyA) Tryd.func33 rfl ttOk Γ53ok mixed (fun c hc=>LoopsOk.all (l:=[(4,loopOf Tryd.f33 0)]) (by cases hc;kernel_rfl) ⟨atLoop rfl l_iyA,trivial⟩) (ro:=false) he
 have y:=y_iy x l;have hp0:=pw_pos lvYI;rw[pw_succ]at h3
 cases hs:smallS x.sign
 ·have kp:pre_iyA x.kids (x.kids.length:Int) 0 l=true:=by
   simp only[pre_iyA,pre_iy,andd,dec_iff,ble_iff];exact⟨trivial,by omega,trivial,⟨g2,all_eq_true.2 g3⟩,by omega,by omega⟩
  have e:yldP (lvYI+1) x=x.kids.flatMap (yldP lvYI):=by
   show(bif smallS x.sign then x.sign else x.kids.flatMap (yldP lvYI))=_;rw[hs];rfl
  rw[hs,kp]at y;rw[e]
  by_cases hk:(0:Int)<(x.kids.length:Int)
  ·rw[zT hk]at y;exact snd y
  ·have hk0:x.kids=[]:=List.eq_nil_of_length_eq_zero (by omega);rw[zF hk]at y;rw[hk0,show l++intL (List.flatMap (yldP lvYI) [])=l from List.append_nil l];exact sat_boxS (Nat.le_refl _) (snd y)
 ·have e:yldP (lvYI+1) x=x.sign:=by
   show(bif smallS x.sign then x.sign else x.kids.flatMap (yldP lvYI))=_;rw[hs];rfl
  rw[hs,Nat.ble_eq_true_of_le (by omega:l.length+x.sign.length≤140737488355328)]at y;rw[e];exact snd y
end
theorem iy_all:∀n,ConOk Tryd.prog 33 (conIY n)
 |0=>conIY_ok fun x l hp=>by cases (iyPre_iff.1 hp).1
 |n+1=>@iy_up ⟨⟨n,iy_all n⟩⟩
def iePre (n:Nat) (x:GTree):Bool:=kid9 n x&&(Nat.ble n 12&&Nat.beq (yldP n x).length 0)
theorem iePre_iff {n:Nat} {x:GTree}:iePre n x=true↔kid9 n x=true∧n≤12∧yldP n x=[]:=by
 unfold iePre;rw[andd,andd,ble_iff];exact⟨fun h=>⟨h.1,h.2.1,List.eq_nil_of_length_eq_zero (zB h.2.2)⟩,fun h=>⟨h.1,h.2.1,by rw[h.2.2];rfl⟩⟩
def conIE (n:Nat):Con:=⟨false,fun ds os=>match ds,os with
 | [d, .one (.ptr 0 0)],[.box t [.r (.v (.pointer none)), .r (.v (.slice none 0 0))]]=>match asD .tree d,Nat.beq t 70 with
  |some (x:GTree),true=>some (some (iePre n x), .tup [],[(0,some sbN)])
  |_,_=>none
 |_,_=>none⟩
theorem conIE_ok {n:Nat} (he:∀(x:GTree),iePre n x=true→Sat Tryd.prog 33 [ofD .tree x, .one (.ptr 0 0)] [sbN] (.tup []) [(0,some sbN)]):ConOk Tryd.prog 33 (conIE n):=by
 refine⟨Tryd.call33,fun ds os c x objs hc hok => ?_⟩;unfold conIE at hc;dsimp only at hc
 split at hc
 ·rename_i d t
  split at hc
  ·rename_i x e1 e3
   cases hc
   have e3:=zB e3;subst e3;intro w F β args H hds
   cases hds with | cons h1 h2 =>
   exact he x (pre_of hok) w F β _ H (.cons (asD_sound e1 h1 _ β) h2)
  ·cases hc
 ·cases hc
structure LevYE where
 n:Nat
 h:ConOk Tryd.prog 33 (conIE n)
noncomputable section
variable [Inhabited LevYE]
abbrev lvYE:Nat:=(default:LevYE).n
def c_impl_yieldS:Con:=conIE lvYE
theorem k_impl_yieldS:ConOk Tryd.prog 33 c_impl_yieldS:=(default:LevYE).h
def Γ54:GL:=(33,c_impl_yieldS)::Γ52
theorem Γ54ok:GO Γ54 := .cons k_impl_yieldS Γ52ok
def cb_ie:Cx:=cxOf Γ54 Tryd.f33.ntmps [(4,[1,14,15,16])] [(0,[]),(1,[1,14,15,16]),(1000000,[])] [] []
theorem x_ie (ks:List GTree) (n i:Int) (R:St→Option Fin) (K:Cont):evC (cb_ie.withLoops (look [])) (loopOf Tryd.f33 0) ⟨[(1, .d (.one (.ptr 0 0))),(14, .d (ofD TTL ks)),(15,vI n),(16,vI i)],[(0,some sbN)]⟩ (onward (headAt (cb_ie.withLoops (look [])) 4) R K)=(
branch (decide (i<n)) (
 need (inb i ks.length) <|
 need (iePre lvYE (GTree.node (GTree.sign (ks.getD i.toNat tz)) (GTree.rule (ks.getD i.toNat tz)) (GTree.kids (ks.getD i.toNat tz)))) <| R (.mk [(1,(.d (.one (.ptr 0 0)))),(14,(.d (.one (.r (.li (Ty.tree) ks))))),(15,vI n),(16,vI (W64 (i+1)))] [(0,(.some (.box 70 [(.r (.v (Value.pointer none))),(.r (.v (Value.slice none 0 0)))])))])) ( K (.exit 0) (.mk [] [(0,(.some (.box 70 [(.r (.v (Value.pointer none))),(.r (.v (Value.slice none 0 0)))])))]))):=by kernel_rfl
def ieKs (ks:List GTree):Bool:=Nat.ble ks.length 9&&List.all ks (iePre lvYE)
def cx0_ie:Cx:=(cb_ie).withLoops (look [])
def sh_ie:Sh:=([(1, .ptr 0 0),(14, .d TTL),(15, .d TI64),(16, .d TI64)],[(0, .mix 70 [.nlp, .nil])])
abbrev st_ie (ks:List GTree) (n i:Int):St:=⟨[(1, .d (.one (.ptr 0 0))),(14, .d (ofD TTL ks)),(15,vI n),(16,vI i)],[(0,some (.box 70 ([.r (.v (.pointer none))]++[.r (.v (.slice none 0 0))])))]⟩
def pre_ie (ks:List GTree) (n i:Int):Bool:=decide (0≤i)&&(decide (n=(ks.length:Int))&&ieKs ks)
def res_ie (_ks:List GTree) (_n _i:Int) (K:Cont):Option Fin:=K (.exit 0) ⟨[],[(0,some sbN)]⟩
def mu_ie (ks:List GTree) (_n i:Int):Nat:=ks.length-i.toNat
theorem r_ie (ks:List GTree) (n i:Int) (K:Cont) (hI:pre_ie ks n i=true):(∀R:St→Option Fin,evC cx0_ie (loopOf Tryd.f33 0) (st_ie ks n i) (onward (headAt cx0_ie 4) R K)=res_ie ks n i K) ∨
  (∃(ks':List GTree) (n' i':Int),pre_ie ks' n' i'=true∧mu_ie ks' n' i'<mu_ie ks n i∧res_ie ks' n' i' K=res_ie ks n i K∧∀R:St→Option Fin,evC cx0_ie (loopOf Tryd.f33 0) (st_ie ks n i) (onward (headAt cx0_ie 4) R K)=R (st_ie ks' n' i')):=by
 have hx:=fun R=>x_ie ks n i R K;rw[tEta (ks.getD i.toNat tz)]at hx;simp only[pre_ie,ieKs]at hI;rw[andd,andd,andd,dec_iff,dec_iff,ble_iff]at hI;obtain⟨h0,rfl,h1,h2⟩:=hI
 by_cases hi:i<(ks.length:Int)
 ·have hn:i.toNat<ks.length:=by omega
  have hk:ks.getD i.toNat tz∈ks:=by rw[zG,zE hn];exact List.getElem_mem hn
  have w:W64 (i+1)=i+1:=wrap_small (by omega) (by omega);rw[zT hi,inb_ok h0 hi,all_eq_true.1 h2 _ hk,w]at hx;right;refine⟨ks,(ks.length:Int),i+1, ?_, ?_, ?_,fun R=>hx R⟩
  ·simp only[pre_ie,ieKs];rw[andd,andd,andd,dec_iff,dec_iff,ble_iff];exact⟨by omega,trivial,h1,h2⟩
  ·simp only[mu_ie];omega
  ·simp only[res_ie]
 ·left;intro R;refine(hx R).trans ?_;rw[zF hi];rfl
def g_ie:St→Cont→Option Fin:=gP sh_ie (fun v=>match v with | ((ks,n,i,()),((),()))=>pre_ie ks n i) (fun v K=>match v with | ((ks,n,i,()),((),()))=>res_ie ks n i K)
def L_ie:LpL:=(4,g_ie)::[]
def cx_ie:Cx:=(cb_ie).withLoops (look L_ie)
theorem l_ie {L:LpL} (n:Nat) (h1:L.drop n=[]) (h2:idsFree (L.take n) (loopOf Tryd.f33 0)=true):LoopsTo g_ie (cb_ie) (loopOf Tryd.f33 0) 4 L :=
 with_drop h1 h2 (gP_ok (fun v=>match v with | ((ks,n,i,()),((),()))=>mu_ie ks n i) fun v K hI=>by
  obtain⟨⟨ks,n,i,⟨⟩⟩,⟨⟨⟩,⟨⟩⟩⟩:=v;exact(r_ie ks n i K hI).imp id fun⟨ks',n',i',h⟩=>⟨((ks',n',i',()),((),())),h⟩)
theorem y_ie (t:GTree):evFn cx_ie Tryd.f33 false [ofD .tree t, .one (.ptr 0 0)] [sbN]=(
branch (smallS t.sign) ( none) (
 need (pre_ie t.kids ((t.kids.length:Int)) 0) <| some ((.tup []),[(0,(.some (.box 70 [(.r (.v (Value.pointer none))),(.r (.v (Value.slice none 0 0)))])))]))):=by kernel_rfl
theorem ie_up:ConOk Tryd.prog 33 (conIE (lvYE+1)):=conIE_ok fun x hp=>by
 obtain⟨h1,h2,h3⟩:=iePre_iff.1 hp;obtain⟨g1,g2,g3⟩:=kid9_iff.1 h1;refine fn_sound (cx:=cx_ie) Tryd.func33 rfl ttOk Γ54ok mixed (fun c hc=>LoopsOk.all (l:=[(4,loopOf Tryd.f33 0)]) (by cases hc;kernel_rfl) ⟨atLoop rfl (l_ie 1 rfl (by kernel_rfl)),trivial⟩) (ro:=false) ?_;refine(y_ie x).trans ?_;have e:yldP (lvYE+1) x=bif smallS x.sign then x.sign else x.kids.flatMap (yldP lvYE):=rfl;rw[e]at h3
 cases hs:smallS x.sign
 ·rw[hs,cond_false]at h3;have hall:∀k∈x.kids,yldP lvYE k=[]:=fun k hk=>List.flatMap_eq_nil_iff.1 h3 k hk;have kp:pre_ie x.kids (x.kids.length:Int) 0=true:=by
   simp only[pre_ie,ieKs,andd,dec_iff,ble_iff];exact⟨by omega,trivial,g2,all_eq_true.2 fun k hk=>iePre_iff.2 ⟨g3 k hk,by omega,hall k hk⟩⟩
  rw[kp];rfl
 ·obtain ⟨c,e,_⟩:=smallS_one hs;rw[hs,cond_true,e]at h3
  cases h3
end
theorem ie_all:∀n,ConOk Tryd.prog 33 (conIE n)
 |0=>conIE_ok fun x hp=>by cases (iePre_iff.1 hp).1
 |n+1=>@ie_up ⟨⟨n,ie_all n⟩⟩
def c_impl_yieldE:Con:=conIE 12
theorem k_impl_yieldE:ConOk Tryd.prog 33 c_impl_yieldE:=ie_all 12
def Γ55:GL:=(33,c_impl_yieldE)::Γ52
theorem Γ55ok:GO Γ55 := .cons k_impl_yieldE Γ52ok
theorem y_tyE (t:GTree):evFn (cxOf Γ55 Tryd.f8.ntmps [] [] [] []) Tryd.f8 true [ofD .tree t] []=(
need (iePre 12 (GTree.node t.sign t.rule t.kids)) <| some ((vS []),[])):=by kernel_rfl
theorem s_tyE (t:GTree) (h:iePre 12 t=true):Sat Tryd.prog 8 [ofD .tree t] [] (.d (ofD .str [])) [] :=
 fn_sound (cx:=cxOf Γ55 Tryd.f8.ntmps [] [] [] []) Tryd.func8 rfl ttOk Γ55ok mixed (fun _ _=>LoopsOk.no fun _=>rfl) (ro:=true) (by
 rw[y_tyE,tEta,h];rfl)
theorem sat_fresh {P:Program} {f:FuncId} {ds:List D} {m:List Int} (S:Sat P f ds [sbO 0 1,bsO []] (.tup []) [(0,some (sbO 0 1000)),(1000,some (bsO m)),(1,none)]):Sat P f ds [sbN] (.tup []) [(0,some (sbO 0 1000)),(1000,some (bsO m))]:=by
 intro w F β args H hds;have h0:hOf [sbN] 0=some (some sbN):=rfl;obtain⟨b,us,q1,q2,q3⟩:=H.obj 0 _ h0;have hOwn1:∀j o,setH (hOf [sbN]) 1 (some (bsO [])) j=some (some o)→j=0∨j=1:=by
  intro j o hj
  match j with
  |0=>exact .inl rfl
  |1=>exact .inr rfl
  |j+2=>cases hj
 obtain⟨H1,P1⟩:=H.turn (w':=w) (F':=F) 1 (some (bsO [])) (.slice none 0 0) rfl rfl rfl (Nat.le_refl _) (fun _=>False) (fun _ h=>h.elim) (fun _ _ _=>rfl) (fun _ hf=>hf) (fun _ hf => .inl hf) (fun _ _ hh=>by cases hh) (fun _ ob hob=>by
  cases hob
  exact⟨.inl ⟨none,by simp[setB],rfl⟩,fun b hb=>by simp[blk]at hb⟩)
 obtain⟨H2,P2⟩:=H1.turn (w':=w) (F':=F) 0 (some (sbO 0 1)) (β 0) rfl rfl rfl (Nat.le_refl _) (fun b=>Blk (β 0) b)
  (fun b hb=>⟨H.notF 0 _ b h0 hb,fun j o' hj0 hj hbj=>by
   rcases hOwn1 j o' hj with e0 | e0
   ·exact hj0 e0
   ·subst e0;simp[setB,blk]at hbj,H.fromO 0 _ b h0 hb⟩)
  (fun _ _ _=>rfl) (fun _ hf=>hf) (fun _ hf => .inl hf) (fun q0 o hh _=>⟨by
   have:some (some sbN)=some q0:=hh;exact⟨_,(Option.some.inj this).symm⟩,by simp[setB]⟩)
  (fun _ ob hob=>by
   cases hob
   refine⟨⟨b,us,by simp[setB,q1],q2, ?_⟩,fun b hb => .inl hb⟩
   generalize us.toList=ul at q3
   cases q3 with | cons g1 g2=>cases g2 with | cons g2 g3 =>
   cases g3
   obtain⟨rfl,_⟩:=g1;obtain⟨rfl,_⟩:=g2;exact .cons ⟨rfl,⟨_,rfl⟩,fun _ _ => .inl rfl⟩ (.cons ⟨rfl,⟨_,rfl⟩,fun _ _=>by simp[setB]⟩ .nil))
 have hh:setH (setH (hOf [sbN]) 1 (some (bsO []))) 0 (some (sbO 0 1))=hOf [sbO 0 1,bsO []]:=by
  funext j
  match j with
  |0=>rfl
  |1=>rfl
  |j+2=>rfl
 have hds2:=hds.mono fun _ _ h=>P2.repD (P1.repD h);rw[hh]at H2 hds2;have hb2:setB (setB β 1 (.slice none 0 0)) 0 (β 0) 0=β 0:=by simp[setB]
 have hOwn:Own (hOf [sbN]) β=Own (hOf [sbO 0 1,bsO []]) (setB (setB β 1 (.slice none 0 0)) 0 (β 0)):=by
  funext b
  apply propext
  constructor
  ·rintro ⟨i,o,h1,h2⟩
   match i with
   |0=>exact ⟨0,_,rfl,by rw[hb2];exact h2⟩
   |i+1=>cases h1
  ·rintro ⟨i,o,h1,h2⟩
   match i with
   |0=>exact ⟨0,_,rfl,by rw[hb2]at h2;exact h2⟩
   |1=>simp[setB,blk]at h2
   |i+2=>cases h1
 rw[hOwn]at H2;refine(S w F _ args H2 hds2).mono ?_;rintro e w' ⟨v,F',β',r1,r2,r3,r4,r5,r6⟩;rw[← hOwn]at r2;have hsub:∀i o,look [(0,some (sbO 0 1000)),(1000,some (bsO m))] i=some (some o)→look [(0,some (sbO 0 1000)),(1000,some (bsO m)),(1,none)] i=some (some o)∧(i=0∧o=sbO 0 1000∨i=1000∧o=bsO m):=by
  intro i o hi;simp only[look]at hi ⊢
  cases e1:Nat.beq 0 i
  ·rw[e1]at hi
   cases e2:Nat.beq 1000 i
   ·rw[e2]at hi;cases hi
   ·rw[e2]at hi
    cases hi
    exact⟨rfl, .inr ⟨(zB e2).symm,rfl⟩⟩
  ·rw[e1]at hi
   cases hi
   exact⟨rfl, .inl ⟨(zB e1).symm,rfl⟩⟩
 have hI:Inv w (Own (hOf [sbN]) β) F w' F' (look [(0,some (sbO 0 1000)),(1000,some (bsO m))]) β':=by
  refine⟨fun i o hi => ?_,fun i j o o' b hi hj=>r2.apart i j o o' b (hsub _ _ hi).1 (hsub _ _ hj).1,fun i o b hi=>r2.notF i o b (hsub _ _ hi).1,r2.low,r2.os,r2.tape,r2.output,r2.size,r2.kept,fun i o b hi=>r2.fromO i o b (hsub _ _ hi).1,r2.fromF,r2.inF⟩;obtain⟨h1,h2 | h2⟩:=hsub i o hi
  ·obtain ⟨rfl,rfl⟩:=h2;obtain⟨b,us,a1,a2,a3⟩:=r2.obj 0 _ h1;refine⟨b,us,a1,a2, ?_⟩
   generalize us.toList=ul at a3
   cases a3 with | cons g1 g2=>cases g2 with | cons g2 g3 =>
   cases g3
   exact .cons ⟨g1.1,⟨_,rfl⟩,fun o _=>g1.2.2 _ rfl⟩ (.cons ⟨g2.1,⟨_,rfl⟩,fun o _=>g2.2.2 _ rfl⟩ .nil)
  ·obtain ⟨rfl,rfl⟩:=h2;exact RepO.leaf.2 (RepO.leaf.1 (r2.obj 1000 _ h1))
 refine⟨v,F',β',r1,hI,fun i hi => ?_,fun i o hi ho => ?_,r5, ?_⟩
 ·match i with
  |0=>exact ⟨_,rfl⟩
  |i+1=>simp at hi
 ·match i with
  |0=>exact (r4 0 _ (by simp) rfl).trans hb2
  |i+1=>simp at hi
 ·obtain ⟨us2,hv,hall⟩:=r6;refine⟨us2,hv, ?_⟩
  generalize us2.toList=ul at hall
  cases hall
  exact .nil
theorem byteL_intL {s:Str}:byteL (intL s)=s:=by
 unfold byteL intL;rw[List.map_map];exact(List.map_congr_left fun b _=>(by show UInt8.ofNat ((b.toNat:Int)).toNat=id b;rw[Int.toNat_natCast];exact UInt8.ofNat_toNat)).trans (List.map_id s)
def c_impl_yield:Con:=⟨false,fun ds os=>match ds,os with
 | [d, .one (.ptr 0 0)],[.box t [.r (.v (.pointer none)), .r (.v (.slice none 0 0))]]=>match asD .tree d,Nat.beq t 70 with
  |some (x:GTree),true=>some (some (iyPre 12 x []), .tup [],[(0,some (sbO 0 1000)),(1000,some (bsO (intL (yldP 12 x))))])
  |_,_=>none
 |_,_=>none⟩
theorem s_iy (x:GTree) (l:List Int) (h:iyPre 12 x l=true):Sat Tryd.prog 33 [ofD .tree x, .one (.ptr 0 0)] [sbO 0 1,bsO l] (.tup []) [(0,some (sbO 0 1000)),(1000,some (bsO (l++intL (yldP 12 x)))),(1,none)] :=
 (iy_all 12).2 [ofD .tree x, .one (.ptr 0 0)] [sbO 0 1,bsO l] (some (iyPre 12 x l)) _ _ (by
  show(match asD .tree (ofD .tree x),exLis 5 (.int .u8) (some (bsO l)),Nat.beq 70 70 with
   |some (x:GTree),some (l:List Int),true=>some (some (iyPre 12 x l),T.tup [],[(0,some (sbO 0 1000)),(1000,some (bsO (l++intL (yldP 12 x)))),(1,none)])
   |_,_,_=>none)=_
  cases x;rfl) (.inr (by rw[h]))
theorem k_impl_yield:ConOk Tryd.prog 33 c_impl_yield:=by
 refine⟨Tryd.call33,fun ds os c x objs hc hok => ?_⟩;unfold c_impl_yield at hc;dsimp only at hc
 split at hc
 ·rename_i d t
  split at hc
  ·rename_i x e1 e3
   cases hc
   have e3:=zB e3;subst e3;intro w F β args H hds
   cases hds with | cons h1 h2 =>
   exact sat_fresh (s_iy x [] (pre_of hok)) w F β _ H (.cons (asD_sound e1 h1 _ β) h2)
  ·cases hc
 ·cases hc
def Γ56:GL:=(33,c_impl_yield)::Γ52
theorem Γ56ok:GO Γ56 := .cons k_impl_yield Γ52ok
theorem y_tyF (t:GTree):evFn (cxOf Γ56 Tryd.f8.ntmps [] [] [] []) Tryd.f8 true [ofD .tree t] []=(
need (iyPre 12 (GTree.node t.sign t.rule t.kids) []) <|
need (Nat.blt 0 (intL (yldP 12 (GTree.node t.sign t.rule t.kids))).length) <| some ((vS (byteL (intL (yldP 12 (GTree.node t.sign t.rule t.kids))))),[])):=by kernel_rfl
theorem s_tyF (t:GTree) (h:iyPre 12 t []=true) (h0:yldP 12 t≠[]):Sat Tryd.prog 8 [ofD .tree t] [] (.d (ofD .str (yldP 12 t))) [] :=
 fn_sound (cx:=cxOf Γ56 Tryd.f8.ntmps [] [] [] []) Tryd.func8 rfl ttOk Γ56ok mixed (fun _ _=>LoopsOk.no fun _=>rfl) (ro:=true) (by
 have h1:Nat.blt 0 (intL (yldP 12 t)).length=true:=by rw[intL_len];exact Nat.ble_eq_true_of_le (List.length_pos_iff.2 h0)
 rw[y_tyF,tEta,h,h1,byteL_intL];rfl)
def c_impl_TreeYield:Con:=conT [.tree] fun(t:GTree)=>(some (kid9 12 t), .d (ofD .str (yldP 12 t)))
theorem k_impl_TreeYield:ConOk Tryd.prog 8 c_impl_TreeYield:=conT_ok Tryd.call8 fun(t:GTree) _ hqq=>by
 have h:=pre_of hqq
 by_cases h0:yldP 12 t=[]
 ·rw[h0];exact s_tyE t (iePre_iff.2 ⟨h,Nat.le_refl _,h0⟩)
 ·exact s_tyF t (iyPre_iff.2 ⟨h,Nat.le_refl _,by rw[show pw 12=1000000000000 from rfl];simp⟩) h0
def Γ57:GL:=(8,c_impl_TreeYield)::Γ56
theorem Γ57ok:GO Γ57 := .cons k_impl_TreeYield Γ56ok
abbrev TPT:Ty := .struct (.pair .str (.pair TI64 TI64))
abbrev TSp:Ty := .struct (.pair .tree TPT)
abbrev z7:Spot:=(tz,[],0,0)
theorem spBytes:Tryd.t78.bytes=80:=by kernel_rfl
def spPre (n:Nat) (x:GTree) (l:List Spot) (a:Int):Bool:=kid9 n x&&(Nat.ble n 12&&(decide ((l.length:Int)+pw n≤1000000000000)&&(decide (0≤a)&&decide (a+pw n≤1000000000000))))
theorem spPre_iff {n:Nat} {x:GTree} {l:List Spot} {a:Int}:spPre n x l a=true↔kid9 n x=true∧n≤12∧(l.length:Int)+pw n≤1000000000000∧0≤a∧a+pw n≤1000000000000:=by
 unfold spPre;rw[andd,andd,andd,andd,ble_iff,dec_iff,dec_iff,dec_iff]
def conSp (n:Nat):Con:=⟨false,fun ds os=>match ds,os with
 | [d,e, .one (.own 0)],[o]=>match asD .tree d,asD TI64 e,exLis 78 TSp (some o)with
  |some (x:GTree),some (a:Int),some (l:List Spot)=>some (some (spPre n x l a), .d (.one (.own 1000)),[(1000,some (.lis 78 TSp (l++spV n x a))),(0,none)])
  |_,_,_=>none
 |_,_=>none⟩
theorem conSp_ok {n:Nat} (he:∀(x:GTree) (a:Int) (l:List Spot),spPre n x l a=true→Sat Tryd.prog 38 [ofD .tree x,ofD TI64 a, .one (.own 0)] [.lis 78 TSp l] (.d (.one (.own 1000))) [(1000,some (.lis 78 TSp (l++spV n x a))),(0,none)]):ConOk Tryd.prog 38 (conSp n):=by
 refine⟨Tryd.call38,fun ds os c x objs hc hok => ?_⟩;unfold conSp at hc;dsimp only at hc
 split at hc
 ·rename_i d e o
  split at hc
  ·rename_i x a l e1 e2 e3
   cases hc
   have e3:=Option.some.inj (exLis_some e3);subst e3;intro w F β args H hds
   cases hds with | cons h1 h2=>cases h2 with | cons h2 h3 =>
   exact he x a l (pre_of hok) w F β _ H (.cons (asD_sound e1 h1 _ β) (.cons (asD_sound e2 h2 _ β) h3))
  ·cases hc
 ·cases hc
structure LevSp where
 n:Nat
 h:ConOk Tryd.prog 38 (conSp n)
noncomputable section
variable [Inhabited LevSp]
abbrev lvSp:Nat:=(default:LevSp).n
def c_impl_spotsR:Con:=conSp lvSp
theorem k_impl_spotsR:ConOk Tryd.prog 38 c_impl_spotsR:=(default:LevSp).h
def Γ58:GL:=(38,c_impl_spotsR)::Γ57
theorem Γ58ok:GO Γ58 := .cons k_impl_spotsR Γ57ok
def cb_sp:Cx:=cxOf Γ58 Tryd.f38.ntmps [(7,[2,7,8,29,30,31])] [(0,[2,7,8]),(1,[2,7,8,29,30,31]),(1000000,[6])] [] []
theorem x_sp (ks:List GTree) (n i p q:Int) (l:List Spot) (R:St→Option Fin) (K:Cont):evC (cb_sp.withLoops (look [])) (loopOf Tryd.f38 0) ⟨[(2, ko0),(7,vI p),(8,vI q),(29, .d (ofD TTL ks)),(30,vI n),(31,vI i)],[(500000,some (.lis 78 TSp l))]⟩ (onward (headAt (cb_sp.withLoops (look [])) 7) R K)=(
branch (decide (i<n)) (
 need (inb i ks.length) <|
 need (spPre lvSp (GTree.node (GTree.sign (ks.getD i.toNat tz)) (GTree.rule (ks.getD i.toNat tz)) (GTree.kids (ks.getD i.toNat tz))) l q) <|
 need (kid9 12 (GTree.node (GTree.sign (ks.getD i.toNat tz)) (GTree.rule (ks.getD i.toNat tz)) (GTree.kids (ks.getD i.toNat tz)))) <| R (.mk [(2,ko0),(7,vI p),(8,(vI (W64 (q+(length (yldP 12 (GTree.node (GTree.sign (ks.getD i.toNat tz)) (GTree.rule (ks.getD i.toNat tz)) (GTree.kids (ks.getD i.toNat tz)))):Int))))),(29,(.d (.one (.r (.li (Ty.tree) ks))))),(30,vI n),(31,vI (W64 (i+1)))] [(500000,(.some (.lis 78 TSp (l.append (spV lvSp (GTree.node (GTree.sign (ks.getD i.toNat tz)) (GTree.rule (ks.getD i.toNat tz)) (GTree.kids (ks.getD i.toNat tz))) q)))))])) ( K (.exit 0) (.mk [(2,ko0),(7,vI p),(8,vI q)] [(500000,some (.lis 78 TSp l))]))):=by kernel_rfl
def cx0_sp:Cx:=(cb_sp).withLoops (look [])
def sh_sp:Sh:=([(2, .own 500000),(7, .d TI64),(8, .d TI64),(29, .d TTL),(30, .d TI64),(31, .d TI64)],[(500000, .lis 78 TSp)])
abbrev st_sp (p q:Int) (ks:List GTree) (n i:Int) (l:List (Spot)):St:=⟨[(2, ko0),(7,vI p),(8,vI q),(29, .d (ofD TTL ks)),(30,vI n),(31,vI i)],[(500000,some (.lis 78 TSp l))]⟩
def pre_sp (_p q:Int) (ks:List GTree) (n i:Int) (l:List (Spot)):Bool:=decide (0≤i)&&(decide (n=(ks.length:Int))&&(Nat.ble ks.length 9&&(List.all ks (kid9 lvSp)&&(Nat.ble lvSp 11&&(decide ((length l:Int)+(9-i)*pw lvSp≤1000000000000)&&(decide (0≤q)&&decide (q+(9-i)*pw lvSp≤1000000000000)))))))
def res_sp (p q:Int) (ks:List GTree) (_n i:Int) (l:List (Spot)) (K:Cont):Option Fin:=K (.exit 0) ⟨[(2, ko0),(7,vI p),(8,vI (q+sumY (yldP 12) (ks.drop i.toNat)))],[(500000,some (.lis 78 TSp (l++spL (spV lvSp) (yldP 12) (ks.drop i.toNat) q)))]⟩
def mu_sp (_p _q:Int) (ks:List GTree) (_n i:Int) (_l:List (Spot)):Nat:=ks.length-i.toNat
theorem r_sp (p q:Int) (ks:List GTree) (n i:Int) (l:List (Spot)) (K:Cont) (hI:pre_sp p q ks n i l=true):(∀R:St→Option Fin,evC cx0_sp (loopOf Tryd.f38 0) (st_sp p q ks n i l) (onward (headAt cx0_sp 7) R K)=res_sp p q ks n i l K) ∨
  (∃(p' q':Int) (ks':List GTree) (n' i':Int) (l':List (Spot)),pre_sp p' q' ks' n' i' l'=true∧mu_sp p' q' ks' n' i' l'<mu_sp p q ks n i l∧res_sp p' q' ks' n' i' l' K=res_sp p q ks n i l K∧∀R:St→Option Fin,evC cx0_sp (loopOf Tryd.f38 0) (st_sp p q ks n i l) (onward (headAt cx0_sp 7) R K)=R (st_sp p' q' ks' n' i' l')):=by
 have hx:=fun R=>x_sp ks n i p q l R K;rw[tEta (ks.getD i.toNat tz)]at hx;simp only[pre_sp,andd,dec_iff,ble_iff]at hI;obtain⟨h0,rfl,h1,h2,h3,h4,h5,h6⟩:=hI;have hp:=pw_pos lvSp
 by_cases hi:i<(ks.length:Int)
 ·have hn:i.toNat<ks.length:=by omega
  have hk:ks.getD i.toNat tz∈ks:=by rw[zG,zE hn];exact List.getElem_mem hn
  have hg:=ks_at h0 hi;have hkid:=all_eq_true.1 h2 _ hk
  generalize ks.getD i.toNat tz=k at hx hg hkid
  have hk12:=kid9_le (by omega:lvSp≤12) hkid;have hlen:((yldP 12 k).length:Int)≤pw lvSp:=by rw[yld_le (by omega) hkid];exact yld9_len hkid
  have hsl:=sp_len (a:=q) hkid;have hm:1*pw lvSp≤(9-i)*pw lvSp:=Int.mul_le_mul_of_nonneg_right (by omega) (by omega);have hm2:(9-(i+1))*pw lvSp=(9-i)*pw lvSp-pw lvSp:=by rw[show 9-(i+1)=(9-i)-1 by omega,Int.sub_mul,Int.one_mul]
  have k1:spPre lvSp k l q=true:=spPre_iff.2 ⟨hkid,by omega,by omega,h5,by omega⟩;have w:W64 (i+1)=i+1:=wrap_small (by omega) (by omega);have w2:W64 (q+((yldP 12 k).length:Int))=q+((yldP 12 k).length:Int):=wrap_small (by omega) (by omega);rw[zT hi,inb_ok h0 hi,k1,hk12,w,w2]at hx;right;refine⟨p,q+((yldP 12 k).length:Int),ks,(ks.length:Int),i+1,l++spV lvSp k q, ?_, ?_, ?_,fun R=>hx R⟩
  ·simp only[pre_sp,andd,dec_iff,ble_iff,length_append];refine⟨by omega,trivial,h1,h2,h3, ?_,by omega,by rw[hm2];omega⟩;rw[hm2];omega
  ·simp only[mu_sp];omega
  ·simp only[res_sp,hg];rw[show spL (spV lvSp) (yldP 12) (k::ks.drop (i+1).toNat) q=spV lvSp k q++spL (spV lvSp) (yldP 12) (ks.drop (i+1).toNat) (q+((yldP 12 k).length:Int))from rfl,show sumY (yldP 12) (k::ks.drop (i+1).toNat)=((yldP 12 k).length:Int)+sumY (yldP 12) (ks.drop (i+1).toNat)from rfl,append_assoc,Int.add_assoc]
 ·left;intro R;refine(hx R).trans ?_;rw[zF hi];have e:ks.drop i.toNat=[]:=drop_eq_nil_of_le (by omega);simp only[res_sp,e];rw[show l++spL (spV lvSp) (yldP 12) [] q=l from List.append_nil l,show q+sumY (yldP 12) []=q from Int.add_zero q];rfl
def g_sp:St→Cont→Option Fin:=gP sh_sp (fun v=>match v with | ((p,q,ks,n,i,()),(l,()))=>pre_sp p q ks n i l) (fun v K=>match v with | ((p,q,ks,n,i,()),(l,()))=>res_sp p q ks n i l K)
def L_sp:LpL:=(7,g_sp)::[]
def cx_sp:Cx:=(cb_sp).withLoops (look L_sp)
theorem l_sp {L:LpL} (n:Nat) (h1:L.drop n=[]) (h2:idsFree (L.take n) (loopOf Tryd.f38 0)=true):LoopsTo g_sp (cb_sp) (loopOf Tryd.f38 0) 7 L :=
 with_drop h1 h2 (gP_ok (fun v=>match v with | ((p,q,ks,n,i,()),(l,()))=>mu_sp p q ks n i l) fun v K hI=>by
  obtain⟨⟨p,q,ks,n,i,⟨⟩⟩,⟨l,⟨⟩⟩⟩:=v;exact(r_sp p q ks n i l K hI).imp id fun⟨p',q',ks',n',i',l',h⟩=>⟨((p',q',ks',n',i',()),(l',())),h⟩)
def spF (l:List Spot) (t:GTree) (a:Int):List Spot:=(l++[(GTree.node t.sign t.rule t.kids,t.sign,a,0)])++spL (spV lvSp) (yldP 12) t.kids a
def setTo (L:List Spot) (n:Nat) (v:Int):List Spot:=L.set n (GTree.node (L.getD n z7).1.sign (L.getD n z7).1.rule (L.getD n z7).1.kids,(L.getD n z7).2.1,(L.getD n z7).2.2.1,v)
theorem y_sp (t:GTree) (a:Int) (l:List Spot):evFn cx_sp Tryd.f38 false [ofD .tree t,ofD TI64 a, .one (.own 0)] [.lis 78 TSp l] =
  branch (!bigS t.sign) (some (.d (.one (.own 0)),[(0,some (.lis 78 TSp l))])) (
   need (fits (l.length+1) Tryd.t78.bytes) (need (pre_sp (l.length:Int) a t.kids (t.kids.length:Int) 0 (l++[(GTree.node t.sign t.rule t.kids,t.sign,a,0)])) (
   need (inb (l.length:Int) (spF l t a).length) (some (.d (.one (.own 1000)),[(1000,some (.lis 78 TSp (setTo (spF l t a) ((l.length:Int)).toNat (a+sumY (yldP 12) t.kids)))),(0,none)]))))):=by kernel_rfl
theorem y_spN (t:GTree) (a:Int):evFn cx_sp Tryd.f38 false [ofD .tree t,ofD TI64 a, .one (.r (.v (.slice none 0 0)))] [] =
  branch (!bigS t.sign) (some (.d (.one (.own 1000)),[(1000,some (.lis 78 TSp []))])) (
   need (pre_sp 0 a t.kids (t.kids.length:Int) 0 [(GTree.node t.sign t.rule t.kids,t.sign,a,0)]) (
   need (inb 0 (spF [] t a).length) (some (.d (.one (.own 1000)),[(1000,some (.lis 78 TSp (setTo (spF [] t a) 0 (a+sumY (yldP 12) t.kids))))])))):=by kernel_rfl
theorem set_to {l:List Spot} {t:GTree} {a v:Int}:setTo (spF l t a) l.length v=l++(t,t.sign,a,v)::spL (spV lvSp) (yldP 12) t.kids a:=by
 unfold setTo spF;rw[tEta,tEta]
 generalize spL (spV lvSp) (yldP 12) t.kids a=k
 have e1:((l++[(t,t.sign,a,(0:Int))])++k).getD l.length z7=(t,t.sign,a,0):=by
  rw[append_assoc,zG,getElem?_append_right (Nat.le_refl _),Nat.sub_self];rfl
 rw[e1,append_assoc,List.set_append_right _ _ (Nat.le_refl _),Nat.sub_self];rfl
theorem spF_len {l:List Spot} {t:GTree} {a:Int}:l.length<(spF l t a).length:=by
 unfold spF;rw[length_append,length_append,length_singleton];omega
theorem sp_pre {x:GTree} {a:Int} {l:List Spot} (hp:spPre (lvSp+1) x l a=true):fits (l.length+1) Tryd.t78.bytes=true∧pre_sp (l.length:Int) a x.kids (x.kids.length:Int) 0 (l++[(x,x.sign,a,0)])=true:=by
 obtain⟨h1,h2,h3,h4,h5⟩:=spPre_iff.1 hp;obtain⟨g1,g2,g3⟩:=kid9_iff.1 h1;have hp0:=pw_pos lvSp;rw[pw_succ]at h3 h5;refine⟨by rw[spBytes];simp only[fits];first | exact zT (by omega) | exact Nat.ble_eq_true_of_le (by omega), ?_⟩;simp only[pre_sp,andd,dec_iff,ble_iff,length_append,length_singleton];exact⟨by omega,trivial,g2,all_eq_true.2 g3,by omega,by omega,h4,by omega⟩
theorem sp_up:ConOk Tryd.prog 38 (conSp (lvSp+1)):=conSp_ok fun x a l hp=>by
 obtain⟨k1,k2⟩:=sp_pre hp;have snd:∀ {r:T} {objs:Heap},evFn cx_sp Tryd.f38 false [ofD .tree x,ofD TI64 a, .one (.own 0)] [.lis 78 TSp l]=some (r,objs)→Sat Tryd.prog 38 [ofD .tree x,ofD TI64 a, .one (.own 0)] [.lis 78 TSp l] r objs:=fun he =>
  fn_sound (cx:=cx_sp) Tryd.func38 rfl ttOk Γ58ok mixed (fun c hc=>LoopsOk.all (l:=[(7,loopOf Tryd.f38 0)]) (by cases hc;kernel_rfl) ⟨atLoop rfl (l_sp 1 rfl (by kernel_rfl)),trivial⟩) (ro:=false) he
 have y:=y_sp x a l;rw[tEta]at y;have e:spV (lvSp+1) x a=bif bigS x.sign then(x,x.sign,a,a+sumY (yldP 12) x.kids)::spL (spV lvSp) (yldP 12) x.kids a else []:=rfl;rw[e]
 cases hb:bigS x.sign
 ·rw[hb]at y;rw[cond_false,List.append_nil];exact sat_move (snd y)
 ·rw[hb,k1,k2,inb_ok (by omega) (by have:=spF_len (l:=l) (t:=x) (a:=a);omega),Int.toNat_natCast,set_to]at y;exact snd y
theorem sp_upN {x:GTree} {a:Int} (hp:spPre (lvSp+1) x [] a=true):Sat Tryd.prog 38 [ofD .tree x,ofD TI64 a, .one (.r (.v (.slice none 0 0)))] [] (.d (.one (.own 1000))) [(1000,some (.lis 78 TSp (spV (lvSp+1) x a)))]:=by
 obtain⟨_,k2⟩:=sp_pre hp;have snd:∀ {r:T} {objs:Heap},evFn cx_sp Tryd.f38 false [ofD .tree x,ofD TI64 a, .one (.r (.v (.slice none 0 0)))] []=some (r,objs)→Sat Tryd.prog 38 [ofD .tree x,ofD TI64 a, .one (.r (.v (.slice none 0 0)))] [] r objs:=fun he =>
  fn_sound (cx:=cx_sp) Tryd.func38 rfl ttOk Γ58ok mixed (fun c hc=>LoopsOk.all (l:=[(7,loopOf Tryd.f38 0)]) (by cases hc;kernel_rfl) ⟨atLoop rfl (l_sp 1 rfl (by kernel_rfl)),trivial⟩) (ro:=false) he
 have y:=y_spN x a;rw[tEta]at y;have e:spV (lvSp+1) x a=bif bigS x.sign then(x,x.sign,a,a+sumY (yldP 12) x.kids)::spL (spV lvSp) (yldP 12) x.kids a else []:=rfl;rw[e]
 cases hb:bigS x.sign
 ·rw[hb]at y;exact snd y
 ·have st:=set_to (l:=[]) (t:=x) (a:=a) (v:=a+sumY (yldP 12) x.kids);have k3:pre_sp (0:Int) a x.kids (x.kids.length:Int) 0 [(x,x.sign,a,0)]=true:=k2;have st:setTo (spF [] x a) 0 (a+sumY (yldP 12) x.kids)=(x,x.sign,a,a+sumY (yldP 12) x.kids)::spL (spV lvSp) (yldP 12) x.kids a:=st;rw[hb,k3,inb_ok (Int.le_refl 0) (by have:=spF_len (l:=[]) (t:=x) (a:=a);omega),st]at y;exact snd y
end
theorem sp_all:∀n,ConOk Tryd.prog 38 (conSp n)
 |0=>conSp_ok fun x a l hp=>by cases (spPre_iff.1 hp).1
 |n+1=>@sp_up ⟨⟨n,sp_all n⟩⟩
def c_impl_spots:Con:=⟨false,fun ds os=>match ds,os with
 | [d,e, .one (.r (.v (.slice none 0 0)))],[]=>match asD .tree d,asD TI64 e with
  |some (x:GTree),some (a:Int)=>some (some (spPre 12 x [] a), .d (.one (.own 1000)),[(1000,some (.lis 78 TSp (spV 12 x a)))])
  |_,_=>none
 |_,_=>none⟩
theorem k_impl_spots:ConOk Tryd.prog 38 c_impl_spots:=by
 refine⟨Tryd.call38,fun ds os c x objs hc hok => ?_⟩;unfold c_impl_spots at hc;dsimp only at hc
 split at hc
 ·rename_i d e
  split at hc
  ·rename_i x a e1 e2
   cases hc
   intro w F β args H hds
   cases hds with | cons h1 h2=>cases h2 with | cons h2 h3 =>
   exact @sp_upN ⟨⟨11,sp_all 11⟩⟩ x a (pre_of hok) w F β _ H (.cons (asD_sound e1 h1 _ β) (.cons (asD_sound e2 h2 _ β) h3))
  ·cases hc
 ·cases hc
def Γ59:GL:=(38,c_impl_spots)::Γ57
theorem Γ59ok:GO Γ59 := .cons k_impl_spots Γ57ok
def cb_tpa:Cx:=cxOf Γ59 Tryd.f10.ntmps [(3,[3,8,9,10])] [(0,[3]),(1,[3,8,9,10]),(1000000,[2])] [] []
abbrev st_tpa (n i:Int) (o:List ((Str×Int×Int))) (l:List (Spot)):St:=⟨[(3, ko0),(8, ko1),(9,vI n),(10,vI i)],[(500000,some (.lis 37 TPT o)),(500001,some (.lis 78 TSp l))]⟩
theorem x_impl_TreeParts (o:List (Str×Int×Int)) (l:List Spot) (n i:Int) (R:St→Option Fin) (K:Cont):evC (cb_tpa.withLoops (look [])) (loopOf Tryd.f10 0) (st_tpa n i o l) (onward (headAt (cb_tpa.withLoops (look [])) 3) R K)=(
branch (decide (i<n)) (
 need (inb i l.length) <|
 need (fits (o.length+[(l.getD i.toNat z7).snd].length) Tryd.t37.bytes) <| R (st_tpa n (W64 (i+1)) (o.append [(l.getD i.toNat z7).snd]) l)) ( K (.exit 0) (.mk [(3,ko0)] [(500000,some (.lis 37 TPT o))]))):=by kernel_rfl
theorem ptBytes:Tryd.t37.bytes=32:=by kernel_rfl
def cx0_tpa:Cx:=(cb_tpa).withLoops (look [])
def sh_tpa:Sh:=([(3, .own 500000),(8, .own 500001),(9, .d TI64),(10, .d TI64)],[(500000, .lis 37 TPT),(500001, .lis 78 TSp)])
def pre_tpa (n i:Int) (o:List ((Str×Int×Int))) (l:List (Spot)):Bool:=decide (0≤i)&&(decide (n=(length l:Int))&&(decide ((length o:Int)+(n-i)≤1000000000000)&&decide (n≤1000000000000)))
def res_tpa (_n i:Int) (o:List ((Str×Int×Int))) (l:List (Spot)) (K:Cont):Option Fin:=K (.exit 0) ⟨[(3, ko0)],[(500000,some (.lis 37 TPT (o++(List.drop i.toNat l).map Prod.snd)))]⟩
def mu_tpa (_n i:Int) (_o:List ((Str×Int×Int))) (l:List (Spot)):Nat:=length l-i.toNat
theorem r_tpa (n i:Int) (o:List ((Str×Int×Int))) (l:List (Spot)) (K:Cont) (hI:pre_tpa n i o l=true):(∀R:St→Option Fin,evC cx0_tpa (loopOf Tryd.f10 0) (st_tpa n i o l) (onward (headAt cx0_tpa 3) R K)=res_tpa n i o l K) ∨
  (∃(n' i':Int) (o':List ((Str×Int×Int))) (l':List (Spot)),pre_tpa n' i' o' l'=true∧mu_tpa n' i' o' l'<mu_tpa n i o l∧res_tpa n' i' o' l' K=res_tpa n i o l K∧∀R:St→Option Fin,evC cx0_tpa (loopOf Tryd.f10 0) (st_tpa n i o l) (onward (headAt cx0_tpa 3) R K)=R (st_tpa n' i' o' l')):=by
 have hx:=fun R=>x_impl_TreeParts o l n i R K;simp only[pre_tpa,andd,dec_iff]at hI;obtain⟨h0,rfl,h1,h2⟩:=hI
 by_cases hi:i<(l.length:Int)
 ·have hn:i.toNat<l.length:=by omega
  have w:W64 (i+1)=i+1:=wrap_small (by omega) (by omega);have k1:fits (o.length+1) Tryd.t37.bytes=true:=by rw[ptBytes];simp only[fits];exact zT (by omega)
  change ∀R:St→Option Fin,_=branch _ (need _ (need (fits (o.length+1) Tryd.t37.bytes) _)) _ at hx;rw[zT hi,inb_ok h0 hi,k1,w]at hx;have hd:l.drop i.toNat=l.getD i.toNat z7::l.drop (i+1).toNat:=by
   rw[drop_eq_getElem_cons hn,show (i+1).toNat=i.toNat+1 by omega,zG,zE hn];rfl
  right;refine⟨(l.length:Int),i+1,o++[(l.getD i.toNat z7).2],l, ?_, ?_, ?_,fun R=>hx R⟩
  ·simp only[pre_tpa,andd,dec_iff,length_append,length_singleton];exact⟨by omega,trivial,by omega,h2⟩
  ·simp only[mu_tpa];omega
  ·simp only[res_tpa,hd,List.map_cons,append_assoc,List.singleton_append]
 ·left;intro R;refine(hx R).trans ?_;rw[zF hi];have e:l.drop i.toNat=[]:=drop_eq_nil_of_le (by omega);simp only[res_tpa,e,List.map_nil,List.append_nil];rfl
def g_tpa:St→Cont→Option Fin:=gP sh_tpa (fun v=>match v with | ((n,i,()),(o,l,()))=>pre_tpa n i o l) (fun v K=>match v with | ((n,i,()),(o,l,()))=>res_tpa n i o l K)
def L_tpa:LpL:=(3,g_tpa)::[]
def cx_tpa:Cx:=(cb_tpa).withLoops (look L_tpa)
theorem l_tpa {L:LpL} (n:Nat) (h1:L.drop n=[]) (h2:idsFree (L.take n) (loopOf Tryd.f10 0)=true):LoopsTo g_tpa (cb_tpa) (loopOf Tryd.f10 0) 3 L :=
 with_drop h1 h2 (gP_ok (fun v=>match v with | ((n,i,()),(o,l,()))=>mu_tpa n i o l) fun v K hI=>by
  obtain⟨⟨n,i,⟨⟩⟩,⟨o,l,⟨⟩⟩⟩:=v;exact(r_tpa n i o l K hI).imp id fun⟨n',i',o',l',h⟩=>⟨((n',i',()),(o',l',())),h⟩)
theorem y_impl_TreeParts (t:GTree):evFn cx_tpa Tryd.f10 true [ofD .tree t] []=(
need (spPre 12 (GTree.node t.sign t.rule t.kids) [] 0) <|
need (pre_tpa (((spV 12 (GTree.node t.sign t.rule t.kids) 0).length:Int)) 0 [] (spV 12 (GTree.node t.sign t.rule t.kids) 0)) <| some ((.d (.one (.r (.li TPT (id (List.map Prod.snd (id (spV 12 (GTree.node t.sign t.rule t.kids) 0)))))))),[])):=by kernel_rfl
theorem s_impl_TreeParts (t:GTree) (_ht:Fit .tree t) (hpre:(kid9 12 t)=true):Sat Tryd.prog 10 [ofD .tree t] [] (.d (ofD (.list TPT) ((spV 12 t 0).map Prod.snd))) [] :=
 fn_sound (cx:=cx_tpa) Tryd.func10 rfl ttOk Γ59ok mixed (fun c hc=>LoopsOk.all (l:=[(3,loopOf Tryd.f10 0)]) (by cases hc;kernel_rfl) ⟨atLoop rfl (l_tpa 1 rfl (by kernel_rfl)),trivial⟩) (ro:=true) (by
  rw[y_impl_TreeParts,tEta];have hl:=sp_len (a:=0) hpre;rw[show pw 12=1000000000000 from rfl]at hl;have k1:spPre 12 t [] 0=true:=spPre_iff.2 ⟨hpre,Nat.le_refl _,by rw[show pw 12=1000000000000 from rfl];simp,Int.le_refl 0,by rw[show pw 12=1000000000000 from rfl];omega⟩;have k2:pre_tpa ((spV 12 t 0).length:Int) 0 [] (spV 12 t 0)=true:=by
   simp only[pre_tpa,andd,dec_iff];exact⟨Int.le_refl 0,trivial,by simp;omega,hl⟩
  rw[k1];change need true (need (pre_tpa ((spV 12 t 0).length:Int) 0 [] (spV 12 t 0)) _)=_;rw[k2];rfl)
def c_impl_TreeParts:Con:=conT [.tree] fun(t:GTree)=>(some (kid9 12 t), .d (ofD (.list TPT) ((spV 12 t 0).map Prod.snd)))
theorem k_impl_TreeParts:ConOk Tryd.prog 10 c_impl_TreeParts:=conT_ok Tryd.call10 fun t ht hqq=>s_impl_TreeParts t ht (pre_of hqq)
def Γ60:GL:=(10,c_impl_TreeParts)::Γ59
theorem Γ60ok:GO Γ60 := .cons k_impl_TreeParts Γ59ok
theorem blt_iff {a b:Nat}:Nat.blt a b=true↔a<b:=by simp
def cntB {α:Type} (f:α→Bool):List α→Nat
 | []=>0
 |a::l=>cntB f l+(bif f a then 1 else 0)
theorem cnt_le {α:Type} {f g:α→Bool}:∀ {l:List α},(∀a∈l,f a=true→g a=true)→cntB f l≤cntB g l
 | [],_=>Nat.le_refl _
 |a::l,h=>by
  have h1:=cnt_le (l:=l) fun b hb=>h b (mem_cons_of_mem _ hb);have h2:=h a mem_cons_self;unfold cntB
  cases hf:f a
  ·rw[cond_false];omega
  ·rw[h2 hf];omega
theorem cnt_lt {α:Type} {f g:α→Bool}:∀ {l:List α},(∀a∈l,f a=true→g a=true)→(∃a∈l,f a=false∧g a=true)→cntB f l<cntB g l
 | [],_,⟨_,h,_⟩=>by cases h
 |a::l,h,⟨b,hb,h3,h4⟩=>by
  have h1:=cnt_le (l:=l) fun c hc=>h c (mem_cons_of_mem _ hc);rcases List.mem_cons.1 hb with rfl | hb
  ·unfold cntB;rw[h3,h4,cond_false,cond_true];omega
  ·have h5:=cnt_lt (l:=l) (fun c hc=>h c (mem_cons_of_mem _ hc)) ⟨b,hb,h3,h4⟩;have h2:=h a mem_cons_self;unfold cntB
   cases hf:f a
   ·rw[cond_false];omega
   ·rw[h2 hf];omega
def foldG {σ V:Type} (step:V→σ×Bool→σ×Bool):List V→σ×Bool→σ×Bool
 | [],p=>p
 |v::vs,p=>foldG step vs (step v p)
theorem foldG_app {σ V:Type} {step:V→σ×Bool→σ×Bool}:∀ {a b:List V} {p:σ×Bool},foldG step (a++b) p=foldG step b (foldG step a p)
 | [],_,_=>rfl
 |v::a,b,p=>foldG_app (a:=a) (b:=b) (p:=step v p)
structure StepOk {σ V K:Type} (I:σ→Prop) (G:V→Prop) (has:σ→K→Bool) (ks:V→List K) (step:V→σ×Bool→σ×Bool):Prop where
 inv:∀v p,G v→I p.1→I (step v p).1
 mono:∀v p x,G v→I p.1→has p.1 x=true→has (step v p).1 x=true
 new:∀v p,G v→I p.1→(step v p).2=true→p.2=true∨∃x∈ks v,has p.1 x=false∧has (step v p).1 x=true
 quiet:∀v p,G v→I p.1→(step v p).2=false→p.2=false∧step v p=p
section
variable {σ V K:Type} {I:σ→Prop} {G:V→Prop} {has:σ→K→Bool} {ks:V→List K} {step:V→σ×Bool→σ×Bool}
theorem foldG_ok (h:StepOk I G has ks step):∀ {vs:List V} {p:σ×Bool},(∀v∈vs,G v)→I p.1→I (foldG step vs p).1
 | [],_,_,h1=>h1
 |v::vs,p,hv,h1=>foldG_ok h (vs:=vs) (fun w hw=>hv w (mem_cons_of_mem _ hw)) (h.inv v p (hv v mem_cons_self) h1)
theorem foldG_mono (h:StepOk I G has ks step):∀ {vs:List V} {p:σ×Bool} {x:K},(∀v∈vs,G v)→I p.1→has p.1 x=true→has (foldG step vs p).1 x=true
 | [],_,_,_,_,h1=>h1
 |v::vs,p,x,hv,hI,h1=>foldG_mono h (vs:=vs) (fun w hw=>hv w (mem_cons_of_mem _ hw)) (h.inv v p (hv v mem_cons_self) hI) (h.mono v p x (hv v mem_cons_self) hI h1)
theorem foldG_new (h:StepOk I G has ks step):∀ {vs:List V} {p:σ×Bool},(∀v∈vs,G v)→I p.1→(foldG step vs p).2=true→p.2=true∨∃x∈vs.flatMap ks,has p.1 x=false∧has (foldG step vs p).1 x=true
 | [],_,_,_,h1 => .inl h1
 |v::vs,p,hv,hI,h1=>by
  have hv0:=hv v mem_cons_self;have hvs:∀w∈vs,G w:=fun w hw=>hv w (mem_cons_of_mem _ hw);have hI1:=h.inv v p hv0 hI;rcases foldG_new h (vs:=vs) (p:=step v p) hvs hI1 h1 with h2 | ⟨x,hx,h2,h3⟩
  ·rcases h.new v p hv0 hI h2 with h4 | ⟨x,hx,h4,h5⟩
   ·exact .inl h4
   ·exact .inr ⟨x,List.mem_flatMap.2 ⟨v,mem_cons_self,hx⟩,h4,foldG_mono h (vs:=vs) (p:=step v p) hvs hI1 h5⟩
  ·obtain ⟨w,hw,hx⟩:=List.mem_flatMap.1 hx;refine .inr ⟨x,List.mem_flatMap.2 ⟨w,mem_cons_of_mem _ hw,hx⟩, ?_,h3⟩
   cases h4:has p.1 x
   ·rfl
   ·rw[h.mono v p x hv0 hI h4]at h2;cases h2
theorem foldG_quiet (h:StepOk I G has ks step):∀ {vs:List V} {p:σ×Bool},(∀v∈vs,G v)→I p.1→(foldG step vs p).2=false→p.2=false∧foldG step vs p=p∧∀v∈vs,step v p=p
 | [],_,_,_,h1=>⟨h1,rfl,fun _ hv=>by cases hv⟩
 |v::vs,p,hv,hI,h1=>by
  have hv0:=hv v mem_cons_self;obtain⟨h2,h3,h4⟩:=foldG_quiet h (vs:=vs) (p:=step v p) (fun w hw=>hv w (mem_cons_of_mem _ hw)) (h.inv v p hv0 hI) h1;obtain⟨h5,h6⟩:=h.quiet v p hv0 hI h2;refine⟨h5, ?_,fun w hw => ?_⟩
  ·show foldG step vs (step v p)=p;rw[h3,h6]
  ·rcases List.mem_cons.1 hw with rfl | hw
   ·exact h6
   ·have:=h4 w hw;rw[h6]at this;exact this
theorem foldG_inv {J:σ→Prop}:∀ {vs:List V} {p:σ×Bool},(∀v∈vs,∀p:σ×Bool,J p.1→J (step v p).1)→J p.1→J (foldG step vs p).1
 | [],_,_,h1=>h1
 |v::vs,p,h,h1=>foldG_inv (vs:=vs) (fun w hw=>h w (mem_cons_of_mem _ hw)) (h v mem_cons_self p h1)
end
def runG {σ V:Type} (step:V→σ×Bool→σ×Bool) (vs:List V):Nat→σ→σ
 |0,m=>m
 |n+1,m=>bif (foldG step vs (m,false)).2 then runG step vs n (foldG step vs (m,false)).1 else(foldG step vs (m,false)).1
def missG {σ K:Type} (has:σ→K→Bool) (ks:List K) (m:σ):Nat:=cntB (fun x => !has m x) ks
def runC {σ V K:Type} (has:σ→K→Bool) (ks:V→List K) (step:V→σ×Bool→σ×Bool) (vs:List V) (m:σ):σ:=runG step vs (missG has (vs.flatMap ks) m+1) m
section
variable {σ V K:Type} {I:σ→Prop} {G:V→Prop} {has:σ→K→Bool} {ks:V→List K} {step:V→σ×Bool→σ×Bool} {vs:List V}
theorem miss_lt (h:StepOk I G has ks step) (hv:∀v∈vs,G v) {m:σ} (hI:I m) (h1:(foldG step vs (m,false)).2=true):missG has (vs.flatMap ks) (foldG step vs (m,false)).1<missG has (vs.flatMap ks) m:=by
 rcases foldG_new h hv hI h1 with h2 | ⟨x,hx,h2,h3⟩
 ·cases h2
 ·refine cnt_lt (fun y _ hy => ?_) ⟨x,hx,by rw[h3];rfl,by rw[h2];rfl⟩
  cases h4:has m y
  ·rfl
  ·rw[foldG_mono h (vs:=vs) (p:=(m,false)) hv hI h4]at hy;cases hy
theorem run_fuel (h:StepOk I G has ks step) (hv:∀v∈vs,G v):∀ {n n':Nat} {m:σ},I m→missG has (vs.flatMap ks) m<n→missG has (vs.flatMap ks) m<n'→runG step vs n m=runG step vs n' m
 |0,_,_,_,h1,_=>by omega
 |n+1,0,_,_,_,h1=>by omega
 |n+1,n'+1,m,hI,h1,h2=>by
  unfold runG
  cases hc:(foldG step vs (m,false)).2
  ·rfl
  ·have:=miss_lt h hv hI hc;exact run_fuel h hv (foldG_ok h (p:=(m,false)) hv hI) (by omega) (by omega)
theorem runC_at (h:StepOk I G has ks step) (hv:∀v∈vs,G v) {m:σ} (hI:I m):runC has ks step vs m=bif (foldG step vs (m,false)).2 then runC has ks step vs (foldG step vs (m,false)).1 else(foldG step vs (m,false)).1:=by
 show(bif (foldG step vs (m,false)).2 then runG step vs (missG has (vs.flatMap ks) m) (foldG step vs (m,false)).1 else(foldG step vs (m,false)).1)=_
 cases hc:(foldG step vs (m,false)).2
 ·rfl
 ·have:=miss_lt h hv hI hc;exact run_fuel h hv (foldG_ok h (p:=(m,false)) hv hI) (by omega) (by omega)
theorem run_end (h:StepOk I G has ks step) (hv:∀v∈vs,G v) {J:σ→Prop} (hJ:∀v∈vs,∀p:σ×Bool,I p.1∧J p.1→J (step v p).1):∀ {n:Nat} {m:σ},missG has (vs.flatMap ks) m<n→I m→J m→I (runG step vs n m)∧J (runG step vs n m)∧∀v∈vs,step v (runG step vs n m,false)=(runG step vs n m,false)
 |0,_,h1,_,_=>by omega
 |n+1,m,h1,hI,h2=>by
  unfold runG;have h3:=foldG_inv (J:=fun x=>I x∧J x) (step:=step) (vs:=vs) (p:=(m,false)) (fun v hv' p hp=>⟨h.inv v p (hv v hv') hp.1,hJ v hv' p hp⟩) ⟨hI,h2⟩
  cases hc:(foldG step vs (m,false)).2
  ·rw[cond_false];obtain⟨_,h5,h6⟩:=foldG_quiet h hv hI hc;rw[h5];exact⟨hI,h2,h6⟩
  ·have:=miss_lt h hv hI hc;exact run_end h hv hJ (by omega) h3.1 h3.2
theorem runC_end (h:StepOk I G has ks step) (hv:∀v∈vs,G v) {J:σ→Prop} (hJ:∀v∈vs,∀p:σ×Bool,I p.1∧J p.1→J (step v p).1) {m:σ} (hI:I m) (hm:J m):I (runC has ks step vs m)∧J (runC has ks step vs m)∧∀v∈vs,step v (runC has ks step vs m,false)=(runC has ks step vs m,false):=run_end h hv hJ (Nat.lt_succ_self _) hI hm
end
def derP (s:Str) (P:Str→Int→Int→Prop) (a:Str) (i j:Int):Prop:=if smallS a then j=i+1∧([s.getD i.toNat 0]:Str)=a else P a i j
def splP (s:Str) (P:Str→Int→Int→Prop):Str→Int→Int→Prop
 | [],i,j=>i=j
 |c::r,i,j=>∃k,i≤k∧k≤j∧derP s P [c] i k∧splP s P r k j
def ClosedP (s:Str) (l:List Rule) (P:Str→Int→Int→Prop):Prop:=∀r∈l,∀i j,0≤i→i≤j→j≤(s.length:Int)→splP s P r.2 i j→P r.1 i j
def DerG (s:Str) (l:List Rule) (a:Str) (i j:Int):Prop:=∀P,ClosedP s l P→P a i j
theorem splP_mono {s:Str} {P Q:Str→Int→Int→Prop} (hPQ:∀a i j,0≤i→i≤j→j≤(s.length:Int)→P a i j→Q a i j):∀ {r:Str} {i j:Int},0≤i→j≤(s.length:Int)→splP s P r i j→splP s Q r i j
 | [],_,_,_,_,h=>h
 |c::r,i,j,h0,h1,⟨k,k1,k2,k3,k4⟩=>by
  refine⟨k,k1,k2, ?_,splP_mono hPQ (by omega) h1 k4⟩;unfold derP at k3 ⊢
  split
  ·rename_i hs;rw[if_pos hs]at k3;exact k3
  ·rename_i hs;rw[if_neg hs]at k3;exact hPQ _ _ _ h0 k1 (by omega) k3
theorem Der_closed {s:Str} {l:List Rule}:ClosedP s l (DerG s l):=fun r hr i j h0 h1 h2 h P hP=>hP r hr i j h0 h1 h2 (splP_mono (fun _ _ _ _ _ _ h=>h P hP) h0 h2 h)
theorem Der_iff {s:Str} {l:List Rule} {T:Str→Int→Int→Prop} (h1:∀P,ClosedP s l P→∀a i j,T a i j→P a i j) (h2:∀r∈l,∀i j,0≤i→i≤j→j≤(s.length:Int)→splP s T r.2 i j→T r.1 i j) {a:Str} {i j:Int}:T a i j↔DerG s l a i j :=
 ⟨fun h P hP=>h1 P hP a i j h,fun h=>h T h2⟩
abbrev TP:Ty := .struct (.pair .str (.pair TI64 TI64))
abbrev Part:Type:=Str×Int×Int
abbrev TPL:Ty := .list TP
abbrev pz:Part:=([],0,0)
abbrev PMap:Type:=List (Part×Bool)
abbrev TCh:Ty := .struct (.pair TG (.pair .str (.map TP .bool)))
abbrev Chart:Type:=Gram×Str×PMap
def hasM (m:PMap) (p:Part):Bool:=(mget TP .bool p m).getD false
def derB (s:Str) (m:PMap) (a:Str) (i j:Int):Bool:=bif smallS a then(bif decide (j=i+1)then decide (([s.getD i.toNat 0]:Str)=a)else false)else hasM m (a,i,j)
def anyI (f:Int→Bool):Nat→Int→Bool
 |0,_=>false
 |n+1,a=>f a||anyI f n (a+1)
def splitB (s:Str) (m:PMap):Str→Int→Int→Bool
 | [],i,j=>decide (i=j)
 |c::r,i,j=>anyI (fun k=>derB s m [c] i k&&splitB s m r k j) (j+1-i).toNat i
def okIJ (s:Str) (i j:Int):Bool:=decide (0≤i)&&(decide (i≤j)&&decide (j≤(s.length:Int)))
theorem okIJ_iff {s:Str} {i j:Int}:okIJ s i j=true↔0≤i∧i≤j∧j≤(s.length:Int):=by
 unfold okIJ;rw[andd,andd,dec_iff,dec_iff,dec_iff]
theorem y_impl_chart_derives (c:Chart) (a:Str) (i:Int) (j:Int):evFn (cxOf Γ60 Tryd.f42.ntmps [] [] [] []) Tryd.f42 true [ofD (.ref TCh) c,ofD .str a,ofD TI64 i,ofD TI64 j] []=(
branch (smallS a) (
 need (bif decide (decide (j=W64 (i+1))=true)then inr i j (length c.snd.fst)else true) <| some ((vB (bif decide (j=W64 (i+1))then decide ((List.take (j.toNat-i.toNat) (List.drop i.toNat c.snd.fst))=a)else false)),[])) ( some ((vB ((mget ty37 ty4 (a,i,j) c.snd.snd).getD false)),[]))):=by kernel_rfl
theorem s_impl_chart_derives (c:Chart) (hc:Fit (.ref TCh) c) (a:Str) (_ha:Fit .str a) (i:Int) (_hi:Fit TI64 i) (j:Int) (_hj:Fit TI64 j) (hpre:(okIJ c.2.1 i j)=true):Sat Tryd.prog 42 [ofD (.ref TCh) c,ofD .str a,ofD TI64 i,ofD TI64 j] [] (.d (ofD .bool (derB c.2.1 c.2.2 a i j))) [] :=
 fn_sound (cx:=cxOf Γ60 Tryd.f42.ntmps [] [] [] []) Tryd.func42 rfl ttOk Γ60ok mixed (fun _ _=>LoopsOk.no fun _=>rfl) (ro:=true) (by
  obtain⟨h0,h1,h2⟩:=okIJ_iff.1 hpre;refine(y_impl_chart_derives c a i j).trans ?_;unfold derB;have hl:(c.2.1.length:Int)≤9223372036854775807:=by
   have:c.2.1.length≤9223372036854775807:=hc.2.1;omega
  have w:W64 (i+1)=i+1∨i=9223372036854775807:=by
   by_cases h:i=9223372036854775807
   ·exact .inr h
   ·exact .inl (wrap_small (by omega) (by omega))
  cases hs:smallS a
  ·rfl
  ·by_cases hjj:j=i+1
   ·have w:W64 (i+1)=i+1:=wrap_small (by omega) (by omega);rw[w,zT hjj,hjj,slice_one h0 (by omega),inr_iff.2 (by omega:0≤i∧i≤i+1∧i+1≤(c.2.1.length:Int))];rfl
   ·have hj2:¬j=W64 (i+1):=by
     rcases w with w | w
     ·rw[w];exact hjj
     ·rw[w];have:W64 (9223372036854775807+1) = -9223372036854775808:=rfl;rw[this];omega
    rw[zF hjj,zF hj2];rfl)
def c_impl_chart_derives:Con:=conT [(.ref TCh), .str,TI64,TI64] fun(c:Chart) (a:Str) (i:Int) (j:Int)=>(some (okIJ c.2.1 i j), .d (ofD .bool (derB c.2.1 c.2.2 a i j)))
theorem k_impl_chart_derives:ConOk Tryd.prog 42 c_impl_chart_derives:=conT_ok Tryd.call42 fun c hc a ha i hi j hj hqq=>s_impl_chart_derives c hc a ha i hi j hj (pre_of hqq)
def Γ61:GL:=(42,c_impl_chart_derives)::Γ60
theorem Γ61ok:GO Γ61 := .cons k_impl_chart_derives Γ60ok
def conSplit (n:Nat):Con:=conT [.ref TCh, .str,TI64,TI64] fun(c:Chart) (a:Str) (i:Int) (j:Int)=>(some (Nat.blt (length a) n&&(okIJ c.2.1 i j&&Nat.ble (length c.2.1) 1000)), .d (ofD .bool (splitB c.2.1 c.2.2 a i j)))
structure LevD where
 n:Nat
 h:ConOk Tryd.prog 83 (conSplit n)
noncomputable section
variable [Inhabited LevD]
abbrev lvD:Nat:=(default:LevD).n
def c_impl_chart_splitR:Con:=conSplit lvD
theorem k_impl_chart_splitR:ConOk Tryd.prog 83 c_impl_chart_splitR:=(default:LevD).h
def Γ62:GL:=(83,c_impl_chart_splitR)::Γ61
theorem Γ62ok:GO Γ62 := .cons k_impl_chart_splitR Γ61ok
def cb_split:Cx:=(cxOf Γ62 Tryd.f83.ntmps [(4,[0,1,2,3,9])] [(0,[]),(1,[0,1,2,3,9]),(1000000,[8])] [] []).parted [6]
abbrev st_sp1 (c:Chart) (a:Str) (i j k:Int):St:=⟨[(0, .d (ofD (.ref TCh) c)),(1,vS a),(2,vI i),(3,vI j),(9,vI k)],[]⟩
theorem x_impl_chart_split (c:Chart) (a:Str) (i j k:Int) (R:St→Option Fin) (K:Cont):evC (cb_split.withLoops (look [])) (loopOf Tryd.f83 0) (st_sp1 c a i j k) (onward (headAt (cb_split.withLoops (look [])) 4) R K)=(
branch (decide (k≤j)) (
 need (inr 0 1 a.length) <|
 need (okIJ c.snd.fst i k) <|
 branch (decide (derB c.snd.fst c.snd.snd (List.take (Int.toNat 1-(0:Int).toNat) a) i k=true)) (
 need (inr 1 ((a.length:Int)) a.length) <|
 need ((List.take (((a.length:Int)).toNat-Int.toNat 1) (List.drop (Int.toNat 1) a)).length.blt lvD&&(okIJ c.snd.fst k j&&(length c.snd.fst).ble 1000)) <|
 branch (bif true then splitB c.snd.fst c.snd.snd (List.take (((a.length:Int)).toNat-Int.toNat 1) (List.drop (Int.toNat 1) a)) k j else false) ( K (.ret) (.mk [(8,vB true)] [])) ( R (st_sp1 c a i j (W64 (k+1))))) ( R (st_sp1 c a i j (W64 (k+1))))) ( K (.exit 0) (.mk [] []))):=by kernel_rfl
def cx0_sp1:Cx:=(cb_split).withLoops (look [])
def sh_sp1:Sh:=([(0, .d (.ref TCh)),(1, .d .str),(2, .d TI64),(3, .d TI64),(9, .d TI64)],[])
def pre_sp1 (c:Chart) (a:Str) (i j k:Int):Bool:=decide (0≤i)&&(decide (i≤k)&&(decide (k≤j+1)&&(decide (j≤(c.2.1.length:Int))&&(Nat.ble (length c.2.1) 1000&&(Nat.blt 0 (length a)&&Nat.ble (length a) lvD)))))
def res_sp1 (c:Chart) (a:Str) (i j k:Int) (K:Cont):Option Fin:=branch (anyI (fun k'=>derB c.2.1 c.2.2 (List.take 1 a) i k'&&splitB c.2.1 c.2.2 (List.drop 1 a) k' j) (j+1-k).toNat k) (K .ret ⟨[(8,vB true)],[]⟩) (K (.exit 0) ⟨[],[]⟩)
def mu_sp1 (_c:Chart) (_a:Str) (_i j k:Int):Nat:=(j+1-k).toNat
theorem r_sp1 (c:Chart) (a:Str) (i j k:Int) (K:Cont) (hI:pre_sp1 c a i j k=true):(∀R:St→Option Fin,evC cx0_sp1 (loopOf Tryd.f83 0) (st_sp1 c a i j k) (onward (headAt cx0_sp1 4) R K)=res_sp1 c a i j k K) ∨
  (∃(c':Chart) (a':Str) (i' j' k':Int),pre_sp1 c' a' i' j' k'=true∧mu_sp1 c' a' i' j' k'<mu_sp1 c a i j k∧res_sp1 c' a' i' j' k' K=res_sp1 c a i j k K∧∀R:St→Option Fin,evC cx0_sp1 (loopOf Tryd.f83 0) (st_sp1 c a i j k) (onward (headAt cx0_sp1 4) R K)=R (st_sp1 c' a' i' j' k')):=by
 have hx:=fun R=>x_impl_chart_split c a i j k R K;simp only[pre_sp1]at hI;rw[andd,andd,andd,andd,andd,andd,dec_iff,dec_iff,dec_iff,dec_iff,ble_iff,blt_iff,ble_iff]at hI;obtain⟨h0,h1,h2,h3,h4,h5,h6⟩:=hI
 by_cases hk:k≤j
 ·have w:W64 (k+1)=k+1:=wrap_small (by omega) (by omega);obtain⟨n,hn⟩:∃n,(j+1-k).toNat=n+1:=⟨(j+1-k).toNat-1,by omega⟩;have hn2:(j+1-(k+1)).toNat=n:=by omega
  have hg:anyI (fun k'=>derB c.2.1 c.2.2 (List.take 1 a) i k'&&splitB c.2.1 c.2.2 (List.drop 1 a) k' j) (n+1) k=((derB c.2.1 c.2.2 (List.take 1 a) i k&&splitB c.2.1 c.2.2 (List.drop 1 a) k j)||anyI (fun k'=>derB c.2.1 c.2.2 (List.take 1 a) i k'&&splitB c.2.1 c.2.2 (List.drop 1 a) k' j) n (k+1)):=rfl;have t1:List.take (((length a:Int)).toNat-Int.toNat 1) (List.drop (Int.toNat 1) a)=List.drop 1 a:=List.take_of_length_le (by rw[length_drop];omega);have k1:okIJ c.2.1 i k=true:=okIJ_iff.2 ⟨by omega,by omega,by omega⟩;have k2:okIJ c.2.1 k j=true:=okIJ_iff.2 ⟨by omega,by omega,by omega⟩;have k3:(length (List.drop 1 a)).blt lvD=true:=blt_iff.2 (by rw[length_drop];omega);have k4:(length c.2.1).ble 1000=true:=ble_iff.2 h4;rw[zT hk,t1,k1,k2,k3,k4,w,inr_iff.2 (by omega:(0:Int)≤0∧(0:Int)≤1∧1≤(length a:Int)),inr_iff.2 (by omega:(0:Int)≤1∧1≤(length a:Int)∧(length a:Int)≤(length a:Int))]at hx;change ∀R:St→Option Fin,_=branch true (need true (need true (branch (decide (derB c.2.1 c.2.2 (List.take 1 a) i k=true)) (need true (need true (branch (bif true then splitB c.2.1 c.2.2 (List.drop 1 a) k j else false) _ _))) _))) _ at hx
  cases hcs:(derB c.2.1 c.2.2 (List.take 1 a) i k&&splitB c.2.1 c.2.2 (List.drop 1 a) k j)
  ·right;refine⟨c,a,i,j,k+1, ?_, ?_, ?_,fun R=>(hx R).trans ?_⟩
   ·simp only[pre_sp1];rw[andd,andd,andd,andd,andd,andd,dec_iff,dec_iff,dec_iff,dec_iff,ble_iff,blt_iff,ble_iff];exact⟨by omega,by omega,by omega,h3,h4,h5,h6⟩
   ·simp only[mu_sp1];omega
   ·simp only[res_sp1,hn,hn2,hg,hcs,Bool.false_or]
   ·cases c1:derB c.2.1 c.2.2 (List.take 1 a) i k
    ·rfl
    ·rw[c1]at hcs;have c2:splitB c.2.1 c.2.2 (List.drop 1 a) k j=false:=hcs;rw[c2];rfl
  ·obtain ⟨c1,c2⟩:=andd.1 hcs;left;intro R;refine(hx R).trans ?_;simp only[res_sp1,hn,hg,hcs];rw[c1,c2];rfl
 ·left;intro R;refine(hx R).trans ?_;rw[zF hk];have e:(j+1-k).toNat=0:=by omega
  simp only[res_sp1,e];rfl
def g_sp1:St→Cont→Option Fin:=gP sh_sp1 (fun v=>match v with | ((c,a,i,j,k,()),())=>pre_sp1 c a i j k) (fun v K=>match v with | ((c,a,i,j,k,()),())=>res_sp1 c a i j k K)
def L_sp1:LpL:=(4,g_sp1)::[]
def cx_sp1:Cx:=(cb_split).withLoops (look L_sp1)
theorem l_sp1 {L:LpL} (n:Nat) (h1:L.drop n=[]) (h2:idsFree (L.take n) (loopOf Tryd.f83 0)=true):LoopsTo g_sp1 (cb_split) (loopOf Tryd.f83 0) 4 L :=
 with_drop h1 h2 (gP_ok (fun v=>match v with | ((c,a,i,j,k,()),())=>mu_sp1 c a i j k) fun v K hI=>by
  obtain⟨⟨c,a,i,j,k,⟨⟩⟩,⟨⟩⟩:=v;exact(r_sp1 c a i j k K hI).imp id fun⟨c',a',i',j',k',h⟩=>⟨((c',a',i',j',k',()),()),h⟩)
theorem y_impl_chart_split (c:Chart) (a:Str) (i:Int) (j:Int):evFn cx_sp1 Tryd.f83 true [ofD (.ref TCh) c,ofD .str a,ofD TI64 i,ofD TI64 j] []=(
branch (decide (a=[])) ( some ((vB (decide (i=j))),[])) (
 need (pre_sp1 c a i j i) <|
 branch (anyI (fun k'=>derB c.snd.fst c.snd.snd (List.take 1 a) i k'&&splitB c.snd.fst c.snd.snd (List.drop 1 a) k' j) (j+1-i).toNat i) ( some ((vB true),[])) ( some ((vB false),[])))):=by kernel_rfl
theorem split_up:ConOk Tryd.prog 83 (conSplit (lvD+1)):=conT_ok Tryd.call83 fun(c:Chart) _ (a:Str) _ (i:Int) _ (j:Int) _ hqq=>by
 obtain⟨h1,h2⟩:=andd.1 (pre_of hqq);obtain⟨h2,h3⟩:=andd.1 h2;obtain⟨i0,i1,i2⟩:=okIJ_iff.1 h2;have h1:=blt_iff.1 h1;refine fn_sound (cx:=cx_sp1) Tryd.func83 rfl ttOk Γ62ok mixed (fun c hc=>LoopsOk.all (l:=[(4,loopOf Tryd.f83 0)]) (by cases hc;kernel_rfl) ⟨atLoop rfl (l_sp1 1 rfl (by kernel_rfl)),trivial⟩) (ro:=true) ?_;refine(y_impl_chart_split c a i j).trans ?_
 cases a with
 |nil=>rfl
 |cons q r =>
  have hp:pre_sp1 c (q::r) i j i=true:=by
   simp only[pre_sp1];rw[andd,andd,andd,andd,andd,andd,dec_iff,dec_iff,dec_iff,dec_iff,ble_iff,blt_iff,ble_iff];exact⟨i0,by omega,by omega,i2,ble_iff.1 h3,by simp,by omega⟩
  rw[hp];show branch (splitB c.2.1 c.2.2 (q::r) i j) _ _=_
  cases splitB c.2.1 c.2.2 (q::r) i j<;>rfl
end
theorem split_all:∀n,ConOk Tryd.prog 83 (conSplit n)
 |0=>conT_ok Tryd.call83 fun c _ (a:Str) _ i _ j _ hqq=>by
  have:=blt_iff.1 (andd.1 (pre_of hqq)).1;omega
 |n+1=>@split_up ⟨⟨n,split_all n⟩⟩
def c_impl_chart_split:Con:=conSplit 9
theorem k_impl_chart_split:ConOk Tryd.prog 83 c_impl_chart_split:=split_all 9
def Γ63:GL:=(83,c_impl_chart_split)::Γ61
theorem Γ63ok:GO Γ63 := .cons k_impl_chart_split Γ61ok
def putM (q:Part) (m:PMap):PMap:=mset TP .bool q true m
def stepR (s:Str) (i j:Int) (r:Rule) (p:PMap×Bool):PMap×Bool:=bif !hasM p.1 (r.1,i,j)&&splitB s p.1 r.2 i j then(putM (r.1,i,j) p.1,true)else p
def rulesF (s:Str) (i j:Int):List Rule→PMap×Bool→PMap×Bool
 | [],p=>p
 |r::l,p=>rulesF s i j l (stepR s i j r p)
def tosF (s:Str) (l:List Rule) (i:Int):Nat→Int→PMap×Bool→PMap×Bool
 |0,_,p=>p
 |n+1,j,p=>tosF s l i n (j+1) (rulesF s i j l p)
def fromsF (s:Str) (l:List Rule):Nat→PMap×Bool→PMap×Bool
 |0,p=>p
 |n+1,p=>fromsF s l n (tosF s l (n:Int) (s.length+1-n) (n:Int) p)
theorem rulesF_at {s:Str} {i j k:Int} {l:List Rule} {p:PMap×Bool} (h0:0≤k) (h1:k<(l.length:Int)):rulesF s i j (l.drop k.toNat) p=rulesF s i j (l.drop (k+1).toNat) (stepR s i j (l.getD k.toNat d0) p):=by
 have hn:k.toNat<l.length:=by omega
 rw[drop_eq_getElem_cons hn,show (k+1).toNat=k.toNat+1 by omega,zG,zE hn];rfl
theorem eqP_iff {x y:Part}:eqDen TP x y=true↔x=y:=by
 obtain⟨a,i,j⟩:=x;obtain⟨b,k,n⟩:=y;show(decide (a=b)&&(decide (i=k)&&decide (j=n)))=true↔_;rw[andd,andd,dec_iff,dec_iff,dec_iff]
 constructor
 ·rintro ⟨rfl,rfl,rfl⟩;rfl
 ·intro h;cases h;exact ⟨rfl,rfl,rfl⟩
theorem eqP_dec {x y:Part}:eqDen TP x y=decide (x=y):=by
 by_cases h:x=y
 ·rw[zT h,eqP_iff.2 h]
 ·rw[zF h]
  cases e:eqDen TP x y
  ·rfl
  ·exact absurd (eqP_iff.1 e) h
theorem has_cons {x a:Part} {u:Bool} {m:PMap}:hasM ((a,u)::m) x=bif decide (x=a)then u else hasM m x:=by
 rw[← eqP_dec];show(bif eqDen TP x a then some u else mget TP .bool x m).getD false=_
 cases eqDen TP x a<;>rfl
theorem has_set {q x:Part} {v:Bool}:∀ {m:PMap},hasM (mset TP .bool q v m) x=bif decide (x=q)then v else hasM m x
 | []=>has_cons (m:=[])
 | (a,u)::m=>by
  have ih:=has_set (q:=q) (x:=x) (v:=v) (m:=m);show hasM (bif eqDen TP q a then(q,v)::m else(a,u)::mset TP .bool q v m) x=_;rw[eqP_dec,has_cons]
  by_cases h1:q=a
  ·subst h1;rw[zT rfl,cond_true,has_cons]
   cases decide (x=q)<;>rfl
  ·rw[zF h1,cond_false];refine has_cons.trans ?_
   by_cases h:x=a
   ·have hx:¬x=q:=fun e=>h1 (e.symm.trans h);rw[zF hx,zT h];rfl
   ·rw[zF h,cond_false,cond_false,ih]
theorem has_put {q x:Part} {m:PMap}:hasM (putM q m) x=bif decide (x=q)then true else hasM m x:=has_set
abbrev Vis:Type:=Int×Int×Rule
def keyV (v:Vis):Part:=(v.2.2.1,v.1,v.2.1)
def stepV (s:Str) (v:Vis) (p:PMap×Bool):PMap×Bool:=stepR s v.1 v.2.1 v.2.2 p
def visR (i j:Int) (l:List Rule):List Vis:=l.map fun r=>(i,j,r)
def visT (l:List Rule) (i:Int):Nat→Int→List Vis
 |0,_=>[]
 |n+1,j=>visR i j l++visT l i n (j+1)
def visF (s:Str) (l:List Rule):Nat→List Vis
 |0=>[]
 |n+1=>visT l (n:Int) (s.length+1-n) (n:Int)++visF s l n
theorem rules_vis {s:Str} {i j:Int}:∀ {l:List Rule} {p:PMap×Bool},rulesF s i j l p=foldG (stepV s) (visR i j l) p
 | [],_=>rfl
 |r::l,p=>rules_vis (l:=l) (p:=stepR s i j r p)
theorem tos_vis {s:Str} {l:List Rule} {i:Int}:∀ {n:Nat} {j:Int} {p:PMap×Bool},tosF s l i n j p=foldG (stepV s) (visT l i n j) p
 |0,_,_=>rfl
 |n+1,j,p=>by
  show tosF s l i n (j+1) (rulesF s i j l p)=foldG (stepV s) (visR i j l++visT l i n (j+1)) p;rw[foldG_app,← rules_vis,tos_vis]
theorem froms_vis {s:Str} {l:List Rule}:∀ {n:Nat} {p:PMap×Bool},fromsF s l n p=foldG (stepV s) (visF s l n) p
 |0,_=>rfl
 |n+1,p=>by
  show fromsF s l n (tosF s l (n:Int) (s.length+1-n) (n:Int) p)=foldG (stepV s) (visT l (n:Int) (s.length+1-n) (n:Int)++visF s l n) p;rw[foldG_app,← tos_vis,froms_vis]
theorem mem_visT {l:List Rule} {i:Int} {v:Vis}:∀ {n:Nat} {j:Int},v∈visT l i n j↔v.1=i∧j≤v.2.1∧v.2.1<j+n∧v.2.2∈l
 |0,j=>by
  unfold visT
  constructor
  ·intro h;cases h
  ·rintro ⟨_,h1,h2,_⟩;omega
 |n+1,j=>by
  unfold visT visR;rw[mem_append,mem_visT (n:=n) (j:=j+1),List.mem_map]
  constructor
  ·rintro (⟨r,hr,rfl⟩ | ⟨h1,h2,h3,h4⟩)
   ·exact ⟨rfl,Int.le_refl _,by show j<j+_;omega,hr⟩
   ·exact ⟨h1,by omega,by omega,h4⟩
  ·rintro ⟨h1,h2,h3,h4⟩
   by_cases h:v.2.1=j
   ·exact .inl ⟨v.2.2,h4,by rw[← h1,← h]⟩
   ·exact .inr ⟨h1,by omega,by omega,h4⟩
theorem mem_visF {s:Str} {l:List Rule} {v:Vis}:∀ {n:Nat},n≤s.length+1→(v∈visF s l n↔0≤v.1∧v.1<n∧v.1≤v.2.1∧v.2.1≤(s.length:Int)∧v.2.2∈l)
 |0,_=>by
  unfold visF
  constructor
  ·intro h;cases h
  ·rintro ⟨h1,h2,_⟩;omega
 |n+1,hn=>by
  unfold visF;rw[mem_append,mem_visT,mem_visF (n:=n) (by omega)]
  constructor
  ·rintro (⟨h1,h2,h3,h4⟩ | ⟨h1,h2,h3,h4,h5⟩)
   ·exact ⟨by omega,by omega,by omega,by omega,h4⟩
   ·exact ⟨by omega,by omega,by omega,by omega,h5⟩
  ·rintro ⟨h1,h2,h3,h4,h5⟩
   by_cases h:v.1=n
   ·exact .inl ⟨h,by omega,by omega,h5⟩
   ·exact .inr ⟨by omega,by omega,by omega,by omega,h5⟩
theorem stepV_ok (s:Str):StepOk (fun _=>True) (fun _=>True) hasM (fun v=>[keyV v]) (stepV s) where
 inv _ _ _ _:=trivial
 mono v p x _ _ h:=by
  unfold stepV stepR
  cases !hasM p.1 (v.2.2.1,v.1,v.2.1)&&splitB s p.1 v.2.2.2 v.1 v.2.1
  ·exact h
  ·show hasM (putM (v.2.2.1,v.1,v.2.1) p.1) x=true;rw[has_put,h]
   cases decide (x=(v.2.2.1,v.1,v.2.1))<;>rfl
 new v p _ _ h:=by
  unfold stepV stepR at *
  cases hc:(!hasM p.1 (v.2.2.1,v.1,v.2.1)&&splitB s p.1 v.2.2.2 v.1 v.2.1)<;>rw[hc]at h
  ·exact .inl h
  ·refine .inr ⟨keyV v,mem_singleton.2 rfl, ?_, ?_⟩
   ·have:=(andd.1 hc).1;show hasM p.1 (v.2.2.1,v.1,v.2.1)=false
    cases h2:hasM p.1 (v.2.2.1,v.1,v.2.1)
    ·rfl
    ·rw[h2]at this;cases this
   ·show hasM (putM (v.2.2.1,v.1,v.2.1) p.1) (keyV v)=true;rw[has_put,zT (show keyV v=(v.2.2.1,v.1,v.2.1)from rfl)];rfl
 quiet v p _ _ h:=by
  unfold stepV stepR at *
  cases hc:(!hasM p.1 (v.2.2.1,v.1,v.2.1)&&splitB s p.1 v.2.2.2 v.1 v.2.1)<;>rw[hc]at h
  ·exact ⟨h,rfl⟩
  ·cases h
theorem anyI_iff {f:Int→Bool}:∀ {n:Nat} {a:Int},anyI f n a=true↔∃k,a≤k∧k<a+n∧f k=true
 |0,a=>by
  unfold anyI
  constructor
  ·intro h;cases h
  ·rintro ⟨k,h1,h2,_⟩;omega
 |n+1,a=>by
  unfold anyI;rw[Bool.or_eq_true,anyI_iff (n:=n) (a:=a+1)]
  constructor
  ·rintro (h | ⟨k,h1,h2,h3⟩)
   ·exact ⟨a,Int.le_refl _,by omega,h⟩
   ·exact ⟨k,by omega,by omega,h3⟩
  ·rintro ⟨k,h1,h2,h3⟩
   by_cases h:k=a
   ·exact .inl (by rw[← h];exact h3)
   ·exact .inr ⟨k,by omega,by omega,h3⟩
abbrev tabM (m:PMap) (a:Str) (i j:Int):Prop:=hasM m (a,i,j)=true
theorem derB_iff {s:Str} {m:PMap} {a:Str} {i j:Int}:derB s m a i j=true↔derP s (tabM m) a i j:=by
 unfold derB derP
 cases smallS a
 ·exact Iff.rfl
 ·rw[cond_true,if_pos rfl,b2,andd,dec_iff,dec_iff]
theorem splitB_iff {s:Str} {m:PMap}:∀ {r:Str} {i j:Int},splitB s m r i j=true↔splP s (tabM m) r i j
 | [],i,j=>by
  unfold splitB splP;exact dec_iff
 |c::r,i,j=>by
  unfold splitB splP;rw[anyI_iff]
  constructor
  ·rintro ⟨k,h1,h2,h3⟩;obtain⟨h3,h4⟩:=andd.1 h3;exact⟨k,h1,by omega,derB_iff.1 h3,splitB_iff.1 h4⟩
  ·rintro ⟨k,h1,h2,h3,h4⟩;exact⟨k,h1,by omega,andd.2 ⟨derB_iff.2 h3,splitB_iff.2 h4⟩⟩
def chartM (s:Str) (l:List Rule):PMap:=runC hasM (fun v=>[keyV v]) (stepV s) (visF s l (s.length+1)) []
theorem chartM_iff {s:Str} {l:List Rule} {a:Str} {i j:Int}:hasM (chartM s l) (a,i,j)=true↔DerG s l a i j:=by
 refine Der_iff (T:=tabM (chartM s l)) (fun P hP a i j h => ?_) (fun r hr i j h0 h1 h2 h3 => ?_)
 ·refine (runC_end (stepV_ok s) (fun _ _=>trivial) (J:=fun m=>∀a i j,hasM m (a,i,j)=true→P a i j) (fun v hv p hp a i j h => ?_) (m:=[]) trivial (fun a i j h=>by cases h)).2.1 a i j h;unfold stepV stepR at h
  cases hc:(!hasM p.1 (v.2.2.1,v.1,v.2.1)&&splitB s p.1 v.2.2.2 v.1 v.2.1)<;>rw[hc]at h
  ·exact hp.2 a i j h
  ·change hasM (putM (v.2.2.1,v.1,v.2.1) p.1) (a,i,j)=true at h;rw[has_put]at h
   by_cases he:(a,i,j)=(v.2.2.1,v.1,v.2.1)
   ·cases he
    obtain⟨v1,v2,v3,v4,v5⟩:=(mem_visF (Nat.le_refl _)).1 hv;exact hP v.2.2 v5 v.1 v.2.1 v1 v3 v4 (splP_mono (fun a i j _ _ _ h=>hp.2 a i j h) v1 v4 (splitB_iff.1 (andd.1 hc).2))
   ·rw[zF he]at h;exact hp.2 a i j h
 ·have h4:=(runC_end (stepV_ok s) (J:=fun _=>True) (vs:=visF s l (s.length+1)) (fun _ _=>trivial) (fun _ _ _ _=>trivial) (m:=[]) trivial trivial).2.2 (i,j,r) ((mem_visF (Nat.le_refl _)).2 ⟨h0,by show i<_;omega,h1,h2,hr⟩);change stepR s i j r (chartM s l,false)=(chartM s l,false)at h4;show hasM (chartM s l) (r.1,i,j)=true;unfold stepR at h4
  cases hc:hasM (chartM s l) (r.1,i,j)
  ·rw[hc,splitB_iff.2 h3]at h4
   cases congrArg Prod.snd h4
  ·rfl
def cb_chart:Cx:=(cxOf Γ63 Tryd.f40.ntmps [(12,[1,2,5,6,7,8,32,33,34]),(9,[1,2,5,6,7,8]),(6,[1,2,5,6,7]),(3,[1,2,5,6])] [(0,[5]),(1,[1,2,5,6]),(2,[1,2,5,6]),(3,[1,2,5,6,7]),(4,[1,2,5,6,7]),(5,[1,2,5,6,7,8]),(6,[1,2,5,6,7,8]),(7,[1,2,5,6,7,8,32,33,34]),(1000000,[4])] [] [])
abbrev chO (a:Str) (l:List Rule) (s:Str) (i:Nat):Option Obj:=some (.box 134 [.r (.v (.string (mk a))), .r (.li TRu l), .r (.v (.string (mk s))), .own i])
abbrev chH (g:Gram) (a:Str) (l:List Rule) (s:Str) (m:PMap):Heap:=[(500000,some (boxD 25 TG g)),(500001,chO a l s 500002),(500002,some (.map TP .bool m))]
theorem x_impl_chartOf_3 (t s a:Str) (g:Gram) (l q:List Rule) (m:PMap) (b:Bool) (i j n k:Int) (R:St→Option Fin) (K:Cont):evC (cb_chart.withLoops (look [])) (loopOf Tryd.f40 3) ⟨[(1,vS t),(2, kp0),(5, kp1),(6,vB b),(7,vI i),(8,vI j),(32, .d (ofD TRL l)),(33,vI n),(34,vI k)],[(500000,some (boxD 25 TG g)),(500001,chO a q s 500002),(500002,some (.map TP .bool m))]⟩ (onward (headAt (cb_chart.withLoops (look [])) 12) R K)=(
branch (decide (k<n)) (
 need (inb k l.length) <|
 need (bif decide ((!hasM m ((l.getD k.toNat d0).1,i,j))=true)then Nat.blt (length (l.getD k.toNat d0).2) 9&&(okIJ s i j&&Nat.ble s.length 1000)else true) <|
 branch (bif !hasM m ((l.getD k.toNat d0).1,i,j)then splitB s m (l.getD k.toNat d0).2 i j else false) (R ⟨[(1,vS t),(2, kp0),(5, kp1),(6,vB true),(7,vI i),(8,vI j),(32, .d (ofD TRL l)),(33,vI n),(34,vI (W64 (k+1)))],chH g a q s (putM ((l.getD k.toNat d0).1,i,j) m)⟩) (R ⟨[(1,vS t),(2, kp0),(5, kp1),(6,vB b),(7,vI i),(8,vI j),(32, .d (ofD TRL l)),(33,vI n),(34,vI (W64 (k+1)))],chH g a q s m⟩)) (K (.exit 6) ⟨[(1,vS t),(2, kp0),(5, kp1),(6,vB b),(7,vI i),(8,vI j)],chH g a q s m⟩)):=by kernel_rfl
def okRs (l:List Rule):Bool:=Nat.ble (length l) 1000&&List.all l (fun r=>Nat.blt (length r.2) 9)
theorem okRs_iff {l:List Rule}:okRs l=true↔l.length≤1000∧List.all l (fun r=>Nat.blt (length r.2) 9)=true:=by
 unfold okRs;rw[andd,ble_iff]
def cx0_c4:Cx:=(cb_chart).withLoops (look [])
def sh_c4:Sh:=([(1, .d .str),(2, .ptr 500000 0),(5, .ptr 500001 0),(6, .d .bool),(7, .d TI64),(8, .d TI64),(32, .d TRL),(33, .d TI64),(34, .d TI64)],[(500000, .box 25 TG),(500001, .mix 134 [.d .str, .d TRL, .d .str, .own 500002]),(500002, .map TP .bool)])
abbrev st_c4 (t:Str) (b:Bool) (i j:Int) (l:List Rule) (n k:Int) (g:Gram) (a:Str) (q:List Rule) (s:Str) (m:List (Den TP×Den .bool)):St:=⟨[(1,vS t),(2, kp0),(5, kp1),(6,vB b),(7,vI i),(8,vI j),(32, .d (ofD TRL l)),(33,vI n),(34,vI k)],[(500000,some (boxD 25 TG g)),(500001,some (.box 134 ((cellsR .str a).map C.r++(cellsR TRL q).map C.r++(cellsR .str s).map C.r++[.own 500002]))),(500002,some (.map TP .bool m))]⟩
def pre_c4 (_t:Str) (_b:Bool) (i j:Int) (l:List Rule) (n k:Int) (_g:Gram) (_a:Str) (_q:List Rule) (s:Str) (_m:List (Den TP×Den .bool)):Bool:=decide (0≤k)&&(decide (n=(length l:Int))&&(okRs l&&(okIJ s i j&&Nat.ble (length s) 1000)))
def res_c4 (t:Str) (b:Bool) (i j:Int) (l:List Rule) (_n k:Int) (g:Gram) (a:Str) (q:List Rule) (s:Str) (m:List (Den TP×Den .bool)) (K:Cont):Option Fin:=K (.exit 6) ⟨[(1,vS t),(2, kp0),(5, kp1),(6,vB (rulesF s i j (List.drop k.toNat l) (m,b)).2),(7,vI i),(8,vI j)],chH g a q s (rulesF s i j (List.drop k.toNat l) (m,b)).1⟩
def mu_c4 (_t:Str) (_b:Bool) (_i _j:Int) (l:List Rule) (_n k:Int) (_g:Gram) (_a:Str) (_q:List Rule) (_s:Str) (_m:List (Den TP×Den .bool)):Nat:=length l-k.toNat
theorem r_c4 (t:Str) (b:Bool) (i j:Int) (l:List Rule) (n k:Int) (g:Gram) (a:Str) (q:List Rule) (s:Str) (m:List (Den TP×Den .bool)) (K:Cont) (hI:pre_c4 t b i j l n k g a q s m=true):(∀R:St→Option Fin,evC cx0_c4 (loopOf Tryd.f40 3) (st_c4 t b i j l n k g a q s m) (onward (headAt cx0_c4 12) R K)=res_c4 t b i j l n k g a q s m K) ∨
  (∃(t':Str) (b':Bool) (i' j':Int) (l':List Rule) (n' k':Int) (g':Gram) (a':Str) (q':List Rule) (s':Str) (m':List (Den TP×Den .bool)),pre_c4 t' b' i' j' l' n' k' g' a' q' s' m'=true∧mu_c4 t' b' i' j' l' n' k' g' a' q' s' m'<mu_c4 t b i j l n k g a q s m∧res_c4 t' b' i' j' l' n' k' g' a' q' s' m' K=res_c4 t b i j l n k g a q s m K∧∀R:St→Option Fin,evC cx0_c4 (loopOf Tryd.f40 3) (st_c4 t b i j l n k g a q s m) (onward (headAt cx0_c4 12) R K)=R (st_c4 t' b' i' j' l' n' k' g' a' q' s' m')):=by
 have hx:=fun R=>x_impl_chartOf_3 t s a g l q m b i j n k R K;simp only[pre_c4]at hI;rw[andd,andd,andd,andd,dec_iff,dec_iff,okRs_iff,ble_iff]at hI;obtain⟨h0,rfl,⟨h2,h3⟩,h4,h5⟩:=hI
 by_cases hk:k<(length l:Int)
 ·have w:W64 (k+1)=k+1:=wrap_small (by omega) (by omega);have hg:=rulesF_at (s:=s) (i:=i) (j:=j) (p:=(m,b)) h0 hk;have hr:Nat.blt (length (l.getD k.toNat d0).2) 9=true:=all_eq_true.1 h3 _ (by
   have hn:k.toNat<length l:=by omega
   rw[getD_at hn];exact List.getElem_mem hn)
  rw[zT hk,inb_ok h0 hk,w,hr,h4,ble_iff.2 h5]at hx;simp only[Bool.and_self,Bool.cond_self]at hx;change ∀R:St→Option Fin,_=branch (bif !hasM m ((l.getD k.toNat d0).1,i,j)then splitB s m (l.getD k.toNat d0).2 i j else false) _ _ at hx;have hst:stepR s i j (l.getD k.toNat d0) (m,b)=bif !hasM m ((l.getD k.toNat d0).1,i,j)&&splitB s m (l.getD k.toNat d0).2 i j then(putM ((l.getD k.toNat d0).1,i,j) m,true)else(m,b):=rfl;rw[b2]at hx;right
  cases hc:(!hasM m ((l.getD k.toNat d0).1,i,j)&&splitB s m (l.getD k.toNat d0).2 i j)
  ·rw[hc]at hx hst;rw[hst]at hg;refine⟨t,b,i,j,l,(length l:Int),k+1,g,a,q,s,m, ?_, ?_, ?_,fun R=>hx R⟩
   ·simp only[pre_c4];rw[andd,andd,andd,andd,dec_iff,dec_iff,okRs_iff,ble_iff];exact⟨by omega,trivial,⟨h2,h3⟩,h4,h5⟩
   ·simp only[mu_c4];omega
   ·simp only[res_c4,hg];rfl
  ·rw[hc]at hx hst;rw[hst]at hg;refine⟨t,true,i,j,l,(length l:Int),k+1,g,a,q,s,putM ((l.getD k.toNat d0).1,i,j) m, ?_, ?_, ?_,fun R=>hx R⟩
   ·simp only[pre_c4];rw[andd,andd,andd,andd,dec_iff,dec_iff,okRs_iff,ble_iff];exact⟨by omega,trivial,⟨h2,h3⟩,h4,h5⟩
   ·simp only[mu_c4];omega
   ·simp only[res_c4,hg];rfl
 ·left;intro R;refine(hx R).trans ?_;rw[zF hk];have e:List.drop k.toNat l=[]:=drop_eq_nil_of_le (by omega);simp only[res_c4,e];rfl
def g_c4:St→Cont→Option Fin:=gP sh_c4 (fun v=>match v with | ((t,b,i,j,l,n,k,()),(g,(a,q,s,()),m,()))=>pre_c4 t b i j l n k g a q s m) (fun v K=>match v with | ((t,b,i,j,l,n,k,()),(g,(a,q,s,()),m,()))=>res_c4 t b i j l n k g a q s m K)
def L_c4:LpL:=(12,g_c4)::[]
theorem l_c4 {L:LpL} (n:Nat) (h1:L.drop n=[]) (h2:idsFree (L.take n) (loopOf Tryd.f40 3)=true):LoopsTo g_c4 (cb_chart) (loopOf Tryd.f40 3) 12 L :=
 with_drop h1 h2 (gP_ok (fun v=>match v with | ((t,b,i,j,l,n,k,()),(g,(a,q,s,()),m,()))=>mu_c4 t b i j l n k g a q s m) fun v K hI=>by
  obtain⟨⟨t,b,i,j,l,n,k,⟨⟩⟩,⟨g,⟨a,q,s,⟨⟩⟩,m,⟨⟩⟩⟩:=v;exact(r_c4 t b i j l n k g a q s m K hI).imp id fun⟨t',b',i',j',l',n',k',g',a',q',s',m',h⟩=>⟨((t',b',i',j',l',n',k',()),(g',(a',q',s',()),m',())),h⟩)
theorem x_impl_chartOf_2 (t s a:Str) (g:Gram) (q:List Rule) (m:PMap) (b:Bool) (i j:Int) (R:St→Option Fin) (K:Cont):evC (cb_chart.withLoops (look L_c4)) (loopOf Tryd.f40 2) ⟨[(1,vS t),(2, kp0),(5, kp1),(6,vB b),(7,vI i),(8,vI j)],[(500000,some (boxD 25 TG g)),(500001,chO a q s 500002),(500002,some (.map TP .bool m))]⟩ (onward (headAt (cb_chart.withLoops (look L_c4)) 9) R K)=(
branch (decide (j≤(t.length:Int))) (
 need (pre_c4 t b i j g.snd ((length g.snd:Int)) 0 g a q s m) <| R (.mk [(1,vS t),(2,kp0),(5,kp1),(6,(vB (rulesF s i j g.snd (m,b)).snd)),(7,vI i),(8,vI (W64 (j+1)))] [(500000,some (boxD 25 TG g)),(500001,(.some (.box 134 [(.r (.v (Value.string (mk a)))),(.r (.li TRu q)),(.r (.v (Value.string (mk s)))),(.own 500002)]))),(500002,(.some (.map TP (Ty.bool) ((rulesF s i j g.snd (m,b)).fst))))])) ( K (.exit 4) (.mk [(1,vS t),(2,kp0),(5,kp1),(6,vB b),(7,vI i)] [(500000,some (boxD 25 TG g)),(500001,(.some (.box 134 [(.r (.v (Value.string (mk a)))),(.r (.li TRu q)),(.r (.v (Value.string (mk s)))),(.own 500002)]))),(500002,(.some (.map TP (Ty.bool) m)))]))):=by kernel_rfl
def cx0_c3:Cx:=(cb_chart).withLoops (look L_c4)
def sh_c3:Sh:=([(1, .d .str),(2, .ptr 500000 0),(5, .ptr 500001 0),(6, .d .bool),(7, .d TI64),(8, .d TI64)],[(500000, .box 25 TG),(500001, .mix 134 [.d .str, .d TRL, .d .str, .own 500002]),(500002, .map TP .bool)])
abbrev st_c3 (t:Str) (b:Bool) (i j:Int) (g:Gram) (a:Str) (q:List Rule) (s:Str) (m:List (Den TP×Den .bool)):St:=⟨[(1,vS t),(2, kp0),(5, kp1),(6,vB b),(7,vI i),(8,vI j)],[(500000,some (boxD 25 TG g)),(500001,some (.box 134 ((cellsR .str a).map C.r++(cellsR TRL q).map C.r++(cellsR .str s).map C.r++[.own 500002]))),(500002,some (.map TP .bool m))]⟩
def pre_c3 (t:Str) (_b:Bool) (i j:Int) (g:Gram) (_a:Str) (_q:List Rule) (s:Str) (_m:List (Den TP×Den .bool)):Bool:=decide (0≤i)&&(decide (i≤j)&&(okRs g.2&&(decide (t=s)&&(Nat.ble (length s) 1000&&decide (j≤(length s:Int)+1)))))
def res_c3 (t:Str) (b:Bool) (i j:Int) (g:Gram) (a:Str) (q:List Rule) (s:Str) (m:List (Den TP×Den .bool)) (K:Cont):Option Fin:=K (.exit 4) ⟨[(1,vS t),(2, kp0),(5, kp1),(6,vB (tosF s g.2 i ((s.length:Int)+1-j).toNat j (m,b)).2),(7,vI i)],chH g a q s (tosF s g.2 i ((s.length:Int)+1-j).toNat j (m,b)).1⟩
def mu_c3 (_t:Str) (_b:Bool) (_i j:Int) (_g:Gram) (_a:Str) (_q:List Rule) (s:Str) (_m:List (Den TP×Den .bool)):Nat:=(length s+1)-j.toNat
theorem r_c3 (t:Str) (b:Bool) (i j:Int) (g:Gram) (a:Str) (q:List Rule) (s:Str) (m:List (Den TP×Den .bool)) (K:Cont) (hI:pre_c3 t b i j g a q s m=true):(∀R:St→Option Fin,evC cx0_c3 (loopOf Tryd.f40 2) (st_c3 t b i j g a q s m) (onward (headAt cx0_c3 9) R K)=res_c3 t b i j g a q s m K) ∨
  (∃(t':Str) (b':Bool) (i' j':Int) (g':Gram) (a':Str) (q':List Rule) (s':Str) (m':List (Den TP×Den .bool)),pre_c3 t' b' i' j' g' a' q' s' m'=true∧mu_c3 t' b' i' j' g' a' q' s' m'<mu_c3 t b i j g a q s m∧res_c3 t' b' i' j' g' a' q' s' m' K=res_c3 t b i j g a q s m K∧∀R:St→Option Fin,evC cx0_c3 (loopOf Tryd.f40 2) (st_c3 t b i j g a q s m) (onward (headAt cx0_c3 9) R K)=R (st_c3 t' b' i' j' g' a' q' s' m')):=by
 have hx:=fun R=>x_impl_chartOf_2 t s a g q m b i j R K;simp only[pre_c3]at hI;rw[andd,andd,andd,andd,andd,dec_iff,dec_iff,dec_iff,ble_iff,dec_iff]at hI;obtain⟨h0,h1,h2,rfl,h4,h5⟩:=hI
 by_cases hj:j≤(length t:Int)
 ·have w:W64 (j+1)=j+1:=wrap_small (by omega) (by omega);obtain⟨n,hn⟩:∃n,((length t:Int)+1-j).toNat=n+1:=⟨((length t:Int)+1-j).toNat-1,by omega⟩;have hn2:((length t:Int)+1-(j+1)).toNat=n:=by omega
  have hg:tosF t g.2 i (n+1) j (m,b)=tosF t g.2 i n (j+1) (rulesF t i j g.2 (m,b)):=rfl;have hp:pre_c4 t b i j g.2 ((length g.2:Int)) 0 g a q t m=true:=by
   simp only[pre_c4];rw[andd,andd,andd,andd,dec_iff,dec_iff,ble_iff];exact⟨by omega,trivial,h2,okIJ_iff.2 ⟨h0,h1,hj⟩,h4⟩
  rw[zT hj,hp,w]at hx;right;refine⟨t,(rulesF t i j g.2 (m,b)).2,i,j+1,g,a,q,t,(rulesF t i j g.2 (m,b)).1, ?_, ?_, ?_,fun R=>hx R⟩
  ·simp only[pre_c3];rw[andd,andd,andd,andd,andd,dec_iff,dec_iff,dec_iff,ble_iff,dec_iff];exact⟨by omega,by omega,h2,trivial,h4,by omega⟩
  ·simp only[mu_c3];omega
  ·simp only[res_c3,hn,hn2,hg]
 ·left;intro R;refine(hx R).trans ?_;rw[zF hj];have e:((length t:Int)+1-j).toNat=0:=by omega
  simp only[res_c3,e];rfl
def g_c3:St→Cont→Option Fin:=gP sh_c3 (fun v=>match v with | ((t,b,i,j,()),(g,(a,q,s,()),m,()))=>pre_c3 t b i j g a q s m) (fun v K=>match v with | ((t,b,i,j,()),(g,(a,q,s,()),m,()))=>res_c3 t b i j g a q s m K)
def L_c3:LpL:=(9,g_c3)::L_c4
theorem l_c3 {L:LpL} (n:Nat) (h1:L.drop n=L_c4) (h2:idsFree (L.take n) (loopOf Tryd.f40 2)=true):LoopsTo g_c3 (cb_chart) (loopOf Tryd.f40 2) 9 L :=
 with_drop h1 h2 (gP_ok (fun v=>match v with | ((t,b,i,j,()),(g,(a,q,s,()),m,()))=>mu_c3 t b i j g a q s m) fun v K hI=>by
  obtain⟨⟨t,b,i,j,⟨⟩⟩,⟨g,⟨a,q,s,⟨⟩⟩,m,⟨⟩⟩⟩:=v;exact(r_c3 t b i j g a q s m K hI).imp id fun⟨t',b',i',j',g',a',q',s',m',h⟩=>⟨((t',b',i',j',()),(g',(a',q',s',()),m',())),h⟩)
theorem x_impl_chartOf_1 (t s a:Str) (g:Gram) (q:List Rule) (m:PMap) (b:Bool) (i:Int) (R:St→Option Fin) (K:Cont):evC (cb_chart.withLoops (look L_c3)) (loopOf Tryd.f40 1) ⟨[(1,vS t),(2, kp0),(5, kp1),(6,vB b),(7,vI i)],[(500000,some (boxD 25 TG g)),(500001,chO a q s 500002),(500002,some (.map TP .bool m))]⟩ (onward (headAt (cb_chart.withLoops (look L_c3)) 6) R K)=(
branch (decide (0≤i)) (
 need (pre_c3 t b i i g a q s m) <| R (.mk [(1,vS t),(2,kp0),(5,kp1),(6,(vB (tosF s g.snd i ((s.length:Int)+1-i).toNat i (m,b)).snd)),(7,vI (W64 (i-1)))] [(500000,some (boxD 25 TG g)),(500001,(.some (.box 134 [(.r (.v (Value.string (mk a)))),(.r (.li TRu q)),(.r (.v (Value.string (mk s)))),(.own 500002)]))),(500002,(.some (.map TP (Ty.bool) ((tosF s g.snd i ((s.length:Int)+1-i).toNat i (m,b)).fst))))])) ( K (.exit 2) (.mk [(1,vS t),(2,kp0),(5,kp1),(6,vB b)] [(500000,some (boxD 25 TG g)),(500001,(.some (.box 134 [(.r (.v (Value.string (mk a)))),(.r (.li TRu q)),(.r (.v (Value.string (mk s)))),(.own 500002)]))),(500002,(.some (.map TP (Ty.bool) m)))]))):=by kernel_rfl
def cx0_c2:Cx:=(cb_chart).withLoops (look L_c3)
def sh_c2:Sh:=([(1, .d .str),(2, .ptr 500000 0),(5, .ptr 500001 0),(6, .d .bool),(7, .d TI64)],[(500000, .box 25 TG),(500001, .mix 134 [.d .str, .d TRL, .d .str, .own 500002]),(500002, .map TP .bool)])
abbrev st_c2 (t:Str) (b:Bool) (i:Int) (g:Gram) (a:Str) (q:List Rule) (s:Str) (m:List (Den TP×Den .bool)):St:=⟨[(1,vS t),(2, kp0),(5, kp1),(6,vB b),(7,vI i)],[(500000,some (boxD 25 TG g)),(500001,some (.box 134 ((cellsR .str a).map C.r++(cellsR TRL q).map C.r++(cellsR .str s).map C.r++[.own 500002]))),(500002,some (.map TP .bool m))]⟩
def pre_c2 (t:Str) (_b:Bool) (i:Int) (g:Gram) (_a:Str) (_q:List Rule) (s:Str) (_m:List (Den TP×Den .bool)):Bool:=decide (-1≤i)&&(decide (i≤(length s:Int))&&(okRs g.2&&(decide (t=s)&&Nat.ble (length s) 1000)))
def res_c2 (t:Str) (b:Bool) (i:Int) (g:Gram) (a:Str) (q:List Rule) (s:Str) (m:List (Den TP×Den .bool)) (K:Cont):Option Fin:=K (.exit 2) ⟨[(1,vS t),(2, kp0),(5, kp1),(6,vB (fromsF s g.2 (i+1).toNat (m,b)).2)],chH g a q s (fromsF s g.2 (i+1).toNat (m,b)).1⟩
def mu_c2 (_t:Str) (_b:Bool) (i:Int) (_g:Gram) (_a:Str) (_q:List Rule) (_s:Str) (_m:List (Den TP×Den .bool)):Nat:=(i+1).toNat
theorem r_c2 (t:Str) (b:Bool) (i:Int) (g:Gram) (a:Str) (q:List Rule) (s:Str) (m:List (Den TP×Den .bool)) (K:Cont) (hI:pre_c2 t b i g a q s m=true):(∀R:St→Option Fin,evC cx0_c2 (loopOf Tryd.f40 1) (st_c2 t b i g a q s m) (onward (headAt cx0_c2 6) R K)=res_c2 t b i g a q s m K) ∨
  (∃(t':Str) (b':Bool) (i':Int) (g':Gram) (a':Str) (q':List Rule) (s':Str) (m':List (Den TP×Den .bool)),pre_c2 t' b' i' g' a' q' s' m'=true∧mu_c2 t' b' i' g' a' q' s' m'<mu_c2 t b i g a q s m∧res_c2 t' b' i' g' a' q' s' m' K=res_c2 t b i g a q s m K∧∀R:St→Option Fin,evC cx0_c2 (loopOf Tryd.f40 1) (st_c2 t b i g a q s m) (onward (headAt cx0_c2 6) R K)=R (st_c2 t' b' i' g' a' q' s' m')):=by
 have hx:=fun R=>x_impl_chartOf_1 t s a g q m b i R K;simp only[pre_c2]at hI;rw[andd,andd,andd,andd,dec_iff,dec_iff,dec_iff,ble_iff]at hI;obtain⟨h0,h1,h2,rfl,h4⟩:=hI
 by_cases hi:0≤i
 ·have w:W64 (i-1)=i-1:=wrap_small (by omega) (by omega);have hn:(i+1).toNat=i.toNat+1:=by omega
  have hn2:(i-1+1).toNat=i.toNat:=by omega
  have hg:fromsF t g.2 (i.toNat+1) (m,b)=fromsF t g.2 i.toNat (tosF t g.2 ((i.toNat:Nat):Int) (t.length+1-i.toNat) ((i.toNat:Nat):Int) (m,b)):=rfl;have e1:((i.toNat:Nat):Int)=i:=by omega
  have e2:((t.length:Int)+1-i).toNat=t.length+1-i.toNat:=by omega
  rw[e1]at hg;have hp:pre_c3 t b i i g a q t m=true:=by
   simp only[pre_c3];rw[andd,andd,andd,andd,andd,dec_iff,dec_iff,dec_iff,ble_iff,dec_iff];exact⟨by omega,by omega,h2,trivial,h4,by omega⟩
  rw[zT hi,hp,w,e2]at hx;right;refine⟨t,(tosF t g.2 i (t.length+1-i.toNat) i (m,b)).2,i-1,g,a,q,t,(tosF t g.2 i (t.length+1-i.toNat) i (m,b)).1, ?_, ?_, ?_,fun R=>hx R⟩
  ·simp only[pre_c2];rw[andd,andd,andd,andd,dec_iff,dec_iff,dec_iff,ble_iff];exact⟨by omega,by omega,h2,trivial,h4⟩
  ·simp only[mu_c2];omega
  ·simp only[res_c2,hn,hn2,hg]
 ·left;intro R;refine(hx R).trans ?_;rw[zF hi];have e:(i+1).toNat=0:=by omega
  simp only[res_c2,e];rfl
def g_c2:St→Cont→Option Fin:=gP sh_c2 (fun v=>match v with | ((t,b,i,()),(g,(a,q,s,()),m,()))=>pre_c2 t b i g a q s m) (fun v K=>match v with | ((t,b,i,()),(g,(a,q,s,()),m,()))=>res_c2 t b i g a q s m K)
def L_c2:LpL:=(6,g_c2)::L_c3
theorem l_c2 {L:LpL} (n:Nat) (h1:L.drop n=L_c3) (h2:idsFree (L.take n) (loopOf Tryd.f40 1)=true):LoopsTo g_c2 (cb_chart) (loopOf Tryd.f40 1) 6 L :=
 with_drop h1 h2 (gP_ok (fun v=>match v with | ((t,b,i,()),(g,(a,q,s,()),m,()))=>mu_c2 t b i g a q s m) fun v K hI=>by
  obtain⟨⟨t,b,i,⟨⟩⟩,⟨g,⟨a,q,s,⟨⟩⟩,m,⟨⟩⟩⟩:=v;exact(r_c2 t b i g a q s m K hI).imp id fun⟨t',b',i',g',a',q',s',m',h⟩=>⟨((t',b',i',()),(g',(a',q',s',()),m',())),h⟩)
theorem x_impl_chartOf (t s a:Str) (g:Gram) (q:List Rule) (m:PMap) (b:Bool) (R:St→Option Fin) (K:Cont):evC (cb_chart.withLoops (look L_c2)) (loopOf Tryd.f40 0) ⟨[(1,vS t),(2, kp0),(5, kp1),(6,vB b)],[(500000,some (boxD 25 TG g)),(500001,chO a q s 500002),(500002,some (.map TP .bool m))]⟩ (onward (headAt (cb_chart.withLoops (look L_c2)) 3) R K)=(
branch b (
 need (pre_c2 t false ((t.length:Int)) g a q s m) <| R (.mk [(1,vS t),(2,kp0),(5,kp1),(6,(vB (fromsF s g.snd ((t.length:Int)+1).toNat (m,false)).snd))] [(500000,some (boxD 25 TG g)),(500001,(.some (.box 134 [(.r (.v (Value.string (mk a)))),(.r (.li TRu q)),(.r (.v (Value.string (mk s)))),(.own 500002)]))),(500002,(.some (.map TP (Ty.bool) ((fromsF s g.snd ((t.length:Int)+1).toNat (m,false)).fst))))])) ( K (.exit 0) (.mk [(5,kp0)] [(500000,(.some (.box 134 [(.r (.v (Value.string (mk a)))),(.r (.li TRu q)),(.r (.v (Value.string (mk s)))),(.own 500001)]))),(500001,(.some (.map TP (Ty.bool) m)))]))):=by kernel_rfl
def cx0_c1:Cx:=(cb_chart).withLoops (look L_c2)
def sh_c1:Sh:=([(1, .d .str),(2, .ptr 500000 0),(5, .ptr 500001 0),(6, .d .bool)],[(500000, .box 25 TG),(500001, .mix 134 [.d .str, .d TRL, .d .str, .own 500002]),(500002, .map TP .bool)])
abbrev st_c1 (t:Str) (b:Bool) (g:Gram) (a:Str) (q:List Rule) (s:Str) (m:List (Den TP×Den .bool)):St:=⟨[(1,vS t),(2, kp0),(5, kp1),(6,vB b)],[(500000,some (boxD 25 TG g)),(500001,some (.box 134 ((cellsR .str a).map C.r++(cellsR TRL q).map C.r++(cellsR .str s).map C.r++[.own 500002]))),(500002,some (.map TP .bool m))]⟩
def pre_c1 (t:Str) (_b:Bool) (g:Gram) (_a:Str) (_q:List Rule) (s:Str) (_m:List (Den TP×Den .bool)):Bool:=okRs g.2&&(decide (t=s)&&Nat.ble (length s) 1000)
def res_c1 (_t:Str) (b:Bool) (g:Gram) (a:Str) (q:List Rule) (s:Str) (m:List (Den TP×Den .bool)) (K:Cont):Option Fin:=K (.exit 0) ⟨[(5, kp0)],[(500000,chO a q s 500001),(500001,some (.map TP .bool (bif b then runC hasM (fun v=>[keyV v]) (stepV s) (visF s g.2 (s.length+1)) m else m)))]⟩
def mu_c1 (_t:Str) (b:Bool) (g:Gram) (_a:Str) (_q:List Rule) (s:Str) (m:List (Den TP×Den .bool)):Nat:=2*missG hasM ((visF s g.2 (s.length+1)).flatMap fun v=>[keyV v]) m+(bif b then 1 else 0)
theorem r_c1 (t:Str) (b:Bool) (g:Gram) (a:Str) (q:List Rule) (s:Str) (m:List (Den TP×Den .bool)) (K:Cont) (hI:pre_c1 t b g a q s m=true):(∀R:St→Option Fin,evC cx0_c1 (loopOf Tryd.f40 0) (st_c1 t b g a q s m) (onward (headAt cx0_c1 3) R K)=res_c1 t b g a q s m K) ∨
  (∃(t':Str) (b':Bool) (g':Gram) (a':Str) (q':List Rule) (s':Str) (m':List (Den TP×Den .bool)),pre_c1 t' b' g' a' q' s' m'=true∧mu_c1 t' b' g' a' q' s' m'<mu_c1 t b g a q s m∧res_c1 t' b' g' a' q' s' m' K=res_c1 t b g a q s m K∧∀R:St→Option Fin,evC cx0_c1 (loopOf Tryd.f40 0) (st_c1 t b g a q s m) (onward (headAt cx0_c1 3) R K)=R (st_c1 t' b' g' a' q' s' m')):=by
 have hx:=fun R=>x_impl_chartOf t s a g q m b R K;simp only[pre_c1]at hI;rw[andd,andd,dec_iff,ble_iff]at hI;obtain⟨h2,rfl,h4⟩:=hI
 cases b
 ·left;intro R;refine(hx R).trans ?_;simp only[res_c1];rfl
 ·have hp:pre_c2 t false ((t.length:Int)) g a q t m=true:=by
   simp only[pre_c2];rw[andd,andd,andd,andd,dec_iff,dec_iff,dec_iff,ble_iff];exact⟨by omega,by omega,h2,trivial,h4⟩
  have e:((t.length:Int)+1).toNat=t.length+1:=by omega
  rw[hp,e,froms_vis]at hx;have hg:=runC_at (stepV_ok t) (vs:=visF t g.2 (t.length+1)) (m:=m) (fun _ _=>trivial) trivial;right;refine⟨t,(foldG (stepV t) (visF t g.2 (t.length+1)) (m,false)).2,g,a,q,t,(foldG (stepV t) (visF t g.2 (t.length+1)) (m,false)).1, ?_, ?_, ?_,fun R=>hx R⟩
  ·simp only[pre_c1];rw[andd,andd,dec_iff,ble_iff];exact⟨h2,trivial,h4⟩
  ·simp only[mu_c1]
   cases hc:(foldG (stepV t) (visF t g.2 (t.length+1)) (m,false)).2
   ·obtain ⟨_,h5,_⟩:=foldG_quiet (stepV_ok t) (fun _ _=>trivial) trivial hc;rw[h5,cond_true,cond_false];show 2*missG hasM _ m+0<2*missG hasM _ m+1;omega
   ·have:=miss_lt (stepV_ok t) (fun _ _=>trivial) trivial hc;rw[cond_true];omega
  ·simp only[res_c1,cond_true];exact congrArg (fun z:PMap=>K (.exit 0) ⟨[(5, kp0)],[(500000,chO a q t 500001),(500001,some (.map TP .bool z))]⟩) hg.symm
def g_c1:St→Cont→Option Fin:=gP sh_c1 (fun v=>match v with | ((t,b,()),(g,(a,q,s,()),m,()))=>pre_c1 t b g a q s m) (fun v K=>match v with | ((t,b,()),(g,(a,q,s,()),m,()))=>res_c1 t b g a q s m K)
def L_c1:LpL:=(3,g_c1)::L_c2
def cx_c1:Cx:=(cb_chart).withLoops (look L_c1)
theorem l_c1 {L:LpL} (n:Nat) (h1:L.drop n=L_c2) (h2:idsFree (L.take n) (loopOf Tryd.f40 0)=true):LoopsTo g_c1 (cb_chart) (loopOf Tryd.f40 0) 3 L :=
 with_drop h1 h2 (gP_ok (fun v=>match v with | ((t,b,()),(g,(a,q,s,()),m,()))=>mu_c1 t b g a q s m) fun v K hI=>by
  obtain⟨⟨t,b,⟨⟩⟩,⟨g,⟨a,q,s,⟨⟩⟩,m,⟨⟩⟩⟩:=v;exact(r_c1 t b g a q s m K hI).imp id fun⟨t',b',g',a',q',s',m',h⟩=>⟨((t',b',()),(g',(a',q',s',()),m',())),h⟩)
abbrev refC4 (g:Gram) (s:Str) (m:PMap):T := .d (.one (.r (.rop 4 (fun j=>[R.v (Value.string (mk g.1)),R.li TRu g.2,R.v (Value.string (mk s)),R.mp TP .bool m].getD j z0))))
theorem y_impl_chartOf (g:Gram) (s:Str):evFn cx_c1 Tryd.f40 true [ofD TG g,ofD .str s] []=need (pre_c1 s true g g.1 g.2 s []) (some (refC4 g s (chartM s g.2),[])):=by kernel_rfl
theorem s_impl_chartOf (g:Gram) (_hg:Fit TG g) (s:Str) (_hs:Fit .str s) (hpre:(okRs g.2&&Nat.ble (length s) 1000)=true):Sat Tryd.prog 40 [ofD TG g,ofD .str s] [] (refC4 g s (chartM s g.2)) [] :=
 fn_sound (cx:=cx_c1) Tryd.func40 rfl ttOk Γ63ok mixed (fun c hc=>LoopsOk.all (l:=[(3,loopOf Tryd.f40 0),(6,loopOf Tryd.f40 1),(9,loopOf Tryd.f40 2),(12,loopOf Tryd.f40 3)]) (by cases hc;kernel_rfl) ⟨atLoop rfl (l_c1 1 rfl (by kernel_rfl)),atLoop rfl (l_c2 2 rfl (by kernel_rfl)),atLoop rfl (l_c3 3 rfl (by kernel_rfl)),atLoop rfl (l_c4 4 rfl (by kernel_rfl)),trivial⟩) (ro:=true) (by
  obtain⟨h1,h2⟩:=andd.1 hpre;have hp:pre_c1 s true g g.1 g.2 s []=true:=by
   simp only[pre_c1];rw[andd,andd,dec_iff];exact⟨h1,trivial,h2⟩
  refine(y_impl_chartOf g s).trans ?_;rw[hp];rfl)
def c_impl_chartOf:Con:=conT [TG, .str] fun(g:Gram) (s:Str)=>(some (okRs g.2&&Nat.ble (length s) 1000),refC4 g s (chartM s g.2))
theorem k_impl_chartOf:ConOk Tryd.prog 40 c_impl_chartOf:=conT_ok Tryd.call40 fun g hg s hs hqq=>s_impl_chartOf g hg s hs (pre_of hqq)
def Γ64:GL:=(40,c_impl_chartOf)::Γ63
theorem Γ64ok:GO Γ64 := .cons k_impl_chartOf Γ63ok
theorem sat_typed {P:Program} {f:FuncId} {ds:List D} {os:List Obj} {d:D} {objs:Heap} {t:Ty} {x:Den t} (S:Sat P f ds os (.d d) objs) (h:asD t d=some x):Sat P f ds os (.d (ofD t x)) objs:=fun w F β args H hds=>(S w F β args H hds).mono (by
 rintro e w' ⟨v,F',β',h1,h2,h3,h4,_,h6⟩;exact⟨v,F',β',h1,h2,h3,h4,fun _ _ _ hh=>(nomatch hh),asD_sound h h6 _ _⟩)
def c_impl_chartOfC:Con:=conT [TG, .str] fun(g:Gram) (s:Str)=>(some (okRs g.2&&Nat.ble (length s) 1000), .d (ofD (.ref TCh) ((g,s,chartM s g.2):Chart)))
theorem k_impl_chartOfC:ConOk Tryd.prog 40 c_impl_chartOfC:=conT_ok Tryd.call40 fun g hg s hs hqq=>sat_typed (s_impl_chartOf g hg s hs (pre_of hqq)) rfl
def Γ65:GL:=(40,c_impl_chartOfC)::Γ64
theorem Γ65ok:GO Γ65 := .cons k_impl_chartOfC Γ64ok
theorem getD_mem {α:Type} {l:List α} {i:Nat} {d:α} (h:i<l.length):l.getD i d∈l:=by
 rw[zG,zE h];exact List.getElem_mem h
theorem big_not_small {a:Str} (h:bigS a=true):smallS a=false:=by
 obtain⟨c,e,hc⟩:=bigS_one h
 cases hs:smallS a
 ·rfl
 ·obtain ⟨c',e',hc'⟩:=smallS_one hs;rw[e]at e'
  cases (List.cons.inj e').1
  exact absurd ⟨hc,hc'⟩ (big_small c)
theorem areSm_iff {s:Str} {n:Int}:areSm s n=true↔(s.length:Int)≤n∧s.all small=true:=by
 unfold areSm;rw[b2,andd,dec_iff]
theorem both_iff {g:Gram} {s:Str} (h:both2 g s=true):okG g=true∧s.length≤8∧s.all small=true:=by
 unfold both2 at h;rw[b2,andd,areSm_iff]at h;exact⟨h.1,by omega,h.2.2⟩
theorem ok_rs {g:Gram} (h:okG g=true):okRs g.2=true:=by
 obtain⟨_,h2,h3⟩:=okG_iff h;refine okRs_iff.2 ⟨by omega,all_eq_true.2 fun r hr=>blt_iff.2 ?_⟩;have:=(areS_iff (h3 r hr).2).2;omega
abbrev ts2:List Nat:=[46,4]
def asc7 (s:Str):Bool:=List.all s fun c=>Nat.blt c.toNat 128
set_option maxHeartbeats 4000000 in
set_option maxRecDepth 1000000 in
theorem walk_RuneCount (s:ByteArray) (w:World) (hs:s.size<4294967281) (hascii:∀(j:Nat) b,s.data.toList[j]? = some b→b.toNat<128) :
  Calls Tryd.prog 123 #[.string s] w fun e w'=>e = .returned (.int .i64 s.size)∧w'=w.iter s s.size:=by
 have HA:Aside (∀(j:Nat) b,s.data.toList[j]? = some b→b.toNat<128):=hascii;clear hascii
 go_enter Tryd.func123,Tryd.ntmps123
 go_wp2
 go_loopg [2] s.size (fun g s2 wx=>∃i:Nat,i+g=s.size∧s2 = .int .i64 i∧wx=w.iter s i)
 case atStart=>exact ⟨0,by omega,rfl,rfl⟩
 case round =>
  obtain⟨i,hig,rfl,rfl⟩:=hrel
  cases gk with
  |zero =>
   obtain rfl:i=s.size:=by omega
   have hnx:=run_next_end (P:=Tryd.prog) w s s.size
   go_wp2
   go_ret
   exact⟨rfl,rfl⟩
  |succ g =>
   have hi:i<s.size:=by omega
   have ha:(s[i]'hi).toNat<128:=HA.out i _ (Lib.data_getElem? s i hi);have hnx:=fun ty=>run_next_ascii (P:=Tryd.prog) w s i ty hi ha
   go_wp2
   go_roundg g
   case measure=>omega
   case rel=>exact ⟨i+1,by omega,by first | rfl | simp,rfl⟩
theorem s_RuneCount (s:Str) (hs:(length s).ble 1000=true) (ha:asc7 s=true):Sat Tryd.prog 123 [ofD .str s] [] (.d (ofD TI64 (length s:Int))) []:=by
 intro w F β args H hds
 cases hds with | cons h1 h2 =>
 cases h2
 obtain⟨e1,_⟩:=h1;subst e1;have hl:(mk s).size=length s:=rfl;refine(walk_RuneCount (mk s) w (by rw[hl];have:=ble_iff.1 hs;omega) (fun j b hj => ?_)).mono ?_
 ·have hm:b∈s:=List.mem_of_getElem? hj;have:=all_eq_true.1 ha b hm;exact blt_iff.1 this
 ·rintro e w' ⟨rfl,rfl⟩;have hsz:(w.iter (mk s) (mk s).size).heap.size=w.heap.size+1:=by
   show(w.heap.push _).size=_;exact Array.size_push ..
  refine⟨_,F,β,rfl,(H.grow (w':=w.iter (mk s) (mk s).size) rfl rfl rfl (by omega) (fun b hb => ?_)).1,fun i hi=>absurd hi (Nat.not_lt_zero i),fun i o hi=>absurd hi (Nat.not_lt_zero i),fun _ _ _ hh=>(nomatch hh),rep_v (plain_i64 (by omega) (by have:=ble_iff.1 hs;omega))⟩;show(w.heap.push _)[b]? = _;rw[Array.getElem?_push,if_neg (by omega)]
def c_unicode_utf8_RuneCountInString:Con:=conT [.str] fun(s:Str)=>(some ((length s).ble 1000&&asc7 s), .d (ofD TI64 (length s:Int)))
theorem k_unicode_utf8_RuneCountInString:ConOk Tryd.prog 123 c_unicode_utf8_RuneCountInString:=conT_ok Tryd.call123 fun s _ hqq=>s_RuneCount s (andd.1 (pre_of hqq)).1 (andd.1 (pre_of hqq)).2
def Γ66:GL:=(123,c_unicode_utf8_RuneCountInString)::Γ65
theorem Γ66ok:GO Γ66 := .cons k_unicode_utf8_RuneCountInString Γ65ok
theorem y_unicode_utf8_DecodeRuneInString (s:Str):evFn ((cxOf Γ66 Tryd.f124.ntmps [] [] [] []).parted [1]) Tryd.f124 true [ofD .str s] []=(
need (decide ((!decide (s=[]))=true)) <|
need (inb 0 s.length) <|
need (bif true then decide (byteAt s 0<128)else false) <|
need (inb 0 s.length) <| some ((.tup [(.one (.r (.v (Value.int IntKind.i32 (IntKind.i32.wrap (byteAt s 0)))))),(.one (.r (.v (Value.int IntKind.i64 1))))]),[])):=by kernel_rfl
theorem s_unicode_utf8_DecodeRuneInString (s:Str) (_hs:Fit .str s) (hpre:(Nat.blt 0 (length s)&&asc7 s)=true):Sat Tryd.prog 124 [ofD .str s] [] (.tup [ofD (.int .i32) (byteAt s 0),ofD TI64 (1:Int)]) [] :=
 fn_sound (cx:=((cxOf Γ66 Tryd.f124.ntmps [] [] [] []).parted [1])) Tryd.func124 rfl ttOk Γ66ok mixed (fun _ _=>LoopsOk.no fun _=>rfl) (ro:=true) (by
  obtain⟨h1,h2⟩:=andd.1 hpre;have h1:=blt_iff.1 h1;rw[y_unicode_utf8_DecodeRuneInString]
  cases s with
  |nil=>exact absurd h1 (Nat.lt_irrefl 0)
  |cons c s =>
   have hc:=blt_iff.1 (all_eq_true.1 h2 c mem_cons_self);have hb:byteAt (c::s) 0=(c.toNat:Int):=rfl;have w:IntKind.i32.wrap (byteAt (c::s) 0)=byteAt (c::s) 0:=by
    rw[hb,IntKind.wrap_i32];omega
   rw[w,inb_ok (Int.le_refl 0) (by rw[length_cons];omega),zT (show byteAt (c::s) 0<128 by rw[hb];omega)];rfl)
def c_unicode_utf8_DecodeRuneInString:Con:=conT [.str] fun(s:Str)=>(some (Nat.blt 0 (length s)&&asc7 s), .tup [ofD (.int .i32) (byteAt s 0),ofD TI64 (1:Int)])
theorem k_unicode_utf8_DecodeRuneInString:ConOk Tryd.prog 124 c_unicode_utf8_DecodeRuneInString:=conT_ok Tryd.call124 fun s hs hqq=>s_unicode_utf8_DecodeRuneInString s hs (pre_of hqq)
def Γ67:GL:=(124,c_unicode_utf8_DecodeRuneInString)::Γ66
theorem Γ67ok:GO Γ67 := .cons k_unicode_utf8_DecodeRuneInString Γ66ok
def onesL (s:Str):List Str:=s.map fun c=>[c]
def expl:Nat→Nat→Str→List Str→List Str×Str
 |0,_,s,a=>(a,s)
 |m+1,i,s,a=>expl m (i+1) (s.drop 1) (a.set i (s.take 1))
theorem expl_len:∀ {m i:Nat} {s:Str} {a:List Str},(expl m i s a).1.length=a.length
 |0,_,_,_=>rfl
 |m+1,i,s,a=>by
  show(expl m (i+1) (s.drop 1) (a.set i (s.take 1))).1.length=_;rw[expl_len,length_set]
theorem expl_eq:∀ {m i:Nat} {s:Str} {a:List Str},s.length=m+1→a.length=i+m+1→(expl m i s a).1.set (i+m) (expl m i s a).2=a.take i++onesL s
 |0,i,s,a,h1,h2=>by
  obtain⟨c,rfl⟩:=List.length_eq_one_iff.1 h1;show a.set (i+0) [c]=_;rw[Nat.add_zero,List.set_eq_take_append_cons_drop,if_pos (by omega),drop_eq_nil_of_le (by omega)];rfl
 |m+1,i,s,a,h1,h2=>by
  obtain⟨c,t,rfl⟩:∃c t,s=c::t:=by
   cases s with
   |nil=>cases h1
   |cons c t=>exact ⟨c,t,rfl⟩
  have:=expl_eq (m:=m) (i:=i+1) (s:=t) (a:=a.set i [c]) (Nat.succ.inj h1) (by rw[length_set];omega);show(expl m (i+1) t (a.set i [c])).1.set (i+(m+1)) (expl m (i+1) t (a.set i [c])).2=_;rw[show i+(m+1)=i+1+m by omega,this,List.set_eq_take_append_cons_drop,if_pos (by omega),List.take_append,length_take,show i+1-min i a.length=1 by omega,List.take_of_length_le (by rw[length_take];omega),append_assoc];rfl
def cb_expl:Cx:=(cxOf Γ67 Tryd.f108.ntmps [(6,[0,1,6,7])] [(0,[0,1,6]),(1,[0,1,6,7]),(1000000,[4])] [] []).parted [2]
abbrev st_expl (s:Str) (n i:Int) (a:List (Str)):St:=⟨[(0,vS s),(1,vI n),(6, ko0),(7,vI i)],[(500000,some (.lis 9 .str a))]⟩
theorem x_strings_explode (s:Str) (n i:Int) (a:List Str) (R:St→Option Fin) (K:Cont):evC (cb_expl.withLoops (look [])) (loopOf Tryd.f108 0) (st_expl s n i a) (onward (headAt (cb_expl.withLoops (look [])) 6) R K)=(
branch (decide (i<W64 (n-1))) (
 need (Nat.blt 0 s.length&&asc7 s) <|
 need (inr 0 1 s.length) <|
 need (inb i a.length) <|
 need (inr 1 ((s.length:Int)) s.length) <| R (st_expl (List.take (((s.length:Int)).toNat-Int.toNat 1) (List.drop (Int.toNat 1) s)) n (W64 (i+1)) (a.set i.toNat (List.take (Int.toNat 1-(0:Int).toNat) s)))) ( K (.exit 0) (.mk [(0,vS s),(1,vI n),(6,ko0)] [(500000,(.some (.lis 9 (Ty.str) a)))]))):=by kernel_rfl
def cx0_expl:Cx:=(cb_expl).withLoops (look [])
def sh_expl:Sh:=([(0, .d .str),(1, .d TI64),(6, .own 500000),(7, .d TI64)],[(500000, .lis 9 .str)])
def pre_expl (s:Str) (n i:Int) (a:List (Str)):Bool:=decide (0≤i)&&(decide (n≤1000)&&(decide ((length s:Int)+i=n)&&(decide ((length a:Int)=n)&&asc7 s)))
def res_expl (s:Str) (n i:Int) (a:List (Str)) (K:Cont):Option Fin:=K (.exit 0) ⟨[(0,vS (expl (n-1-i).toNat i.toNat s a).2),(1,vI n),(6, ko0)],[(500000,some (.lis 9 .str (expl (n-1-i).toNat i.toNat s a).1))]⟩
def mu_expl (_s:Str) (n i:Int) (_a:List (Str)):Nat:=(n-i).toNat
theorem r_expl (s:Str) (n i:Int) (a:List (Str)) (K:Cont) (hI:pre_expl s n i a=true):(∀R:St→Option Fin,evC cx0_expl (loopOf Tryd.f108 0) (st_expl s n i a) (onward (headAt cx0_expl 6) R K)=res_expl s n i a K) ∨
  (∃(s':Str) (n' i':Int) (a':List (Str)),pre_expl s' n' i' a'=true∧mu_expl s' n' i' a'<mu_expl s n i a∧res_expl s' n' i' a' K=res_expl s n i a K∧∀R:St→Option Fin,evC cx0_expl (loopOf Tryd.f108 0) (st_expl s n i a) (onward (headAt cx0_expl 6) R K)=R (st_expl s' n' i' a')):=by
 have hx:=fun R=>x_strings_explode s n i a R K;simp only[pre_expl,andd,dec_iff]at hI;obtain⟨h0,h1,h2,h3,h4⟩:=hI;have w1:W64 (n-1)=n-1:=wrap_small (by omega) (by omega);rw[w1]at hx
 by_cases hi:i<n-1
 ·have w:W64 (i+1)=i+1:=wrap_small (by omega) (by omega);have t1:List.take (((length s:Int)).toNat-Int.toNat 1) (List.drop (Int.toNat 1) s)=List.drop 1 s:=List.take_of_length_le (by rw[length_drop];omega);have k1:(Nat.blt 0 (length s)&&asc7 s)=true:=andd.2 ⟨blt_iff.2 (by omega),h4⟩;obtain⟨m,hm⟩:∃m,(n-1-i).toNat=m+1:=⟨(n-1-i).toNat-1,by omega⟩;have hm2:(n-1-(i+1)).toNat=m:=by omega
  have hi2:(i+1).toNat=i.toNat+1:=by omega
  rw[zT hi,k1,t1,w,inb_ok h0 (by omega),inr_iff.2 (by omega:(0:Int)≤0∧(0:Int)≤1∧1≤(length s:Int)),inr_iff.2 (by omega:(0:Int)≤1∧1≤(length s:Int)∧(length s:Int)≤(length s:Int))]at hx;right;refine⟨List.drop 1 s,n,i+1,a.set i.toNat (List.take 1 s), ?_, ?_, ?_,fun R=>hx R⟩
  ·simp only[pre_expl,andd,dec_iff];rw[length_drop,length_set];exact⟨by omega,h1,by omega,h3,all_eq_true.2 fun c hc=>all_eq_true.1 h4 c (List.mem_of_mem_drop hc)⟩
  ·simp only[mu_expl];omega
  ·simp only[res_expl,hm,hm2,hi2];rfl
 ·left;intro R;refine(hx R).trans ?_;rw[zF hi];have e:(n-1-i).toNat=0:=by omega
  simp only[res_expl,e];rfl
def g_expl:St→Cont→Option Fin:=gP sh_expl (fun v=>match v with | ((s,n,i,()),(a,()))=>pre_expl s n i a) (fun v K=>match v with | ((s,n,i,()),(a,()))=>res_expl s n i a K)
def L_expl:LpL:=(6,g_expl)::[]
def cx_expl:Cx:=(cb_expl).withLoops (look L_expl)
theorem l_expl {L:LpL} (n:Nat) (h1:L.drop n=[]) (h2:idsFree (L.take n) (loopOf Tryd.f108 0)=true):LoopsTo g_expl (cb_expl) (loopOf Tryd.f108 0) 6 L :=
 with_drop h1 h2 (gP_ok (fun v=>match v with | ((s,n,i,()),(a,()))=>mu_expl s n i a) fun v K hI=>by
  obtain⟨⟨s,n,i,⟨⟩⟩,⟨a,⟨⟩⟩⟩:=v;exact(r_expl s n i a K hI).imp id fun⟨s',n',i',a',h⟩=>⟨((s',n',i',()),(a',())),h⟩)
theorem y_strings_explode (s:Str) (n:Int):evFn cx_expl Tryd.f108 true [ofD .str s,ofD TI64 n] []=(
need (s.length.ble 1000&&asc7 s) <|
branch (decide (decide (n<0)=false)) (
 branch (bif false then true else decide ((s.length:Int)<n)) (
 need (decide (0≤(s.length:Int)∧(s.length:Int)≤(s.length:Int)∧(s.length:Int)*(Tryd.t9.bytes:Int)≤140737488355328∧(s.length:Int)≤9223372036854775807)) <|
 need (pre_expl s ((s.length:Int)) 0 (replicate ((s.length:Int)).toNat ([]:Str))) <|
 branch (decide (0<(s.length:Int))) (
  need (inb (W64 ((s.length:Int)-1)) (expl ((s.length:Int)-1-0).toNat ((0:Int).toNat) s (replicate ((s.length:Int)).toNat ([]:Str))).fst.length) <| some ((.d (.one (.r (.li (Ty.str) ((expl ((s.length:Int)-1-0).toNat ((0:Int).toNat) s (replicate ((s.length:Int)).toNat ([]:Str))).fst.set (W64 ((s.length:Int)-1)).toNat (expl ((s.length:Int)-1-0).toNat ((0:Int).toNat) s (replicate ((s.length:Int)).toNat ([]:Str))).snd))))),[])) ( some ((.d (.one (.r (.li (Ty.str) ((expl ((s.length:Int)-1-0).toNat ((0:Int).toNat) s (replicate ((s.length:Int)).toNat ([]:Str))).fst))))),[]))) (
 need (decide (0≤n∧n≤n∧n*(Tryd.t9.bytes:Int)≤140737488355328∧n≤9223372036854775807)) <|
 need (pre_expl s n 0 (replicate n.toNat ([]:Str))) <|
 branch (decide (0<n)) (
  need (inb (W64 (n-1)) (expl (n-1-0).toNat ((0:Int).toNat) s (replicate n.toNat ([]:Str))).fst.length) <| some ((.d (.one (.r (.li (Ty.str) ((expl (n-1-0).toNat ((0:Int).toNat) s (replicate n.toNat ([]:Str))).fst.set (W64 (n-1)).toNat (expl (n-1-0).toNat ((0:Int).toNat) s (replicate n.toNat ([]:Str))).snd))))),[])) ( some ((.d (.one (.r (.li (Ty.str) ((expl (n-1-0).toNat ((0:Int).toNat) s (replicate n.toNat ([]:Str))).fst))))),[])))) (
 need (decide (0≤(s.length:Int)∧(s.length:Int)≤(s.length:Int)∧(s.length:Int)*(Tryd.t9.bytes:Int)≤140737488355328∧(s.length:Int)≤9223372036854775807)) <|
 need (pre_expl s ((s.length:Int)) 0 (replicate ((s.length:Int)).toNat ([]:Str))) <|
 branch (decide (0<(s.length:Int))) (
 need (inb (W64 ((s.length:Int)-1)) (expl ((s.length:Int)-1-0).toNat ((0:Int).toNat) s (replicate ((s.length:Int)).toNat ([]:Str))).fst.length) <| some ((.d (.one (.r (.li (Ty.str) ((expl ((s.length:Int)-1-0).toNat ((0:Int).toNat) s (replicate ((s.length:Int)).toNat ([]:Str))).fst.set (W64 ((s.length:Int)-1)).toNat (expl ((s.length:Int)-1-0).toNat ((0:Int).toNat) s (replicate ((s.length:Int)).toNat ([]:Str))).snd))))),[])) ( some ((.d (.one (.r (.li (Ty.str) ((expl ((s.length:Int)-1-0).toNat ((0:Int).toNat) s (replicate ((s.length:Int)).toNat ([]:Str))).fst))))),[])))):=by kernel_rfl
theorem s_strings_explode (s:Str) (_hs:Fit .str s) (n:Int) (_hn:Fit TI64 n) (hpre:(decide (n = -1)&&(Nat.ble (length s) 1000&&asc7 s))=true):Sat Tryd.prog 108 [ofD .str s,ofD TI64 n] [] (.d (ofD (.list .str) (onesL s))) [] :=
 fn_sound (cx:=cx_expl) Tryd.func108 rfl ttOk Γ67ok mixed (fun c hc=>LoopsOk.all (l:=[(6,loopOf Tryd.f108 0)]) (by cases hc;kernel_rfl) ⟨atLoop rfl (l_expl 1 rfl (by kernel_rfl)),trivial⟩) (ro:=true) (by
  rw[andd,dec_iff]at hpre;obtain⟨rfl,hq⟩:=hpre;obtain⟨h1,h2⟩:=andd.1 hq;have h1:=ble_iff.1 h1;have k1:decide (0≤(length s:Int)∧(length s:Int)≤(length s:Int)∧(length s:Int)*(Tryd.t9.bytes:Int)≤140737488355328∧(length s:Int)≤9223372036854775807)=true:=by
   rw[show Tryd.t9.bytes=16 by kernel_rfl];exact zT ⟨by omega,Int.le_refl _,by omega,by omega⟩
  have k2:pre_expl s (length s:Int) 0 (replicate ((length s:Int)).toNat ([]:Str))=true:=by
   simp only[pre_expl,andd,dec_iff];rw[length_replicate];exact⟨Int.le_refl 0,by omega,by omega,by omega,h2⟩
  rw[y_strings_explode,hq,k1,k2]
  cases s with
  |nil=>rfl
  |cons c t =>
   have w:W64 ((length (c::t):Int)-1)=(length t:Int):=by
    rw[length_cons];show W64 (((length t+1:Nat):Int)-1)=_;rw[show ((length t+1:Nat):Int)-1=(length t:Int)by omega];rw[length_cons]at h1;exact wrap_small (by omega) (by omega)
   have e1:((length (c::t):Int)-1-0).toNat=length t:=by rw[length_cons];omega
   have e2:((length (c::t):Int)).toNat=length t+1:=by rw[length_cons];omega
   have e3:((length t:Int)).toNat=0+length t:=by omega
   have hx:=expl_eq (m:=length t) (i:=0) (s:=c::t) (a:=replicate (length t+1) ([]:Str)) rfl (by rw[length_replicate];omega);rw[w,e1,e2,e3,zT (by rw[length_cons];omega:(0:Int)<(length (c::t):Int)),inb_ok (by omega) (by rw[expl_len,length_replicate];omega)];exact congrArg (fun z=>(some (.d (.one (.r (.li .str z))),[]):Option Fin)) hx)
def c_strings_explode:Con:=conT [.str,TI64] fun(s:Str) (n:Int)=>(some (decide (n = -1)&&(Nat.ble (length s) 1000&&asc7 s)), .d (ofD (.list .str) (onesL s)))
theorem k_strings_explode:ConOk Tryd.prog 108 c_strings_explode:=conT_ok Tryd.call108 fun s hs n hn hqq=>s_strings_explode s hs n hn (pre_of hqq)
def Γ68:GL:=(108,c_strings_explode)::Γ67
theorem Γ68ok:GO Γ68 := .cons k_strings_explode Γ67ok
theorem y_strings_genSplit (s:Str) (t:Str) (a:Int) (n:Int):evFn ((cxOf Γ68 Tryd.f84.ntmps [] [] [] [])) Tryd.f84 true [ofD .str s,ofD .str t,ofD TI64 a,ofD TI64 n] []=(
branch (decide (n=0)) ( some ((.d (.one (.r (.li ty9 ([]))))),[])) (
 branch (decide (t=[])) (
 need (decide (n=Int.neg 1)&&(s.length.ble 1000&&asc7 s)) <| some ((.d (.one (.r (.li (Ty.str) (onesL s))))),[])) (
 branch (decide (n<0)) ( none) (
  need (decide ((0≤if W64 ((s.length:Int)+1)<n then W64 ((s.length:Int)+1)else n)∧((if W64 ((s.length:Int)+1)<n then W64 ((s.length:Int)+1)else n)≤if W64 ((s.length:Int)+1)<n then W64 ((s.length:Int)+1)else n)∧(if W64 ((s.length:Int)+1)<n then W64 ((s.length:Int)+1)else n)*(Tryd.t9.bytes:Int)≤140737488355328∧(if W64 ((s.length:Int)+1)<n then W64 ((s.length:Int)+1)else n)≤9223372036854775807)) <| none)))):=by kernel_rfl
theorem s_strings_genSplit (s:Str) (_hs:Fit .str s) (t:Str) (_ht:Fit .str t) (a:Int) (_ha:Fit TI64 a) (n:Int) (_hn:Fit TI64 n) (hpre:(decide (t=[])&&(decide (n = -1)&&(Nat.ble (length s) 1000&&asc7 s)))=true):Sat Tryd.prog 84 [ofD .str s,ofD .str t,ofD TI64 a,ofD TI64 n] [] (.d (ofD (.list .str) (onesL s))) [] :=
 fn_sound (cx:=cxOf Γ68 Tryd.f84.ntmps [] [] [] []) Tryd.func84 rfl ttOk Γ68ok mixed (fun _ _=>LoopsOk.no fun _=>rfl) (ro:=true) (by
  rw[andd,andd,dec_iff,dec_iff]at hpre;obtain⟨rfl,rfl,hq⟩:=hpre;rw[y_strings_genSplit,hq];rfl)
def c_strings_genSplit:Con:=conT [.str, .str,TI64,TI64] fun(s:Str) (t:Str) (_a:Int) (n:Int)=>(some (decide (t=[])&&(decide (n = -1)&&(Nat.ble (length s) 1000&&asc7 s))), .d (ofD (.list .str) (onesL s)))
theorem k_strings_genSplit:ConOk Tryd.prog 84 c_strings_genSplit:=conT_ok Tryd.call84 fun s hs t ht a ha n hn hqq=>s_strings_genSplit s hs t ht a ha n hn (pre_of hqq)
def Γ69:GL:=(84,c_strings_genSplit)::Γ68
theorem Γ69ok:GO Γ69 := .cons k_strings_genSplit Γ68ok
theorem s_strings_Split (s:Str) (_hs:Fit .str s) (t:Str) (_ht:Fit .str t) (hpre:(decide (t=[])&&(Nat.ble (length s) 1000&&asc7 s))=true):Sat Tryd.prog 41 [ofD .str s,ofD .str t] [] (.d (ofD (.list .str) (onesL s))) [] :=
 fn_sound (cx:=cxOf Γ69 Tryd.f41.ntmps [] [] [] []) Tryd.func41 rfl ttOk Γ69ok mixed (fun _ _=>LoopsOk.no fun _=>rfl) (ro:=true) (by
  have y:evFn (cxOf Γ69 Tryd.f41.ntmps [] [] [] []) Tryd.f41 true [ofD .str s,ofD .str t] []=need (decide (t=[])&&(decide (-1=(-1:Int))&&(Nat.ble (length s) 1000&&asc7 s))) (some (.d (ofD (.list .str) (onesL s)),[])):=by kernel_rfl
  rw[andd,dec_iff]at hpre;obtain⟨rfl,hq⟩:=hpre;rw[y,hq];rfl)
def c_strings_Split:Con:=conT [.str, .str] fun(s:Str) (t:Str)=>(some (decide (t=[])&&(Nat.ble (length s) 1000&&asc7 s)), .d (ofD (.list .str) (onesL s)))
theorem k_strings_Split:ConOk Tryd.prog 41 c_strings_Split:=conT_ok Tryd.call41 fun s hs t ht hqq=>s_strings_Split s hs t ht (pre_of hqq)
def Γ70:GL:=(41,c_strings_Split)::Γ69
theorem Γ70ok:GO Γ70 := .cons k_strings_Split Γ69ok
def tosP (f:Int→Bool) (a:Str) (i:Int):Nat→Int→List Part
 |0,_=>[]
 |n+1,j=>(bif f j then [(a,i,j)] else [])++tosP f a i n (j+1)
def frsP (f:Int→Int→Bool) (a:Str) (n:Int):Nat→Int→List Part
 |0,_=>[]
 |m+1,i=>tosP (f i) a i (n+1-i).toNat i++frsP f a n m (i+1)
def partsF (f:Str→Int→Int→Bool) (n:Int) (l:List Str):List Part:=l.flatMap fun a=>frsP (f a) a n (n+1).toNat 0
theorem mem_tosP {f:Int→Bool} {a:Str} {i:Int} {x:Part}:∀ {n:Nat} {j:Int},x∈tosP f a i n j↔x.1=a∧x.2.1=i∧j≤x.2.2∧x.2.2<j+n∧f x.2.2=true
 |0,j=>by
  unfold tosP
  constructor
  ·intro h;cases h
  ·rintro ⟨_,_,h1,h2,_⟩;omega
 |n+1,j=>by
  unfold tosP;rw[mem_append,mem_tosP (n:=n) (j:=j+1)]
  constructor
  ·rintro (h | ⟨h1,h2,h3,h4,h5⟩)
   ·cases hf:f j<;>rw[hf]at h
    ·cases h
    ·cases mem_singleton.1 h
     exact⟨rfl,rfl,Int.le_refl _,by show j<j+_;omega,hf⟩
   ·exact ⟨h1,h2,by omega,by omega,h5⟩
  ·rintro ⟨h1,h2,h3,h4,h5⟩
   by_cases h:x.2.2=j
   ·left;rw[h]at h5;rw[h5,cond_true,mem_singleton];obtain⟨x1,x2,x3⟩:=x
    cases h;cases h1;cases h2;rfl
   ·exact .inr ⟨h1,h2,by omega,by omega,h5⟩
theorem mem_frsP {f:Int→Int→Bool} {a:Str} {n:Int} {x:Part}:∀ {m:Nat} {i:Int},i+m≤n+1→(x∈frsP f a n m i↔x.1=a∧i≤x.2.1∧x.2.1<i+m∧x.2.1≤x.2.2∧x.2.2≤n∧f x.2.1 x.2.2=true)
 |0,i,_=>by
  unfold frsP
  constructor
  ·intro h;cases h
  ·rintro ⟨_,h1,h2,_⟩;omega
 |m+1,i,hm=>by
  unfold frsP;rw[mem_append,mem_tosP,mem_frsP (m:=m) (i:=i+1) (by omega)]
  constructor
  ·rintro (⟨h1,h2,h3,h4,h5⟩ | ⟨h1,h2,h3,h4,h5,h6⟩)
   ·rw[h2];exact ⟨h1,Int.le_refl _,by omega,h3,by omega,h5⟩
   ·exact ⟨h1,by omega,by omega,h4,h5,h6⟩
  ·rintro ⟨h1,h2,h3,h4,h5,h6⟩
   by_cases h:x.2.1=i
   ·rw[h]at h6 h4;exact .inl ⟨h1,h,h4,by omega,h6⟩
   ·exact .inr ⟨h1,by omega,by omega,h4,h5,h6⟩
theorem mem_partsF {f:Str→Int→Int→Bool} {n:Int} {l:List Str} {x:Part} (hn:0≤n):x∈partsF f n l↔x.1∈l∧0≤x.2.1∧x.2.1≤x.2.2∧x.2.2≤n∧f x.1 x.2.1 x.2.2=true:=by
 unfold partsF;rw[List.mem_flatMap]
 constructor
 ·rintro ⟨a,ha,h⟩;rw[mem_frsP (by omega)]at h;obtain⟨rfl,h2,h3,h4,h5,h6⟩:=h;exact⟨ha,h2,h4,h5,h6⟩
 ·rintro ⟨h1,h2,h3,h4,h5⟩;exact⟨x.1,h1,(mem_frsP (by omega)).2 ⟨rfl,h2,by omega,h3,h4,h5⟩⟩
theorem partBytes:Tryd.t37.bytes=32:=by kernel_rfl
theorem partFits {n:Nat} (h:n≤10000000):fits (n+1) Tryd.t37.bytes=true:=by
 rw[partBytes];exact zT (by omega)
def abcde:List Str:=[[65],[66],[67],[68],[69]]
def partsG (g:Gram) (s:Str):List Part:=partsF (fun a i j=>derB s (chartM s g.2) a i j) (length s:Int) abcde
theorem tosP_len {f:Int→Bool} {a:Str} {i:Int}:∀ {n:Nat} {j:Int},(tosP f a i n j).length≤n
 |0,_=>Nat.le_refl _
 |n+1,j=>by
  have:=tosP_len (f:=f) (a:=a) (i:=i) (n:=n) (j:=j+1);unfold tosP;rw[length_append]
  cases f j
  ·show 0+_≤_;omega
  ·show 1+_≤_;omega
theorem frsP_len {f:Int→Int→Bool} {a:Str} {n:Int} (hn:n≤1000):∀ {m:Nat} {i:Int},0≤i→(frsP f a n m i).length≤m*1050
 |0,_,_=>Nat.zero_le _
 |m+1,i,h=>by
  have h1:=frsP_len (f:=f) (a:=a) (n:=n) hn (m:=m) (i:=i+1) (by omega);have h2:=tosP_len (f:=f i) (a:=a) (i:=i) (n:=(n+1-i).toNat) (j:=i);unfold frsP;rw[length_append];omega
def cb_iap:Cx:=cxOf Γ70 Tryd.f11.ntmps [(12,[1,5,6,8,9,10,19,20,21,27,28]),(9,[1,5,6,8,19,20,21,27,28]),(6,[1,5,6,19,20,21])] [(0,[6]),(1,[1,5,6,19,20,21]),(2,[1,5,6,19,20,21]),(3,[1,5,6,8,19,20,21,27,28]),(4,[1,5,6,8,19,20,21,27,28]),(5,[1,5,6,8,9,10,19,20,21,27,28]),(1000000,[4])] [] []
abbrev st_q3 (s:Str) (c:Chart) (a:Str) (i j:Int) (l:List Str) (n x m y:Int) (o:List (Part)):St:=⟨[(1,vS s),(5, .d (ofD (.ref TCh) c)),(6, ko0),(8,vS a),(9,vI i),(10,vI j),(19, .d (ofD TSS l)),(20,vI n),(21,vI x),(27,vI m),(28,vI y)],[(500000,some (.lis 37 TP o))]⟩
theorem x_impl_AllParts_2 (s a:Str) (c:Chart) (l:List Str) (o:List Part) (i j n x m y:Int) (R:St→Option Fin) (K:Cont):evC (cb_iap.withLoops (look [])) (loopOf Tryd.f11 2) (st_q3 s c a i j l n x m y o) (onward (headAt (cb_iap.withLoops (look [])) 12) R K)=(
branch (decide (j≤(s.length:Int))) (
 need (okIJ c.snd.fst i j) <|
 branch (derB c.snd.fst c.snd.snd a i j) (
 need (fits (o.length+[(a,i,j)].length) Tryd.t37.bytes) <| R (st_q3 s c a i (W64 (j+1)) l n x m y (o.append [(a,i,j)]))) ( R (st_q3 s c a i (W64 (j+1)) l n x m y o))) ( K (.exit 4) (.mk [(1,vS s),(5,(.d (.one (.r (.rf TCh c))))),(6,ko0),(8,vS a),(19,(.d (.one (.r (.li (Ty.str) l))))),(20,vI n),(21,vI x),(27,vI m),(28,vI y)] [(500000,some (.lis 37 TP o))]))):=by kernel_rfl
def cx0_q3:Cx:=(cb_iap).withLoops (look [])
def sh_q3:Sh:=([(1, .d .str),(5, .d (.ref TCh)),(6, .own 500000),(8, .d .str),(9, .d TI64),(10, .d TI64),(19, .d TSS),(20, .d TI64),(21, .d TI64),(27, .d TI64),(28, .d TI64)],[(500000, .lis 37 TP)])
def pre_q3 (s:Str) (c:Chart) (_a:Str) (i j:Int) (_l:List Str) (_n x _m _y:Int) (o:List (Part)):Bool:=decide (0≤i)&&(decide (i≤j)&&(decide (i≤(length s:Int))&&(decide (c.2.1=s)&&(decide (0≤x)&&(decide (x≤8)&&(Nat.ble (length s) 1000&&decide ((length o:Int)≤x*1100000+i*1050+(j-i))))))))
def res_q3 (s:Str) (c:Chart) (a:Str) (i j:Int) (l:List Str) (n x m y:Int) (o:List (Part)) (K:Cont):Option Fin:=K (.exit 4) ⟨[(1,vS s),(5, .d (ofD (.ref TCh) c)),(6, ko0),(8,vS a),(19, .d (ofD TSS l)),(20,vI n),(21,vI x),(27,vI m),(28,vI y)],[(500000,some (.lis 37 TP (o++tosP (fun j'=>derB s c.2.2 a i j') a i ((length s:Int)+1-j).toNat j)))]⟩
def mu_q3 (s:Str) (_c:Chart) (_a:Str) (_i j:Int) (_l:List Str) (_n _x _m _y:Int) (_o:List (Part)):Nat:=((length s:Int)+1-j).toNat
theorem r_q3 (s:Str) (c:Chart) (a:Str) (i j:Int) (l:List Str) (n x m y:Int) (o:List (Part)) (K:Cont) (hI:pre_q3 s c a i j l n x m y o=true):(∀R:St→Option Fin,evC cx0_q3 (loopOf Tryd.f11 2) (st_q3 s c a i j l n x m y o) (onward (headAt cx0_q3 12) R K)=res_q3 s c a i j l n x m y o K) ∨
  (∃(s':Str) (c':Chart) (a':Str) (i' j':Int) (l':List Str) (n' x' m' y':Int) (o':List (Part)),pre_q3 s' c' a' i' j' l' n' x' m' y' o'=true∧mu_q3 s' c' a' i' j' l' n' x' m' y' o'<mu_q3 s c a i j l n x m y o∧res_q3 s' c' a' i' j' l' n' x' m' y' o' K=res_q3 s c a i j l n x m y o K∧∀R:St→Option Fin,evC cx0_q3 (loopOf Tryd.f11 2) (st_q3 s c a i j l n x m y o) (onward (headAt cx0_q3 12) R K)=R (st_q3 s' c' a' i' j' l' n' x' m' y' o')):=by
 have hx:=fun R=>x_impl_AllParts_2 s a c l o i j n x m y R K;simp only[pre_q3,andd,dec_iff,ble_iff]at hI;obtain⟨h0,h1,h2,h3,k0,k1,h4,h5⟩:=hI;rw[h3]at hx
 by_cases hj:j≤(length s:Int)
 ·have w:W64 (j+1)=j+1:=wrap_small (by omega) (by omega);obtain⟨z,hm⟩:∃z,((length s:Int)+1-j).toNat=z+1:=⟨((length s:Int)+1-j).toNat-1,by omega⟩;have hm2:((length s:Int)+1-(j+1)).toNat=z:=by omega
  have hg:tosP (fun j'=>derB s c.2.2 a i j') a i (z+1) j=(bif derB s c.2.2 a i j then [(a,i,j)] else [])++tosP (fun j'=>derB s c.2.2 a i j') a i z (j+1):=rfl;rw[zT hj,w,length_singleton,partFits (by omega),okIJ_iff.2 ⟨h0,h1,hj⟩]at hx;right
  cases hc:derB s c.2.2 a i j
  ·rw[hc]at hx hg;refine⟨s,c,a,i,j+1,l,n,x,m,y,o, ?_, ?_, ?_,fun R=>hx R⟩
   ·simp only[pre_q3,andd,dec_iff,ble_iff];exact⟨h0,by omega,h2,h3,k0,k1,h4,by omega⟩
   ·simp only[mu_q3];omega
   ·simp only[res_q3,hm,hm2,hg];rfl
  ·rw[hc]at hx hg;refine⟨s,c,a,i,j+1,l,n,x,m,y,o++[(a,i,j)], ?_, ?_, ?_,fun R=>hx R⟩
   ·simp only[pre_q3,andd,dec_iff,ble_iff];rw[length_append,length_singleton];exact⟨h0,by omega,h2,h3,k0,k1,h4,by omega⟩
   ·simp only[mu_q3];omega
   ·simp only[res_q3,hm,hm2,hg,cond_true,append_assoc]
 ·left;intro R;refine(hx R).trans ?_;rw[zF hj];have e:((length s:Int)+1-j).toNat=0:=by omega
  have e2:o++tosP (fun j'=>derB s c.2.2 a i j') a i 0 j=o:=List.append_nil o;simp only[res_q3,e,e2];rfl
def g_q3:St→Cont→Option Fin:=gP sh_q3 (fun v=>match v with | ((s,c,a,i,j,l,n,x,m,y,()),(o,()))=>pre_q3 s c a i j l n x m y o) (fun v K=>match v with | ((s,c,a,i,j,l,n,x,m,y,()),(o,()))=>res_q3 s c a i j l n x m y o K)
def L_q3:LpL:=(12,g_q3)::[]
theorem l_q3 {L:LpL} (n:Nat) (h1:L.drop n=[]) (h2:idsFree (L.take n) (loopOf Tryd.f11 2)=true):LoopsTo g_q3 (cb_iap) (loopOf Tryd.f11 2) 12 L :=
 with_drop h1 h2 (gP_ok (fun v=>match v with | ((s,c,a,i,j,l,n,x,m,y,()),(o,()))=>mu_q3 s c a i j l n x m y o) fun v K hI=>by
  obtain⟨⟨s,c,a,i,j,l,n,x,m,y,⟨⟩⟩,⟨o,⟨⟩⟩⟩:=v;exact(r_q3 s c a i j l n x m y o K hI).imp id fun⟨s',c',a',i',j',l',n',x',m',y',o',h⟩=>⟨((s',c',a',i',j',l',n',x',m',y',()),(o',())),h⟩)
abbrev st_q2 (s:Str) (c:Chart) (a:Str) (l:List Str) (n x m y:Int) (o:List (Part)):St:=⟨[(1,vS s),(5, .d (ofD (.ref TCh) c)),(6, ko0),(8,vS a),(19, .d (ofD TSS l)),(20,vI n),(21,vI x),(27,vI m),(28,vI y)],[(500000,some (.lis 37 TP o))]⟩
theorem x_impl_AllParts_1 (s a:Str) (c:Chart) (l:List Str) (o:List Part) (n x m y:Int) (R:St→Option Fin) (K:Cont):evC (cb_iap.withLoops (look L_q3)) (loopOf Tryd.f11 1) (st_q2 s c a l n x m y o) (onward (headAt (cb_iap.withLoops (look L_q3)) 9) R K)=(
branch (decide (y<m)) (
 need (pre_q3 s c a y y l n x m y o) <| R (st_q2 s c a l n x m (W64 (y+1)) (o.append (tosP (fun j'=>derB s c.snd.snd a y j') a y ((s.length:Int)+1-y).toNat y)))) ( K (.exit 2) (.mk [(1,vS s),(5,(.d (.one (.r (.rf TCh c))))),(6,ko0),(19,(.d (.one (.r (.li (Ty.str) l))))),(20,vI n),(21,vI x)] [(500000,some (.lis 37 TP o))]))):=by kernel_rfl
def cx0_q2:Cx:=(cb_iap).withLoops (look L_q3)
def sh_q2:Sh:=([(1, .d .str),(5, .d (.ref TCh)),(6, .own 500000),(8, .d .str),(19, .d TSS),(20, .d TI64),(21, .d TI64),(27, .d TI64),(28, .d TI64)],[(500000, .lis 37 TP)])
def pre_q2 (s:Str) (c:Chart) (_a:Str) (_l:List Str) (_n x m y:Int) (o:List (Part)):Bool:=decide (0≤y)&&(decide (m=(length s:Int)+1)&&(decide (c.2.1=s)&&(decide (0≤x)&&(decide (x≤8)&&(Nat.ble (length s) 1000&&decide ((length o:Int)≤x*1100000+y*1050))))))
def res_q2 (s:Str) (c:Chart) (a:Str) (l:List Str) (n x m y:Int) (o:List (Part)) (K:Cont):Option Fin:=K (.exit 2) ⟨[(1,vS s),(5, .d (ofD (.ref TCh) c)),(6, ko0),(19, .d (ofD TSS l)),(20,vI n),(21,vI x)],[(500000,some (.lis 37 TP (o++frsP (fun i' j'=>derB s c.2.2 a i' j') a (length s:Int) (m-y).toNat y)))]⟩
def mu_q2 (_s:Str) (_c:Chart) (_a:Str) (_l:List Str) (_n _x m y:Int) (_o:List (Part)):Nat:=(m-y).toNat
theorem r_q2 (s:Str) (c:Chart) (a:Str) (l:List Str) (n x m y:Int) (o:List (Part)) (K:Cont) (hI:pre_q2 s c a l n x m y o=true):(∀R:St→Option Fin,evC cx0_q2 (loopOf Tryd.f11 1) (st_q2 s c a l n x m y o) (onward (headAt cx0_q2 9) R K)=res_q2 s c a l n x m y o K) ∨
  (∃(s':Str) (c':Chart) (a':Str) (l':List Str) (n' x' m' y':Int) (o':List (Part)),pre_q2 s' c' a' l' n' x' m' y' o'=true∧mu_q2 s' c' a' l' n' x' m' y' o'<mu_q2 s c a l n x m y o∧res_q2 s' c' a' l' n' x' m' y' o' K=res_q2 s c a l n x m y o K∧∀R:St→Option Fin,evC cx0_q2 (loopOf Tryd.f11 1) (st_q2 s c a l n x m y o) (onward (headAt cx0_q2 9) R K)=R (st_q2 s' c' a' l' n' x' m' y' o')):=by
 have hx:=fun R=>x_impl_AllParts_1 s a c l o n x m y R K;simp only[pre_q2,andd,dec_iff,ble_iff]at hI;obtain⟨h0,rfl,h3,k0,k1,h4,h5⟩:=hI
 by_cases hj:y<(length s:Int)+1
 ·have w:W64 (y+1)=y+1:=wrap_small (by omega) (by omega);obtain⟨z,hm⟩:∃z,((length s:Int)+1-y).toNat=z+1:=⟨((length s:Int)+1-y).toNat-1,by omega⟩;have hm2:((length s:Int)+1-(y+1)).toNat=z:=by omega
  have hg:frsP (fun i' j'=>derB s c.2.2 a i' j') a (length s:Int) (z+1) y=tosP (fun j'=>derB s c.2.2 a y j') a y ((length s:Int)+1-y).toNat y++frsP (fun i' j'=>derB s c.2.2 a i' j') a (length s:Int) z (y+1):=rfl;have hl:=tosP_len (f:=fun j'=>derB s c.2.2 a y j') (a:=a) (i:=y) (n:=((length s:Int)+1-y).toNat) (j:=y);have kp:pre_q3 s c a y y l n x ((length s:Int)+1) y o=true:=by
   simp only[pre_q3,andd,dec_iff,ble_iff];exact⟨h0,Int.le_refl _,by omega,h3,k0,k1,h4,by omega⟩
  rw[zT hj,kp,w]at hx;right;refine⟨s,c,a,l,n,x,(length s:Int)+1,y+1,o++tosP (fun j'=>derB s c.2.2 a y j') a y ((length s:Int)+1-y).toNat y, ?_, ?_, ?_,fun R=>hx R⟩
  ·simp only[pre_q2,andd,dec_iff,ble_iff];rw[length_append];exact⟨by omega,trivial,h3,k0,k1,h4,by omega⟩
  ·simp only[mu_q2];omega
  ·rw[← hm]at hg;simp only[res_q2,hg,hm2,append_assoc]
 ·left;intro R;refine(hx R).trans ?_;rw[zF hj];have e:((length s:Int)+1-y).toNat=0:=by omega
  have e2:o++frsP (fun i' j'=>derB s c.2.2 a i' j') a (length s:Int) 0 y=o:=List.append_nil o;simp only[res_q2,e,e2];rfl
def g_q2:St→Cont→Option Fin:=gP sh_q2 (fun v=>match v with | ((s,c,a,l,n,x,m,y,()),(o,()))=>pre_q2 s c a l n x m y o) (fun v K=>match v with | ((s,c,a,l,n,x,m,y,()),(o,()))=>res_q2 s c a l n x m y o K)
def L_q2:LpL:=(9,g_q2)::L_q3
theorem l_q2 {L:LpL} (n:Nat) (h1:L.drop n=L_q3) (h2:idsFree (L.take n) (loopOf Tryd.f11 1)=true):LoopsTo g_q2 (cb_iap) (loopOf Tryd.f11 1) 9 L :=
 with_drop h1 h2 (gP_ok (fun v=>match v with | ((s,c,a,l,n,x,m,y,()),(o,()))=>mu_q2 s c a l n x m y o) fun v K hI=>by
  obtain⟨⟨s,c,a,l,n,x,m,y,⟨⟩⟩,⟨o,⟨⟩⟩⟩:=v;exact(r_q2 s c a l n x m y o K hI).imp id fun⟨s',c',a',l',n',x',m',y',o',h⟩=>⟨((s',c',a',l',n',x',m',y',()),(o',())),h⟩)
theorem partsF_at {f:Str→Int→Int→Bool} {n:Int} {l:List Str} {i:Int} (h0:0≤i) (h1:i<(l.length:Int)):partsF f n (l.drop i.toNat)=frsP (f (l.getD i.toNat [])) (l.getD i.toNat []) n (n+1).toNat 0++partsF f n (l.drop (i+1).toNat):=by
 have hn:i.toNat<l.length:=by omega
 unfold partsF;rw[drop_eq_getElem_cons hn,List.flatMap_cons,show (i+1).toNat=i.toNat+1 by omega,getD_at hn]
abbrev st_q1 (s:Str) (c:Chart) (l:List Str) (n x:Int) (o:List (Part)):St:=⟨[(1,vS s),(5, .d (ofD (.ref TCh) c)),(6, ko0),(19, .d (ofD TSS l)),(20,vI n),(21,vI x)],[(500000,some (.lis 37 TP o))]⟩
theorem x_impl_AllParts (s:Str) (c:Chart) (l:List Str) (o:List Part) (n x:Int) (R:St→Option Fin) (K:Cont):evC (cb_iap.withLoops (look L_q2)) (loopOf Tryd.f11 0) (st_q1 s c l n x o) (onward (headAt (cb_iap.withLoops (look L_q2)) 6) R K)=(
branch (decide (x<n)) (
 need (inb x l.length) <|
 need (pre_q2 s c (l.getD x.toNat (dflt Ty.str)) l n x (W64 ((s.length:Int)+1)) 0 o) <| R (st_q1 s c l n (W64 (x+1)) (o.append (frsP (fun i' j'=>derB s c.snd.snd (l.getD x.toNat (dflt Ty.str)) i' j') (l.getD x.toNat (dflt Ty.str)) ((s.length:Int)) (W64 ((s.length:Int)+1)-0).toNat 0)))) ( K (.exit 0) (.mk [(6,ko0)] [(500000,some (.lis 37 TP o))]))):=by kernel_rfl
def cx0_q1:Cx:=(cb_iap).withLoops (look L_q2)
def sh_q1:Sh:=([(1, .d .str),(5, .d (.ref TCh)),(6, .own 500000),(19, .d TSS),(20, .d TI64),(21, .d TI64)],[(500000, .lis 37 TP)])
def pre_q1 (s:Str) (c:Chart) (l:List Str) (n x:Int) (o:List (Part)):Bool:=decide (0≤x)&&(decide (n=(length l:Int))&&(decide (n≤8)&&(decide (c.2.1=s)&&(Nat.ble (length s) 1000&&decide ((length o:Int)≤x*1100000)))))
def res_q1 (s:Str) (c:Chart) (l:List Str) (_n x:Int) (o:List (Part)) (K:Cont):Option Fin:=K (.exit 0) ⟨[(6, ko0)],[(500000,some (.lis 37 TP (o++partsF (fun a i j=>derB s c.2.2 a i j) (length s:Int) (List.drop x.toNat l))))]⟩
def mu_q1 (_s:Str) (_c:Chart) (l:List Str) (_n x:Int) (_o:List (Part)):Nat:=length l-x.toNat
theorem r_q1 (s:Str) (c:Chart) (l:List Str) (n x:Int) (o:List (Part)) (K:Cont) (hI:pre_q1 s c l n x o=true):(∀R:St→Option Fin,evC cx0_q1 (loopOf Tryd.f11 0) (st_q1 s c l n x o) (onward (headAt cx0_q1 6) R K)=res_q1 s c l n x o K) ∨
  (∃(s':Str) (c':Chart) (l':List Str) (n' x':Int) (o':List (Part)),pre_q1 s' c' l' n' x' o'=true∧mu_q1 s' c' l' n' x' o'<mu_q1 s c l n x o∧res_q1 s' c' l' n' x' o' K=res_q1 s c l n x o K∧∀R:St→Option Fin,evC cx0_q1 (loopOf Tryd.f11 0) (st_q1 s c l n x o) (onward (headAt cx0_q1 6) R K)=R (st_q1 s' c' l' n' x' o')):=by
 have hx:=fun R=>x_impl_AllParts s c l o n x R K;simp only[pre_q1,andd,dec_iff,ble_iff]at hI;obtain⟨h0,rfl,h2,h3,h4,h5⟩:=hI
 by_cases hj:x<(length l:Int)
 ·have w:W64 (x+1)=x+1:=wrap_small (by omega) (by omega);have w2:W64 ((length s:Int)+1)=(length s:Int)+1:=wrap_small (by omega) (by omega);have hg:=partsF_at (f:=fun a i j=>derB s c.2.2 a i j) (n:=(length s:Int)) h0 hj;have hl:=frsP_len (f:=fun i' j'=>derB s c.2.2 (getD l x.toNat []) i' j') (a:=getD l x.toNat []) (n:=(length s:Int)) (by omega) (m:=((length s:Int)+1).toNat) (i:=0) (Int.le_refl 0);have kp:pre_q2 s c (getD l x.toNat []) l (length l:Int) x ((length s:Int)+1) 0 o=true:=by
   simp only[pre_q2,andd,dec_iff,ble_iff];exact⟨Int.le_refl _,trivial,h3,h0,by omega,h4,by omega⟩
  have e0:((length s:Int)+1-0).toNat=((length s:Int)+1).toNat:=by omega
  rw[zT hj,inb_ok h0 hj,w2]at hx;change ∀R:St→Option Fin,_=branch true (need true (need (pre_q2 s c (getD l x.toNat []) l (length l:Int) x ((length s:Int)+1) 0 o) _)) _ at hx;rw[kp,w,e0]at hx;right;refine⟨s,c,l,(length l:Int),x+1,o++frsP (fun i' j'=>derB s c.2.2 (getD l x.toNat []) i' j') (getD l x.toNat []) (length s:Int) ((length s:Int)+1).toNat 0, ?_, ?_, ?_,fun R=>hx R⟩
  ·simp only[pre_q1,andd,dec_iff,ble_iff];rw[length_append];exact⟨by omega,trivial,h2,h3,h4,by omega⟩
  ·simp only[mu_q1];omega
  ·simp only[res_q1,hg,append_assoc]
 ·left;intro R;refine(hx R).trans ?_;rw[zF hj];have e:List.drop x.toNat l=[]:=drop_eq_nil_of_le (by omega);have e2:o++partsF (fun a i j=>derB s c.2.2 a i j) (length s:Int) []=o:=List.append_nil o;simp only[res_q1,e,e2];rfl
def g_q1:St→Cont→Option Fin:=gP sh_q1 (fun v=>match v with | ((s,c,l,n,x,()),(o,()))=>pre_q1 s c l n x o) (fun v K=>match v with | ((s,c,l,n,x,()),(o,()))=>res_q1 s c l n x o K)
def L_q1:LpL:=(6,g_q1)::L_q2
def cx_q1:Cx:=(cb_iap).withLoops (look L_q1)
theorem l_q1 {L:LpL} (n:Nat) (h1:L.drop n=L_q2) (h2:idsFree (L.take n) (loopOf Tryd.f11 0)=true):LoopsTo g_q1 (cb_iap) (loopOf Tryd.f11 0) 6 L :=
 with_drop h1 h2 (gP_ok (fun v=>match v with | ((s,c,l,n,x,()),(o,()))=>mu_q1 s c l n x o) fun v K hI=>by
  obtain⟨⟨s,c,l,n,x,⟨⟩⟩,⟨o,⟨⟩⟩⟩:=v;exact(r_q1 s c l n x o K hI).imp id fun⟨s',c',l',n',x',o',h⟩=>⟨((s',c',l',n',x',()),(o',())),h⟩)
theorem y_impl_AllParts (g:Gram) (s:Str):evFn cx_q1 Tryd.f11 true [ofD TG g,ofD .str s] []=(
branch (!both2 g s) ( some ((.d (.one (.r (.li ty37 ([]))))),[])) (
 need (okRs g.snd&&s.length.ble 1000) <|
 need (pre_q1 s (g,s,chartM s g.snd) (onesL ([65,66,67,68,69]:Str)) (((onesL ([65,66,67,68,69]:Str)).length:Int)) 0 []) <| some ((.d (.one (.r (.li TP (id (partsF (fun a i j=>derB s (chartM s g.snd) a i j) ((s.length:Int)) (id (onesL ([65,66,67,68,69]:Str))))))))),[]))):=by kernel_rfl
theorem s_impl_AllParts (g:Gram) (_hg:Fit TG g) (s:Str) (_hs:Fit .str s):Sat Tryd.prog 11 [ofD TG g,ofD .str s] [] (.d (ofD (.list TP) (bif both2 g s then partsG g s else []))) [] :=
 fn_sound (cx:=cx_q1) Tryd.func11 rfl ttOk Γ70ok mixed (fun c hc=>LoopsOk.all (l:=[(6,loopOf Tryd.f11 0),(9,loopOf Tryd.f11 1),(12,loopOf Tryd.f11 2)]) (by cases hc;kernel_rfl) ⟨atLoop rfl (l_q1 1 rfl (by kernel_rfl)),atLoop rfl (l_q2 2 rfl (by kernel_rfl)),atLoop rfl (l_q3 3 rfl (by kernel_rfl)),trivial⟩) (ro:=true) (by
  rw[y_impl_AllParts]
  cases hb:both2 g s
  ·rfl
  ·obtain ⟨h1,h3,_⟩:=both_iff hb;have k1:(okRs g.2&&(length s).ble 1000)=true:=andd.2 ⟨ok_rs h1,ble_iff.2 (by omega)⟩;have k2:pre_q1 s (g,s,chartM s g.2) (onesL ([65,66,67,68,69]:Str)) (((onesL ([65,66,67,68,69]:Str)).length:Int)) 0 []=true:=by
    simp only[pre_q1,andd,dec_iff,ble_iff];exact⟨Int.le_refl 0,trivial,by decide,trivial,by omega,by show((0:Nat):Int)≤_;omega⟩
   rw[k1,k2];rfl)
def c_impl_AllParts:Con:=conT [TG, .str] fun(g:Gram) (s:Str)=>(none, .d (ofD (.list TP) (bif both2 g s then partsG g s else [])))
theorem k_impl_AllParts:ConOk Tryd.prog 11 c_impl_AllParts:=conT_ok Tryd.call11 fun g hg s hs _=>s_impl_AllParts g hg s hs
def Γ71:GL:=(11,c_impl_AllParts)::Γ70
theorem Γ71ok:GO Γ71 := .cons k_impl_AllParts Γ70ok
theorem partsF_len {f:Str→Int→Int→Bool} {n:Int} (hn:n≤1000):∀ {l:List Str},(partsF f n l).length≤l.length*2000000
 | []=>Nat.zero_le _
 |a::l=>by
  have h1:=partsF_len (f:=f) hn (l:=l);have h2:=frsP_len (f:=f a) (a:=a) hn (m:=(n+1).toNat) (i:=0) (Int.le_refl 0);unfold partsF at *;rw[List.flatMap_cons,length_append,length_cons];omega
theorem parts_len {g:Gram} {s:Str} (h:both2 g s=true):(partsG g s).length≤10000000:=by
 obtain⟨_,h2,_⟩:=both_iff h;have h3:=partsF_len (f:=fun a i j=>derB s (chartM s g.2) a i j) (n:=(length s:Int)) (by omega) (l:=abcde);rw[show length abcde=5 from rfl]at h3;exact h3
theorem kidsL_each {f:GTree→Bool}:∀ {ks:List GTree} {r:Str},kidsL f ks r=true→∀k∈ks,f k=true
 | [],_,_,_,h=>by cases h
 |k::ks,[],h,_,_=>by cases h
 |k::ks,c::r,h,x,hx=>by
  unfold kidsL at h;rw[andd,andd]at h;rcases List.mem_cons.1 hx with rfl | hx
  ·exact h.2.1
  ·exact kidsL_each h.2.2 x hx
theorem kids_split {l:List Rule} {s:Str} {f:GTree→Bool} {m:Nat} (IH:∀(k:GTree) (pre post:Str),f k=true→kid9 m k=true→s=pre++(yldP m k++post)→derP s (DerG s l) k.sign (pre.length:Int) ((pre.length:Int)+((yldP m k).length:Int))) :
  ∀ {ks:List GTree} {r pre post:Str},kidsL f ks r=true→(∀k∈ks,kid9 m k=true)→ks.length=r.length→s=pre++(ks.flatMap (yldP m)++post)→splP s (DerG s l) r (pre.length:Int) ((pre.length:Int)+((ks.flatMap (yldP m)).length:Int))
 | [],[],pre,_,_,_,_,_=>by
  show(pre.length:Int)=(pre.length:Int)+(0:Nat);omega
 | [],c::r,_,_,_,_,h,_=>by simp at h
 |k::ks,[],_,_,h,_,_,_=>by cases h
 |k::ks,c::r,pre,post,h,h9,hl,hs=>by
  unfold kidsL at h;rw[andd,andd,dec_iff]at h;obtain⟨e1,e2,e3⟩:=h;rw[List.flatMap_cons,append_assoc]at hs;have d1:=IH k pre (ks.flatMap (yldP m)++post) e2 (h9 k mem_cons_self) hs;have d2:=kids_split IH (ks:=ks) (r:=r) (pre:=pre++yldP m k) (post:=post) e3 (fun x hx=>h9 x (mem_cons_of_mem _ hx)) (by simpa using hl) (by rw[append_assoc];exact hs);rw[length_append]at d2;rw[List.flatMap_cons,length_append];refine⟨(pre.length:Int)+((yldP m k).length:Int),by omega,by omega,by rw[← e1];exact d1, ?_⟩;have e4:(((pre.length+(yldP m k).length:Nat)):Int)=(pre.length:Int)+((yldP m k).length:Int):=by omega
  rw[e4]at d2;have e5:(pre.length:Int)+(((yldP m k).length+(ks.flatMap (yldP m)).length:Nat):Int)=(pre.length:Int)+((yldP m k).length:Int)+((ks.flatMap (yldP m)).length:Int):=by omega
  rw[e5];exact d2
theorem tree_der {g:Gram} {s:Str}:∀ {d m:Nat} {t:GTree} {pre post:Str},shapeT g d t=true→kid9 m t=true→s=pre++(yldP m t++post)→derP s (DerG s g.2) t.sign (pre.length:Int) ((pre.length:Int)+((yldP m t).length:Int))
 |0,_,_,_,_,h,_,_=>by cases h
 |d+1,0,_,_,_,_,h,_=>by cases h
 |d+1,m+1,t,pre,post,h,h9,hs=>by
  obtain⟨_,_,h3⟩:=kid9_iff.1 h9;have hy:yldP (m+1) t=bif smallS t.sign then t.sign else t.kids.flatMap (yldP m):=rfl;have h:(bif smallS t.sign then leafOk t else bif nodeOk g t then kidsL (shapeT g d) t.kids (rgt g t.rule)else false)=true:=h;have hlen:pre.length+(yldP (m+1) t).length≤s.length:=by rw[hs];simp only[length_append];omega
  cases hsm:smallS t.sign
  ·rw[hsm,cond_false]at h hy
   cases hn:nodeOk g t
   ·rw[hn]at h;cases h
   ·rw[hn,cond_true]at h;obtain⟨n1,n2,n3⟩:=node_iff hn;have hi:=inb_iff.1 n1;rw[hy]at hs hlen ⊢;have sp:=kids_split (l:=g.2) (s:=s) (f:=shapeT g d) (m:=m) (fun k pre post a b c=>tree_der a b c) h h3 n3 hs;have hr:getD g.2 t.rule.toNat d0∈g.2:=getD_mem (by omega);have:=Der_closed (s:=s) (l:=g.2) _ hr (pre.length:Int) ((pre.length:Int)+((t.kids.flatMap (yldP m)).length:Int)) (by omega) (by omega) (by omega) sp;rw[n2]at this;unfold derP;rw[hsm];exact this
  ·rw[hsm,cond_true]at hy;obtain⟨c,e,_⟩:=smallS_one hsm;unfold derP;rw[hsm,if_pos rfl,hy,e];refine⟨rfl, ?_⟩;rw[hy,e]at hs;rw[hs,show ((pre.length:Int)).toNat=pre.length by omega,zG,getElem?_append_right (Nat.le_refl _),Nat.sub_self];rfl
def PartIn (g:Gram) (s:Str) (e:Spot):Prop:=bigS e.2.1=true∧0≤e.2.2.1∧e.2.2.1≤e.2.2.2∧e.2.2.2≤(s.length:Int)∧derP s (DerG s g.2) e.2.1 e.2.2.1 e.2.2.2
theorem spL_in {g:Gram} {s:Str} {n:Nat} (hn:n≤12) {ok:GTree→Bool} (IH:∀(k:GTree) (pre post:Str),ok k=true→kid9 n k=true→s=pre++(yldP n k++post)→∀e∈spV n k (pre.length:Int),PartIn g s e) :
  ∀ {ks:List GTree} {pre post:Str},(∀k∈ks,ok k=true)→(∀k∈ks,kid9 n k=true)→s=pre++(ks.flatMap (yldP n)++post)→∀e∈spL (spV n) (yldP 12) ks (pre.length:Int),PartIn g s e
 | [],_,_,_,_,_,_,h=>by cases h
 |k::ks,pre,post,h1,h9,hs,e,he=>by
  rw[List.flatMap_cons,append_assoc]at hs;unfold spL at he;rcases mem_append.1 he with he | he
  ·exact IH k pre (ks.flatMap (yldP n)++post) (h1 k mem_cons_self) (h9 k mem_cons_self) hs e he
  ·rw[yld_le hn (h9 k mem_cons_self)]at he;refine spL_in hn IH (ks:=ks) (pre:=pre++yldP n k) (post:=post) (fun x hx=>h1 x (mem_cons_of_mem _ hx)) (fun x hx=>h9 x (mem_cons_of_mem _ hx)) (by rw[append_assoc];exact hs) e ?_;rw[length_append];have e4:(((pre.length+(yldP n k).length:Nat)):Int)=(pre.length:Int)+((yldP n k).length:Int):=by omega
   rw[e4];exact he
theorem sumY_congr {f g:GTree→Str}:∀ {l:List GTree},(∀k∈l,f k=g k)→sumY f l=sumY g l
 | [],_=>rfl
 |a::l,h=>by
  unfold sumY;rw[h a mem_cons_self,sumY_congr fun k hk=>h k (mem_cons_of_mem _ hk)]
theorem spots_in {g:Gram} {s:Str}:∀ {n d:Nat} {t:GTree} {pre post:Str},n≤12→shapeT g d t=true→kid9 n t=true→s=pre++(yldP n t++post)→∀e∈spV n t (pre.length:Int),PartIn g s e
 |0,_,_,_,_,_,_,h,_,_,_=>by cases h
 |n+1,0,_,_,_,_,h,_,_,_,_=>by cases h
 |n+1,d+1,t,pre,post,hn,h,h9,hs,e,he=>by
  obtain⟨_,_,h3⟩:=kid9_iff.1 h9;have td:=tree_der h h9 hs;have hlen:pre.length+(yldP (n+1) t).length≤s.length:=by rw[hs];simp only[length_append];omega
  unfold spV at he
  cases hb:bigS t.sign
  ·rw[hb]at he;cases he
  ·have hsm:=big_not_small hb;have h:(bif smallS t.sign then leafOk t else bif nodeOk g t then kidsL (shapeT g d) t.kids (rgt g t.rule)else false)=true:=h;have hy:yldP (n+1) t=t.kids.flatMap (yldP n):=by
    show(bif smallS t.sign then t.sign else t.kids.flatMap (yldP n))=_;rw[hsm];rfl
   rw[hsm,cond_false]at h
   cases hno:nodeOk g t
   ·rw[hno]at h;cases h
   ·rw[hno,cond_true]at h;rw[hb,cond_true]at he;rcases List.mem_cons.1 he with rfl | he
    ·have e2:sumY (yldP 12) t.kids=((yldP (n+1) t).length:Int):=by
      rw[hy,← sumY_flat];exact sumY_congr fun k hk=>yld_le (by omega) (h3 k hk)
     rw[e2];exact⟨hb,by show(0:Int)≤(pre.length:Int);omega,by show(pre.length:Int)≤(pre.length:Int)+((yldP (n+1) t).length:Int);omega,by show(pre.length:Int)+((yldP (n+1) t).length:Int)≤(s.length:Int);omega,td⟩
    ·rw[hy]at hs;exact spL_in (by omega) (ok:=shapeT g d) (fun k pre post a b c=>spots_in (by omega) a b c) (kidsL_each h) h3 hs e he
theorem big_abcde {a:Str} (h:bigS a=true):a∈abcde:=by
 obtain⟨c,e,hc⟩:=bigS_one h;rw[e];unfold bigc at hc;rw[andd,ble_iff,ble_iff]at hc;have hcc:c.toNat=65∨c.toNat=66∨c.toNat=67∨c.toNat=68∨c.toNat=69:=by omega
 have eq:∀ {n:Nat} (d:UInt8),d.toNat=n→c.toNat=n→c=d:=fun d h1 h2=>UInt8.toNat_inj.1 (h2.trans h1.symm);rcases hcc with h | h | h | h | h
 ·rw[eq 65 rfl h];decide
 ·rw[eq 66 rfl h];decide
 ·rw[eq 67 rfl h];decide
 ·rw[eq 68 rfl h];decide
 ·rw[eq 69 rfl h];decide
theorem parts_in {g:Gram} {t:GTree} {d:Nat} (h:shapeT g d t=true) (h9:kid9 12 t=true):∀p∈(spV 12 t 0).map Prod.snd,p∈partsG g (yldP 12 t):=fun p hp=>by
 obtain⟨e,he,rfl⟩:=List.mem_map.1 hp;obtain⟨p1,p2,p3,p4,p5⟩:=spots_in (g:=g) (s:=yldP 12 t) (pre:=[]) (post:=[]) (Nat.le_refl 12) h h9 (by simp) e he;refine(mem_partsF (by omega)).2 ⟨big_abcde p1,p2,p3,p4, ?_⟩;refine derB_iff.2 ?_;unfold derP at p5 ⊢;rw[big_not_small p1]at p5 ⊢;exact chartM_iff.2 p5
theorem yld_small:∀ {n:Nat} {t:GTree} {c:UInt8},c∈yldP n t→small c=true
 |0,_,_,h=>by cases h
 |n+1,t,c,h=>by
  have h:c∈(bif smallS t.sign then t.sign else t.kids.flatMap (yldP n)):=h
  cases hs:smallS t.sign
  ·rw[hs]at h;obtain⟨k,_,hk⟩:=List.mem_flatMap.1 h;exact yld_small hk
  ·rw[hs]at h;obtain⟨d,e,hd⟩:=smallS_one hs;rw[cond_true,e]at h;rw[mem_singleton.1 h];exact hd
theorem tOkW_kid9 {t:GTree} (h:tOkW t=true):kid9 12 t=true:=by
 obtain⟨h1,_,_,h4,h5⟩:=tOkW_iff.1 h;exact kid9_le (n:=10) (by omega) (kid9_iff.2 ⟨h1,h4,fun k hk=>tOkP_kid9 (n:=9) (all_eq_true.1 h5 k hk)⟩)
def cb_lpa:Cx:=(cxOf Γ71 Tryd.f3.ntmps [(15,[7,8,9,10,11]),(11,[7,8,9])] [(0,[]),(1,[7,8,9]),(2,[7,8,9,10]),(3,[7,8,9,10,11]),(1000000,[2])] [] []).parted [6,17]
abbrev st_lpk (l m:List Part) (i:Int) (b:Bool) (k:Int):St:=⟨[(7, .d (ofD TPL l)),(8, .d (ofD TPL m)),(9,vI i),(10,vB b),(11,vI k)],[]⟩
theorem x_laws_FnPartsAll_1 (l m:List Part) (i k:Int) (b:Bool) (R:St→Option Fin) (K:Cont):evC (cb_lpa.withLoops (look [])) (loopOf Tryd.f3 1) (st_lpk l m i b k) (onward (headAt (cb_lpa.withLoops (look [])) 15) R K)=(
branch (decide (k<(m.length:Int))) (
 branch (decide (b=false)) (
 need (inb k m.length) <|
 need (inb i l.length) <| R (st_lpk l m i (bif false then true else decide ((m.getD k.toNat pz).fst=(l.getD i.toNat pz).fst)&&(decide ((m.getD k.toNat pz).snd.fst=(l.getD i.toNat pz).snd.fst)&&(decide ((m.getD k.toNat pz).snd.snd=(l.getD i.toNat pz).snd.snd)&&true))) (W64 (k+1)))) ( R (st_lpk l m i true (W64 (k+1))))) ( K (.exit 2) (.mk [(7,(.d (.one (.r (.li TP l))))),(8,(.d (.one (.r (.li TP m))))),(9,vI i),(10,vB b)] []))):=by kernel_rfl
def samePt (x e:Part):Bool:=decide (x.1=e.1)&&(decide (x.2.1=e.2.1)&&(decide (x.2.2=e.2.2)&&true))
theorem samePt_self (x:Part):samePt x x=true:=by
 unfold samePt;rw[zT rfl,zT rfl,zT rfl];rfl
def cx0_lpk:Cx:=(cb_lpa).withLoops (look [])
def sh_lpk:Sh:=([(7, .d TPL),(8, .d TPL),(9, .d TI64),(10, .d .bool),(11, .d TI64)],[])
def pre_lpk (l m:List Part) (i:Int) (_b:Bool) (k:Int):Bool:=decide (0≤k)&&(inb i (length l)&&decide (length m≤9000000000000000000))
def res_lpk (l m:List Part) (i:Int) (b:Bool) (k:Int) (K:Cont):Option Fin:=K (.exit 2) ⟨[(7, .d (ofD TPL l)),(8, .d (ofD TPL m)),(9,vI i),(10,vB (b||List.any (List.drop k.toNat m) (fun x=>samePt x (getD l i.toNat pz))))],[]⟩
def mu_lpk (_l m:List Part) (_i:Int) (_b:Bool) (k:Int):Nat:=length m-k.toNat
theorem r_lpk (l m:List Part) (i:Int) (b:Bool) (k:Int) (K:Cont) (hI:pre_lpk l m i b k=true):(∀R:St→Option Fin,evC cx0_lpk (loopOf Tryd.f3 1) (st_lpk l m i b k) (onward (headAt cx0_lpk 15) R K)=res_lpk l m i b k K) ∨
  (∃(l' m':List Part) (i':Int) (b':Bool) (k':Int),pre_lpk l' m' i' b' k'=true∧mu_lpk l' m' i' b' k'<mu_lpk l m i b k∧res_lpk l' m' i' b' k' K=res_lpk l m i b k K∧∀R:St→Option Fin,evC cx0_lpk (loopOf Tryd.f3 1) (st_lpk l m i b k) (onward (headAt cx0_lpk 15) R K)=R (st_lpk l' m' i' b' k')):=by
 have hx:=fun R=>x_laws_FnPartsAll_1 l m i k b R K;simp only[pre_lpk,andd,dec_iff]at hI;obtain⟨h0,h1,h2⟩:=hI
 by_cases hk:k<(length m:Int)
 ·have w:W64 (k+1)=k+1:=wrap_small (by omega) (by omega);have hn:k.toNat<length m:=by omega
  have hd:List.drop k.toNat m=getD m k.toNat pz::List.drop (k+1).toNat m:=by
   rw[drop_eq_getElem_cons hn,show (k+1).toNat=k.toNat+1 by omega,zG,zE hn];rfl
  rw[zT hk,inb_ok h0 hk,h1,w]at hx;right
  cases b
  ·refine ⟨l,m,i,samePt (getD m k.toNat pz) (getD l i.toNat pz),k+1, ?_, ?_, ?_,fun R=>hx R⟩
   ·simp only[pre_lpk,andd,dec_iff];exact⟨by omega,h1,h2⟩
   ·simp only[mu_lpk];omega
   ·simp only[res_lpk,hd,List.any_cons,Bool.false_or]
  ·refine ⟨l,m,i,true,k+1, ?_, ?_, ?_,fun R=>hx R⟩
   ·simp only[pre_lpk,andd,dec_iff];exact⟨by omega,h1,h2⟩
   ·simp only[mu_lpk];omega
   ·simp only[res_lpk,Bool.true_or]
 ·left;intro R;refine(hx R).trans ?_;rw[zF hk];have e:List.drop k.toNat m=[]:=drop_eq_nil_of_le (by omega);simp only[res_lpk,e,List.any_nil,Bool.or_false];rfl
def g_lpk:St→Cont→Option Fin:=gP sh_lpk (fun v=>match v with | ((l,m,i,b,k,()),())=>pre_lpk l m i b k) (fun v K=>match v with | ((l,m,i,b,k,()),())=>res_lpk l m i b k K)
def L_lpk:LpL:=(15,g_lpk)::[]
theorem l_lpk {L:LpL} (n:Nat) (h1:L.drop n=[]) (h2:idsFree (L.take n) (loopOf Tryd.f3 1)=true):LoopsTo g_lpk (cb_lpa) (loopOf Tryd.f3 1) 15 L :=
 with_drop h1 h2 (gP_ok (fun v=>match v with | ((l,m,i,b,k,()),())=>mu_lpk l m i b k) fun v K hI=>by
  obtain⟨⟨l,m,i,b,k,⟨⟩⟩,⟨⟩⟩:=v;exact(r_lpk l m i b k K hI).imp id fun⟨l',m',i',b',k',h⟩=>⟨((l',m',i',b',k',()),()),h⟩)
abbrev st_lpi (l m:List Part) (i:Int):St:=⟨[(7, .d (ofD TPL l)),(8, .d (ofD TPL m)),(9,vI i)],[]⟩
theorem x_laws_FnPartsAll (l m:List Part) (i:Int) (R:St→Option Fin) (K:Cont):evC (cb_lpa.withLoops (look L_lpk)) (loopOf Tryd.f3 0) (st_lpi l m i) (onward (headAt (cb_lpa.withLoops (look L_lpk)) 11) R K)=(
branch (decide (i<(l.length:Int))) (
 need (pre_lpk l m i false 0) <|
 branch (!(false||m.any fun x=>samePt x (l.getD i.toNat pz))) ( K (.ret) (.mk [(2,vB false)] [])) ( R (st_lpi l m (W64 (i+1))))) ( K (.exit 0) (.mk [] []))):=by kernel_rfl
def inAll (m:List Part) (e:Part):Bool:=List.any m (fun x=>samePt x e)
def cx0_lpi:Cx:=(cb_lpa).withLoops (look L_lpk)
def sh_lpi:Sh:=([(7, .d TPL),(8, .d TPL),(9, .d TI64)],[])
def pre_lpi (l m:List Part) (i:Int):Bool:=decide (0≤i)&&(decide (length l≤9000000000000000000)&&(decide (length m≤9000000000000000000)&&List.all l (inAll m)))
def res_lpi (_l _m:List Part) (_i:Int) (K:Cont):Option Fin:=K (.exit 0) ⟨[],[]⟩
def mu_lpi (l _m:List Part) (i:Int):Nat:=length l-i.toNat
theorem r_lpi (l m:List Part) (i:Int) (K:Cont) (hI:pre_lpi l m i=true):(∀R:St→Option Fin,evC cx0_lpi (loopOf Tryd.f3 0) (st_lpi l m i) (onward (headAt cx0_lpi 11) R K)=res_lpi l m i K) ∨
  (∃(l' m':List Part) (i':Int),pre_lpi l' m' i'=true∧mu_lpi l' m' i'<mu_lpi l m i∧res_lpi l' m' i' K=res_lpi l m i K∧∀R:St→Option Fin,evC cx0_lpi (loopOf Tryd.f3 0) (st_lpi l m i) (onward (headAt cx0_lpi 11) R K)=R (st_lpi l' m' i')):=by
 have hx:=fun R=>x_laws_FnPartsAll l m i R K;simp only[pre_lpi,andd,dec_iff]at hI;obtain⟨h0,h1,h2,h3⟩:=hI
 by_cases hi:i<(length l:Int)
 ·have w:W64 (i+1)=i+1:=wrap_small (by omega) (by omega);have he:=all_eq_true.1 h3 _ (getD_mem (d:=pz) (by omega:i.toNat<length l));have kp:pre_lpk l m i false 0=true:=by
   simp only[pre_lpk,andd,dec_iff];exact⟨Int.le_refl 0,inb_ok h0 hi,h2⟩
  have he:(List.any m fun x=>samePt x (getD l i.toNat pz))=true:=he;rw[zT hi,kp,he,w]at hx;right;refine⟨l,m,i+1, ?_, ?_, ?_,fun R=>hx R⟩
  ·simp only[pre_lpi,andd,dec_iff];exact⟨by omega,h1,h2,h3⟩
  ·simp only[mu_lpi];omega
  ·simp only[res_lpi]
 ·left;intro R;refine(hx R).trans ?_;rw[zF hi];rfl
def g_lpi:St→Cont→Option Fin:=gP sh_lpi (fun v=>match v with | ((l,m,i,()),())=>pre_lpi l m i) (fun v K=>match v with | ((l,m,i,()),())=>res_lpi l m i K)
def L_lpi:LpL:=(11,g_lpi)::L_lpk
def cx_lpi:Cx:=(cb_lpa).withLoops (look L_lpi)
theorem l_lpi {L:LpL} (n:Nat) (h1:L.drop n=L_lpk) (h2:idsFree (L.take n) (loopOf Tryd.f3 0)=true):LoopsTo g_lpi (cb_lpa) (loopOf Tryd.f3 0) 11 L :=
 with_drop h1 h2 (gP_ok (fun v=>match v with | ((l,m,i,()),())=>mu_lpi l m i) fun v K hI=>by
  obtain⟨⟨l,m,i,⟨⟩⟩,⟨⟩⟩:=v;exact(r_lpi l m i K hI).imp id fun⟨l',m',i',h⟩=>⟨((l',m',i',()),()),h⟩)
theorem y_laws_FnPartsAll (l:List Int):evFn cx_lpi Tryd.f3 true [ofD TB l] []=(
branch (decide (1048576<(l.length:Int))) ( some ((vB true),[])) (
 need (kid9 12 (GTree.node (F_spec_DrawTreeOk l).snd.sign (F_spec_DrawTreeOk l).snd.rule (F_spec_DrawTreeOk l).snd.kids)) <|
 branch (decide ((!decide (okT (F_spec_DrawTreeOk l).fst (GTree.node (F_spec_DrawTreeOk l).snd.sign (F_spec_DrawTreeOk l).snd.rule (F_spec_DrawTreeOk l).snd.kids)=okT (F_spec_DrawTreeOk l).fst (GTree.node (F_spec_DrawTreeOk l).snd.sign (F_spec_DrawTreeOk l).snd.rule (F_spec_DrawTreeOk l).snd.kids)))=false)) (
 branch (decide ((bif false then true else !okT (F_spec_DrawTreeOk l).fst (GTree.node (F_spec_DrawTreeOk l).snd.sign (F_spec_DrawTreeOk l).snd.rule (F_spec_DrawTreeOk l).snd.kids))=false)) (
  branch (bif false then true else decide (8<(length (yldP 12 (GTree.node (F_spec_DrawTreeOk l).snd.sign (F_spec_DrawTreeOk l).snd.rule (F_spec_DrawTreeOk l).snd.kids)):Int))) ( some ((vB (decide (okT (F_spec_DrawTreeOk l).fst (GTree.node (F_spec_DrawTreeOk l).snd.sign (F_spec_DrawTreeOk l).snd.rule (F_spec_DrawTreeOk l).snd.kids)=okT (F_spec_DrawTreeOk l).fst (GTree.node (F_spec_DrawTreeOk l).snd.sign (F_spec_DrawTreeOk l).snd.rule (F_spec_DrawTreeOk l).snd.kids)))),[])) (
  need (kid9 12 (GTree.node (F_spec_DrawTreeOk l).snd.sign (F_spec_DrawTreeOk l).snd.rule (F_spec_DrawTreeOk l).snd.kids)) <|
  need (pre_lpi (List.map Prod.snd (spV 12 (GTree.node (F_spec_DrawTreeOk l).snd.sign (F_spec_DrawTreeOk l).snd.rule (F_spec_DrawTreeOk l).snd.kids) 0)) (bif both2 (F_spec_DrawTreeOk l).fst (yldP 12 (GTree.node (F_spec_DrawTreeOk l).snd.sign (F_spec_DrawTreeOk l).snd.rule (F_spec_DrawTreeOk l).snd.kids))then partsG (F_spec_DrawTreeOk l).fst (yldP 12 (GTree.node (F_spec_DrawTreeOk l).snd.sign (F_spec_DrawTreeOk l).snd.rule (F_spec_DrawTreeOk l).snd.kids))else []) 0) <| some ((vB true),[]))) ( some ((vB (decide (okT (F_spec_DrawTreeOk l).fst (GTree.node (F_spec_DrawTreeOk l).snd.sign (F_spec_DrawTreeOk l).snd.rule (F_spec_DrawTreeOk l).snd.kids)=okT (F_spec_DrawTreeOk l).fst (GTree.node (F_spec_DrawTreeOk l).snd.sign (F_spec_DrawTreeOk l).snd.rule (F_spec_DrawTreeOk l).snd.kids)))),[]))) ( some ((vB (decide (okT (F_spec_DrawTreeOk l).fst (GTree.node (F_spec_DrawTreeOk l).snd.sign (F_spec_DrawTreeOk l).snd.rule (F_spec_DrawTreeOk l).snd.kids)=okT (F_spec_DrawTreeOk l).fst (GTree.node (F_spec_DrawTreeOk l).snd.sign (F_spec_DrawTreeOk l).snd.rule (F_spec_DrawTreeOk l).snd.kids)))),[])))):=by kernel_rfl
theorem s_laws_FnPartsAll (l:List Int) (hl:Fit TB l):Sat Tryd.prog 3 [ofD TB l] [] (.d (ofD .bool true)) [] :=
 fn_sound (cx:=cx_lpi) Tryd.func3 rfl ttOk Γ71ok mixed (fun c hc=>LoopsOk.all (l:=[(11,loopOf Tryd.f3 0),(15,loopOf Tryd.f3 1)]) (by cases hc;kernel_rfl) ⟨atLoop rfl (l_lpi 1 rfl (by kernel_rfl)),atLoop rfl (l_lpk 2 rfl (by kernel_rfl)),trivial⟩) (ro:=true) (by
  rw[y_laws_FnPartsAll];obtain⟨_,ht⟩:=p_spec_DrawTreeOk l hl
  generalize F_spec_DrawTreeOk l=v at ht
  obtain⟨g,t⟩:=v;have ht:tOkW t=true:=ht;have h9:=tOkW_kid9 ht;simp only[tEta];rw[h9]
  cases hok:okT g t
  ·cases decide (1048576<(length l:Int))<;>rfl
  ·by_cases hlen:(8:Int)<((yldP 12 t).length:Int)
   ·rw[zT hlen]
    cases decide (1048576<(length l:Int))<;>rfl
   ·rw[zF hlen];unfold okT at hok;rw[andd,andd]at hok;have hb:both2 g (yldP 12 t)=true:=by
     unfold both2;rw[b2,andd,areSm_iff];exact⟨hok.1,by omega,all_eq_true.2 fun c hc=>yld_small hc⟩
    have hs:=sp_len (a:=0) h9;rw[show pw 12=1000000000000 from rfl]at hs;have kp:pre_lpi (List.map Prod.snd (spV 12 t 0)) (partsG g (yldP 12 t)) 0=true:=by
     simp only[pre_lpi,andd,dec_iff];refine⟨Int.le_refl 0,by rw[List.length_map];omega,by have:=parts_len hb;omega,all_eq_true.2 fun e he=>List.any_eq_true.2 ⟨e,parts_in hok.2.1 h9 e he,samePt_self e⟩⟩
    rw[hb];change branch _ _ (need true (branch _ (branch _ (branch _ _ (need true (need (pre_lpi (List.map Prod.snd (spV 12 t 0)) (partsG g (yldP 12 t)) 0) _))) _) _))=_;rw[kp]
    cases decide (1048576<(length l:Int))<;>rfl)
end
end Go.Proofs.YtkhhclpkljikkaaDoor.Ev
