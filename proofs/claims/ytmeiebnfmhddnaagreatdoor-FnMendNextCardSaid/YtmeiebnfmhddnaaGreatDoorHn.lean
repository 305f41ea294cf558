/-
  Distances: the reference's table.
-/
import Derived.Test.YtmeiebnfmhddnaaGreatDoorHm
namespace Go.Proofs.YtmeiebnfmhddnaaGreatDoor.Ev
open Go
noncomputable section
abbrev TI1:Ty := .list TI64
abbrev TI2:Ty := .list TI1
abbrev TI3:Ty := .list TI2
abbrev D3:Type:=List (List (List Int))
def atD (ch:D3) (k i j:Int):Int:=List.getD (List.getD (List.getD ch k.toNat []) i.toNat []) j.toNat 0
def okD5 (n:Nat) (ch:D3):Bool:=Nat.beq (List.length ch) 5&&List.all ch fun r=>Nat.beq (List.length r) n&&List.all r fun q=>Nat.beq (List.length q) n&&List.all q fun e=>decide (0≤e)&&decide (e≤100000)
def minI (a b:Int):Int:=bif decide (a<b)then a else b
theorem okD5_iff {n:Nat} {ch:D3}:okD5 n ch=true↔ch.length=5∧∀r∈ch,r.length=n∧∀q∈r,q.length=n∧∀e∈q,0≤e∧e≤100000:=by
 unfold okD5
 rw[andd,List.all_eq_true]
 constructor
 ·rintro ⟨h1,h2⟩
  refine⟨Nat.eq_of_beq_eq_true h1,fun r hr => ?_⟩
  obtain⟨h3,h4⟩:=andd.1 (h2 r hr)
  refine⟨Nat.eq_of_beq_eq_true h3,fun q hq => ?_⟩
  obtain⟨h5,h6⟩:=andd.1 (List.all_eq_true.1 h4 q hq)
  refine⟨Nat.eq_of_beq_eq_true h5,fun e he => ?_⟩
  obtain⟨h7,h8⟩:=andd.1 (List.all_eq_true.1 h6 e he)
  exact⟨dec_iff.1 h7,dec_iff.1 h8⟩
 ·rintro ⟨h1,h2⟩
  refine⟨by rw[h1];rfl,fun r hr => ?_⟩
  obtain⟨h3,h4⟩:=h2 r hr
  refine andd.2 ⟨by rw[h3];exact Nat.beq_refl n,List.all_eq_true.2 fun q hq => ?_⟩
  obtain⟨h5,h6⟩:=h4 q hq
  exact andd.2 ⟨by rw[h5];exact Nat.beq_refl n,List.all_eq_true.2 fun e he=>andd.2 ⟨decide_eq_true (h6 e he).1,decide_eq_true (h6 e he).2⟩⟩
theorem okD5_at {n:Nat} {ch:D3} (h:okD5 n ch=true) {k i:Int} (k0:0≤k) (k1:k<5) (i0:0≤i) (i1:i<(n:Int)):ch.length=5∧List.length (List.getD ch k.toNat [])=n∧List.length (List.getD (List.getD ch k.toNat []) i.toNat [])=n:=by
 obtain⟨h1,h2⟩:=okD5_iff.1 h
 obtain⟨h3,h4⟩:=h2 (List.getD ch k.toNat []) (getD_mem (by omega))
 exact⟨h1,h3,(h4 _ (getD_mem (by omega))).1⟩
theorem atD_ok {n:Nat} {ch:D3} (h:okD5 n ch=true) {k i j:Int} (k0:0≤k) (k1:k<5) (i0:0≤i) (i1:i<(n:Int)) (j0:0≤j) (j1:j<(n:Int)):0≤atD ch k i j∧atD ch k i j≤100000:=by
 obtain⟨h1,h2⟩:=okD5_iff.1 h
 obtain⟨h3,h4⟩:=h2 (List.getD ch k.toNat []) (getD_mem (by omega))
 obtain⟨h5,h6⟩:=h4 (List.getD (List.getD ch k.toNat []) i.toNat []) (getD_mem (by omega))
 exact h6 _ (getD_mem (by omega))
theorem y_spec_l8Min (a:Int) (b:Int):evFn (cxOf Γ74 Tryz.f154.ntmps [] [] [] []) Tryz.f154 true [ofD TI64 a,ofD TI64 b] []=(
branch (decide (a<b)) ( some ((vI a),[])) ( some ((vI b),[]))):=by kernel_rfl
theorem s_spec_l8Min (a:Int) (_ha:Fit TI64 a) (b:Int) (_hb:Fit TI64 b):Sat Tryz.prog 154 [ofD TI64 a,ofD TI64 b] [] (.d (ofD TI64 (minI a b))) [] :=
 fn_sound (cx:=cxOf Γ74 Tryz.f154.ntmps [] [] [] []) Tryz.func154 rfl ttOk Γ74ok mixed (fun _ _=>LoopsOk.no fun _=>rfl) (ro:=true) (by
  rw[y_spec_l8Min]
  unfold minI
  cases decide (a<b)<;>rfl)
def c_spec_l8Min:Con:=conT [TI64,TI64] fun(a:Int) (b:Int)=>(none, .d (ofD TI64 (minI a b)))
theorem k_spec_l8Min:ConOk Tryz.prog 154 c_spec_l8Min:=conT_ok Tryz.call154 fun a ha b hb _=>s_spec_l8Min a ha b hb
def Γ75:GL:=(154,c_spec_l8Min)::Γ74
theorem Γ75ok:GO Γ75 := .cons k_spec_l8Min Γ74ok
def smlD (s:Str) (c:Int) (i j:Int):Int:=bif decide (i=j)then 1 else bif inS (List.take (j.toNat-i.toNat) (List.drop i.toNat s)) c then j-i-1 else j-i
def ofS (s:Str) (ch:D3) (c i j:Int):Int:=bif smallI c then smlD s c i j else atD ch (c-65) i j
theorem y_spec_l8Small (s:Str) (c:Int) (i:Int) (j:Int):evFn (cxOf Γ75 Tryz.f172.ntmps [] [] [] []) Tryz.f172 true [ofD .str s,ofD (.int .u8) c,ofD TI64 i,ofD TI64 j] []=(
branch (decide (i=j)) ( some ((vI 1),[])) (
 need (inr i j s.length) <|
 branch (inS (List.take (j.toNat-i.toNat) (List.drop i.toNat s)) c) ( some ((vI (W64 (W64 (j-i)-1))),[])) ( some ((vI (W64 (j-i))),[])))):=by kernel_rfl
theorem s_spec_l8Small (s:Str) (_hs:Fit .str s) (c:Int) (_hc:Fit (.int .u8) c) (i:Int) (_hi:Fit TI64 i) (j:Int) (_hj:Fit TI64 j) (hpre:(okIJ s i j&&decide (List.length s≤1000))=true):Sat Tryz.prog 172 [ofD .str s,ofD (.int .u8) c,ofD TI64 i,ofD TI64 j] [] (.d (ofD TI64 (smlD s c i j))) [] :=
 fn_sound (cx:=cxOf Γ75 Tryz.f172.ntmps [] [] [] []) Tryz.func172 rfl ttOk Γ75ok mixed (fun _ _=>LoopsOk.no fun _=>rfl) (ro:=true) (by
  rw[andd,dec_iff]at hpre
  obtain⟨h1,h2⟩:=hpre
  obtain⟨i0,i1,i2⟩:=okIJ_iff.1 h1
  rw[y_spec_l8Small]
  have w:W64 (j-i)=j-i:=wrap_small (by omega) (by omega)
  have w2:W64 (j-i-1)=j-i-1:=wrap_small (by omega) (by omega)
  rw[w,w2,inr_iff.2 ⟨i0,i1,i2⟩]
  unfold smlD
  cases decide (i=j)
  ·show branch (inS (List.take (j.toNat-i.toNat) (List.drop i.toNat s)) c) _ _=_
   cases inS (List.take (j.toNat-i.toNat) (List.drop i.toNat s)) c<;>rfl
  ·rfl)
def c_spec_l8Small:Con:=conT [.str,(.int .u8),TI64,TI64] fun(s:Str) (c:Int) (i:Int) (j:Int)=>(some (okIJ s i j&&decide (List.length s≤1000)), .d (ofD TI64 (smlD s c i j)))
theorem k_spec_l8Small:ConOk Tryz.prog 172 c_spec_l8Small:=conT_ok Tryz.call172 fun s hs c hc i hi j hj hqq=>s_spec_l8Small s hs c hc i hi j hj (pre_of hqq)
def Γ76:GL:=(172,c_spec_l8Small)::Γ75
theorem Γ76ok:GO Γ76 := .cons k_spec_l8Small Γ75ok
theorem y_spec_l8Of (ch:Den TI3) (s:Str) (c:Int) (i:Int) (j:Int):evFn (cxOf Γ76 Tryz.f155.ntmps [] [] [] []) Tryz.f155 true [ofD TI3 ch,ofD .str s,ofD (.int .u8) c,ofD TI64 i,ofD TI64 j] []=(
branch (smallI c) (
 need (okIJ s i j&&decide (s.length≤1000)) <| some ((vI (smlD s c i j)),[])) (
 need (inb (W64 (IntKind.u8.wrap (c-65))) ch.length) <|
 need (inb i (List.length (List.getD ch (W64 (IntKind.u8.wrap (c-65))).toNat (dflt TI2)))) <|
 need (inb j (List.length (List.getD (List.getD ch (W64 (IntKind.u8.wrap (c-65))).toNat (dflt TI2)) i.toNat (dflt TI1)))) <| some ((vI (List.getD (List.getD (List.getD ch (W64 (IntKind.u8.wrap (c-65))).toNat (dflt TI2)) i.toNat (dflt TI1)) j.toNat 0)),[]))):=by kernel_rfl
theorem s_l8Of (ch:D3) (s:Str) (c i j:Int) (hpre:(okD5 (List.length s+1) ch&&(signI c&&(okIJ s i j&&decide (List.length s≤1000))))=true):evFn (cxOf Γ76 Tryz.f155.ntmps [] [] [] []) Tryz.f155 true [ofD TI3 ch,ofD .str s,ofD (.int .u8) c,ofD TI64 i,ofD TI64 j] []=some (.d (ofD TI64 (ofS s ch c i j)),[]):=by
 simp only[andd,dec_iff]at hpre
 obtain⟨h1,h2,h3,h4⟩:=hpre
 obtain⟨i0,i1,i2⟩:=okIJ_iff.1 h3
 refine(y_spec_l8Of ch s c i j).trans ?_
 unfold ofS
 cases hsm:smallI c
 ·unfold signI at h2
  rw[hsm,Bool.false_or,andd,dec_iff,dec_iff]at h2
  have w2:W64 (IntKind.u8.wrap (c-65))=c-65:=by
   have e1:IntKind.u8.wrap (c-65)=c-65:=by
    show(c-65) % 256=_
    exact Int.emod_eq_of_lt (by omega) (by omega)
   rw[e1]
   exact wrap_small (by omega) (by omega)
  obtain⟨l1,l2,l3⟩:=okD5_at h1 (k:=c-65) (i:=i) (by omega) (by omega) i0 (by omega)
  rw[w2]
  change need (inb (c-65) (List.length ch)) (need (inb i (List.length (List.getD ch (c-65).toNat []))) (need (inb j (List.length (List.getD (List.getD ch (c-65).toNat []) i.toNat []))) _))=_
  rw[l1,l2,l3,inb_ok (by omega) (by omega),inb_ok (by omega) (by omega),inb_ok (by omega) (by omega)];rfl
 ·rw[andd.2 ⟨h3,decide_eq_true h4⟩];rfl
theorem s_spec_l8Of (ch:Den TI3) (_hch:Fit TI3 ch) (s:Str) (_hs:Fit .str s) (c:Int) (_hc:Fit (.int .u8) c) (i:Int) (_hi:Fit TI64 i) (j:Int) (_hj:Fit TI64 j) (hpre:(okD5 (List.length s+1) ch&&(signI c&&(okIJ s i j&&decide (List.length s≤1000))))=true):Sat Tryz.prog 155 [ofD TI3 ch,ofD .str s,ofD (.int .u8) c,ofD TI64 i,ofD TI64 j] [] (.d (ofD TI64 (ofS s ch c i j))) [] :=
 fn_sound (cx:=cxOf Γ76 Tryz.f155.ntmps [] [] [] []) Tryz.func155 rfl ttOk Γ76ok mixed (fun _ _=>LoopsOk.no fun _=>rfl) (ro:=true) (by
  exact s_l8Of ch s c i j hpre)
def c_spec_l8Of:Con:=conT [TI3, .str,(.int .u8),TI64,TI64] fun(ch:Den TI3) (s:Str) (c:Int) (i:Int) (j:Int)=>(some (okD5 (List.length s+1) ch&&(signI c&&(okIJ s i j&&decide (List.length s≤1000)))), .d (ofD TI64 (ofS s ch c i j)))
theorem k_spec_l8Of:ConOk Tryz.prog 155 c_spec_l8Of:=conT_ok Tryz.call155 fun ch hch s hs c hc i hi j hj hqq=>s_spec_l8Of ch hch s hs c hc i hi j hj (pre_of hqq)
def Γ77:GL:=(155,c_spec_l8Of)::Γ76
theorem Γ77ok:GO Γ77 := .cons k_spec_l8Of Γ76ok
def cb_l8r:Cx:=cxOf Γ77 Tryz.f131.ntmps [(20,[0,1,2,3,9,10,12,13,14,15,16]),(16,[0,1,2,3,9,10,12,13,14]),(12,[0,1,2,3,9,10,12]),(4,[0,1,2,3,9,10,11])] [(3,[10]),(4,[0,1,2,3,9,10,12]),(5,[0,1,2,3,9,12,13]),(6,[0,1,2,3,9,10,12,13,14]),(7,[0,1,2,3,9,10,12,13,14,15]),(8,[0,1,2,3,9,10,12,13,14,15,16]),(0,[0,1,2,3,9,10]),(1,[0,1,2,3,9,10,11]),(2,[0,1,2,3,9,10,11]),(1000000,[8])] [] []
theorem x_spec_l8Row_3 (ch:D3) (s a:Str) (i n k j b p:Int) (row nx:List Int) (R:St→Option Fin) (K:Cont):evC (cb_l8r.withLoops (look [])) (loopOf Tryz.f131 3) ⟨[(0, .d (ofD TI3 ch)),(1,vS s),(2,vS a),(3,vI i),(9,vI n),(10, oA),(12,vI k),(13, oB),(14,vI j),(15,vI b),(16,vI p)],[(500000,some (.lis 3 TI64 row)),(500001,some (.lis 3 TI64 nx))]⟩ (onward (headAt (cb_l8r.withLoops (look [])) 20) R K)=(
branch (decide (p≤j)) (
 need (inb p row.length) <|
 need (inb k a.length) <|
 need (okD5 (List.length s+1) ch&&(signI (byteAt a k)&&(okIJ s p j&&decide (s.length≤1000)))) <| R (.mk [(0,(.d (.one (.r (.li TI2 ch))))),(1,vS s),(2,vS a),(3,vI i),(9,vI n),(10,oA),(12,vI k),(13,oB),(14,vI j),(15,(vI (minI b (W64 (Int.add (row.getD p.toNat 0) (ofS s ch (byteAt a k) p j)))))),(16,vI (W64 (p+1)))] [(500000,some (.lis 3 TI64 row)),(500001,some (.lis 3 TI64 nx))])) ( K (.exit 7) (.mk [(0,(.d (.one (.r (.li TI2 ch))))),(1,vS s),(2,vS a),(3,vI i),(9,vI n),(10,oA),(12,vI k),(13,oB),(14,vI j),(15,vI b)] [(500000,some (.lis 3 TI64 row)),(500001,some (.lis 3 TI64 nx))]))):=by kernel_rfl
theorem smlD_ok {s:Str} {c i j:Int} (h:okIJ s i j=true) (hs:List.length s≤1000):0≤smlD s c i j∧smlD s c i j≤100000:=by
 obtain⟨i0,i1,i2⟩:=okIJ_iff.1 h
 unfold smlD
 by_cases hij:i=j
 ·rw[decide_eq_true hij,cond_true]
  exact⟨by decide,by decide⟩
 ·rw[decide_eq_false hij,cond_false]
  cases inS (List.take (j.toNat-i.toNat) (List.drop i.toNat s)) c
  ·rw[cond_false];omega
  ·rw[cond_true];omega
theorem ofS_ok {s:Str} {ch:D3} {c i j:Int} (h1:okD5 (List.length s+1) ch=true) (h2:signI c=true) (h3:okIJ s i j=true) (h4:List.length s≤1000):0≤ofS s ch c i j∧ofS s ch c i j≤100000:=by
 obtain⟨i0,i1,i2⟩:=okIJ_iff.1 h3
 unfold ofS
 cases hsm:smallI c
 ·unfold signI at h2
  rw[hsm,Bool.false_or,andd,dec_iff,dec_iff]at h2
  exact atD_ok h1 (by omega) (by omega) i0 (by omega) (by omega) (by omega)
 ·exact smlD_ok h3 h4
theorem minI_ok {a b:Int} (h:0≤a∧a≤100000) (h2:0≤b):0≤minI a b∧minI a b≤100000:=by
 unfold minI
 cases hc:decide (a<b)
 ·rw[cond_false]
  have:=of_decide_eq_false hc
  omega
 ·exact h
def bestF (f:Int→Int):Nat→Int→Int→Int
 |0,_,b=>b
 |n+1,p,b=>bestF f n (p+1) (minI b (f p))
theorem bestF_ok {f:Int→Int}:∀ {n:Nat} {p b:Int},(0≤b∧b≤100000)→(∀q,p≤q→q<p+n→0≤f q)→0≤bestF f n p b∧bestF f n p b≤100000
 |0,_,_,h,_=>h
 |n+1,p,b,h,hf=>bestF_ok (n:=n) (p:=p+1) (b:=minI b (f p)) (minI_ok h (hf p (Int.le_refl _) (by omega))) fun q q1 q2=>hf q (by omega) (by omega)
def okE (e:Int):Bool:=decide (0≤e)&&decide (e≤100000)
theorem okE_iff {e:Int}:okE e=true↔0≤e∧e≤100000:=by unfold okE;rw[andd,dec_iff,dec_iff]
def okL5 (l:List Int):Bool:=List.all l okE
theorem okL5_at {l:List Int} {i:Nat} (h:okL5 l=true) (hi:i<l.length):0≤l.getD i 0∧l.getD i 0≤100000:=okE_iff.1 (List.all_eq_true.1 h _ (getD_mem hi))
abbrev fRow (s:Str) (ch:D3) (row:List Int) (c j:Int):Int→Int:=fun p=>row.getD p.toNat 0+ofS s ch c p j
theorem byte_sign {a:Str} {k:Int} (h:List.all a sign=true) (k0:0≤k) (k1:k<(List.length a:Int)):signI (byteAt a k)=true:=sign_I (List.all_eq_true.1 h _ (getD_mem (by omega)))
abbrev rwH (row nx:List Int):Heap:=[(500000,some (.lis 3 TI64 row)),(500001,some (.lis 3 TI64 nx))]
def cx0_r4:Cx:=(cb_l8r).withLoops (look [])
def sh_r4:Sh:=([(0, .d TI3),(1, .d .str),(2, .d .str),(3, .d TI64),(9, .d TI64),(10, .own 500000),(12, .d TI64),(13, .own 500001),(14, .d TI64),(15, .d TI64),(16, .d TI64)],[(500000, .lis 3 TI64),(500001, .lis 3 TI64)])
abbrev st_r4 (ch:Den TI3) (s a:Str) (i n k j b p:Int) (row nx:List (Int)):St:=⟨[(0, .d (ofD TI3 ch)),(1,vS s),(2,vS a),(3,vI i),(9,vI n),(10, .d (.one (.own 500000))),(12,vI k),(13, .d (.one (.own 500001))),(14,vI j),(15,vI b),(16,vI p)],[(500000,some (.lis 3 TI64 row)),(500001,some (.lis 3 TI64 nx))]⟩
def pre_r4 (ch:Den TI3) (s a:Str) (_i _n k j b p:Int) (row _nx:List (Int)):Bool:=decide (0≤p)&&(decide (j≤(List.length s:Int))&&(okD5 (List.length s+1) ch&&(List.all a sign&&(decide (0≤k)&&(decide (k<(List.length a:Int))&&(decide (List.length s≤1000)&&(decide (List.length row=List.length s+1)&&(okL5 row&&okE b))))))))
def res_r4 (ch:Den TI3) (s a:Str) (i n k j b p:Int) (row nx:List (Int)) (K:Cont):Option Fin:=K (.exit 7) ⟨[(0, .d (ofD TI3 ch)),(1,vS s),(2,vS a),(3,vI i),(9,vI n),(10, oA),(12,vI k),(13, oB),(14,vI j),(15,vI (bestF (fRow s ch row (byteAt a k) j) (j+1-p).toNat p b))],rwH row nx⟩
def mu_r4 (_ch:Den TI3) (_s _a:Str) (_i _n _k j _b p:Int) (_row _nx:List (Int)):Nat:=(j+1-p).toNat
theorem r_r4 (ch:Den TI3) (s a:Str) (i n k j b p:Int) (row nx:List (Int)) (K:Cont) (hI:pre_r4 ch s a i n k j b p row nx=true):(∀R:St→Option Fin,evC cx0_r4 (loopOf Tryz.f131 3) (st_r4 ch s a i n k j b p row nx) (onward (headAt cx0_r4 20) R K)=res_r4 ch s a i n k j b p row nx K) ∨
  (∃(ch':Den TI3) (s' a':Str) (i' n' k' j' b' p':Int) (row' nx':List (Int)),pre_r4 ch' s' a' i' n' k' j' b' p' row' nx'=true∧mu_r4 ch' s' a' i' n' k' j' b' p' row' nx'<mu_r4 ch s a i n k j b p row nx∧res_r4 ch' s' a' i' n' k' j' b' p' row' nx' K=res_r4 ch s a i n k j b p row nx K∧∀R:St→Option Fin,evC cx0_r4 (loopOf Tryz.f131 3) (st_r4 ch s a i n k j b p row nx) (onward (headAt cx0_r4 20) R K)=R (st_r4 ch' s' a' i' n' k' j' b' p' row' nx')):=by
 have hx:=fun R=>x_spec_l8Row_3 ch s a i n k j b p row nx R K
 simp only[pre_r4,andd,dec_iff]at hI
 obtain⟨h0,h1,h2,h3,h4,h5,h6,h7,h8,h9⟩:=hI
 by_cases hp:p≤j
 ·have w:W64 (p+1)=p+1:=wrap_small (by omega) (by omega)
  have kij:okIJ s p j=true:=okIJ_iff.2 ⟨h0,hp,h1⟩
  have ksg:=byte_sign h3 h4 h5
  have kk:(okD5 (List.length s+1) ch&&(signI (byteAt a k)&&(okIJ s p j&&decide (List.length s≤1000))))=true:=andd.2 ⟨h2,andd.2 ⟨ksg,andd.2 ⟨kij,decide_eq_true h6⟩⟩⟩
  obtain⟨r0,r1⟩:=okL5_at (i:=p.toNat) h8 (by omega)
  obtain⟨o0,o1⟩:=ofS_ok h2 ksg kij h6
  have w2:W64 (Int.add (List.getD row p.toNat 0) (ofS s ch (byteAt a k) p j))=fRow s ch row (byteAt a k) j p:=wrap_small (n:=List.getD row p.toNat 0+ofS s ch (byteAt a k) p j) (by omega) (by omega)
  obtain⟨m,hm⟩:∃m,(j+1-p).toNat=m+1:=⟨(j+1-p).toNat-1,by omega⟩
  have hm2:(j+1-(p+1)).toNat=m:=by omega
  have hmin:=minI_ok (okE_iff.1 h9) (show 0≤fRow s ch row (byteAt a k) j p by show 0≤List.getD row p.toNat 0+ofS s ch (byteAt a k) p j;omega)
  rw[decide_eq_true hp,inb_ok h0 (by omega),inb_ok h4 h5,kk,w,w2]at hx
  right
  refine⟨ch,s,a,i,n,k,j,minI b (fRow s ch row (byteAt a k) j p),p+1,row,nx, ?_, ?_, ?_,fun R=>hx R⟩
  ·simp only[pre_r4,andd,dec_iff]
   exact⟨by omega,h1,h2,h3,h4,h5,h6,h7,h8,okE_iff.2 hmin⟩
  ·simp only[mu_r4];omega
  ·simp only[res_r4,hm,hm2];rfl
 ·left
  intro R
  refine(hx R).trans ?_
  rw[decide_eq_false hp]
  have e:(j+1-p).toNat=0:=by omega
  simp only[res_r4,e];rfl
def g_r4:St→Cont→Option Fin:=gP sh_r4 (fun v=>match v with | ((ch,s,a,i,n,k,j,b,p,()),(row,nx,()))=>pre_r4 ch s a i n k j b p row nx) (fun v K=>match v with | ((ch,s,a,i,n,k,j,b,p,()),(row,nx,()))=>res_r4 ch s a i n k j b p row nx K)
def L_r4:LpL:=(20,g_r4)::[]
theorem l_r4 {L:LpL} (n:Nat) (h1:L.drop n=[]) (h2:idsFree (L.take n) (loopOf Tryz.f131 3)=true):LoopsTo g_r4 (cb_l8r) (loopOf Tryz.f131 3) 20 L :=
 with_drop h1 h2 (gP_ok (fun v=>match v with | ((ch,s,a,i,n,k,j,b,p,()),(row,nx,()))=>mu_r4 ch s a i n k j b p row nx) fun v K hI=>by
  obtain⟨⟨ch,s,a,i,n,k,j,b,p,⟨⟩⟩,⟨row,nx,⟨⟩⟩⟩:=v
  exact(r_r4 ch s a i n k j b p row nx K hI).imp id fun⟨ch',s',a',i',n',k',j',b',p',row',nx',h⟩=>⟨((ch',s',a',i',n',k',j',b',p',()),(row',nx',())),h⟩)
theorem x_spec_l8Row_2 (ch:D3) (s a:Str) (i n k j:Int) (row nx:List Int) (R:St→Option Fin) (K:Cont):evC (cb_l8r.withLoops (look L_r4)) (loopOf Tryz.f131 2) ⟨[(0, .d (ofD TI3 ch)),(1,vS s),(2,vS a),(3,vI i),(9,vI n),(10, oA),(12,vI k),(13, oB),(14,vI j)],[(500000,some (.lis 3 TI64 row)),(500001,some (.lis 3 TI64 nx))]⟩ (onward (headAt (cb_l8r.withLoops (look L_r4)) 16) R K)=(
branch (decide (j<n)) (
 need (pre_r4 ch s a i n k j 100000 i row nx) <|
 need (fits (nx.length+[bestF (fRow s ch row (byteAt a k) j) (j+1-i).toNat i 100000].length) Tryz.t3.bytes) <| R (.mk [(0,(.d (.one (.r (.li TI2 ch))))),(1,vS s),(2,vS a),(3,vI i),(9,vI n),(10,oA),(12,vI k),(13,oB),(14,vI (W64 (j+1)))] [(500000,some (.lis 3 TI64 row)),(500001,(.some (.lis 3 ty3 (nx.append [bestF (fRow s ch row (byteAt a k) j) (j+1-i).toNat i 100000]))))])) ( K (.exit 5) (.mk [(0,(.d (.one (.r (.li TI2 ch))))),(1,vS s),(2,vS a),(3,vI i),(9,vI n),(12,vI k),(13,oA)] [(500000,some (.lis 3 TI64 nx))]))):=by kernel_rfl
def nextF (s:Str) (ch:D3) (row:List Int) (c i:Int):Nat→Int→List Int
 |0,_=>[]
 |n+1,j=>bestF (fRow s ch row c j) (j+1-i).toNat i 100000::nextF s ch row c i n (j+1)
theorem nextF_len {s:Str} {ch:D3} {row:List Int} {c i:Int}:∀ {n:Nat} {j:Int},(nextF s ch row c i n j).length=n
 |0,_=>rfl
 |n+1,j=>by
  unfold nextF
  rw[List.length_cons,nextF_len]
theorem bestR_ok {s:Str} {ch:D3} {row:List Int} {c i j:Int} (h1:okD5 (List.length s+1) ch=true) (h2:signI c=true) (i0:0≤i) (j1:j≤(List.length s:Int)) (h4:List.length s≤1000) (hl:List.length row=List.length s+1) (hr:okL5 row=true):0≤bestF (fRow s ch row c j) (j+1-i).toNat i 100000∧bestF (fRow s ch row c j) (j+1-i).toNat i 100000≤100000:=by
 refine bestF_ok ⟨by decide,by decide⟩ fun q q0 q1 => ?_
 have:=okL5_at (i:=q.toNat) hr (by omega)
 have:=ofS_ok (s:=s) (ch:=ch) (c:=c) (i:=q) (j:=j) h1 h2 (okIJ_iff.2 ⟨by omega,by omega,j1⟩) h4
 show 0≤List.getD row q.toNat 0+ofS s ch c q j
 omega
theorem nextF_ok {s:Str} {ch:D3} {row:List Int} {c i:Int} (h1:okD5 (List.length s+1) ch=true) (h2:signI c=true) (i0:0≤i) (h4:List.length s≤1000) (hl:List.length row=List.length s+1) (hr:okL5 row=true):∀ {n:Nat} {j:Int},j+n≤(List.length s:Int)+1→okL5 (nextF s ch row c i n j)=true
 |0,_,_=>rfl
 |n+1,j,hj=>by
  unfold nextF
  exact andd.2 ⟨okE_iff.2 (bestR_ok h1 h2 i0 (by omega) h4 hl hr),nextF_ok h1 h2 i0 h4 hl hr (n:=n) (j:=j+1) (by omega)⟩
def cx0_r3:Cx:=(cb_l8r).withLoops (look L_r4)
def sh_r3:Sh:=([(0, .d TI3),(1, .d .str),(2, .d .str),(3, .d TI64),(9, .d TI64),(10, .own 500000),(12, .d TI64),(13, .own 500001),(14, .d TI64)],[(500000, .lis 3 TI64),(500001, .lis 3 TI64)])
abbrev st_r3 (ch:Den TI3) (s a:Str) (i n k j:Int) (row nx:List (Int)):St:=⟨[(0, .d (ofD TI3 ch)),(1,vS s),(2,vS a),(3,vI i),(9,vI n),(10, .d (.one (.own 500000))),(12,vI k),(13, .d (.one (.own 500001))),(14,vI j)],[(500000,some (.lis 3 TI64 row)),(500001,some (.lis 3 TI64 nx))]⟩
def pre_r3 (ch:Den TI3) (s a:Str) (i n k j:Int) (row nx:List (Int)):Bool:=decide (0≤i)&&(decide (0≤j)&&(decide (n=(List.length s:Int)+1)&&(okD5 (List.length s+1) ch&&(List.all a sign&&(decide (0≤k)&&(decide (k<(List.length a:Int))&&(decide (List.length s≤1000)&&(decide (List.length row=List.length s+1)&&(okL5 row&&decide ((List.length nx:Int)=j))))))))))
def res_r3 (ch:Den TI3) (s a:Str) (i n k j:Int) (row nx:List (Int)) (K:Cont):Option Fin:=K (.exit 5) ⟨[(0, .d (ofD TI3 ch)),(1,vS s),(2,vS a),(3,vI i),(9,vI n),(12,vI k),(13, oA)],[(500000,some (.lis 3 TI64 (nx++nextF s ch row (byteAt a k) i (n-j).toNat j)))]⟩
def mu_r3 (_ch:Den TI3) (_s _a:Str) (_i n _k j:Int) (_row _nx:List (Int)):Nat:=(n-j).toNat
theorem r_r3 (ch:Den TI3) (s a:Str) (i n k j:Int) (row nx:List (Int)) (K:Cont) (hI:pre_r3 ch s a i n k j row nx=true):(∀R:St→Option Fin,evC cx0_r3 (loopOf Tryz.f131 2) (st_r3 ch s a i n k j row nx) (onward (headAt cx0_r3 16) R K)=res_r3 ch s a i n k j row nx K) ∨
  (∃(ch':Den TI3) (s' a':Str) (i' n' k' j':Int) (row' nx':List (Int)),pre_r3 ch' s' a' i' n' k' j' row' nx'=true∧mu_r3 ch' s' a' i' n' k' j' row' nx'<mu_r3 ch s a i n k j row nx∧res_r3 ch' s' a' i' n' k' j' row' nx' K=res_r3 ch s a i n k j row nx K∧∀R:St→Option Fin,evC cx0_r3 (loopOf Tryz.f131 2) (st_r3 ch s a i n k j row nx) (onward (headAt cx0_r3 16) R K)=R (st_r3 ch' s' a' i' n' k' j' row' nx')):=by
 have hx:=fun R=>x_spec_l8Row_2 ch s a i n k j row nx R K
 simp only[pre_r3,andd,dec_iff]at hI
 obtain⟨h0,h1,hn,h2,h3,h4,h5,h6,h7,h8,h9⟩:=hI
 by_cases hj:j<n
 ·have w:W64 (j+1)=j+1:=wrap_small (by omega) (by omega)
  have hok:=bestR_ok (j:=j) h2 (byte_sign h3 h4 h5) h0 (by omega) h6 h7 h8
  have hp:pre_r4 ch s a i n k j 100000 i row nx=true:=by
   simp only[pre_r4,andd,dec_iff]
   exact⟨h0,by omega,h2,h3,h4,h5,h6,h7,h8,rfl⟩
  have hf:fits (nx.length+[bestF (fRow s ch row (byteAt a k) j) (j+1-i).toNat i 100000].length) Tryz.t3.bytes=true:=fits_ok (by show nx.length+1≤_;omega) (by decide)
  obtain⟨m,hm⟩:∃m,(n-j).toNat=m+1:=⟨(n-j).toNat-1,by omega⟩
  have hm2:(n-(j+1)).toNat=m:=by omega
  rw[decide_eq_true hj,hp,hf,w]at hx
  right
  refine⟨ch,s,a,i,n,k,j+1,row,nx++[bestF (fRow s ch row (byteAt a k) j) (j+1-i).toNat i 100000], ?_, ?_, ?_,fun R=>hx R⟩
  ·simp only[pre_r3,andd,dec_iff]
   rw[List.length_append]
   exact⟨h0,by omega,hn,h2,h3,h4,h5,h6,h7,h8,by show((nx.length+1:Nat):Int)=_;omega⟩
  ·simp only[mu_r3];omega
  ·simp only[res_r3,hm,hm2,List.append_assoc];rfl
 ·left
  intro R
  refine(hx R).trans ?_
  rw[decide_eq_false hj]
  have e:(n-j).toNat=0:=by omega
  simp only[res_r3,e,nextF,List.append_nil];rfl
def g_r3:St→Cont→Option Fin:=gP sh_r3 (fun v=>match v with | ((ch,s,a,i,n,k,j,()),(row,nx,()))=>pre_r3 ch s a i n k j row nx) (fun v K=>match v with | ((ch,s,a,i,n,k,j,()),(row,nx,()))=>res_r3 ch s a i n k j row nx K)
def L_r3:LpL:=(16,g_r3)::L_r4
theorem l_r3 {L:LpL} (n:Nat) (h1:L.drop n=L_r4) (h2:idsFree (L.take n) (loopOf Tryz.f131 2)=true):LoopsTo g_r3 (cb_l8r) (loopOf Tryz.f131 2) 16 L :=
 with_drop h1 h2 (gP_ok (fun v=>match v with | ((ch,s,a,i,n,k,j,()),(row,nx,()))=>mu_r3 ch s a i n k j row nx) fun v K hI=>by
  obtain⟨⟨ch,s,a,i,n,k,j,⟨⟩⟩,⟨row,nx,⟨⟩⟩⟩:=v
  exact(r_r3 ch s a i n k j row nx K hI).imp id fun⟨ch',s',a',i',n',k',j',row',nx',h⟩=>⟨((ch',s',a',i',n',k',j',()),(row',nx',())),h⟩)
theorem x_spec_l8Row_1 (ch:D3) (s a:Str) (i n k:Int) (row:List Int) (R:St→Option Fin) (K:Cont):evC (cb_l8r.withLoops (look L_r3)) (loopOf Tryz.f131 1) ⟨[(0, .d (ofD TI3 ch)),(1,vS s),(2,vS a),(3,vI i),(9,vI n),(10, oA),(12,vI k)],[(500000,some (.lis 3 TI64 row))]⟩ (onward (headAt (cb_l8r.withLoops (look L_r3)) 12) R K)=(
branch (decide (k<(a.length:Int))) (
 need (pre_r3 ch s a i n k 0 row []) <| R (.mk [(0,(.d (.one (.r (.li TI2 ch))))),(1,vS s),(2,vS a),(3,vI i),(9,vI n),(10,oA),(12,vI (W64 (k+1)))] [(500000,(.some (.lis 3 TI64 (id (nextF s ch row (byteAt a k) i (n-0).toNat 0)))))])) ( K (.exit 3) (.mk [(10,oA)] [(500000,some (.lis 3 TI64 row))]))):=by kernel_rfl
def rowsF (s:Str) (ch:D3) (i:Int):Str→List Int→List Int
 | [],row=>row
 |c::r,row=>rowsF s ch i r (nextF s ch row (c.toNat:Int) i (List.length s+1) 0)
theorem rowsF_ok {s:Str} {ch:D3} {i:Int} (h1:okD5 (List.length s+1) ch=true) (i0:0≤i) (h4:List.length s≤1000):∀ {r:Str} {row:List Int},List.all r sign=true→List.length row=List.length s+1→okL5 row=true→List.length (rowsF s ch i r row)=List.length s+1∧okL5 (rowsF s ch i r row)=true
 | [],_,_,hl,h=>⟨hl,h⟩
 |c::r,row,ha,hl,h=>by
  rw[List.all_cons,andd]at ha
  unfold rowsF
  exact rowsF_ok h1 i0 h4 (r:=r) ha.2 nextF_len (nextF_ok h1 (sign_I ha.1) i0 h4 hl h (by omega))
theorem rowsF_at {s:Str} {ch:D3} {i k:Int} {a:Str} {row:List Int} (k0:0≤k) (k1:k<(List.length a:Int)):rowsF s ch i (List.drop k.toNat a) row=rowsF s ch i (List.drop (k+1).toNat a) (nextF s ch row (byteAt a k) i (List.length s+1) 0):=by
 have hn:k.toNat<List.length a:=by omega
 have hb:byteAt a k=((a[k.toNat]).toNat:Int):=by
  unfold byteAt
  rw[List.getD_eq_getElem?_getD,List.getElem?_eq_getElem hn];rfl
 rw[List.drop_eq_getElem_cons hn,show (k+1).toNat=k.toNat+1 by omega,hb];rfl
def cx0_r2:Cx:=(cb_l8r).withLoops (look L_r3)
def sh_r2:Sh:=([(0, .d TI3),(1, .d .str),(2, .d .str),(3, .d TI64),(9, .d TI64),(10, .own 500000),(12, .d TI64)],[(500000, .lis 3 TI64)])
abbrev st_r2 (ch:Den TI3) (s a:Str) (i n k:Int) (row:List (Int)):St:=⟨[(0, .d (ofD TI3 ch)),(1,vS s),(2,vS a),(3,vI i),(9,vI n),(10, .d (.one (.own 500000))),(12,vI k)],[(500000,some (.lis 3 TI64 row))]⟩
def pre_r2 (ch:Den TI3) (s a:Str) (i n k:Int) (row:List (Int)):Bool:=decide (0≤i)&&(decide (0≤k)&&(decide (n=(List.length s:Int)+1)&&(okD5 (List.length s+1) ch&&(List.all a sign&&(decide (List.length a≤1000)&&(decide (List.length s≤1000)&&(decide (List.length row=List.length s+1)&&okL5 row)))))))
def res_r2 (ch:Den TI3) (s a:Str) (i _n k:Int) (row:List (Int)) (K:Cont):Option Fin:=K (.exit 3) ⟨[(10, oA)],[(500000,some (.lis 3 TI64 (rowsF s ch i (List.drop k.toNat a) row)))]⟩
def mu_r2 (_ch:Den TI3) (_s a:Str) (_i _n k:Int) (_row:List (Int)):Nat:=List.length a-k.toNat
theorem r_r2 (ch:Den TI3) (s a:Str) (i n k:Int) (row:List (Int)) (K:Cont) (hI:pre_r2 ch s a i n k row=true):(∀R:St→Option Fin,evC cx0_r2 (loopOf Tryz.f131 1) (st_r2 ch s a i n k row) (onward (headAt cx0_r2 12) R K)=res_r2 ch s a i n k row K) ∨
  (∃(ch':Den TI3) (s' a':Str) (i' n' k':Int) (row':List (Int)),pre_r2 ch' s' a' i' n' k' row'=true∧mu_r2 ch' s' a' i' n' k' row'<mu_r2 ch s a i n k row∧res_r2 ch' s' a' i' n' k' row' K=res_r2 ch s a i n k row K∧∀R:St→Option Fin,evC cx0_r2 (loopOf Tryz.f131 1) (st_r2 ch s a i n k row) (onward (headAt cx0_r2 12) R K)=R (st_r2 ch' s' a' i' n' k' row')):=by
 have hx:=fun R=>x_spec_l8Row_1 ch s a i n k row R K
 simp only[pre_r2,andd,dec_iff]at hI
 obtain⟨h0,h1,hn,h2,h3,h4,h6,h7,h8⟩:=hI
 by_cases hk:k<(List.length a:Int)
 ·have w:W64 (k+1)=k+1:=wrap_small (by omega) (by omega)
  have hp:pre_r3 ch s a i n k 0 row []=true:=by
   simp only[pre_r3,andd,dec_iff]
   exact⟨h0,Int.le_refl 0,hn,h2,h3,h1,hk,h6,h7,h8,rfl⟩
  have hm:(n-0).toNat=List.length s+1:=by omega
  have hg:=rowsF_at (s:=s) (ch:=ch) (i:=i) (row:=row) h1 hk
  have hok:=nextF_ok (n:=List.length s+1) (j:=0) h2 (byte_sign h3 h1 hk) h0 h6 h7 h8 (by omega)
  rw[decide_eq_true hk,hp,w,hm]at hx
  right
  refine⟨ch,s,a,i,n,k+1,nextF s ch row (byteAt a k) i (List.length s+1) 0, ?_, ?_, ?_,fun R=>hx R⟩
  ·simp only[pre_r2,andd,dec_iff]
   exact⟨h0,by omega,hn,h2,h3,h4,h6,nextF_len,hok⟩
  ·simp only[mu_r2];omega
  ·simp only[res_r2,hg]
 ·left
  intro R
  refine(hx R).trans ?_
  rw[decide_eq_false hk]
  have e:List.drop k.toNat a=[]:=List.drop_eq_nil_of_le (by omega)
  simp only[res_r2,e];rfl
def g_r2:St→Cont→Option Fin:=gP sh_r2 (fun v=>match v with | ((ch,s,a,i,n,k,()),(row,()))=>pre_r2 ch s a i n k row) (fun v K=>match v with | ((ch,s,a,i,n,k,()),(row,()))=>res_r2 ch s a i n k row K)
def L_r2:LpL:=(12,g_r2)::L_r3
theorem l_r2 {L:LpL} (n:Nat) (h1:L.drop n=L_r3) (h2:idsFree (L.take n) (loopOf Tryz.f131 1)=true):LoopsTo g_r2 (cb_l8r) (loopOf Tryz.f131 1) 12 L :=
 with_drop h1 h2 (gP_ok (fun v=>match v with | ((ch,s,a,i,n,k,()),(row,()))=>mu_r2 ch s a i n k row) fun v K hI=>by
  obtain⟨⟨ch,s,a,i,n,k,⟨⟩⟩,⟨row,⟨⟩⟩⟩:=v
  exact(r_r2 ch s a i n k row K hI).imp id fun⟨ch',s',a',i',n',k',row',h⟩=>⟨((ch',s',a',i',n',k',()),(row',())),h⟩)
theorem x_spec_l8Row (ch:D3) (s a:Str) (i n j:Int) (row:List Int) (R:St→Option Fin) (K:Cont):evC (cb_l8r.withLoops (look L_r2)) (loopOf Tryz.f131 0) ⟨[(0, .d (ofD TI3 ch)),(1,vS s),(2,vS a),(3,vI i),(9,vI n),(10, oA),(11,vI j)],[(500000,some (.lis 3 TI64 row))]⟩ (onward (headAt (cb_l8r.withLoops (look L_r2)) 4) R K)=(
branch (decide (j<n)) (
 branch (bif decide (a=[])then decide (i≤j)else false) (
 need (fits (row.length+[W64 (j-i)].length) Tryz.t3.bytes) <| R (.mk [(0,(.d (.one (.r (.li TI2 ch))))),(1,vS s),(2,vS a),(3,vI i),(9,vI n),(10,oA),(11,vI (W64 (j+1)))] [(500000,(.some (.lis 3 ty3 (row.append [W64 (j-i)]))))])) (
 branch (decide (j=i)) (
  need (fits (row.length+[0].length) Tryz.t3.bytes) <| R (.mk [(0,(.d (.one (.r (.li TI2 ch))))),(1,vS s),(2,vS a),(3,vI i),(9,vI n),(10,oA),(11,vI (W64 (j+1)))] [(500000,(.some (.lis 3 ty3 (row.append [0]))))])) (
  need (fits (row.length+[100000].length) Tryz.t3.bytes) <| R (.mk [(0,(.d (.one (.r (.li TI2 ch))))),(1,vS s),(2,vS a),(3,vI i),(9,vI n),(10,oA),(11,vI (W64 (j+1)))] [(500000,(.some (.lis 3 ty3 (row.append [100000]))))])))) ( K (.exit 0) (.mk [(0,(.d (.one (.r (.li TI2 ch))))),(1,vS s),(2,vS a),(3,vI i),(9,vI n),(10,oA)] [(500000,some (.lis 3 TI64 row))]))):=by kernel_rfl
def e0 (a:Str) (i j:Int):Int:=bif (bif decide (a=[])then decide (i≤j)else false)then j-i else bif decide (j=i)then 0 else 100000
def initF (a:Str) (i:Int):Nat→Int→List Int
 |0,_=>[]
 |n+1,j=>e0 a i j::initF a i n (j+1)
theorem initF_len {a:Str} {i:Int}:∀ {n:Nat} {j:Int},(initF a i n j).length=n
 |0,_=>rfl
 |n+1,j=>by
  unfold initF
  rw[List.length_cons,initF_len]
theorem e0_ok {a:Str} {i j:Int} (i0:0≤i) (j1:j≤1000):0≤e0 a i j∧e0 a i j≤100000:=by
 unfold e0
 cases hc:(bif decide (a=[])then decide (i≤j)else false)
 ·rw[cond_false]
  cases decide (j=i)
  ·exact ⟨by decide,by decide⟩
  ·exact ⟨by decide,by decide⟩
 ·rw[cond_true]
  cases ha:decide (a=[])
  ·rw[ha]at hc;cases hc
  ·rw[ha,cond_true,dec_iff]at hc
   omega
theorem initF_ok {a:Str} {i:Int} (i0:0≤i):∀ {n:Nat} {j:Int},j+n≤1001→okL5 (initF a i n j)=true
 |0,_,_=>rfl
 |n+1,j,h=>by
  unfold initF
  exact andd.2 ⟨okE_iff.2 (e0_ok i0 (by omega)),initF_ok i0 (n:=n) (j:=j+1) (by omega)⟩
def cx0_r1:Cx:=(cb_l8r).withLoops (look L_r2)
def sh_r1:Sh:=([(0, .d TI3),(1, .d .str),(2, .d .str),(3, .d TI64),(9, .d TI64),(10, .own 500000),(11, .d TI64)],[(500000, .lis 3 TI64)])
abbrev st_r1 (ch:Den TI3) (s a:Str) (i n j:Int) (row:List (Int)):St:=⟨[(0, .d (ofD TI3 ch)),(1,vS s),(2,vS a),(3,vI i),(9,vI n),(10, .d (.one (.own 500000))),(11,vI j)],[(500000,some (.lis 3 TI64 row))]⟩
def pre_r1 (_ch:Den TI3) (_s _a:Str) (i n j:Int) (row:List (Int)):Bool:=decide (0≤i)&&(decide (0≤j)&&(decide (n≤1001)&&decide ((List.length row:Int)=j)))
def res_r1 (ch:Den TI3) (s a:Str) (i n j:Int) (row:List (Int)) (K:Cont):Option Fin:=K (.exit 0) ⟨[(0, .d (ofD TI3 ch)),(1,vS s),(2,vS a),(3,vI i),(9,vI n),(10, oA)],[(500000,some (.lis 3 TI64 (row++initF a i (n-j).toNat j)))]⟩
def mu_r1 (_ch:Den TI3) (_s _a:Str) (_i n j:Int) (_row:List (Int)):Nat:=(n-j).toNat
theorem r_r1 (ch:Den TI3) (s a:Str) (i n j:Int) (row:List (Int)) (K:Cont) (hI:pre_r1 ch s a i n j row=true):(∀R:St→Option Fin,evC cx0_r1 (loopOf Tryz.f131 0) (st_r1 ch s a i n j row) (onward (headAt cx0_r1 4) R K)=res_r1 ch s a i n j row K) ∨
  (∃(ch':Den TI3) (s' a':Str) (i' n' j':Int) (row':List (Int)),pre_r1 ch' s' a' i' n' j' row'=true∧mu_r1 ch' s' a' i' n' j' row'<mu_r1 ch s a i n j row∧res_r1 ch' s' a' i' n' j' row' K=res_r1 ch s a i n j row K∧∀R:St→Option Fin,evC cx0_r1 (loopOf Tryz.f131 0) (st_r1 ch s a i n j row) (onward (headAt cx0_r1 4) R K)=R (st_r1 ch' s' a' i' n' j' row')):=by
 have hx:=fun R=>x_spec_l8Row ch s a i n j row R K
 simp only[pre_r1,andd,dec_iff]at hI
 obtain⟨h0,h1,h2,h3⟩:=hI
 by_cases hj:j<n
 ·have w:W64 (j+1)=j+1:=wrap_small (by omega) (by omega)
  have w2:W64 (j-i)=j-i∨¬i≤j:=by
   by_cases hij:i≤j
   ·exact .inl (wrap_small (by omega) (by omega))
   ·exact .inr hij
  have hf:fits (row.length+1) Tryz.t3.bytes=true:=fits_ok (by omega) (by decide)
  obtain⟨m,hm⟩:∃m,(n-j).toNat=m+1:=⟨(n-j).toNat-1,by omega⟩
  have hm2:(n-(j+1)).toNat=m:=by omega
  change ∀R:St→Option Fin,_=branch (decide (j<n)) (branch (bif decide (a=[])then decide (i≤j)else false) (need (fits (row.length+1) Tryz.t3.bytes) _) (branch (decide (j=i)) (need (fits (row.length+1) Tryz.t3.bytes) _) (need (fits (row.length+1) Tryz.t3.bytes) _))) _ at hx
  rw[decide_eq_true hj,hf,w]at hx
  right
  refine⟨ch,s,a,i,n,j+1,row++[e0 a i j], ?_, ?_, ?_,fun R=>(hx R).trans ?_⟩
  ·simp only[pre_r1,andd,dec_iff]
   rw[List.length_append]
   exact⟨h0,by omega,h2,by show((row.length+1:Nat):Int)=_;omega⟩
  ·simp only[mu_r1];omega
  ·simp only[res_r1,hm,hm2,List.append_assoc];rfl
  ·unfold e0
   cases hc:(bif decide (a=[])then decide (i≤j)else false)
   ·cases decide (j=i)<;>rfl
   ·rcases w2 with w2 | w2
    ·rw[w2];rfl
    ·rw[decide_eq_false w2]at hc
     cases ha:decide (a=[])<;>rw[ha]at hc<;>cases hc
 ·left
  intro R
  refine(hx R).trans ?_
  rw[decide_eq_false hj]
  have e:(n-j).toNat=0:=by omega
  simp only[res_r1,e,initF,List.append_nil];rfl
def g_r1:St→Cont→Option Fin:=gP sh_r1 (fun v=>match v with | ((ch,s,a,i,n,j,()),(row,()))=>pre_r1 ch s a i n j row) (fun v K=>match v with | ((ch,s,a,i,n,j,()),(row,()))=>res_r1 ch s a i n j row K)
def L_r1:LpL:=(4,g_r1)::L_r2
def cx_r1:Cx:=(cb_l8r).withLoops (look L_r1)
theorem l_r1 {L:LpL} (n:Nat) (h1:L.drop n=L_r2) (h2:idsFree (L.take n) (loopOf Tryz.f131 0)=true):LoopsTo g_r1 (cb_l8r) (loopOf Tryz.f131 0) 4 L :=
 with_drop h1 h2 (gP_ok (fun v=>match v with | ((ch,s,a,i,n,j,()),(row,()))=>mu_r1 ch s a i n j row) fun v K hI=>by
  obtain⟨⟨ch,s,a,i,n,j,⟨⟩⟩,⟨row,⟨⟩⟩⟩:=v
  exact(r_r1 ch s a i n j row K hI).imp id fun⟨ch',s',a',i',n',j',row',h⟩=>⟨((ch',s',a',i',n',j',()),(row',())),h⟩)
def rowV (s:Str) (ch:D3) (a:Str) (i:Int):List Int:=rowsF s ch i a (initF a i (List.length s+1) 0)
theorem y_spec_l8Row (ch:Den TI3) (s:Str) (a:Str) (i:Int):evFn cx_r1 Tryz.f131 false [ofD TI3 ch,ofD .str s,ofD .str a,ofD TI64 i] []=(
need (pre_r1 ch s a i (W64 ((s.length:Int)+1)) 0 []) <|
need (pre_r2 ch s a i (W64 ((s.length:Int)+1)) 0 (id (initF a i (W64 ((s.length:Int)+1)-0).toNat 0))) <| some ((.d (.one (.own 1000))),[(1000,(.some (.lis 3 TI64 (rowsF s ch i a (id (initF a i (W64 ((s.length:Int)+1)-0).toNat 0))))))])):=by kernel_rfl
theorem s_spec_l8Row (ch:Den TI3) (_hch:Fit TI3 ch) (s:Str) (_hs:Fit .str s) (a:Str) (_ha:Fit .str a) (i:Int) (_hi:Fit TI64 i) (hpre:(decide (0≤i)&&(okD5 (List.length s+1) ch&&(List.all a sign&&(decide (List.length a≤1000)&&decide (List.length s≤1000)))))=true):Sat Tryz.prog 131 [ofD TI3 ch,ofD .str s,ofD .str a,ofD TI64 i] [] (.d (.one (.own 1000))) ([(1000,some (.lis 3 TI64 (rowV s ch a i)))]) :=
 fn_sound (cx:=cx_r1) Tryz.func131 rfl ttOk Γ77ok mixed (fun c hc=>LoopsOk.all (l:=[(4,loopOf Tryz.f131 0),(12,loopOf Tryz.f131 1),(16,loopOf Tryz.f131 2),(20,loopOf Tryz.f131 3)]) (by cases hc;kernel_rfl) ⟨atLoop rfl (l_r1 1 rfl (by kernel_rfl)),atLoop rfl (l_r2 2 rfl (by kernel_rfl)),atLoop rfl (l_r3 3 rfl (by kernel_rfl)),atLoop rfl (l_r4 4 rfl (by kernel_rfl)),trivial⟩) (ro:=false) (by
  simp only[andd,dec_iff]at hpre
  obtain⟨h0,h1,h2,h3,h4⟩:=hpre
  have w:W64 ((List.length s:Int)+1)=(List.length s:Int)+1:=wrap_small (by omega) (by omega)
  have e1:((List.length s:Int)+1-0).toNat=List.length s+1:=by omega
  have p1:pre_r1 ch s a i ((List.length s:Int)+1) 0 []=true:=by
   simp only[pre_r1,andd,dec_iff]
   exact⟨h0,Int.le_refl 0,by omega,rfl⟩
  have p2:pre_r2 ch s a i ((List.length s:Int)+1) 0 (initF a i (List.length s+1) 0)=true:=by
   simp only[pre_r2,andd,dec_iff]
   exact⟨h0,Int.le_refl 0,trivial,h1,h2,h3,h4,initF_len,initF_ok h0 (by omega)⟩
  rw[y_spec_l8Row,w,e1]
  change need (pre_r1 ch s a i ((List.length s:Int)+1) 0 []) (need (pre_r2 ch s a i ((List.length s:Int)+1) 0 (initF a i (List.length s+1) 0)) _)=_
  rw[p1,p2];rfl)
def c_spec_l8Row:Con:=conN [TI3, .str, .str,TI64] fun(ch:Den TI3) (s:Str) (a:Str) (i:Int)=>(some (decide (0≤i)&&(okD5 (List.length s+1) ch&&(List.all a sign&&(decide (List.length a≤1000)&&decide (List.length s≤1000))))), .d (.one (.own 1000)),[(1000,some (.lis 3 TI64 (rowV s ch a i)))])
theorem k_spec_l8Row:ConOk Tryz.prog 131 c_spec_l8Row:=conN_ok Tryz.call131 fun ch hch s hs a ha i hi hqq=>s_spec_l8Row ch hch s hs a ha i hi (pre_of hqq)
def Γ78:GL:=(131,c_spec_l8Row)::Γ77
theorem Γ78ok:GO Γ78 := .cons k_spec_l8Row Γ77ok
theorem rowV_ok {s:Str} {ch:D3} {a:Str} {i:Int} (h0:0≤i) (h1:okD5 (List.length s+1) ch=true) (h2:List.all a sign=true) (h4:List.length s≤1000):List.length (rowV s ch a i)=List.length s+1∧okL5 (rowV s ch a i)=true:=rowsF_ok h1 h0 h4 h2 initF_len (initF_ok h0 (by omega))
abbrev us3:List Nat:=[107,68,3]
abbrev us2:List Nat:=[68,3]
def cb_l8c:Cx:=cxOf Γ78 Tryz.f99.ntmps [(29,[1,2,5,6,12,13,14,15,16,17]),(25,[1,2,5,6,12,13,14,15]),(21,[1,2,5,6,12,13]),(18,[1,2,5,6,12]),(12,[1,2,5,6,7,8,9,10,11]),(8,[1,2,5,6,7,8,9]),(4,[1,2,5,6,7])] [(6,[6]),(7,[1,2,5,6,12]),(8,[1,2,5,6,12]),(9,[1,2,5,6,12,13]),(10,[1,2,5,6,12,13]),(11,[1,2,5,6,12,13,14,15]),(12,[1,2,5,6,12,13,14,15]),(13,[1,2,5,6,12,13,14,15,16,17]),(0,[1,2,5,6]),(1,[1,2,5,6,7]),(2,[1,2,5,6,7,8]),(3,[1,2,5,6,7,8,9]),(4,[1,2,5,6,7,8,9,10]),(5,[1,2,5,6,7,8,9,10,11]),(1000000,[4])] [] []
abbrev l8H (g:Gram) (ch:D3):Heap:=[(500000,some (boxD 25 TG g)),(500001,some (.deep us3 TI2 ch))]
theorem x_spec_l8Costs_6 (g:Gram) (ch:D3) (s:Str) (n ri k i j:Int) (b:Bool) (row:List Int) (R:St→Option Fin) (K:Cont):evC (cb_l8c.withLoops (look [])) (loopOf Tryz.f99 6) ⟨[(1,vS s),(2, pA),(5,vI n),(6, .d (.one (.dsl 500001 []))),(12,vB b),(13,vI ri),(14,vI k),(15,vI i),(16, oC),(17,vI j)],l8H g ch++[(500002,some (.lis 3 TI64 row))]⟩ (onward (headAt (cb_l8c.withLoops (look [])) 29) R K)=(
branch (decide (j<n)) (
 need (inb j row.length) <|
 need (inb k ch.length) <|
 need (inb i (List.getD ch k.toNat []).length) <|
 need (inb j ((List.getD ch k.toNat []).getD i.toNat []).length) <|
 branch (decide ((row.getD j.toNat 0)<(((List.getD ch k.toNat []).getD i.toNat []).getD j.toNat 0))) (
 need (inb k ch.length) <|
 need (inb i (List.getD ch k.toNat []).length) <|
 need (inb j row.length) <|
 need (inb j ((List.getD ch k.toNat []).getD i.toNat []).length) <| R (.mk [(1,vS s),(2,pA),(5,vI n),(6,(.d (.one (.dsl 500001 ([]))))),(12,vB true),(13,vI ri),(14,vI k),(15,vI i),(16,oC),(17,vI (W64 (j+1)))] [(500000,some (boxD 25 TG g)),(500001,(.some (.deep us3 TI2 (List.set ch k.toNat ((List.getD ch k.toNat []).set i.toNat (((List.getD ch k.toNat []).getD i.toNat []).set j.toNat (row.getD j.toNat 0))))))),(500002,some (.lis 3 TI64 row))])) ( R (.mk [(1,vS s),(2,pA),(5,vI n),(6,(.d (.one (.dsl 500001 ([]))))),(12,vB b),(13,vI ri),(14,vI k),(15,vI i),(16,oC),(17,vI (W64 (j+1)))] [(500000,some (boxD 25 TG g)),(500001,(.some (.deep us3 TI2 ch))),(500002,some (.lis 3 TI64 row))]))) ( K (.exit 12) (.mk [(1,vS s),(2,pA),(5,vI n),(6,(.d (.one (.dsl 500001 ([]))))),(12,vB b),(13,vI ri),(14,vI k),(15,vI i)] [(500000,some (boxD 25 TG g)),(500001,(.some (.deep us3 TI2 ch)))]))):=by kernel_rfl
def setD (ch:D3) (k i j v:Int):D3:=List.set ch k.toNat (List.set (List.getD ch k.toNat []) i.toNat (List.set (List.getD (List.getD ch k.toNat []) i.toNat []) j.toNat v))
def atM (ch:D3) (a b c:Nat):Int:=List.getD (List.getD (List.getD ch a []) b []) c 0
theorem okD5_set {n:Nat} {ch:D3} (h:okD5 n ch=true) {k i j v:Int} (k0:0≤k) (k1:k<5) (i0:0≤i) (i1:i<(n:Int)) (hv:0≤v∧v≤100000):okD5 n (setD ch k i j v)=true:=by
 obtain⟨l1,l2,l3⟩:=okD5_at h k0 k1 i0 i1
 obtain⟨h1,h2⟩:=okD5_iff.1 h
 have h3:=h2 (List.getD ch k.toNat []) (getD_mem (by omega))
 refine okD5_iff.2 ⟨by unfold setD;rw[List.length_set];exact h1,fun r hr => ?_⟩
 unfold setD at hr
 rcases List.mem_or_eq_of_mem_set hr with hr | rfl
 ·exact h2 r hr
 ·refine ⟨by rw[List.length_set];exact l2,fun q hq => ?_⟩
  rcases List.mem_or_eq_of_mem_set hq with hq | rfl
  ·exact h3.2 q hq
  ·refine ⟨by rw[List.length_set];exact l3,fun e he => ?_⟩
   rcases List.mem_or_eq_of_mem_set he with he | rfl
   ·exact (h3.2 (List.getD (List.getD ch k.toNat []) i.toNat []) (getD_mem (by omega))).2 e he
   ·exact hv
theorem atM_set {n:Nat} {ch:D3} (h:okD5 n ch=true) {k i j v:Int} (k0:0≤k) (k1:k<5) (i0:0≤i) (i1:i<(n:Int)) (j0:0≤j) (j1:j<(n:Int)) {a b c:Nat}:atM (setD ch k i j v) a b c=if a=k.toNat∧b=i.toNat∧c=j.toNat then v else atM ch a b c:=by
 obtain⟨l1,l2,l3⟩:=okD5_at h k0 k1 i0 i1
 unfold atM setD
 rw[getD_set (by omega)]
 by_cases e1:k.toNat=a
 ·rw[if_pos e1,getD_set (by omega)]
  by_cases e2:i.toNat=b
  ·rw[if_pos e2,getD_set (by omega)]
   by_cases e3:j.toNat=c
   ·rw[if_pos e3,if_pos ⟨e1.symm,e2.symm,e3.symm⟩]
   ·rw[if_neg e3,if_neg (fun q=>e3 q.2.2.symm),e1,e2]
  ·rw[if_neg e2,if_neg (fun q=>e2 q.2.1.symm),e1]
 ·rw[if_neg e1,if_neg (fun q=>e1 q.1.symm)]
def minsL (k i:Int) (row:List Int):Nat→Int→D3×Bool→D3×Bool
 |0,_,p=>p
 |n+1,j,p=>minsL k i row n (j+1) (bif decide (row.getD j.toNat 0<atD p.1 k i j)then(setD p.1 k i j (row.getD j.toNat 0),true)else p)
abbrev MinsOk (n:Nat) (k i:Int) (row:List Int) (m:Nat) (j:Int) (p:D3×Bool):Prop :=
  okD5 n (minsL k i row m j p).1=true∧(∀a b c,atM (minsL k i row m j p).1 a b c≤atM p.1 a b c) ∧
  ((minsL k i row m j p).2=true→p.2=true∨∃c:Nat,c<n∧atM (minsL k i row m j p).1 k.toNat i.toNat c<atM p.1 k.toNat i.toNat c) ∧
  ((minsL k i row m j p).2=false→p.2=false∧minsL k i row m j p=p∧∀q,j≤q→q<j+m→atD p.1 k i q≤row.getD q.toNat 0) ∧
  (∀a b c,atM (minsL k i row m j p).1 a b c=atM p.1 a b c∨(a=k.toNat∧b=i.toNat∧(j≤(c:Int)∧(c:Int)<j+m)∧atM (minsL k i row m j p).1 a b c=row.getD c 0))
theorem mins_step {n:Nat} {k i:Int} {row:List Int} (k0:0≤k) (k1:k<5) (i0:0≤i) (i1:i<(n:Int)) (hr:okL5 row=true) (hl:row.length=n):∀ {m:Nat} {j:Int} {p:D3×Bool},0≤j→j+m≤(n:Int)→okD5 n p.1=true →
  MinsOk n k i row m j p
 |0,j,p,_,_,h=>⟨h,fun _ _ _=>Int.le_refl _,fun h => .inl h,fun h=>⟨h,rfl,fun q q0 q1=>by omega⟩,fun _ _ _ => .inl rfl⟩
 |m+1,j,p,j0,j1,h=>by
  unfold MinsOk minsL
  cases hc:decide (row.getD j.toNat 0<atD p.1 k i j)
  ·rw[cond_false]
   obtain⟨a1,a2,a3,a4,a5⟩:=mins_step k0 k1 i0 i1 hr hl (m:=m) (j:=j+1) (p:=p) (by omega) (by omega) h
   refine⟨a1,a2,a3,fun hf => ?_,fun a b c => ?_⟩
   ·obtain ⟨b1,b2,b3⟩:=a4 hf
    refine⟨b1,b2,fun q q0 q1 => ?_⟩
    by_cases hq:q=j
    ·have:=of_decide_eq_false hc
     rw[hq];omega
    ·exact b3 q (by omega) (by omega)
   ·rcases a5 a b c with e | ⟨e1,e2,e3,e4⟩
    ·exact .inl e
    ·exact .inr ⟨e1,e2,⟨by omega,by omega⟩,e4⟩
  ·rw[cond_true]
   have hlt:=dec_iff.1 hc
   have hv:=okL5_at (i:=j.toNat) hr (by omega)
   have hs:∀a b c,atM (setD p.1 k i j (row.getD j.toNat 0)) a b c=if a=k.toNat∧b=i.toNat∧c=j.toNat then row.getD j.toNat 0 else atM p.1 a b c:=fun a b c=>atM_set h k0 k1 i0 i1 j0 (by omega)
   obtain⟨a1,a2,a3,a4,a5⟩:=mins_step k0 k1 i0 i1 hr hl (m:=m) (j:=j+1) (p:=(setD p.1 k i j (row.getD j.toNat 0),true)) (by omega) (by omega) (okD5_set h k0 k1 i0 i1 hv)
   have hlt:row.getD j.toNat 0<atM p.1 k.toNat i.toNat j.toNat:=hlt
   refine⟨a1,fun a b c=>Int.le_trans (a2 a b c) ?_,fun _ => .inr ⟨j.toNat,by omega,Int.lt_of_le_of_lt (a2 _ _ _) ?_⟩,fun hf => ?_,fun a b c => ?_⟩
   ·show atM (setD p.1 k i j (row.getD j.toNat 0)) a b c≤_
    rw[hs]
    split
    ·rename_i hq
     rw[hq.1,hq.2.1,hq.2.2]
     exact Int.le_of_lt hlt
    ·exact Int.le_refl _
   ·show atM (setD p.1 k i j (row.getD j.toNat 0)) _ _ _<_
    rw[hs,if_pos ⟨rfl,rfl,rfl⟩]
    exact hlt
   ·cases (a4 hf).1
   ·rcases a5 a b c with e | ⟨e1,e2,e3,e4⟩
    ·rw[show (setD p.1 k i j (row.getD j.toNat 0),true).1=setD p.1 k i j (row.getD j.toNat 0)from rfl,hs]at e
     split at e
     ·rename_i hq
      exact .inr ⟨hq.1,hq.2.1,⟨by omega,by omega⟩,by rw[e,hq.2.2]⟩
     ·exact .inl e
    ·exact .inr ⟨e1,e2,⟨by omega,by omega⟩,e4⟩
def stepF (s:Str) (v:VisE) (p:D3×Bool):D3×Bool:=minsL (keyK v.2) v.1 (rowV s p.1 v.2.2 v.1) ((List.length s:Int)+1-v.1).toNat v.1 p
def hasE (ch:D3) (x:Nat×Nat×Nat×Nat):Bool:=decide (atM ch x.1 x.2.1 x.2.2.1≤(x.2.2.2:Int))
def farN:Nat:=100001
def keysF (n:Nat) (v:VisE):List (Nat×Nat×Nat×Nat):=(List.range n).flatMap fun c=>(List.range farN).map fun(e:Nat)=>((keyK v.2).toNat,v.1.toNat,c,e)
theorem stepF_at {s:Str} {v:VisE} {p:D3×Bool} (hs:List.length s≤1000) (hv:goodE s v) (hp:okD5 (List.length s+1) p.1=true):MinsOk (List.length s+1) (keyK v.2) v.1 (rowV s p.1 v.2.2 v.1) ((List.length s:Int)+1-v.1).toNat v.1 p :=
 mins_step (n:=List.length s+1) (k:=keyK v.2) (i:=v.1) (row:=rowV s p.1 v.2.2 v.1) (keyK_in hv.2.2.1).1 (keyK_in hv.2.2.1).2.1 hv.1 (by have:=hv.2.1;omega) (rowV_ok hv.1 hp hv.2.2.2.2 hs).2 (rowV_ok hv.1 hp hv.2.2.2.2 hs).1 (m:=((List.length s:Int)+1-v.1).toNat) (j:=v.1) (p:=p) hv.1 (by have:=hv.2.1;omega) hp
theorem stepF_ok {s:Str} (hs:List.length s≤1000):StepOk (fun ch=>okD5 (s.length+1) ch=true) (goodE s) hasE (keysF (s.length+1)) (stepF s) where
 inv v p hv hp:=(stepF_at hs hv hp).1
 mono v p x hv hp h:=by
  have:=(stepF_at hs hv hp).2.1 x.1 x.2.1 x.2.2.1
  exact decide_eq_true (Int.le_trans this (dec_iff.1 h))
 new v p hv hp h:=by
  obtain⟨a1,a2,a3,a4,a5⟩:=stepF_at hs hv hp
  rcases a3 h with h | ⟨c,hc,hlt⟩
  ·exact .inl h
  ·obtain ⟨k0,k1,_⟩:=keyK_in hv.2.2.1
   have hb:=atD_ok (k:=keyK v.2) (i:=v.1) (j:=(c:Int)) a1 k0 k1 hv.1 (by have:=hv.2.1;omega) (by omega) (by omega)
   have hb:0≤atM (stepF s v p).1 (keyK v.2).toNat v.1.toNat c∧atM (stepF s v p).1 (keyK v.2).toNat v.1.toNat c≤100000:=hb
   have hlt:atM (stepF s v p).1 (keyK v.2).toNat v.1.toNat c<atM p.1 (keyK v.2).toNat v.1.toNat c:=hlt
   refine .inr ⟨((keyK v.2).toNat,v.1.toNat,c,(atM (stepF s v p).1 (keyK v.2).toNat v.1.toNat c).toNat),List.mem_flatMap.2 ⟨c,List.mem_range.2 hc,List.mem_map.2 ⟨_,List.mem_range.2 ?_,rfl⟩⟩,decide_eq_false ?_,decide_eq_true ?_⟩
   ·have:farN=100001:=rfl
    omega
   ·show ¬atM p.1 (keyK v.2).toNat v.1.toNat c≤(((atM (stepF s v p).1 (keyK v.2).toNat v.1.toNat c).toNat:Nat):Int)
    omega
   ·show atM (stepF s v p).1 (keyK v.2).toNat v.1.toNat c≤(((atM (stepF s v p).1 (keyK v.2).toNat v.1.toNat c).toNat:Nat):Int)
    omega
 quiet v p hv hp h:=by
  obtain⟨b1,b2,_⟩:=(stepF_at hs hv hp).2.2.2.1 h
  exact⟨b1,b2⟩
def cx0_j6:Cx:=(cb_l8c).withLoops (look [])
def sh_j6:Sh:=([(1, .d .str),(2, .ptr 500000 0),(5, .d TI64),(6, .deep 500001),(12, .d .bool),(13, .d TI64),(14, .d TI64),(15, .d TI64),(16, .own 500002),(17, .d TI64)],[(500000, .box 25 TG),(500001, .deep us3 TI2),(500002, .lis 3 TI64)])
abbrev st_j6 (s:Str) (n:Int) (b:Bool) (ri k i j:Int) (g:Gram) (ch:List (Den TI2)) (row:List (Int)):St:=⟨[(1,vS s),(2, .d (.one (.ptr 500000 0))),(5,vI n),(6, .d (.one (.dsl 500001 []))),(12,vB b),(13,vI ri),(14,vI k),(15,vI i),(16, .d (.one (.own 500002))),(17,vI j)],[(500000,some (boxD 25 TG g)),(500001,some (.deep us3 TI2 ch)),(500002,some (.lis 3 TI64 row))]⟩
def pre_j6 (s:Str) (n:Int) (_b:Bool) (_ri k i j:Int) (_g:Gram) (ch:List (Den TI2)) (row:List (Int)):Bool:=decide (0≤j)&&(decide (n=(List.length s:Int)+1)&&(decide (List.length s≤1000)&&(okD5 (List.length s+1) ch&&(decide (0≤k)&&(decide (k<5)&&(decide (0≤i)&&(decide (i≤(List.length s:Int))&&(decide (List.length row=List.length s+1)&&okL5 row))))))))
def res_j6 (s:Str) (n:Int) (b:Bool) (ri k i j:Int) (g:Gram) (ch:List (Den TI2)) (row:List (Int)) (K:Cont):Option Fin:=K (.exit 12) ⟨[(1,vS s),(2, pA),(5,vI n),(6, .d (.one (.dsl 500001 []))),(12,vB (minsL k i row (n-j).toNat j (ch,b)).2),(13,vI ri),(14,vI k),(15,vI i)],l8H g (minsL k i row (n-j).toNat j (ch,b)).1⟩
def mu_j6 (_s:Str) (n:Int) (_b:Bool) (_ri _k _i j:Int) (_g:Gram) (_ch:List (Den TI2)) (_row:List (Int)):Nat:=(n-j).toNat
theorem r_j6 (s:Str) (n:Int) (b:Bool) (ri k i j:Int) (g:Gram) (ch:List (Den TI2)) (row:List (Int)) (K:Cont) (hI:pre_j6 s n b ri k i j g ch row=true):(∀R:St→Option Fin,evC cx0_j6 (loopOf Tryz.f99 6) (st_j6 s n b ri k i j g ch row) (onward (headAt cx0_j6 29) R K)=res_j6 s n b ri k i j g ch row K) ∨
  (∃(s':Str) (n':Int) (b':Bool) (ri' k' i' j':Int) (g':Gram) (ch':List (Den TI2)) (row':List (Int)),pre_j6 s' n' b' ri' k' i' j' g' ch' row'=true∧mu_j6 s' n' b' ri' k' i' j' g' ch' row'<mu_j6 s n b ri k i j g ch row∧res_j6 s' n' b' ri' k' i' j' g' ch' row' K=res_j6 s n b ri k i j g ch row K∧∀R:St→Option Fin,evC cx0_j6 (loopOf Tryz.f99 6) (st_j6 s n b ri k i j g ch row) (onward (headAt cx0_j6 29) R K)=R (st_j6 s' n' b' ri' k' i' j' g' ch' row')):=by
 have hx:=fun R=>x_spec_l8Costs_6 g ch s n ri k i j b row R K
 simp only[pre_j6,andd,dec_iff]at hI
 obtain⟨h0,rfl,hs,h1,k0,k1,i0,i1,h2,h3⟩:=hI
 by_cases hj:j<(List.length s:Int)+1
 ·have w:W64 (j+1)=j+1:=wrap_small (by omega) (by omega)
  obtain⟨l1,l2,l3⟩:=okD5_at h1 k0 k1 i0 (by omega)
  have hv:=okL5_at (i:=j.toNat) h3 (by omega)
  obtain⟨m,hm⟩:∃m,((List.length s:Int)+1-j).toNat=m+1:=⟨((List.length s:Int)+1-j).toNat-1,by omega⟩
  have hm2:((List.length s:Int)+1-(j+1)).toNat=m:=by omega
  have hg:minsL k i row (m+1) j (ch,b)=minsL k i row m (j+1) (bif decide (row.getD j.toNat 0<atD ch k i j)then(setD ch k i j (row.getD j.toNat 0),true)else(ch,b)):=rfl
  rw[decide_eq_true hj,l1,l2,l3,h2,inb_ok h0 (by omega),inb_ok k0 (by omega),inb_ok i0 (by omega),w]at hx
  change ∀R:St→Option Fin,_=branch (decide (row.getD j.toNat 0<atD ch k i j)) _ _ at hx
  right
  cases hc:decide (row.getD j.toNat 0<atD ch k i j)
  ·rw[hc]at hx hg
   refine⟨s,(List.length s:Int)+1,b,ri,k,i,j+1,g,ch,row, ?_, ?_, ?_,fun R=>hx R⟩
   ·simp only[pre_j6,andd,dec_iff]
    exact⟨by omega,trivial,hs,h1,k0,k1,i0,i1,h2,h3⟩
   ·simp only[mu_j6];omega
   ·simp only[res_j6,hm,hm2,hg];rfl
  ·rw[hc]at hx hg
   refine⟨s,(List.length s:Int)+1,true,ri,k,i,j+1,g,setD ch k i j (row.getD j.toNat 0),row, ?_, ?_, ?_,fun R=>hx R⟩
   ·simp only[pre_j6,andd,dec_iff]
    exact⟨by omega,trivial,hs,okD5_set h1 k0 k1 i0 (by omega) hv,k0,k1,i0,i1,h2,h3⟩
   ·simp only[mu_j6];omega
   ·simp only[res_j6,hm,hm2,hg];rfl
 ·left
  intro R
  refine(hx R).trans ?_
  rw[decide_eq_false hj]
  have e:((List.length s:Int)+1-j).toNat=0:=by omega
  simp only[res_j6,e];rfl
def g_j6:St→Cont→Option Fin:=gP sh_j6 (fun v=>match v with | ((s,n,b,ri,k,i,j,()),(g,ch,row,()))=>pre_j6 s n b ri k i j g ch row) (fun v K=>match v with | ((s,n,b,ri,k,i,j,()),(g,ch,row,()))=>res_j6 s n b ri k i j g ch row K)
def L_j6:LpL:=(29,g_j6)::[]
theorem l_j6 {L:LpL} (n:Nat) (h1:L.drop n=[]) (h2:idsFree (L.take n) (loopOf Tryz.f99 6)=true):LoopsTo g_j6 (cb_l8c) (loopOf Tryz.f99 6) 29 L :=
 with_drop h1 h2 (gP_ok (fun v=>match v with | ((s,n,b,ri,k,i,j,()),(g,ch,row,()))=>mu_j6 s n b ri k i j g ch row) fun v K hI=>by
  obtain⟨⟨s,n,b,ri,k,i,j,⟨⟩⟩,⟨g,ch,row,⟨⟩⟩⟩:=v
  exact(r_j6 s n b ri k i j g ch row K hI).imp id fun⟨s',n',b',ri',k',i',j',g',ch',row',h⟩=>⟨((s',n',b',ri',k',i',j',()),(g',ch',row',())),h⟩)
theorem x_spec_l8Costs_5 (g:Gram) (ch:D3) (s:Str) (n ri k i:Int) (b:Bool) (R:St→Option Fin) (K:Cont):evC (cb_l8c.withLoops (look L_j6)) (loopOf Tryz.f99 5) ⟨[(1,vS s),(2, pA),(5,vI n),(6, .d (.one (.dsl 500001 []))),(12,vB b),(13,vI ri),(14,vI k),(15,vI i)],l8H g ch⟩ (onward (headAt (cb_l8c.withLoops (look L_j6)) 25) R K)=(
branch (decide (i<n)) (
 need (inb ri (List.length g.snd)) <|
 need (decide (0≤i)&&(okD5 (List.length s+1) ch&&(List.all (List.getD g.snd ri.toNat d0).snd sign&&(decide ((List.length (List.getD g.snd ri.toNat d0).snd)≤1000)&&decide (s.length≤1000))))) <|
 need (pre_j6 s n b ri k i i g ch (rowV s ch (List.getD g.snd ri.toNat d0).snd i)) <| R (.mk [(1,vS s),(2,pA),(5,vI n),(6,(.d (.one (.dsl 500001 ([]))))),(12,(vB (minsL k i (rowV s ch (List.getD g.snd ri.toNat d0).snd i) (n-i).toNat i (ch,b)).snd)),(13,vI ri),(14,vI k),(15,vI (W64 (i+1)))] [(500000,some (boxD 25 TG g)),(500001,(.some (.deep us3 TI2 ((minsL k i (rowV s ch (List.getD g.snd ri.toNat d0).snd i) (n-i).toNat i (ch,b)).fst))))])) ( K (.exit 10) (.mk [(1,vS s),(2,pA),(5,vI n),(6,(.d (.one (.dsl 500001 ([]))))),(12,vB b),(13,vI ri)] [(500000,some (boxD 25 TG g)),(500001,(.some (.deep us3 TI2 ch)))]))):=by kernel_rfl
def cx0_j5:Cx:=(cb_l8c).withLoops (look L_j6)
def sh_j5:Sh:=([(1, .d .str),(2, .ptr 500000 0),(5, .d TI64),(6, .deep 500001),(12, .d .bool),(13, .d TI64),(14, .d TI64),(15, .d TI64)],[(500000, .box 25 TG),(500001, .deep us3 TI2)])
abbrev st_j5 (s:Str) (n:Int) (b:Bool) (ri k i:Int) (g:Gram) (ch:List (Den TI2)):St:=⟨[(1,vS s),(2, .d (.one (.ptr 500000 0))),(5,vI n),(6, .d (.one (.dsl 500001 []))),(12,vB b),(13,vI ri),(14,vI k),(15,vI i)],[(500000,some (boxD 25 TG g)),(500001,some (.deep us3 TI2 ch))]⟩
def pre_j5 (s:Str) (n:Int) (_b:Bool) (ri k i:Int) (g:Gram) (ch:List (Den TI2)):Bool:=decide (0≤i)&&(decide (i≤n)&&(decide (n=(List.length s:Int)+1)&&(okD5 (List.length s+1) ch&&(okRp g.2&&(decide (0≤ri)&&(decide (ri<(List.length g.2:Int))&&(decide (k=keyK (List.getD g.2 ri.toNat d0))&&decide (List.length s≤1000))))))))
def res_j5 (s:Str) (n:Int) (b:Bool) (ri _k i:Int) (g:Gram) (ch:List (Den TI2)) (K:Cont):Option Fin:=K (.exit 10) ⟨[(1,vS s),(2, pA),(5,vI n),(6, .d (.one (.dsl 500001 []))),(12,vB (foldG (stepF s) (fromsE (List.getD g.2 ri.toNat d0) (n-i).toNat i) (ch,b)).2),(13,vI ri)],l8H g (foldG (stepF s) (fromsE (List.getD g.2 ri.toNat d0) (n-i).toNat i) (ch,b)).1⟩
def mu_j5 (_s:Str) (n:Int) (_b:Bool) (_ri _k i:Int) (_g:Gram) (_ch:List (Den TI2)):Nat:=(n-i).toNat
theorem r_j5 (s:Str) (n:Int) (b:Bool) (ri k i:Int) (g:Gram) (ch:List (Den TI2)) (K:Cont) (hI:pre_j5 s n b ri k i g ch=true):(∀R:St→Option Fin,evC cx0_j5 (loopOf Tryz.f99 5) (st_j5 s n b ri k i g ch) (onward (headAt cx0_j5 25) R K)=res_j5 s n b ri k i g ch K) ∨
  (∃(s':Str) (n':Int) (b':Bool) (ri' k' i':Int) (g':Gram) (ch':List (Den TI2)),pre_j5 s' n' b' ri' k' i' g' ch'=true∧mu_j5 s' n' b' ri' k' i' g' ch'<mu_j5 s n b ri k i g ch∧res_j5 s' n' b' ri' k' i' g' ch' K=res_j5 s n b ri k i g ch K∧∀R:St→Option Fin,evC cx0_j5 (loopOf Tryz.f99 5) (st_j5 s n b ri k i g ch) (onward (headAt cx0_j5 25) R K)=R (st_j5 s' n' b' ri' k' i' g' ch')):=by
 have hx:=fun R=>x_spec_l8Costs_5 g ch s n ri k i b R K
 simp only[pre_j5,andd,dec_iff]at hI
 obtain⟨h0,h1,rfl,h3,h4,h5,h6,rfl,h8⟩:=hI
 by_cases hi:i<(List.length s:Int)+1
 ·have w:W64 (i+1)=i+1:=wrap_small (by omega) (by omega)
  obtain⟨q1,q2,q3⟩:=(okRp_iff.1 h4).2 _ (getD_mem (d:=d0) (by omega:ri.toNat<List.length g.2))
  obtain⟨k0,k1,_⟩:=keyK_in q1
  have hrow:=rowV_ok (i:=i) h0 h3 q3 h8
  have kk:(decide (0≤i)&&(okD5 (List.length s+1) ch&&(List.all (List.getD g.2 ri.toNat d0).2 sign&&(decide ((List.length (List.getD g.2 ri.toNat d0).2)≤1000)&&decide (s.length≤1000)))))=true:=andd.2 ⟨decide_eq_true h0,andd.2 ⟨h3,andd.2 ⟨q3,andd.2 ⟨decide_eq_true (by omega),decide_eq_true h8⟩⟩⟩⟩
  have kp:pre_j6 s ((List.length s:Int)+1) b ri (keyK (List.getD g.2 ri.toNat d0)) i i g ch (rowV s ch (List.getD g.2 ri.toNat d0).2 i)=true:=by
   simp only[pre_j6,andd,dec_iff]
   exact⟨h0,trivial,h8,h3,k0,k1,h0,by omega,hrow.1,hrow.2⟩
  obtain⟨m,hm⟩:∃m,((List.length s:Int)+1-i).toNat=m+1:=⟨((List.length s:Int)+1-i).toNat-1,by omega⟩
  have hm2:((List.length s:Int)+1-(i+1)).toNat=m:=by omega
  have hg:foldG (stepF s) (fromsE (List.getD g.2 ri.toNat d0) (m+1) i) (ch,b)=foldG (stepF s) (fromsE (List.getD g.2 ri.toNat d0) m (i+1)) (stepF s (i,List.getD g.2 ri.toNat d0) (ch,b)):=rfl
  rw[decide_eq_true hi,inb_ok h5 h6,kk,kp,w]at hx
  right
  refine⟨s,(List.length s:Int)+1,(stepF s (i,List.getD g.2 ri.toNat d0) (ch,b)).2,ri,keyK (List.getD g.2 ri.toNat d0),i+1,g,(stepF s (i,List.getD g.2 ri.toNat d0) (ch,b)).1, ?_, ?_, ?_,fun R=>hx R⟩
  ·simp only[pre_j5,andd,dec_iff]
   exact⟨by omega,by omega,trivial,(stepF_ok h8).inv (i,List.getD g.2 ri.toNat d0) (ch,b) ⟨h0,by show i≤_;omega,q1,q2,q3⟩ h3,h4,h5,h6,trivial,h8⟩
  ·simp only[mu_j5];omega
  ·simp only[res_j5,hm,hm2,hg]
 ·left
  intro R
  refine(hx R).trans ?_
  rw[decide_eq_false hi]
  have e:((List.length s:Int)+1-i).toNat=0:=by omega
  simp only[res_j5,e];rfl
def g_j5:St→Cont→Option Fin:=gP sh_j5 (fun v=>match v with | ((s,n,b,ri,k,i,()),(g,ch,()))=>pre_j5 s n b ri k i g ch) (fun v K=>match v with | ((s,n,b,ri,k,i,()),(g,ch,()))=>res_j5 s n b ri k i g ch K)
def L_j5:LpL:=(25,g_j5)::L_j6
theorem l_j5 {L:LpL} (n:Nat) (h1:L.drop n=L_j6) (h2:idsFree (L.take n) (loopOf Tryz.f99 5)=true):LoopsTo g_j5 (cb_l8c) (loopOf Tryz.f99 5) 25 L :=
 with_drop h1 h2 (gP_ok (fun v=>match v with | ((s,n,b,ri,k,i,()),(g,ch,()))=>mu_j5 s n b ri k i g ch) fun v K hI=>by
  obtain⟨⟨s,n,b,ri,k,i,⟨⟩⟩,⟨g,ch,⟨⟩⟩⟩:=v
  exact(r_j5 s n b ri k i g ch K hI).imp id fun⟨s',n',b',ri',k',i',g',ch',h⟩=>⟨((s',n',b',ri',k',i',()),(g',ch',())),h⟩)
theorem x_spec_l8Costs_4 (g:Gram) (ch:D3) (s:Str) (n ri:Int) (b:Bool) (R:St→Option Fin) (K:Cont):evC (cb_l8c.withLoops (look L_j5)) (loopOf Tryz.f99 4) ⟨[(1,vS s),(2, pA),(5,vI n),(6, .d (.one (.dsl 500001 []))),(12,vB b),(13,vI ri)],l8H g ch⟩ (onward (headAt (cb_l8c.withLoops (look L_j5)) 21) R K)=(
branch (decide (ri<(List.length g.snd:Int))) (
 need (inb ri (List.length g.snd)) <|
 need (inb 0 (List.length (List.getD g.snd ri.toNat d0).fst)) <|
 need (pre_j5 s n b ri (W64 (IntKind.u8.wrap (byteAt (List.getD g.snd ri.toNat d0).fst 0-65))) 0 g ch) <| R (.mk [(1,vS s),(2,pA),(5,vI n),(6,(.d (.one (.dsl 500001 ([]))))),(12,(vB (foldG (stepF s) (fromsE (g.snd.getD ri.toNat d0) (n-0).toNat 0) (ch,b)).snd)),(13,vI (W64 (ri+1)))] [(500000,some (boxD 25 TG g)),(500001,(.some (.deep us3 TI2 ((foldG (stepF s) (fromsE (g.snd.getD ri.toNat d0) (n-0).toNat 0) (ch,b)).fst))))])) ( K (.exit 8) (.mk [(1,vS s),(2,pA),(5,vI n),(6,(.d (.one (.dsl 500001 ([]))))),(12,vB b)] [(500000,some (boxD 25 TG g)),(500001,(.some (.deep us3 TI2 ch)))]))):=by kernel_rfl
def cx0_j4:Cx:=(cb_l8c).withLoops (look L_j5)
def sh_j4:Sh:=([(1, .d .str),(2, .ptr 500000 0),(5, .d TI64),(6, .deep 500001),(12, .d .bool),(13, .d TI64)],[(500000, .box 25 TG),(500001, .deep us3 TI2)])
abbrev st_j4 (s:Str) (n:Int) (b:Bool) (ri:Int) (g:Gram) (ch:List (Den TI2)):St:=⟨[(1,vS s),(2, .d (.one (.ptr 500000 0))),(5,vI n),(6, .d (.one (.dsl 500001 []))),(12,vB b),(13,vI ri)],[(500000,some (boxD 25 TG g)),(500001,some (.deep us3 TI2 ch))]⟩
def pre_j4 (s:Str) (n:Int) (_b:Bool) (ri:Int) (g:Gram) (ch:List (Den TI2)):Bool:=decide (0≤ri)&&(decide (n=(List.length s:Int)+1)&&(okD5 (List.length s+1) ch&&(okRp g.2&&decide (List.length s≤1000))))
def res_j4 (s:Str) (n:Int) (b:Bool) (ri:Int) (g:Gram) (ch:List (Den TI2)) (K:Cont):Option Fin:=K (.exit 8) ⟨[(1,vS s),(2, pA),(5,vI n),(6, .d (.one (.dsl 500001 []))),(12,vB (foldG (stepF s) (visE (List.length s+1) (List.drop ri.toNat g.2)) (ch,b)).2)],l8H g (foldG (stepF s) (visE (List.length s+1) (List.drop ri.toNat g.2)) (ch,b)).1⟩
def mu_j4 (_s:Str) (_n:Int) (_b:Bool) (ri:Int) (g:Gram) (_ch:List (Den TI2)):Nat:=List.length g.2-ri.toNat
theorem r_j4 (s:Str) (n:Int) (b:Bool) (ri:Int) (g:Gram) (ch:List (Den TI2)) (K:Cont) (hI:pre_j4 s n b ri g ch=true):(∀R:St→Option Fin,evC cx0_j4 (loopOf Tryz.f99 4) (st_j4 s n b ri g ch) (onward (headAt cx0_j4 21) R K)=res_j4 s n b ri g ch K) ∨
  (∃(s':Str) (n':Int) (b':Bool) (ri':Int) (g':Gram) (ch':List (Den TI2)),pre_j4 s' n' b' ri' g' ch'=true∧mu_j4 s' n' b' ri' g' ch'<mu_j4 s n b ri g ch∧res_j4 s' n' b' ri' g' ch' K=res_j4 s n b ri g ch K∧∀R:St→Option Fin,evC cx0_j4 (loopOf Tryz.f99 4) (st_j4 s n b ri g ch) (onward (headAt cx0_j4 21) R K)=R (st_j4 s' n' b' ri' g' ch')):=by
 have hx:=fun R=>x_spec_l8Costs_4 g ch s n ri b R K
 simp only[pre_j4,andd,dec_iff]at hI
 obtain⟨h0,rfl,h3,h4,h8⟩:=hI
 obtain⟨g1,g2⟩:=okRp_iff.1 h4
 by_cases hi:ri<(List.length g.2:Int)
 ·have w:W64 (ri+1)=ri+1:=wrap_small (by omega) (by omega)
  obtain⟨q1,q2,q3⟩:=g2 _ (getD_mem (d:=d0) (by omega:ri.toNat<List.length g.2))
  have hl:inb 0 (List.length (List.getD g.2 ri.toNat d0).1)=true:=by
   obtain⟨c,e,_⟩:=bigS_one q1
   rw[e];rfl
  have kp:pre_j5 s ((List.length s:Int)+1) b ri (keyK (List.getD g.2 ri.toNat d0)) 0 g ch=true:=by
   simp only[pre_j5,andd,dec_iff]
   exact⟨Int.le_refl 0,by omega,trivial,h3,h4,h0,hi,trivial,h8⟩
  have e0:((List.length s:Int)+1-0).toNat=List.length s+1:=by omega
  have hg:=visE_at (n:=List.length s+1) h0 hi
  rw[decide_eq_true hi,inb_ok h0 hi,hl,key_wrap q1,kp,w,e0]at hx
  right
  refine⟨s,(List.length s:Int)+1,(foldG (stepF s) (fromsE (List.getD g.2 ri.toNat d0) (List.length s+1) 0) (ch,b)).2,ri+1,g,(foldG (stepF s) (fromsE (List.getD g.2 ri.toNat d0) (List.length s+1) 0) (ch,b)).1, ?_, ?_, ?_,fun R=>hx R⟩
  ·simp only[pre_j4,andd,dec_iff]
   refine⟨by omega,trivial,foldG_ok (stepF_ok h8) (p:=(ch,b)) (fun v hv => ?_) h3,h4,h8⟩
   obtain⟨e1,e2,e3⟩:=mem_fromsE.1 hv
   exact⟨e2,by omega,by rw[e1];exact q1,by rw[e1];exact q2,by rw[e1];exact q3⟩
  ·simp only[mu_j4];omega
  ·simp only[res_j4,hg,foldG_app]
 ·left
  intro R
  refine(hx R).trans ?_
  rw[decide_eq_false hi]
  have e:List.drop ri.toNat g.2=[]:=List.drop_eq_nil_of_le (by omega)
  simp only[res_j4,e];rfl
def g_j4:St→Cont→Option Fin:=gP sh_j4 (fun v=>match v with | ((s,n,b,ri,()),(g,ch,()))=>pre_j4 s n b ri g ch) (fun v K=>match v with | ((s,n,b,ri,()),(g,ch,()))=>res_j4 s n b ri g ch K)
def L_j4:LpL:=(21,g_j4)::L_j5
theorem l_j4 {L:LpL} (n:Nat) (h1:L.drop n=L_j5) (h2:idsFree (L.take n) (loopOf Tryz.f99 4)=true):LoopsTo g_j4 (cb_l8c) (loopOf Tryz.f99 4) 21 L :=
 with_drop h1 h2 (gP_ok (fun v=>match v with | ((s,n,b,ri,()),(g,ch,()))=>mu_j4 s n b ri g ch) fun v K hI=>by
  obtain⟨⟨s,n,b,ri,⟨⟩⟩,⟨g,ch,⟨⟩⟩⟩:=v
  exact(r_j4 s n b ri g ch K hI).imp id fun⟨s',n',b',ri',g',ch',h⟩=>⟨((s',n',b',ri',()),(g',ch',())),h⟩)
theorem x_spec_l8Costs_3 (g:Gram) (ch:D3) (s:Str) (n:Int) (b:Bool) (R:St→Option Fin) (K:Cont):evC (cb_l8c.withLoops (look L_j4)) (loopOf Tryz.f99 3) ⟨[(1,vS s),(2, pA),(5,vI n),(6, .d (.one (.dsl 500001 []))),(12,vB b)],l8H g ch⟩ (onward (headAt (cb_l8c.withLoops (look L_j4)) 18) R K)=(
branch b (
 need (pre_j4 s n false 0 g ch) <| R (.mk [(1,vS s),(2,pA),(5,vI n),(6,(.d (.one (.dsl 500001 ([]))))),(12,(vB (foldG (stepF s) (visE (List.length s+1) g.snd) (ch,false)).snd))] [(500000,some (boxD 25 TG g)),(500001,(.some (.deep us3 TI2 ((foldG (stepF s) (visE (List.length s+1) g.snd) (ch,false)).fst))))])) ( K (.exit 6) (.mk [(6,(.d (.one (.dsl 500000 ([])))))] [(500000,(.some (.deep us3 TI2 ch)))]))):=by kernel_rfl
def cx0_j3:Cx:=(cb_l8c).withLoops (look L_j4)
def sh_j3:Sh:=([(1, .d .str),(2, .ptr 500000 0),(5, .d TI64),(6, .deep 500001),(12, .d .bool)],[(500000, .box 25 TG),(500001, .deep us3 TI2)])
abbrev st_j3 (s:Str) (n:Int) (b:Bool) (g:Gram) (ch:List (Den TI2)):St:=⟨[(1,vS s),(2, .d (.one (.ptr 500000 0))),(5,vI n),(6, .d (.one (.dsl 500001 []))),(12,vB b)],[(500000,some (boxD 25 TG g)),(500001,some (.deep us3 TI2 ch))]⟩
def pre_j3 (s:Str) (n:Int) (_b:Bool) (g:Gram) (ch:List (Den TI2)):Bool:=decide (n=(List.length s:Int)+1)&&(okD5 (List.length s+1) ch&&(okRp g.2&&decide (List.length s≤1000)))
def res_j3 (s:Str) (_n:Int) (b:Bool) (g:Gram) (ch:List (Den TI2)) (K:Cont):Option Fin:=K (.exit 6) ⟨[(6, .d (.one (.dsl 500000 [])))],[(500000,some (.deep us3 TI2 (bif b then runC hasE (keysF (List.length s+1)) (stepF s) (visE (List.length s+1) g.2) ch else ch)))]⟩
def mu_j3 (s:Str) (_n:Int) (b:Bool) (g:Gram) (ch:List (Den TI2)):Nat:=2*missG hasE ((visE (List.length s+1) g.2).flatMap (keysF (List.length s+1))) ch+(bif b then 1 else 0)
theorem r_j3 (s:Str) (n:Int) (b:Bool) (g:Gram) (ch:List (Den TI2)) (K:Cont) (hI:pre_j3 s n b g ch=true):(∀R:St→Option Fin,evC cx0_j3 (loopOf Tryz.f99 3) (st_j3 s n b g ch) (onward (headAt cx0_j3 18) R K)=res_j3 s n b g ch K) ∨
  (∃(s':Str) (n':Int) (b':Bool) (g':Gram) (ch':List (Den TI2)),pre_j3 s' n' b' g' ch'=true∧mu_j3 s' n' b' g' ch'<mu_j3 s n b g ch∧res_j3 s' n' b' g' ch' K=res_j3 s n b g ch K∧∀R:St→Option Fin,evC cx0_j3 (loopOf Tryz.f99 3) (st_j3 s n b g ch) (onward (headAt cx0_j3 18) R K)=R (st_j3 s' n' b' g' ch')):=by
 have hx:=fun R=>x_spec_l8Costs_3 g ch s n b R K
 simp only[pre_j3,andd,dec_iff]at hI
 obtain⟨rfl,h3,h4,h8⟩:=hI
 cases b
 ·left
  intro R
  refine(hx R).trans ?_
  simp only[res_j3];rfl
 ·have hv:=good_visE (s:=s) h4
  have hp:pre_j4 s ((List.length s:Int)+1) false 0 g ch=true:=by
   simp only[pre_j4,andd,dec_iff]
   exact⟨Int.le_refl 0,trivial,h3,h4,h8⟩
  rw[hp]at hx
  have hg:=runC_at (stepF_ok h8) (vs:=visE (List.length s+1) g.2) (m:=ch) hv h3
  right
  refine⟨s,(List.length s:Int)+1,(foldG (stepF s) (visE (List.length s+1) g.2) (ch,false)).2,g,(foldG (stepF s) (visE (List.length s+1) g.2) (ch,false)).1, ?_, ?_, ?_,fun R=>hx R⟩
  ·simp only[pre_j3,andd,dec_iff]
   exact⟨trivial,foldG_ok (stepF_ok h8) (p:=(ch,false)) hv h3,h4,h8⟩
  ·simp only[mu_j3]
   cases hc:(foldG (stepF s) (visE (List.length s+1) g.2) (ch,false)).2
   ·obtain ⟨_,h5,_⟩:=foldG_quiet (stepF_ok h8) (p:=(ch,false)) hv h3 hc
    rw[h5,cond_true,cond_false]
    show 2*missG hasE _ ch+0<2*missG hasE _ ch+1
    omega
   ·have:=miss_lt (stepF_ok h8) hv h3 hc
    rw[cond_true];omega
  ·simp only[res_j3]
   exact congrArg (fun z:D3=>K (.exit 6) ⟨[(6, .d (.one (.dsl 500000 [])))],[(500000,some (.deep us3 TI2 z))]⟩) hg.symm
def g_j3:St→Cont→Option Fin:=gP sh_j3 (fun v=>match v with | ((s,n,b,()),(g,ch,()))=>pre_j3 s n b g ch) (fun v K=>match v with | ((s,n,b,()),(g,ch,()))=>res_j3 s n b g ch K)
def L_j3:LpL:=(18,g_j3)::L_j4
theorem l_j3 {L:LpL} (n:Nat) (h1:L.drop n=L_j4) (h2:idsFree (L.take n) (loopOf Tryz.f99 3)=true):LoopsTo g_j3 (cb_l8c) (loopOf Tryz.f99 3) 18 L :=
 with_drop h1 h2 (gP_ok (fun v=>match v with | ((s,n,b,()),(g,ch,()))=>mu_j3 s n b g ch) fun v K hI=>by
  obtain⟨⟨s,n,b,⟨⟩⟩,⟨g,ch,⟨⟩⟩⟩:=v
  exact(r_j3 s n b g ch K hI).imp id fun⟨s',n',b',g',ch',h⟩=>⟨((s',n',b',()),(g',ch',())),h⟩)
theorem x_spec_l8Costs_2 (g:Gram) (ch:D3) (rs:List (List Int)) (s:Str) (n i k j:Int) (row:List Int) (R:St→Option Fin) (K:Cont):evC (cb_l8c.withLoops (look L_j3)) (loopOf Tryz.f99 2) ⟨[(1,vS s),(2, pA),(5,vI n),(6, .d (.one (.dsl 500001 []))),(7,vI i),(8, .d (.one (.dsl 500002 []))),(9,vI k),(10, oD),(11,vI j)],l8H g ch++[(500002,some (.deep us2 TI1 rs)),(500003,some (.lis 3 TI64 row))]⟩ (onward (headAt (cb_l8c.withLoops (look L_j3)) 12) R K)=(
branch (decide (j<n)) (
 need (inb j row.length) <| R (.mk [(1,vS s),(2,pA),(5,vI n),(6,(.d (.one (.dsl 500001 ([]))))),(7,vI i),(8,(.d (.one (.dsl 500002 ([]))))),(9,vI k),(10,oD),(11,vI (W64 (j+1)))] [(500000,some (boxD 25 TG g)),(500001,(.some (.deep us3 TI2 ch))),(500002,(.some (.deep us2 TI1 rs))),(500003,(.some (.lis 3 TI64 (row.set j.toNat 100000))))])) ( K (.exit 4) (.mk [(1,vS s),(2,pA),(5,vI n),(6,(.d (.one (.dsl 500001 ([]))))),(7,vI i),(8,(.d (.one (.dsl 500002 ([]))))),(9,vI k),(10,oD)] [(500000,some (boxD 25 TG g)),(500001,(.some (.deep us3 TI2 ch))),(500002,(.some (.deep us2 TI1 rs))),(500003,some (.lis 3 TI64 row))]))):=by kernel_rfl
def fillF:Nat→Int→List Int→List Int
 |0,_,l=>l
 |n+1,j,l=>fillF n (j+1) (l.set j.toNat 100000)
theorem fillF_eq:∀ {n:Nat} {j:Nat} {l:List Int},l.length=j+n→fillF n (j:Int) l=l.take j++List.replicate n 100000
 |0,j,l,h=>by
  unfold fillF
  rw[List.take_of_length_le (by omega),List.replicate_zero,List.append_nil]
 |n+1,j,l,h=>by
  unfold fillF
  have e:((j:Int)+1)=((j+1:Nat):Int):=by omega
  rw[e,fillF_eq (by rw[List.length_set];omega),Int.toNat_natCast,List.replicate_succ]
  have h2:(l.set j 100000).take (j+1)=l.take j++[100000]:=by
   apply List.ext_getElem?
   intro q
   rw[List.getElem?_append,List.getElem?_take,List.getElem?_set,List.length_take]
   by_cases q1:q<j
   ·rw[if_pos (by omega),if_neg (by omega),if_pos (by omega),List.getElem?_take,if_pos q1]
   ·by_cases q2:q=j
    ·rw[if_pos (by omega),if_pos q2.symm,if_pos (by omega),if_neg (by omega),q2,show j-min j l.length=0 by omega];rfl
    ·rw[if_neg (by omega),if_neg (by omega),show q-min j l.length=(q-j-1)+1 by omega];rfl
  rw[h2,List.append_assoc];rfl
theorem fill_all {n:Nat}:fillF n 0 (List.replicate n 0)=List.replicate n 100000:=by
 have:=fillF_eq (n:=n) (j:=0) (l:=List.replicate n 0) (by rw[List.length_replicate];omega)
 rw[List.take_zero,List.nil_append]at this
 exact this
def cx0_j2:Cx:=(cb_l8c).withLoops (look L_j3)
def sh_j2:Sh:=([(1, .d .str),(2, .ptr 500000 0),(5, .d TI64),(6, .deep 500001),(7, .d TI64),(8, .deep 500002),(9, .d TI64),(10, .own 500003),(11, .d TI64)],[(500000, .box 25 TG),(500001, .deep us3 TI2),(500002, .deep us2 TI1),(500003, .lis 3 TI64)])
abbrev st_j2 (s:Str) (n i k j:Int) (g:Gram) (ch:List (Den TI2)) (rs:List (Den TI1)) (row:List (Int)):St:=⟨[(1,vS s),(2, .d (.one (.ptr 500000 0))),(5,vI n),(6, .d (.one (.dsl 500001 []))),(7,vI i),(8, .d (.one (.dsl 500002 []))),(9,vI k),(10, .d (.one (.own 500003))),(11,vI j)],[(500000,some (boxD 25 TG g)),(500001,some (.deep us3 TI2 ch)),(500002,some (.deep us2 TI1 rs)),(500003,some (.lis 3 TI64 row))]⟩
def pre_j2 (_s:Str) (n _i _k j:Int) (_g:Gram) (_ch:List (Den TI2)) (_rs:List (Den TI1)) (row:List (Int)):Bool:=decide (0≤j)&&(decide (n≤1001)&&decide ((List.length row:Int)=n))
def res_j2 (s:Str) (n i k j:Int) (g:Gram) (ch:List (Den TI2)) (rs:List (Den TI1)) (row:List (Int)) (K:Cont):Option Fin:=K (.exit 4) ⟨[(1,vS s),(2, pA),(5,vI n),(6, .d (.one (.dsl 500001 []))),(7,vI i),(8, .d (.one (.dsl 500002 []))),(9,vI k),(10, oD)],l8H g ch++[(500002,some (.deep us2 TI1 rs)),(500003,some (.lis 3 TI64 (fillF (n-j).toNat j row)))]⟩
def mu_j2 (_s:Str) (n _i _k j:Int) (_g:Gram) (_ch:List (Den TI2)) (_rs:List (Den TI1)) (_row:List (Int)):Nat:=(n-j).toNat
theorem r_j2 (s:Str) (n i k j:Int) (g:Gram) (ch:List (Den TI2)) (rs:List (Den TI1)) (row:List (Int)) (K:Cont) (hI:pre_j2 s n i k j g ch rs row=true):(∀R:St→Option Fin,evC cx0_j2 (loopOf Tryz.f99 2) (st_j2 s n i k j g ch rs row) (onward (headAt cx0_j2 12) R K)=res_j2 s n i k j g ch rs row K) ∨
  (∃(s':Str) (n' i' k' j':Int) (g':Gram) (ch':List (Den TI2)) (rs':List (Den TI1)) (row':List (Int)),pre_j2 s' n' i' k' j' g' ch' rs' row'=true∧mu_j2 s' n' i' k' j' g' ch' rs' row'<mu_j2 s n i k j g ch rs row∧res_j2 s' n' i' k' j' g' ch' rs' row' K=res_j2 s n i k j g ch rs row K∧∀R:St→Option Fin,evC cx0_j2 (loopOf Tryz.f99 2) (st_j2 s n i k j g ch rs row) (onward (headAt cx0_j2 12) R K)=R (st_j2 s' n' i' k' j' g' ch' rs' row')):=by
 have hx:=fun R=>x_spec_l8Costs_2 g ch rs s n i k j row R K
 simp only[pre_j2,andd,dec_iff]at hI
 obtain⟨h0,h1,h2⟩:=hI
 by_cases hj:j<n
 ·have w:W64 (j+1)=j+1:=wrap_small (by omega) (by omega)
  obtain⟨m,hm⟩:∃m,(n-j).toNat=m+1:=⟨(n-j).toNat-1,by omega⟩
  have hm2:(n-(j+1)).toNat=m:=by omega
  rw[decide_eq_true hj,inb_ok h0 (by omega),w]at hx
  right
  refine⟨s,n,i,k,j+1,g,ch,rs,row.set j.toNat 100000, ?_, ?_, ?_,fun R=>hx R⟩
  ·simp only[pre_j2,andd,dec_iff]
   rw[List.length_set]
   exact⟨by omega,h1,h2⟩
  ·simp only[mu_j2];omega
  ·simp only[res_j2,hm,hm2,fillF]
 ·left
  intro R
  refine(hx R).trans ?_
  rw[decide_eq_false hj]
  have e:(n-j).toNat=0:=by omega
  simp only[res_j2,e,fillF];rfl
def g_j2:St→Cont→Option Fin:=gP sh_j2 (fun v=>match v with | ((s,n,i,k,j,()),(g,ch,rs,row,()))=>pre_j2 s n i k j g ch rs row) (fun v K=>match v with | ((s,n,i,k,j,()),(g,ch,rs,row,()))=>res_j2 s n i k j g ch rs row K)
def L_j2:LpL:=(12,g_j2)::L_j3
theorem l_j2 {L:LpL} (n:Nat) (h1:L.drop n=L_j3) (h2:idsFree (L.take n) (loopOf Tryz.f99 2)=true):LoopsTo g_j2 (cb_l8c) (loopOf Tryz.f99 2) 12 L :=
 with_drop h1 h2 (gP_ok (fun v=>match v with | ((s,n,i,k,j,()),(g,ch,rs,row,()))=>mu_j2 s n i k j g ch rs row) fun v K hI=>by
  obtain⟨⟨s,n,i,k,j,⟨⟩⟩,⟨g,ch,rs,row,⟨⟩⟩⟩:=v
  exact(r_j2 s n i k j g ch rs row K hI).imp id fun⟨s',n',i',k',j',g',ch',rs',row',h⟩=>⟨((s',n',i',k',j',()),(g',ch',rs',row',())),h⟩)
theorem x_spec_l8Costs_1 (g:Gram) (ch:D3) (rs:List (List Int)) (s:Str) (n i k:Int) (R:St→Option Fin) (K:Cont):evC (cb_l8c.withLoops (look L_j2)) (loopOf Tryz.f99 1) ⟨[(1,vS s),(2, pA),(5,vI n),(6, .d (.one (.dsl 500001 []))),(7,vI i),(8, .d (.one (.dsl 500002 []))),(9,vI k)],l8H g ch++[(500002,some (.deep us2 TI1 rs))]⟩ (onward (headAt (cb_l8c.withLoops (look L_j2)) 8) R K)=(
branch (decide (k<n)) (
 need (decide (0≤n∧n≤n∧n*(Tryz.t3.bytes:Int)≤140737488355328∧n≤9223372036854775807)) <|
 need (pre_j2 s n i k 0 g ch rs (List.replicate n.toNat 0)) <|
 need (fits (rs.length+[fillF (n-0).toNat 0 (List.replicate n.toNat 0)].length) Tryz.t68.bytes) <| R (.mk [(1,vS s),(2,pA),(5,vI n),(6,(.d (.one (.dsl 500001 ([]))))),(7,vI i),(8,(.d (.one (.dsl 500002 ([]))))),(9,vI (W64 (k+1)))] [(500000,some (boxD 25 TG g)),(500001,(.some (.deep us3 TI2 ch))),(500002,(.some (.deep us2 TI1 (rs.append [fillF (n-0).toNat 0 (List.replicate n.toNat 0)]))))])) ( K (.exit 2) (.mk [(1,vS s),(2,pA),(5,vI n),(6,(.d (.one (.dsl 500001 ([]))))),(7,vI i),(8,(.d (.one (.dsl 500002 ([])))))] [(500000,some (boxD 25 TG g)),(500001,(.some (.deep us3 TI2 ch))),(500002,(.some (.deep us2 TI1 rs)))]))):=by kernel_rfl
def appL (α:Type) (a b:List α):List α:=a++b
theorem appL_len (α:Type) (a b:List α):(appL α a b).length=a.length+b.length:=List.length_append
theorem appL_assoc (α:Type) (a b c:List α):appL α (appL α a b) c=appL α a (appL α b c):=List.append_assoc a b c
theorem appL_nil (α:Type) (a:List α):appL α a []=a:=List.append_nil a
theorem intsBytes:Tryz.t68.bytes=24:=by kernel_rfl
theorem intssBytes:Tryz.t107.bytes=24:=by kernel_rfl
def cx0_j1:Cx:=(cb_l8c).withLoops (look L_j2)
def sh_j1:Sh:=([(1, .d .str),(2, .ptr 500000 0),(5, .d TI64),(6, .deep 500001),(7, .d TI64),(8, .deep 500002),(9, .d TI64)],[(500000, .box 25 TG),(500001, .deep us3 TI2),(500002, .deep us2 TI1)])
abbrev st_j1 (s:Str) (n i k:Int) (g:Gram) (ch:List (Den TI2)) (rs:List (Den TI1)):St:=⟨[(1,vS s),(2, .d (.one (.ptr 500000 0))),(5,vI n),(6, .d (.one (.dsl 500001 []))),(7,vI i),(8, .d (.one (.dsl 500002 []))),(9,vI k)],[(500000,some (boxD 25 TG g)),(500001,some (.deep us3 TI2 ch)),(500002,some (.deep us2 TI1 rs))]⟩
def pre_j1 (_s:Str) (n _i k:Int) (_g:Gram) (_ch:List (Den TI2)) (rs:List (Den TI1)):Bool:=decide (0≤k)&&(decide (k≤n)&&(decide (n≤1001)&&decide (List.length rs=k.toNat)))
def res_j1 (s:Str) (n i k:Int) (g:Gram) (ch:List (Den TI2)) (rs:List (Den TI1)) (K:Cont):Option Fin:=K (.exit 2) ⟨[(1,vS s),(2, pA),(5,vI n),(6, .d (.one (.dsl 500001 []))),(7,vI i),(8, .d (.one (.dsl 500002 [])))],l8H g ch++[(500002,some (.deep us2 TI1 (appL (List Int) rs (List.replicate (n-k).toNat (List.replicate n.toNat 100000)))))]⟩
def mu_j1 (_s:Str) (n _i k:Int) (_g:Gram) (_ch:List (Den TI2)) (_rs:List (Den TI1)):Nat:=(n-k).toNat
theorem r_j1 (s:Str) (n i k:Int) (g:Gram) (ch:List (Den TI2)) (rs:List (Den TI1)) (K:Cont) (hI:pre_j1 s n i k g ch rs=true):(∀R:St→Option Fin,evC cx0_j1 (loopOf Tryz.f99 1) (st_j1 s n i k g ch rs) (onward (headAt cx0_j1 8) R K)=res_j1 s n i k g ch rs K) ∨
  (∃(s':Str) (n' i' k':Int) (g':Gram) (ch':List (Den TI2)) (rs':List (Den TI1)),pre_j1 s' n' i' k' g' ch' rs'=true∧mu_j1 s' n' i' k' g' ch' rs'<mu_j1 s n i k g ch rs∧res_j1 s' n' i' k' g' ch' rs' K=res_j1 s n i k g ch rs K∧∀R:St→Option Fin,evC cx0_j1 (loopOf Tryz.f99 1) (st_j1 s n i k g ch rs) (onward (headAt cx0_j1 8) R K)=R (st_j1 s' n' i' k' g' ch' rs')):=by
 have hx:=fun R=>x_spec_l8Costs_1 g ch rs s n i k R K
 simp only[pre_j1,andd,dec_iff]at hI
 obtain⟨h0,h1,h2,h3⟩:=hI
 by_cases hk:k<n
 ·have w:W64 (k+1)=k+1:=wrap_small (by omega) (by omega)
  have k1:decide (0≤n∧n≤n∧n*(Tryz.t3.bytes:Int)≤140737488355328∧n≤9223372036854775807)=true:=by
   rw[intBytes]
   exact decide_eq_true ⟨by omega,Int.le_refl _,by omega,by omega⟩
  have kp:pre_j2 s n i k 0 g ch rs (List.replicate n.toNat 0)=true:=by
   simp only[pre_j2,andd,dec_iff]
   rw[List.length_replicate]
   exact⟨Int.le_refl 0,h2,by omega⟩
  have k2:fits (List.length rs+[List.replicate n.toNat (100000:Int)].length) Tryz.t68.bytes=true:=by
   rw[intsBytes]
   exact decide_eq_true (by rw[List.length_singleton];omega)
  obtain⟨m,hm⟩:∃m,(n-k).toNat=m+1:=⟨(n-k).toNat-1,by omega⟩
  have hm2:(n-(k+1)).toNat=m:=by omega
  have e0:(n-0).toNat=n.toNat:=by omega
  rw[decide_eq_true hk,k1,kp,w,e0,fill_all]at hx
  change ∀R:St→Option Fin,_=branch true (need true (need true (need (fits (List.length rs+[List.replicate n.toNat (100000:Int)].length) Tryz.t68.bytes) _))) _ at hx
  rw[k2]at hx
  right
  refine⟨s,n,i,k+1,g,ch,appL (List Int) rs [List.replicate n.toNat 100000], ?_, ?_, ?_,fun R=>hx R⟩
  ·simp only[pre_j1,andd,dec_iff]
   refine⟨by omega,by omega,h2,(appL_len (List Int) rs _).trans ?_⟩
   show List.length (α:=List Int) rs+1=_
   have h3:List.length (α:=List Int) rs=k.toNat:=h3
   omega
  ·simp only[mu_j1];omega
  ·simp only[res_j1,hm,hm2]
   exact congrArg (fun z:List (List Int)=>K (.exit 2) ⟨[(1,vS s),(2, pA),(5,vI n),(6, .d (.one (.dsl 500001 []))),(7,vI i),(8, .d (.one (.dsl 500002 [])))],l8H g ch++[(500002,some (.deep us2 TI1 z))]⟩) (appL_assoc (List Int) rs [List.replicate n.toNat 100000] (List.replicate m (List.replicate n.toNat 100000)))
 ·left
  intro R
  refine(hx R).trans ?_
  rw[decide_eq_false hk]
  have e:(n-k).toNat=0:=by omega
  simp only[res_j1,e]
  exact congrArg (fun z:List (List Int)=>K (.exit 2) ⟨[(1,vS s),(2, pA),(5,vI n),(6, .d (.one (.dsl 500001 []))),(7,vI i),(8, .d (.one (.dsl 500002 [])))],l8H g ch++[(500002,some (.deep us2 TI1 z))]⟩) (appL_nil (List Int) rs).symm
def g_j1:St→Cont→Option Fin:=gP sh_j1 (fun v=>match v with | ((s,n,i,k,()),(g,ch,rs,()))=>pre_j1 s n i k g ch rs) (fun v K=>match v with | ((s,n,i,k,()),(g,ch,rs,()))=>res_j1 s n i k g ch rs K)
def L_j1:LpL:=(8,g_j1)::L_j2
theorem l_j1 {L:LpL} (n:Nat) (h1:L.drop n=L_j2) (h2:idsFree (L.take n) (loopOf Tryz.f99 1)=true):LoopsTo g_j1 (cb_l8c) (loopOf Tryz.f99 1) 8 L :=
 with_drop h1 h2 (gP_ok (fun v=>match v with | ((s,n,i,k,()),(g,ch,rs,()))=>mu_j1 s n i k g ch rs) fun v K hI=>by
  obtain⟨⟨s,n,i,k,⟨⟩⟩,⟨g,ch,rs,⟨⟩⟩⟩:=v
  exact(r_j1 s n i k g ch rs K hI).imp id fun⟨s',n',i',k',g',ch',rs',h⟩=>⟨((s',n',i',k',()),(g',ch',rs',())),h⟩)
theorem x_spec_l8Costs (g:Gram) (ch:D3) (s:Str) (n i:Int) (R:St→Option Fin) (K:Cont):evC (cb_l8c.withLoops (look L_j1)) (loopOf Tryz.f99 0) ⟨[(1,vS s),(2, pA),(5,vI n),(6, .d (.one (.dsl 500001 []))),(7,vI i)],l8H g ch⟩ (onward (headAt (cb_l8c.withLoops (look L_j1)) 4) R K)=(
branch (decide (i<5)) (
 need (pre_j1 s n i 0 g ch []) <|
 need (fits (List.length ch+[appL (List Int) [] (List.replicate (n-0).toNat (List.replicate n.toNat 100000))].length) Tryz.t107.bytes) <| R (.mk [(1,vS s),(2,pA),(5,vI n),(6,(.d (.one (.dsl 500001 ([]))))),(7,vI (W64 (i+1)))] [(500000,some (boxD 25 TG g)),(500001,(.some (.deep us3 TI2 (List.append ch [appL (List Int) [] (List.replicate (n-0).toNat (List.replicate n.toNat 100000))]))))])) ( K (.exit 0) (.mk [(1,vS s),(2,pA),(5,vI n),(6,(.d (.one (.dsl 500001 ([])))))] [(500000,some (boxD 25 TG g)),(500001,(.some (.deep us3 TI2 ch)))]))):=by kernel_rfl
def cx0_j0:Cx:=(cb_l8c).withLoops (look L_j1)
def sh_j0:Sh:=([(1, .d .str),(2, .ptr 500000 0),(5, .d TI64),(6, .deep 500001),(7, .d TI64)],[(500000, .box 25 TG),(500001, .deep us3 TI2)])
abbrev st_j0 (s:Str) (n i:Int) (g:Gram) (ch:List (Den TI2)):St:=⟨[(1,vS s),(2, .d (.one (.ptr 500000 0))),(5,vI n),(6, .d (.one (.dsl 500001 []))),(7,vI i)],[(500000,some (boxD 25 TG g)),(500001,some (.deep us3 TI2 ch))]⟩
def pre_j0 (_s:Str) (n i:Int) (_g:Gram) (ch:List (Den TI2)):Bool:=decide (0≤i)&&(decide (i≤5)&&(decide (0≤n)&&(decide (n≤1001)&&decide (List.length ch=i.toNat))))
def res_j0 (s:Str) (n i:Int) (g:Gram) (ch:List (Den TI2)) (K:Cont):Option Fin:=K (.exit 0) ⟨[(1,vS s),(2, pA),(5,vI n),(6, .d (.one (.dsl 500001 [])))],l8H g (appL (List (List Int)) ch (List.replicate (5-i).toNat (List.replicate n.toNat (List.replicate n.toNat 100000))))⟩
def mu_j0 (_s:Str) (_n i:Int) (_g:Gram) (_ch:List (Den TI2)):Nat:=(5-i).toNat
theorem r_j0 (s:Str) (n i:Int) (g:Gram) (ch:List (Den TI2)) (K:Cont) (hI:pre_j0 s n i g ch=true):(∀R:St→Option Fin,evC cx0_j0 (loopOf Tryz.f99 0) (st_j0 s n i g ch) (onward (headAt cx0_j0 4) R K)=res_j0 s n i g ch K) ∨
  (∃(s':Str) (n' i':Int) (g':Gram) (ch':List (Den TI2)),pre_j0 s' n' i' g' ch'=true∧mu_j0 s' n' i' g' ch'<mu_j0 s n i g ch∧res_j0 s' n' i' g' ch' K=res_j0 s n i g ch K∧∀R:St→Option Fin,evC cx0_j0 (loopOf Tryz.f99 0) (st_j0 s n i g ch) (onward (headAt cx0_j0 4) R K)=R (st_j0 s' n' i' g' ch')):=by
 have hx:=fun R=>x_spec_l8Costs g ch s n i R K
 simp only[pre_j0,andd,dec_iff]at hI
 obtain⟨h0,h1,h2,h3,h4⟩:=hI
 by_cases hk:i<5
 ·have w:W64 (i+1)=i+1:=wrap_small (by omega) (by omega)
  have kp:pre_j1 s n i 0 g ch []=true:=by
   simp only[pre_j1,andd,dec_iff]
   exact⟨Int.le_refl 0,h2,h3,rfl⟩
  have k2:fits (List.length ch+[List.replicate n.toNat (List.replicate n.toNat (100000:Int))].length) Tryz.t107.bytes=true:=by
   rw[intssBytes]
   exact decide_eq_true (by rw[List.length_singleton];omega)
  obtain⟨m,hm⟩:∃m,(5-i).toNat=m+1:=⟨(5-i).toNat-1,by omega⟩
  have hm2:(5-(i+1)).toNat=m:=by omega
  have e0:(n-0).toNat=n.toNat:=by omega
  rw[decide_eq_true hk,kp,w,e0]at hx
  change ∀R:St→Option Fin,_=branch true (need true (need (fits (List.length ch+[List.replicate n.toNat (List.replicate n.toNat (100000:Int))].length) Tryz.t107.bytes) _)) _ at hx
  rw[k2]at hx
  right
  refine⟨s,n,i+1,g,appL (List (List Int)) ch [List.replicate n.toNat (List.replicate n.toNat 100000)], ?_, ?_, ?_,fun R=>hx R⟩
  ·simp only[pre_j0,andd,dec_iff]
   refine⟨by omega,by omega,h2,h3,(appL_len (List (List Int)) ch _).trans ?_⟩
   show List.length (α:=List (List Int)) ch+1=_
   have h4:List.length (α:=List (List Int)) ch=i.toNat:=h4
   omega
  ·simp only[mu_j0];omega
  ·simp only[res_j0,hm,hm2]
   exact congrArg (fun z:D3=>K (.exit 0) ⟨[(1,vS s),(2, pA),(5,vI n),(6, .d (.one (.dsl 500001 [])))],l8H g z⟩) (appL_assoc (List (List Int)) ch [List.replicate n.toNat (List.replicate n.toNat 100000)] (List.replicate m (List.replicate n.toNat (List.replicate n.toNat 100000))))
 ·left
  intro R
  refine(hx R).trans ?_
  rw[decide_eq_false hk]
  have e:(5-i).toNat=0:=by omega
  simp only[res_j0,e]
  exact congrArg (fun z:D3=>K (.exit 0) ⟨[(1,vS s),(2, pA),(5,vI n),(6, .d (.one (.dsl 500001 [])))],l8H g z⟩) (appL_nil (List (List Int)) ch).symm
def g_j0:St→Cont→Option Fin:=gP sh_j0 (fun v=>match v with | ((s,n,i,()),(g,ch,()))=>pre_j0 s n i g ch) (fun v K=>match v with | ((s,n,i,()),(g,ch,()))=>res_j0 s n i g ch K)
def L_j0:LpL:=(4,g_j0)::L_j1
def cx_j0:Cx:=(cb_l8c).withLoops (look L_j0)
theorem l_j0 {L:LpL} (n:Nat) (h1:L.drop n=L_j1) (h2:idsFree (L.take n) (loopOf Tryz.f99 0)=true):LoopsTo g_j0 (cb_l8c) (loopOf Tryz.f99 0) 4 L :=
 with_drop h1 h2 (gP_ok (fun v=>match v with | ((s,n,i,()),(g,ch,()))=>mu_j0 s n i g ch) fun v K hI=>by
  obtain⟨⟨s,n,i,⟨⟩⟩,⟨g,ch,⟨⟩⟩⟩:=v
  exact(r_j0 s n i g ch K hI).imp id fun⟨s',n',i',g',ch',h⟩=>⟨((s',n',i',()),(g',ch',())),h⟩)
def farC (n:Nat):D3:=List.replicate 5 (List.replicate n (List.replicate n 100000))
theorem far_ok {n:Nat}:okD5 n (farC n)=true:=okD5_iff.2 ⟨List.length_replicate,fun r hr=>by
 obtain rfl:=List.eq_of_mem_replicate hr
 refine⟨List.length_replicate,fun q hq => ?_⟩
 obtain rfl:=List.eq_of_mem_replicate hq
 refine⟨List.length_replicate,fun e he => ?_⟩
 obtain rfl:=List.eq_of_mem_replicate he
 exact⟨by decide,by decide⟩⟩
def costC (s:Str) (l:List Rule):D3:=runC hasE (keysF (s.length+1)) (stepF s) (visE (s.length+1) l) (farC (s.length+1))
theorem y_spec_l8Costs (g:Gram) (s:Str):evFn cx_j0 Tryz.f99 false [ofD TG g,ofD .str s] []=(
need (pre_j0 s (W64 ((s.length:Int)+1)) 0 g []) <|
need (pre_j3 s (W64 ((s.length:Int)+1)) true g (appL (List (List Int)) [] (List.replicate ((5:Int)-0).toNat (List.replicate (W64 ((s.length:Int)+1)).toNat (List.replicate (W64 ((s.length:Int)+1)).toNat 100000))))) <| some ((.d (.one (.dsl 1000 ([])))),[(1000,(.some (.deep us3 TI2 (bif true then runC hasE (keysF (List.length s+1)) (stepF s) (visE (List.length s+1) g.snd) (appL (List (List Int)) [] (List.replicate ((5:Int)-0).toNat (List.replicate (W64 ((s.length:Int)+1)).toNat (List.replicate (W64 ((s.length:Int)+1)).toNat 100000))))else appL (List (List Int)) [] (List.replicate ((5:Int)-0).toNat (List.replicate (W64 ((s.length:Int)+1)).toNat (List.replicate (W64 ((s.length:Int)+1)).toNat 100000)))))))])):=by kernel_rfl
theorem s_spec_l8Costs (g:Gram) (_hg:Fit TG g) (s:Str) (_hs:Fit .str s) (hpre:(okRp g.2&&decide (List.length s≤1000))=true):Sat Tryz.prog 99 [ofD TG g,ofD .str s] [] (.d (.one (.dsl 1000 []))) ([(1000,some (.deep us3 TI2 (costC s g.2)))]) :=
 fn_sound (cx:=cx_j0) Tryz.func99 rfl ttOk Γ78ok mixed (fun c hc=>LoopsOk.all (l:=[(4,loopOf Tryz.f99 0),(8,loopOf Tryz.f99 1),(12,loopOf Tryz.f99 2),(18,loopOf Tryz.f99 3),(21,loopOf Tryz.f99 4),(25,loopOf Tryz.f99 5),(29,loopOf Tryz.f99 6)]) (by cases hc;kernel_rfl) ⟨atLoop rfl (l_j0 1 rfl (by kernel_rfl)),atLoop rfl (l_j1 2 rfl (by kernel_rfl)),atLoop rfl (l_j2 3 rfl (by kernel_rfl)),atLoop rfl (l_j3 4 rfl (by kernel_rfl)),atLoop rfl (l_j4 5 rfl (by kernel_rfl)),atLoop rfl (l_j5 6 rfl (by kernel_rfl)),atLoop rfl (l_j6 7 rfl (by kernel_rfl)),trivial⟩) (ro:=false) (by
  obtain⟨h1,h2⟩:=andd.1 hpre
  have h2:=dec_iff.1 h2
  have w:W64 ((List.length s:Int)+1)=(List.length s:Int)+1:=wrap_small (by omega) (by omega)
  have e1:((List.length s:Int)+1).toNat=List.length s+1:=by omega
  have e2:((5:Int)-0).toNat=5:=rfl
  have p0:pre_j0 s ((List.length s:Int)+1) 0 g []=true:=by
   simp only[pre_j0,andd,dec_iff]
   exact⟨Int.le_refl 0,by omega,by omega,by omega,rfl⟩
  have p2:pre_j3 s ((List.length s:Int)+1) true g (farC (List.length s+1))=true:=by
   simp only[pre_j3,andd,dec_iff]
   exact⟨trivial,far_ok,h1,h2⟩
  rw[y_spec_l8Costs,w,e1,e2]
  change need (pre_j0 s ((List.length s:Int)+1) 0 g []) (need (pre_j3 s ((List.length s:Int)+1) true g (farC (List.length s+1))) _)=_
  rw[p0,p2];rfl)
def c_spec_l8Costs:Con:=conN [TG, .str] fun(g:Gram) (s:Str)=>(some (okRp g.2&&decide (List.length s≤1000)), .d (.one (.dsl 1000 [])),[(1000,some (.deep us3 TI2 (costC s g.2)))])
theorem k_spec_l8Costs:ConOk Tryz.prog 99 c_spec_l8Costs:=conN_ok Tryz.call99 fun g hg s hs hqq=>s_spec_l8Costs g hg s hs (pre_of hqq)
def Γ79:GL:=(99,c_spec_l8Costs)::Γ78
theorem Γ79ok:GO Γ79 := .cons k_spec_l8Costs Γ78ok
theorem costC_ok {s:Str} {l:List Rule} (h:okRp l=true) (hs:List.length s≤1000):okD5 (List.length s+1) (costC s l)=true:=(runC_end (stepF_ok hs) (J:=fun _=>True) (good_visE (s:=s) h) (fun _ _ _ _=>trivial) (m:=farC (List.length s+1)) far_ok trivial).1
def startC (g:Gram) (s:Str):Int:=atD (costC s g.2) (byteAt g.1 0-65) 0 (s.length:Int)
theorem y_spec_l8Start (g:Gram) (s:Str):evFn (cxOf Γ79 Tryz.f48.ntmps [] [] [] []) Tryz.f48 true [ofD TG g,ofD .str s] []=(
need (okRp g.snd&&decide (s.length≤1000)) <|
need (inb 0 (List.length g.fst)) <|
need (inb (W64 (IntKind.u8.wrap (byteAt g.fst 0-65))) (List.length (costC s g.snd))) <|
need (inb 0 (List.getD (costC s g.snd) (W64 (IntKind.u8.wrap (byteAt g.fst 0-65))).toNat []).length) <|
need (inb ((s.length:Int)) ((List.getD (costC s g.snd) (W64 (IntKind.u8.wrap (byteAt g.fst 0-65))).toNat []).getD ((0:Int).toNat) []).length) <| some ((vI (((List.getD (costC s g.snd) (W64 (IntKind.u8.wrap (byteAt g.fst 0-65))).toNat []).getD ((0:Int).toNat) []).getD ((s.length:Int)).toNat 0)),[])):=by kernel_rfl
theorem s_spec_l8Start (g:Gram) (_hg:Fit TG g) (s:Str) (_hs:Fit .str s) (hpre:(okG g&&decide (List.length s≤1000))=true):Sat Tryz.prog 48 [ofD TG g,ofD .str s] [] (.d (ofD TI64 (startC g s))) [] :=
 fn_sound (cx:=cxOf Γ79 Tryz.f48.ntmps [] [] [] []) Tryz.func48 rfl ttOk Γ79ok mixed (fun _ _=>LoopsOk.no fun _=>rfl) (ro:=true) (by
  obtain⟨h1,h2⟩:=andd.1 hpre
  have h3:=dec_iff.1 h2
  obtain⟨c,hc,hb⟩:=bigS_one (okG_big h1)
  have hk:=key_wrap (r:=(g.1,[])) (okG_big h1)
  have hk:W64 (IntKind.u8.wrap (byteAt g.1 0-65))=byteAt g.1 0-65:=hk
  obtain⟨k0,k1,_⟩:=keyK_in (r:=(g.1,[])) (okG_big h1)
  have k0:0≤byteAt g.1 0-65:=k0
  have k1:byteAt g.1 0-65<5:=k1
  obtain⟨l1,l2,l3⟩:=okD5_at (costC_ok (s:=s) (ok_rp h1) h3) (k:=byteAt g.1 0-65) (i:=0) k0 k1 (Int.le_refl 0) (by omega)
  have hl:inb 0 (List.length g.1)=true:=by rw[hc];rfl
  have kk:(okRp g.2&&decide (List.length s≤1000))=true:=andd.2 ⟨ok_rp h1,h2⟩
  rw[y_spec_l8Start,kk,hl,hk,l1,l2,l3,inb_ok k0 (by omega),inb_ok (Int.le_refl 0) (by omega),inb_ok (by omega) (by omega)];rfl)
def c_spec_l8Start:Con:=conT [TG, .str] fun(g:Gram) (s:Str)=>(some (okG g&&decide (List.length s≤1000)), .d (ofD TI64 (startC g s)))
theorem k_spec_l8Start:ConOk Tryz.prog 48 c_spec_l8Start:=conT_ok Tryz.call48 fun g hg s hs hqq=>s_spec_l8Start g hg s hs (pre_of hqq)
def Γ80:GL:=(48,c_spec_l8Start)::Γ79
theorem Γ80ok:GO Γ80 := .cons k_spec_l8Start Γ79ok
end
end Go.Proofs.YtmeiebnfmhddnaaGreatDoor.Ev
