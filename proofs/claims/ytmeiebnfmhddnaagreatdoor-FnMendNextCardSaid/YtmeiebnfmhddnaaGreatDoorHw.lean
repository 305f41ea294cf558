/-
  Next edits and repairs, of both sides.
-/
import Derived.Test.YtmeiebnfmhddnaaGreatDoorHv
namespace Go.Proofs.YtmeiebnfmhddnaaGreatDoor.Ev
open Go
noncomputable section
def nextV (g:Gram) (s:Str):Option Edit:=bif decide (mendV g s≤0)then none else nearV (farV g) g s (mendV g s)
def sNextV (g:Gram) (s:Str):Option Edit:=bif canB g s then(bif decide (startC g s=0)then none else nearV (startC g) g s (startC g s))else none
theorem y_impl_MendNext2 (g:Gram) (s:Str):evFn (cxOf Γ90 Tryz.f19.ntmps [] [] [] []) Tryz.f19 true [ofD TG g,ofD .str s] []=(
branch (decide (mendV g s≤0)) ( some ((.tup [(.agg [(.r (.v (Value.int IntKind.i64 0))),(.r (.v (Value.int IntKind.i64 0))),(.r (.v (Value.string (mk []))))]),(.one (.r (.v (Value.bool false))))]),[])) (
 need (okG g&&decide (s.length≤1000)) <| some ((.tup [(.agg [(.r (.v (Value.int IntKind.i64 ((nearV (farV g) g s (mendV g s)).getD ed0).fst))),(.r (.v (Value.int IntKind.i64 ((nearV (farV g) g s (mendV g s)).getD ed0).snd.fst))),(.r (.v (Value.string (mk ((nearV (farV g) g s (mendV g s)).getD ed0).snd.snd))))]),(.one (.r (.v (Value.bool (nearV (farV g) g s (mendV g s)).isSome))))]),[]))):=by kernel_rfl
theorem s_impl_MendNext (g:Gram) (_hg:Fit TG g) (s:Str) (_hs:Fit .str s):Sat Tryz.prog 19 [ofD TG g,ofD .str s] [] (nextT (nextV g s)) [] :=
 fn_sound (cx:=cxOf Γ90 Tryz.f19.ntmps [] [] [] []) Tryz.func19 rfl ttOk Γ90ok mixed (fun _ _=>LoopsOk.no fun _=>rfl) (ro:=true) (by
  rw[y_impl_MendNext2]
  unfold nextV
  cases hd:decide (mendV g s≤0)
  ·have hd:=of_decide_eq_false hd
   rcases mend_cases (g:=g) (s:=s)with⟨h1,_⟩ | ⟨_,_,_,_,h5,h6,_⟩
   ·omega
   ·rw[h5,decide_eq_true (by omega:List.length s≤1000)];rfl
  ·rfl)
def c_impl_MendNext:Con:=conT [TG, .str] fun(g:Gram) (s:Str)=>(none,nextT (nextV g s))
theorem k_impl_MendNext:ConOk Tryz.prog 19 c_impl_MendNext:=conT_ok Tryz.call19 fun g hg s hs _=>s_impl_MendNext g hg s hs
def Γ91:GL:=(19,c_impl_MendNext)::Γ90
theorem Γ91ok:GO Γ91 := .cons k_impl_MendNext Γ90ok
theorem y_spec_MendNext (g:Gram) (s:Str):evFn (cxOf Γ91 Tryz.f20.ntmps [] [] [] []) Tryz.f20 true [ofD TG g,ofD .str s] []=(
need (bif decide ((!canB g s)=false)then okG g&&decide (s.length≤1000)else true) <|
branch (bif !canB g s then true else decide (startC g s=0)) ( some ((.tup [(.agg [(.r (.v (Value.int IntKind.i64 0))),(.r (.v (Value.int IntKind.i64 0))),(.r (.v (Value.string (mk []))))]),(.one (.r (.v (Value.bool false))))]),[])) (
 need (okG g&&decide (s.length≤1000)) <|
 need (okG g&&decide (s.length≤1000)) <| some ((.tup [(.agg [(.r (.v (Value.int IntKind.i64 ((nearV (startC g) g s (startC g s)).getD ed0).fst))),(.r (.v (Value.int IntKind.i64 ((nearV (startC g) g s (startC g s)).getD ed0).snd.fst))),(.r (.v (Value.string (mk ((nearV (startC g) g s (startC g s)).getD ed0).snd.snd))))]),(.one (.r (.v (Value.bool (nearV (startC g) g s (startC g s)).isSome))))]),[]))):=by kernel_rfl
theorem s_spec_MendNext (g:Gram) (_hg:Fit TG g) (s:Str) (_hs:Fit .str s):Sat Tryz.prog 20 [ofD TG g,ofD .str s] [] (nextT (sNextV g s)) [] :=
 fn_sound (cx:=cxOf Γ91 Tryz.f20.ntmps [] [] [] []) Tryz.func20 rfl ttOk Γ91ok mixed (fun _ _=>LoopsOk.no fun _=>rfl) (ro:=true) (by
  rw[y_spec_MendNext]
  unfold sNextV
  cases hc:canB g s
  ·rfl
  ·obtain ⟨h1,_⟩:=canB_iff.1 hc
   obtain⟨h3,h4⟩:=both2_iff.1 h1
   have hl:=(areSm_iff.1 h4).1
   rw[h3,decide_eq_true (by omega:List.length s≤1000)]
   cases decide (startC g s=0)<;>rfl)
def c_spec_MendNext:Con:=conT [TG, .str] fun(g:Gram) (s:Str)=>(none,nextT (sNextV g s))
theorem k_spec_MendNext:ConOk Tryz.prog 20 c_spec_MendNext:=conT_ok Tryz.call20 fun g hg s hs _=>s_spec_MendNext g hg s hs
def Γ92:GL:=(20,c_spec_MendNext)::Γ91
theorem Γ92ok:GO Γ92 := .cons k_spec_MendNext Γ91ok
theorem near_same {g:Gram} {s:Str} {f:Int} (h:okG g=true) (hp:prodG g):nearV (farV g) g s f=nearV (startC g) g s f:=by
 have:okN (farV g) s f=okN (startC g) s f:=by
  funext e
  unfold okN
  cases hb:(EdDo s e).2
  ·rfl
  ·have:=(EdDo_short hb).2
   rw[(far_both h (by omega:List.length (EdDo s e).1≤1000) hp).1]
 unfold nearV
 rw[this]
theorem next_same {g:Gram} {s:Str}:nextV g s=sNextV g s:=by
 unfold nextV sNextV
 rcases mend_cases (g:=g) (s:=s)with⟨h1,h2⟩ | ⟨h1,h2,h3,h4,h5,h6,h7⟩
 ·rw[h1,h2];rfl
 ·have e:=(far_both h5 (by omega:List.length s≤1000) h7).1
  rw[h1,cond_true,h2,← e,near_same h5 h7]
  have hd:decide (farV g s≤0)=decide (farV g s=0):=by
   by_cases hz:farV g s=0
   ·rw[decide_eq_true hz,decide_eq_true (by omega)]
   ·rw[decide_eq_false hz,decide_eq_false (by omega)]
  rw[hd]
theorem fstE_some {p:Edit→Bool}:∀ {l:List Edit} {e:Edit},fstE p l=some e→p e=true∧e∈l
 | [],e,h=>by cases h
 |a::l,e,h=>by
  have h:(bif p a then some a else fstE p l)=some e:=h
  cases hp:p a
  ·rw[hp]at h
   obtain⟨h1,h2⟩:=fstE_some (l:=l) h
   exact⟨h1,List.mem_cons_of_mem _ h2⟩
  ·rw[hp]at h
   cases h
   exact⟨hp,List.mem_cons_self⟩
theorem fstE_mem {p:Edit→Bool}:∀ {l:List Edit} {e:Edit},e∈l→p e=true→(fstE p l).isSome=true
 |a::l,e,h,hp=>by
  show(bif p a then some a else fstE p l).isSome=true
  cases ha:p a
  ·rcases List.mem_cons.1 h with rfl | h
   ·rw[ha]at hp;cases hp
   ·exact fstE_mem h hp
  ·rfl
theorem nearN_some {p:Edit→Bool} {c:Str}:∀ {n:Nat} {i:Int} {e:Edit},nearN p c n i=some e→p e=true
 |0,_,_,h=>by cases h
 |n+1,i,e,h=>by
  have h:(bif (fstE p (editsE i c)).isSome then fstE p (editsE i c)else nearN p c n (i+1))=some e:=h
  cases hc:(fstE p (editsE i c)).isSome
  ·rw[hc]at h;exact nearN_some h
  ·rw[hc]at h;exact (fstE_some h).1
theorem nearN_mem {p:Edit→Bool} {c:Str} {e:Edit} (hp:p e=true):∀ {n:Nat} {i j:Int},i≤j→j<i+n→e∈editsE j c→(nearN p c n i).isSome=true
 |0,_,_,h1,h2,_=>by omega
 |n+1,i,j,h1,h2,he=>by
  show(bif (fstE p (editsE i c)).isSome then fstE p (editsE i c)else nearN p c n (i+1)).isSome=true
  cases hc:(fstE p (editsE i c)).isSome
  ·by_cases hij:i=j
   ·subst hij
    rw[fstE_mem he hp]at hc;cases hc
   ·exact nearN_mem hp (n:=n) (i:=i+1) (by omega) (by omega) he
  ·exact hc
theorem edit_one {s:Str} {e:Edit} (h:(EdDo s e).2=true):OneEd s (EdDo s e).1:=by
 obtain⟨h1,h2,h3,h4⟩:=EdDo_true h
 rw[h4]
 obtain⟨k,a,t⟩:=e
 unfold editOk at h2
 by_cases k1:k=1
 ·subst k1
  simp only[decide_true,cond_true,andd,dec_iff]at h2
  obtain⟨g1,g2,g3⟩:=h2
  obtain⟨c,rfl,_⟩:=smallS_one g3
  have:=OneEd.ins (u:=s.take a.toNat) (v:=s.drop a.toNat) (c:=c)
  rw[List.take_append_drop]at this
  exact this
 ·rw[decide_eq_false k1,cond_false]at h2
  have hd:∀ {n:Nat} (hn:n<s.length),s=s.take n++s[n]::s.drop (n+1):=fun hn=>by rw[← List.drop_eq_getElem_cons hn,List.take_append_drop]
  by_cases k2:k=2
  ·subst k2
   simp only[decide_true,cond_true,andd,dec_iff]at h2
   obtain⟨g1,g2,rfl⟩:=h2
   have hn:a.toNat<s.length:=by omega
   have:=OneEd.out (u:=s.take a.toNat) (v:=s.drop (a.toNat+1)) (c:=s[a.toNat])
   rw[← hd hn]at this
   exact this
  ·rw[decide_eq_false k2,cond_false]at h2
   by_cases k3:k=3
   ·subst k3
    simp only[decide_true,cond_true,andd,dec_iff,Bool.not_eq_true',decide_eq_false_iff_not]at h2
    obtain⟨g1,g2,g3,g4⟩:=h2
    obtain⟨c,rfl,_⟩:=smallS_one g3
    have hn:a.toNat<s.length:=by omega
    have hne:s[a.toNat]≠c:=fun e=>g4 (by unfold signAt;rw[List.drop_eq_getElem_cons hn,e];rfl)
    have:=OneEd.turn (u:=s.take a.toNat) (v:=s.drop (a.toNat+1)) hne
    rw[← hd hn]at this
    exact this
   ·rw[decide_eq_false k3]at h2;cases h2
theorem far_dec {g:Gram} {s:Str} {e:Edit} {f:Int} (h:okG g=true) (hs:List.length s≤1000) (hp:prodG g) (hf:f=farV g s) (ho:okN (farV g) s f e=true):(EdDo s e).2=true∧farV g (EdDo s e).1=f-1:=by
 unfold okN at ho
 cases hb:(EdDo s e).2
 ·rw[hb]at ho;cases ho
 ·rw[hb,cond_true]at ho
  have ho:=of_decide_eq_true ho
  have h1:=edit_one hb
  have h2:=(EdDo_short hb).2
  obtain⟨_,h3⟩:=far_step h hs (by omega:List.length (EdDo s e).1≤1000) hp h1.ed h1.de
  exact⟨rfl,by omega⟩
theorem word_signs {l:List Rule} {a w:Str} (h:WordG l a w):∀c∈w,small c=true∧∃r∈l,c∈r.2:=by
 refine h (fun _ w=>∀c∈w,small c=true∧∃r∈l,c∈r.2) fun r hr w hw => ?_
 have key:∀ {q w:Str},(∀c∈q,c∈r.2)→spW (fun _ w=>∀c∈w,small c=true∧∃r∈l,c∈r.2) q w→∀c∈w,small c=true∧∃r∈l,c∈r.2:=by
  intro q
  induction q with
  |nil =>
   intro w _ h c hc
   have h:w=[]:=h
   rw[h]at hc;cases hc
  |cons d q ih =>
   rintro w hq ⟨u,v,rfl,h1,h2⟩ c hc
   rcases List.mem_append.1 hc with hc | hc
   ·unfold wdP at h1
    split at h1
    ·rename_i hs
     rw[h1,List.mem_singleton]at hc
     subst hc
     exact⟨hs,r,hr,hq c List.mem_cons_self⟩
    ·exact h1 c hc
   ·exact ih (fun c hc=>hq c (List.mem_cons_of_mem _ hc)) h2 c hc
 exact key (fun c hc=>hc) hw
theorem word_smalls {g:Gram} {a w:Str} (h:WordG g.2 a w) {c:UInt8} (hc:c∈w):small c=true∧c∈smallsG g:=by
 obtain⟨h1,r,hr,h2⟩:=word_signs h c hc
 refine⟨h1,setS_mem.2 ⟨?_,h1⟩⟩
 unfold signsG sgsOf
 exact List.mem_append_right _ (List.mem_flatMap.2 ⟨r,hr,List.mem_append_right _ h2⟩)
theorem mem_addE {a d:Int} {c:Str} {x:UInt8} (h:x∈c):((d,a,[x]):Edit)∈addE a c d:=List.mem_map.2 ⟨x,h,rfl⟩
theorem in_edit {s x w c:Str} (h:OneIn w s x) (hc:∀y∈w,small y=true∧y∈c) (hs:longOk s=true) (hx:x.length≤20):∃i e,0≤i∧i≤(s.length:Int)∧e∈editsE i c∧EdDo s e=(x,true):=by
 have hsm:=(longOk_iff.1 hs).1
 cases h with
 | @out u v y =>
  have hlx:longOk (u++v)=true:=longOk_iff.2 ⟨fun z hz=>hsm z (by
   rcases List.mem_append.1 hz with hz | hz
   ·exact List.mem_append_left _ hz
   ·exact List.mem_append_right _ (List.mem_cons_of_mem _ hz)),hx⟩
  have hd:doE (u++y::v) (2,(u.length:Int),[])=u++v:=by
   show(u++y::v).take ((u.length:Int)).toNat++([]++(u++y::v).drop (((u.length:Int)).toNat+1))=u++v
   rw[Int.toNat_natCast,List.take_left,List.nil_append,← List.drop_drop,List.drop_left];rfl
  have ho:editOk (u++y::v) (2,(u.length:Int),[])=true:=by
   show(decide (0≤(u.length:Int))&&(decide ((u.length:Int)<((u++y::v).length:Int))&&decide (([]:Str)=[])))=true
   rw[andd,andd,dec_iff,dec_iff,dec_iff,List.length_append,List.length_cons]
   exact⟨by omega,by omega,rfl⟩
  refine⟨u.length,(2,(u.length:Int),[]),by omega,by rw[List.length_append];omega,List.mem_cons_self, ?_⟩
  rw[EdDo_mk hs ho (by rw[hd];exact hlx),hd]
 | @turn u v y z hne hz =>
  obtain⟨z1,z2⟩:=hc z hz
  have hlx:longOk (u++z::v)=true:=longOk_iff.2 ⟨fun q hq=>by
   rcases List.mem_append.1 hq with hq | hq
   ·exact hsm q (List.mem_append_left _ hq)
   ·rcases List.mem_cons.1 hq with rfl | hq
    ·exact z1
    ·exact hsm q (List.mem_append_right _ (List.mem_cons_of_mem _ hq)),hx⟩
  have hd:doE (u++y::v) (3,(u.length:Int),[z])=u++z::v:=by
   show(u++y::v).take ((u.length:Int)).toNat++([z]++(u++y::v).drop (((u.length:Int)).toNat+1))=u++z::v
   rw[Int.toNat_natCast,List.take_left,← List.drop_drop,List.drop_left];rfl
  have ho:editOk (u++y::v) (3,(u.length:Int),[z])=true:=by
   show(decide (0≤(u.length:Int))&&(decide ((u.length:Int)<((u++y::v).length:Int))&&(small z && !decide (signAt (u++y::v) (u.length:Int)=[z]))))=true
   have hsg:signAt (u++y::v) (u.length:Int)=[y]:=by unfold signAt;rw[Int.toNat_natCast,List.drop_left];rfl
   rw[hsg,z1,decide_eq_false (fun e:[y]=[z]=>hne (List.cons.inj e).1),andd,andd,dec_iff,dec_iff,List.length_append,List.length_cons]
   exact⟨by omega,by omega,rfl⟩
  refine⟨u.length,(3,(u.length:Int),[z]),by omega,by rw[List.length_append];omega,List.mem_cons_of_mem _ (List.mem_append_left _ (mem_addE z2)), ?_⟩
  rw[EdDo_mk hs ho (by rw[hd];exact hlx),hd]
 | @ins u v z hz =>
  obtain⟨z1,z2⟩:=hc z hz
  have hlx:longOk (u++z::v)=true:=longOk_iff.2 ⟨fun q hq=>by
   rcases List.mem_append.1 hq with hq | hq
   ·exact hsm q (List.mem_append_left _ hq)
   ·rcases List.mem_cons.1 hq with rfl | hq
    ·exact z1
    ·exact hsm q (List.mem_append_right _ hq),hx⟩
  have hd:doE (u++v) (1,(u.length:Int),[z])=u++z::v:=by
   show(u++v).take ((u.length:Int)).toNat++([z]++(u++v).drop ((u.length:Int)).toNat)=u++z::v
   rw[Int.toNat_natCast,List.take_left,List.drop_left];rfl
  have ho:editOk (u++v) (1,(u.length:Int),[z])=true:=by
   show(decide (0≤(u.length:Int))&&(decide ((u.length:Int)≤((u++v).length:Int))&&small z))=true
   rw[z1,andd,andd,dec_iff,dec_iff,List.length_append]
   exact⟨by omega,by omega,rfl⟩
  refine⟨u.length,(1,(u.length:Int),[z]),by omega,by rw[List.length_append];omega,List.mem_cons_of_mem _ (List.mem_append_right _ (List.mem_append_left _ (mem_addE z2))), ?_⟩
  rw[EdDo_mk hs ho (by rw[hd];exact hlx),hd]
theorem near_some {g:Gram} {s:Str} (h:okG g=true) (hp:prodG g) (hs:longOk s=true) (hl:List.length s<20) (h0:0<farV g s):(nearV (farV g) g s (farV g s)).isSome=true:=by
 obtain⟨_,_,_,⟨w,w1,m,m1,m2⟩,a5⟩:=far_both h (by omega:List.length s≤1000) hp
 have hm:=a5 w m w1 m2
 obtain⟨n,hn⟩:∃n,m=n+1:=⟨m-1,by omega⟩
 obtain⟨x,x1,x2⟩:=m2.first hn
 have hlx:x.length≤20:=by
  cases x1 with
  |out=>rw[List.length_append,List.length_cons]at hl;rw[List.length_append];omega
  |turn=>rw[List.length_append,List.length_cons]at hl;rw[List.length_append,List.length_cons];omega
  |ins=>rw[List.length_append]at hl;rw[List.length_append,List.length_cons];omega
 obtain⟨i,e,i0,i1,he,hd⟩:=in_edit x1 (fun y hy=>word_smalls w1 hy) hs hlx
 have hx:=(far_both h (by omega:List.length x≤1000) hp).2.2.2.2 w n w1 x2
 refine nearN_mem (e:=e) ?_ i0 (by omega) he
 unfold okN
 rw[hd,cond_true]
 exact decide_eq_true (by show farV g x<_;omega)
end
end Go.Proofs.YtmeiebnfmhddnaaGreatDoor.Ev
