/-
  Typed lists: what each operation makes.
-/
import Derived.Test.YtkhhclpkljikkaaDoorEv2
import Derived.LoopN
import Derived.KernelRfl
import Derived.ProofKit
import Derived.OpenShut
import Derived.ShutString
import Derived.ChangeOld
import Derived.Below
import Derived.SizedLaws
/-
 Typed lists: what each operation makes.
-/
namespace Go.Proofs.YtkhhclpkljikkaaDoor.Ev
open Go
open List (length length_append length_cons length_singleton length_replicate length_set length_take length_drop mem_cons_of_mem mem_cons_self getD replicate mem_append_left mem_append_right all_eq_true drop_eq_getElem_cons drop_eq_nil_of_le append_assoc mem_singleton getElem?_append_left getElem?_append_right getElem?_eq_none getElem?_take mem_append)
noncomputable section
theorem elemTy_some {TT:Types} {ty:TypeId} {ei:TI} {t:Ty} (h:elemTy TT ty=some (ei,t)):∃ti e,TT ty=some ti∧ti.desc = .slice e∧TT e=some ei∧ei.ty=some t∧width t=ei.info.size:=by
 unfold elemTy at h
 split at h
 ·rename_i ti hti
  split at h
  ·rename_i e hd
   split at h
   ·rename_i ei' hei
    split at h
    ·rename_i t' ht
     split at h
     ·rename_i hw
      cases h
      exact⟨ti,e,hti,hd,hei,ht,zB hw⟩
     ·cases h
    ·cases h
   ·cases h
  ·cases h
 ·cases h
theorem allDen_some {t:Ty}:∀ {rows:List (List R)} {l:List (Den t)},allDen t rows=some l→All2 (fun rs x=>asR t rs=some x) rows l
 | [],l,h=>by cases h;exact .nil
 |rs::rows,l,h=>by
  simp only[allDen]at h
  split at h
  ·rename_i x xs h1 h2
   cases h
   exact .cons h1 (allDen_some h2)
  ·cases h
theorem sliceRows_len {hh:Nat→Option Obj} {sz:Nat}:∀ {ps:List (Nat×Operand)} {xs:List T} {rows rows':List (List R)},sliceRows hh sz rows ps xs=some rows'→rows'.length=rows.length
 | [],[],rows,rows',h=>by cases h;rfl
 | [],x::xs,rows,rows',h=>by cases h
 | (i,Y)::ps,[],rows,rows',h=>by cases h
 | (i,Y)::ps,x::xs,rows,rows',h=>by
  cases x<;>simp only[sliceRows]at h<;>try cases h
  split at h
  ·split at h
   ·have:=sliceRows_len h;rw[this,length_set]
   ·cases h
  ·cases h
theorem payOf_in {h:Nat→Option Obj} {e:Ty} {c:C} {l:List (Den e)} (hp:payOf h e c=some l) {c':C} (hc:T.er (.d (.one c)) = .d (.one c')) {sz:Nat} {ez:List R} {ids:List Nat} {n:Nat} {get:Nat→Nat→R}
  (hs:sliceIn (fun i=>(h i).map Obj.er) sz ez c'=some (ids,n,get)):n=l.length∧∀k,k<n→∀j,get k j=getL e l k j:=by
 unfold payOf at hp
 split at hp
 ·obtain ⟨g,rfl⟩:=castL_some hp;subst g;simp only[T.er]at hc
  cases hc
  simp only[sliceIn]at hs
  split at hs
  ·cases hs;exact ⟨rfl,fun _ _ _=>rfl⟩
  ·cases hs
 ·cases hp
  simp only[T.er]at hc
  cases hc
  simp only[sliceIn]at hs
  cases hs
  exact⟨rfl,fun k hk=>by omega⟩
 ·rename_i i;simp only[T.er]at hc
  cases hc
  split at hp
  ·rename_i t' t l' hi;obtain⟨g,rfl⟩:=castL_some hp;subst g;simp only[sliceIn,hi,Option.map_some,Obj.er]at hs
   split at hs
   ·cases hs;exact ⟨rfl,fun _ _ _=>rfl⟩
   ·cases hs
  ·cases hp
 ·cases hp
theorem toR_le {h:Nat→Option Obj} {c:C} {r r':R} (h1:toR (fun i=>(h i).map Obj.er) c=some r) (h2:toR h c=some r'):Le r r':=by
 unfold toR at h1 h2
 split at h1
 ·cases h1;cases h2;exact Le.refl _
 ·rename_i i;dsimp only at h1 h2
  cases hi:h i with
  |none=>rw[hi]at h2;cases h2
  |some o =>
   rw[hi]at h1 h2;dsimp only[Option.map_some,Obj.er]at h1 h2
   cases o with
   |box t cs=>cases h2
   |arr t sz n get=>cases h1;cases h2;exact Le.refl _
   |lis t e l=>cases h1;cases h2;exact fun w F u hu=>Ro_li.2 hu
   |map k e m=>cases h1;cases h2;exact Le.refl _
   |deep ts e l=>cases h2
 ·rename_i i;dsimp only at h1 h2
  cases hi:h i with
  |none=>rw[hi]at h2;cases h2
  |some o =>
   rw[hi]at h1 h2;dsimp only[Option.map_some,Obj.er]at h1 h2
   cases o with
   |deep ts e l=>cases h1;cases h2;exact Le.refl _
   |_=>cases h2
 ·cases h1
theorem allR_le {h:Nat→Option Obj}:∀ {cs:List C} {rs rs':List R},allR (fun i=>(h i).map Obj.er) cs=some rs→allR h cs=some rs'→All2 Le rs rs'
 | [],rs,rs',h1,h2=>by cases h1;cases h2;exact .nil
 |c::cs,rs,rs',h1,h2=>by
  simp only[allR]at h1 h2
  split at h1
  ·rename_i a b e1 e2
   split at h2
   ·rename_i a' b' g1 g2
    cases h1;cases h2
    exact .cons (toR_le e1 g1) (allR_le e2 g2)
   ·cases h2
  ·cases h1
theorem pickOpt_er {lo:Option Operand} {xs xs':List T} {n:Option Int} (h:pickOpt lo xs=some (n,xs')):pickOpt lo (xs.map T.er)=some (n,xs'.map T.er):=by
 cases lo with
 |none=>cases h;rfl
 |some q =>
  cases xs with
  |nil=>cases h
  |cons x xs =>
   simp only[pickOpt,Option.map_eq_some_iff,Prod.mk.injEq]at h;obtain⟨m,hm,rfl,rfl⟩:=h;simp only[List.map_cons,pickOpt];have:intD x.er=some m:=by
    unfold intD at hm
    split at hm
    ·cases hm;rfl
    ·cases hm
   rw[this];rfl
section
variable {TT:Types} {Γ:Env} {o:Oper} {xs:List T} {h:Nat→Option Obj} {c:Option Bool} {x:T} {ups:Ups} {p:Pay}
theorem pay_build {ty:TypeId} {n:Nat} {ps:Array (Nat×Operand)} (ho:o.op = .buildSlice ty n ps) (he:evOp TT Γ o xs h=some (c,x,ups)) (hp:payOp TT o xs h=some p):UpsPay p ups∧XPay p x:=by
 simp only[payOp,ho]at hp
 split at hp
 ·rename_i ei t het;obtain⟨ti,e,h1,h2,h3,h4,h5⟩:=elemTy_some het
  split at hp
  ·rename_i z hz
   split at hp
   ·rename_i zr hzr
    split at hp
    ·rename_i rows hrows
     split at hp
     ·rename_i l hl
      cases hp
      simp only[evOp,ho,h1,h2,h3,hz,hzr,hrows]at he
      split at he
      ·rename_i rows' hck hr
       cases he
       cases hr
       have hlen:=sliceRows_len hrows;rw[repl_len]at hlen;have hall:=allDen_some hl;refine⟨fun i t' sz n' get hm => ?_,fun sz n get e=>by cases e⟩;rcases List.mem_cons.1 hm with hm | hm
       ·cases hm
        refine⟨h5.symm,by rw[← hlen];exact hall.len,fun k hk j hj => ?_⟩;obtain⟨y,hy,ha⟩:=hall.get (zE (show k<rows.length by omega));have hA:=asR_sound ha;rw[getL_lt hy];have hj':j<width t:=by rw[h5];exact hj
        have hjl:j<rows[k].length:=by rw[hA.len,cellsR_len];exact hj'
        rw[rowsGet_eq ei.desc ti.ez (zE (show k<rows.length by omega)) (zE hjl)];have:=le_at hA hj';simp only[getD,zE hjl,Option.getD_some]at this;exact this
       ·simp[dropIds]at hm
      ·cases he
     ·cases hp
    ·cases hp
   ·cases hp
  ·cases hp
 ·cases hp
theorem pay_make {ty:TypeId} {A B:Operand} {n m:T} (ho:o.op = .makeSlice ty A B) (he:evOp TT Γ o [n,m] h=some (c,x,ups)) (hp:payOp TT o [n,m] h=some p):UpsPay p ups∧XPay p x:=by
 simp only[payOp,ho]at hp
 split at hp
 ·rename_i ei t n' het hn;obtain⟨ti,e,h1,h2,h3,h4,h5⟩:=elemTy_some het
  split at hp
  ·rename_i z hz
   split at hp
   ·rename_i zr hzr
    split at hp
    ·rename_i x0 hx0
     cases hp
     cases hm:intD m with
     |none=>simp only[evOp,ho,h1,hn,hm]at he;cases he
     |some m' =>
      simp only[evOp,ho,h1,h2,h3,hz,hzr,hn,hm]at he
      split at he
      ·cases he
       refine⟨fun i t' sz n' get hm => ?_,fun sz n get e=>by cases e⟩;simp only[mem_singleton,Prod.mk.injEq,Option.some.injEq,Obj.arr.injEq]at hm;obtain⟨_,_,rfl,rfl,rfl⟩:=hm;refine⟨h5.symm,by simp,fun k hk j hj => ?_⟩;rw[if_pos hk,getL_lt (x:=x0) (by simp[hk])];exact le_at (asR_sound hx0) (by rw[h5];exact hj)
      ·cases he
    ·cases hp
   ·cases hp
  ·cases hp
 ·cases hp
theorem pay_slice {ty:TypeId} {X:Operand} {lo hi mx:Option Operand} {cc:C} {xs:List T} (ho:o.op = .slice ty X lo hi mx) (he:evOp TT Γ o ((T.d (.one cc)::xs).map T.er) (fun i=>(h i).map Obj.er)=some (c,x,ups)) (hc:c=none∨c=some true)
  (hp:payOp TT o (.d (.one cc)::xs) h=some p):UpsPay p ups∧XPay p x:=by
 simp only[payOp,ho]at hp
 ·split at hp
  ·rename_i ei t het;obtain⟨ti,e,h1,h2,h3,h4,h5⟩:=elemTy_some het
   split at hp
   ·rename_i l lo' xs1 hl hlo
    split at hp
    ·rename_i hi' xs2 hhi
     split at hp
     ·rename_i mx' hmx
      -- the operation
      have hin:∀ {cc':C},T.er (.d (.one cc)) = .d (.one cc')→∀ {r},evSlice TT (.one cc') ty lo' hi' mx' (fun i=>(h i).map Obj.er) (o.dst.getD 0)=some r →
        ∃ids n get,sliceIn (fun i=>(h i).map Obj.er) ei.info.size ti.ez cc'=some (ids,n,get)∧tri lo' hi' mx' (none, .d (.one (.own (sid (o.dst.getD 0) 0))),[(sid (o.dst.getD 0) 0,some (.arr e ei.info.size 0 fun _=>ezAt ti.ez))])
         (fun lo hi=>match ownAt (fun i=>(h i).map Obj.er) e lo cc' with
          |some i=>(some (inr 0 (hi.getD (n:Int)) n), .d (.one (.own (sid (o.dst.getD 0) 0))),[(i,none),(sid (o.dst.getD 0) 0,some (.arr e ei.info.size (hi.getD (n:Int)).toNat (arrSub get 0 (hi.getD (n:Int)).toNat ti.ez)))])
          |none=>(some (inr (lo.getD 0) (hi.getD (n:Int)) n), .d (.one (.r (.sl ei.info.size ((hi.getD (n:Int)).toNat-(lo.getD 0).toNat) (arrSub get (lo.getD 0).toNat ((hi.getD (n:Int)).toNat-(lo.getD 0).toNat) ti.ez)))),dropIds ids))=some r:=by
       intro cc' hcc r hr;have hns:∀s,cc' ≠ .r (.v (.string s)):=by
        intro s e1;subst e1;have:cc = .r (.v (.string s)):=by
         cases cc with
         |r q=>cases q<;>simp_all [T.er]
         |_=>simp[T.er]at hcc
        subst this;simp[payOf]at hl
       unfold evSlice at hr
       split at hr
       ·rename_i s heq;cases heq;exact absurd rfl (hns s)
       ·rename_i q _ heq
        cases heq
        simp only[h1,h2,h3,Option.bind_some,Option.map_some]at hr
        split at hr
        ·cases hr
        ·rename_i ids n get hs;exact⟨ids,n,get,hs,hr⟩
       ·rename_i hh;exact absurd rfl (hh _)
      have hop:∃cc',T.er (.d (.one cc)) = .d (.one cc'):=by
       unfold T.er
       split<;>exact ⟨_,rfl⟩
      obtain⟨cc',hcc⟩:=hop;simp only[evOp,ho,List.map_cons,hcc,pickOpt_er hlo,pickOpt_er hhi,pickOpt_er hmx,List.map_nil]at he;obtain⟨ids,n,get,hs,hr⟩:=hin hcc he;obtain⟨g1,g2⟩:=payOf_in hl hcc hs;have hp':tri lo' hi' mx' (⟨t,[]⟩:Pay) (fun lo hi=>⟨t,(l.drop (lo.getD 0).toNat).take ((hi.getD (l.length:Int)).toNat-(lo.getD 0).toNat)⟩)=some p:=hp;rcases tri_some hp' with⟨_,_,e1,rfl⟩ | ⟨e1,rfl⟩
      ·rcases tri_some hr with⟨_,_,_,hr⟩ | ⟨e2,_⟩
       ·cases hr
        refine⟨fun i t' sz n' get' hm => ?_,fun sz n get e=>by cases e⟩;simp only[mem_singleton,Prod.mk.injEq,Option.some.injEq,Obj.arr.injEq]at hm;obtain⟨_,_,rfl,rfl,rfl⟩:=hm;exact⟨h5.symm,rfl,fun k hk=>by omega⟩
       ·rw[e1]at e2;cases e2
      ·rcases tri_some hr with⟨_,_,e2,_⟩ | ⟨_,hr⟩
       ·rw[e1]at e2;cases e2
       ·split at hr
        ·rename_i i0 hown
         cases hr
         obtain⟨hlo0,_⟩:=ownAt_some hown;subst hlo0;refine⟨fun i t' sz n' get' hm => ?_,fun sz n get e=>by cases e⟩;simp only[List.mem_cons,Prod.mk.injEq,reduceCtorEq,and_false,false_or,List.not_mem_nil,or_false,Option.some.injEq,Obj.arr.injEq]at hm;obtain⟨_,_,rfl,rfl,rfl⟩:=hm;have hb:inr 0 (hi'.getD (n:Int)) n=true:=by
          rcases hc with hc | hc
          ·cases hc
          ·exact Option.some.inj hc
         simp only[inr,decide_eq_true_eq]at hb;obtain⟨b1,b2,b3⟩:=hb;subst g1;refine⟨h5.symm, ?_,fun k hk j hj => ?_⟩
         ·simp only[Option.getD_none,length_take,length_drop];omega
         ·simp only[arrSub,if_pos hk];rw[g2 _ (by omega)];refine Le.of_eq ?_;have hk':k<(hi'.getD (l.length:Int)).toNat-0:=by omega
          simp only[getL,getD,getElem?_take,List.getElem?_drop,Option.getD_none,Int.toNat_zero,if_pos hk']
        cases hr
        refine⟨fun i t' sz n' get' hm=>by simp[dropIds]at hm,fun sz n' get' e => ?_⟩
        cases e
        have hb:inr (lo'.getD 0) (hi'.getD (n:Int)) n=true:=by
         rcases hc with hc | hc
         ·cases hc
         ·exact Option.some.inj hc
        simp only[inr,decide_eq_true_eq]at hb;obtain⟨b1,b2,b3⟩:=hb;subst g1;refine⟨h5.symm, ?_,fun k hk j hj => ?_⟩
        ·simp only[length_take,length_drop];omega
        ·simp only[arrSub,if_pos hk];rw[g2 _ (by omega)];refine Le.of_eq ?_;simp only[getL,getD,getElem?_take,List.getElem?_drop,if_pos hk]
     ·cases hp
    ·cases hp
   ·cases hp
  ·cases hp
theorem pay_store {ty:TypeId} {A B:Operand} {i s k off:Nat} {d:D} (ho:o.op = .store ty A B) (he:evOp TT Γ o [.d (.one (.eptr i s k off)), .d d] (fun i=>(h i).map Obj.er)=some (c,x,ups))
  (hp:payOp TT o [.d (.one (.eptr i s k off)), .d d] h=some p):UpsPay p ups∧XPay p x:=by
 simp only[payOp,ho]at hp
 split at hp
 ·rename_i t' t l rs hi hrs
  split at hp
  ·rename_i y hy
   cases hp
   simp only[evOp,ho]at he
   split at he
   ·rename_i ti hti;simp only[Option.map_eq_some_iff]at he;obtain⟨u,hu,he⟩:=he
    cases he
    refine⟨fun i' t2 sz n get hm => ?_,fun sz n get e=>by cases e⟩;unfold evStore at hu
    split at hu
    ·cases hu
    ·simp only[hi,Option.map_some,Obj.er]at hu
     split at hu
     ·rename_i rs' hrs' hsz hel
      cases hu
      rcases List.mem_cons.1 hm with hm | hm
      ·cases hm
       refine⟨rfl,by simp,fun k' hk' j hj => ?_⟩;have hle:=allR_le hrs' hrs;have hcell:∀j,j<width t→Le ((setR (cellsR t (l.getD k (dflt t))) off rs).getD j z0) ((cellsR t y).getD j z0):=fun j hj=>le_at (asR_sound hy) hj
       suffices hL:Le (arrSetAll (getL t l) k off rs' k' j) (getL t (l.set k y) k' j)by
        clear hrs' hle hm;rcases rs' with _ | ⟨r0,_ | ⟨r1,rest⟩⟩
        ·exact hL
        ·rw[arrSet_one]at hL;exact hL
        ·exact hL
       by_cases hk:k'=k
       ·subst hk;have hlk:l[k']? = some l[k']:=zE hk';rw[getL_lt (l:=l.set k' y) (x:=y) (by simp[hk'])];refine fun w F u hu=>hcell j hj w F u ?_;rw[setR_get (by rw[cellsR_len];exact hj)];simp only[arrSetAll,true_and]at hu;rw[← hle.len]
        by_cases h2:off≤j∧j<off+rs'.length
        ·rw[if_pos h2]at hu ⊢;have hlt:j-off<rs'.length:=by omega
         obtain⟨r2,e1,e2⟩:=hle.get (zE hlt);simp only[getD,e1,Option.getD_some,zE hlt]at hu ⊢;exact e2 w F u hu
        ·rw[if_neg h2]at hu ⊢;exact hu
       ·refine Le.of_eq ?_;simp only[arrSetAll,hk,false_and,if_false,getL,getD,List.getElem?_set_ne (Ne.symm hk)]
      ·simp[dropIds]at hm
     ·cases hu
   ·cases he
  ·cases hp
 ·cases hp
theorem pay_append {cl:Call} {a b:C} (ho:o.op = .call cl) (hcl:cl.callee = .builtin .append) (he:evOp TT Γ o ([T.d (.one a),T.d (.one b)].map T.er) (fun i=>(h i).map Obj.er)=some (c,x,ups))
  (hp:payOp TT o [.d (.one a), .d (.one b)] h=some p):UpsPay p ups∧XPay p x:=by
 simp only[payOp,ho,hcl]at hp
 split at hp
 ·rename_i ei t _ het
  split at hp
  ·rename_i l m hl hm
   cases hp
   have hop:∀cc,∃cc',T.er (.d (.one cc)) = .d (.one cc'):=fun cc=>by
    unfold T.er
    split<;>exact ⟨_,rfl⟩
   obtain⟨a',ha⟩:=hop a;obtain⟨b',hb⟩:=hop b;simp only[Option.bind_eq_some_iff]at het;obtain⟨ty,hty,het⟩:=het;obtain⟨ti,e,h1,h2,h3,h4,h5⟩:=elemTy_some het;simp only[evOp,ho,hcl,List.map_cons,List.map_nil,ha,hb,evBuiltin]at he;have hst:∀ {st},(match cl.argTypes.toList with | [t1,t2]=>(bif Nat.beq t1 t2 then some t1 else none) | _=>none)=some st→st=ty:=by
    intro st hst
    split at hst
    ·rename_i t1 t2 hl2
     cases hbq:Nat.beq t1 t2 with
     |false=>rw[hbq]at hst;cases hst
     |true =>
      rw[hbq]at hst
      cases hst
      have:cl.argTypes[0]? = some st:=by rw[← Array.getElem?_toList,hl2];rfl
      rw[this]at hty;exact Option.some.inj hty
    ·cases hst
   split at he
   ·cases he
   ·rename_i st hs;have:=hst hs;subst this;simp only[h1,h2,h3]at he;unfold evAppend at he
    split at he
    ·rename_i zs q m' get' hz hin;obtain⟨g1,g2⟩:=payOf_in hm hb hin
     split at he
     ·split at he
      ·have hnil:l=[]:=by
        have:a = .r (.v (.slice none 0 0)):=by
         cases a with
         |r q=>cases q<;>simp_all [T.er]
         |_=>simp[T.er]at ha
        subst this;simp[payOf]at hl;exact hl
       cases he
       refine⟨fun i t' sz n' gg hm' => ?_,fun sz n get e=>by cases e⟩;simp only[mem_singleton,Prod.mk.injEq,Option.some.injEq,Obj.arr.injEq]at hm';obtain⟨_,_,rfl,rfl,rfl⟩:=hm';subst hnil;exact⟨h5.symm,by simpa using g1,fun k hk j hj=>Le.of_eq (by rw[g2 k hk j];rfl)⟩
      ·rename_i i
       split at he
       ·rename_i at_ sz n get hi
        split at he
        ·cases he
         have hin2:sliceIn (fun i=>(h i).map Obj.er) sz ti.ez (.own i)=some ([i],n,get):=by
          simp only[sliceIn,hi,Nat.beq_refl]
         obtain⟨f1,f2⟩:=payOf_in hl ha hin2;refine⟨fun i' t' sz' n' gg hm' => ?_,fun sz n get e=>by cases e⟩;rcases List.mem_cons.1 hm' with hm' | hm'
         ·cases hm'
         ·simp only[mem_singleton,Prod.mk.injEq,Option.some.injEq,Obj.arr.injEq]at hm';obtain⟨_,_,rfl,rfl,rfl⟩:=hm';refine⟨h5.symm,by simp only[length_append];omega,fun k hk j hj=>Le.of_eq ?_⟩;simp only[arrApp]
          by_cases hkn:k<n
          ·rw[if_pos hkn,f2 k hkn j];simp only[getL,getD,getElem?_append_left (show k<l.length by omega)]
          ·rw[if_neg hkn,g2 (k-n) (by omega) j];simp only[getL,getD,getElem?_append_right (show l.length≤k by omega),f1]
        ·cases he
       ·cases he
      ·cases he
     ·cases he
    ·cases he
  ·cases hp
 ·cases hp
theorem bytes_li {l:List Int}:areBytes (length l) (getL (.int .u8) l)=true∧bytesOf (length l) (getL (.int .u8) l)=byteL l:=by
 constructor
 ·simp only[areBytes,all_eq_true,List.mem_range];intro i hi;rfl
 ·simp only[bytesOf,byteL];refine List.ext_getElem (by simp) fun i h1 h2 => ?_;have hi:i<l.length:=by simpa using h1
  simp only[List.getElem_map,List.getElem_range];have:getL (.int .u8) l i 0 = .v (.int .u8 l[i]):=by
   rw[getL_lt (t := .int .u8) (l:=l) (x:=l[i]) (zE hi)];rfl
  rw[this];rfl
theorem pay_bytes {l:List (Den (.int .u8))} (hb:bytesPay o xs h=some l) (he:evOp TT Γ o (xs.map T.er) (fun i=>(h i).map Obj.er)=some (c,x,ups)) :
  x = .d (.one (.r (.v (.string (mk (byteL l))))))∧c=some true:=by
 unfold bytesPay at hb
 split at hb
 ·rename_i A B C t l' ho;obtain⟨g,rfl⟩:=castL_some hb;subst g;simp only[evOp,ho,List.map_cons,List.map_nil,T.er]at he
  split at he
  ·simp only[evConv,Option.map_eq_some_iff]at he;obtain⟨⟨b,cc⟩,h1,h2⟩:=he
   split at h1
   ·simp only[sliceIn]at h1
    split at h1
    ·rename_i heq
     split at heq
     ·cases heq
      cases h1
      cases h2
      exact⟨congrArg (fun z=>T.d (.one (.r (.v (.string (mk z)))))) (bytes_li (l:=l')).2,congrArg some (bytes_li (l:=l')).1⟩
     ·cases heq
    ·cases h1
   ·cases h1
  ·cases he
 ·rename_i A B C i ho
  split at hb
  ·rename_i t' t l' hi;obtain⟨g,rfl⟩:=castL_some hb;subst g;simp only[evOp,ho,List.map_cons,List.map_nil,T.er]at he
   split at he
   ·simp only[evConv,Option.map_eq_some_iff]at he;obtain⟨⟨b,cc⟩,h1,h2⟩:=he
    split at h1
    ·simp only[sliceIn,hi,Option.map_some,Obj.er]at h1
     split at h1
     ·rename_i heq
      split at heq
      ·cases heq
       cases h1
       cases h2
       exact⟨congrArg (fun z=>T.d (.one (.r (.v (.string (mk z)))))) (bytes_li (l:=l')).2,congrArg some (bytes_li (l:=l')).1⟩
      ·cases heq
     ·cases h1
    ·cases h1
   ·cases he
  ·cases hb
 ·cases hb
theorem pay_ok (he:evOp TT Γ o (bif erasesX o then xs.map T.er else xs) (bif erases o then fun i=>(h i).map Obj.er else h)=some (c,x,ups)) (hc:c=none∨c=some true) (hp:payOp TT o xs h=some p):UpsPay p ups∧XPay p x:=by
 have hp0:=hp;unfold payOp at hp
 split at hp
 ·rename_i ho;simp only[erases,erasesX,ho,cond_false]at he;exact pay_build ho he hp0
 ·rename_i ho;simp only[erases,erasesX,ho,cond_false]at he;exact pay_make ho he hp0
 ·rename_i ho;simp only[erases,erasesX,ho,cond_true]at he;exact pay_slice ho he hc hp0
 ·rename_i ho;simp only[erases,erasesX,ho,cond_true,cond_false]at he;exact pay_store ho he hp0
 ·rename_i cl a b ho
  split at hp
  ·rename_i hcl het;simp only[erases,erasesX,ho,hcl,cond_true]at he;exact pay_append ho hcl he hp0
  ·cases hp
 ·cases hp
end
section
variable {P:Program} {TT:Types} {w0 w:World} {O0 F0 F:Nat→Prop} {h:HF} {β:Nat→Value} {a:Act} {o:Oper} {K:Act→World→Prop} {Q:Exit→Act→World→Prop} {x:T} {v:Value}
theorem isNew_look {ups:Ups} {p:Option Pay} {j:Nat} {q:Option Obj} (hm:(j,q)∈ups):∃q',(j,q')∈retUps p ups:=by
 cases p with
 |none=>exact ⟨q,hm⟩
 |some r =>
  refine⟨(retO r (j,q)).2,List.mem_map.2 ⟨(j,q),hm, ?_⟩⟩;unfold retO
  split
  ·rename_i heq;cases heq;rfl
  ·rfl
theorem evOpT_sound (H:Inv w0 O0 F0 w F h β) (ht:TTok P TT) {Γ:Env} (hΓ:EnvOk P Γ) {hh:Nat→Option Obj} (hhh:∀i ob,hh i=some ob→h i=some (some ob)) {xs:List T} {c:Option Bool} {ups:Ups}
  (he:evOpT TT Γ o xs hh=some (c,x,ups)) (hc:c=none∨c=some true) (hx:All2 (RepX a.tmps w F h β) xs (o.op.operands.toList.map a.eval)) (hnew:∀j q,(j,q)∈ups→isNew (o.dst.getD 0) j=true→h j=none)
  (hK:∀v w',Out w0 O0 F0 w F h β a.tmps ups x v w'→K (a.put o.dst v) w'):o.wp P a w K Q:=by
 have hxx:All2 (RepX a.tmps w F h β) (bif erasesX o then xs.map T.er else xs) (o.op.operands.toList.map a.eval):=by
  cases erasesX o
  ·exact hx
  ·exact All2.map_l.2 (hx.mono fun _ _=>er_sound)
 have main:∀ {c':Option Bool} {x':T} {ups':Ups},evOp TT Γ o (bif erasesX o then xs.map T.er else xs) (bif erases o then fun i=>(hh i).map Obj.er else hh)=some (c',x',ups')→(c'=none∨c'=some true) →
   (∀j q,(j,q)∈ups'→isNew (o.dst.getD 0) j=true→h j=none)→∀(p:Option Pay),(∀q,p=some q→UpsPay q ups'∧XPay q x')→(∀v w',Out w0 O0 F0 w F h β a.tmps (retUps p ups') (retT p x') v w'→K (a.put o.dst v) w')→o.wp P a w K Q:=by
  intro c' x' ups' he' hc' hnew' p hp hK'
  cases hb:erases o
  ·rw[hb]at he';exact evOp_sound H ht hΓ hhh he' hc' hxx hnew' fun v w' hout=>hK' v w' (Out.told (p:=p) (Shp.refl h) (fun i o1 o2 h1 h2=>by rw[h1]at h2;cases h2;exact fun _ _ _ _ hr=>hr) hp hout)
  ·rw[hb]at he';have hxe:All2 (RepX a.tmps w F (erF h) β) (bif erasesX o then xs.map T.er else xs) (o.op.operands.toList.map a.eval):=hxx.mono fun _ _=>(erF_shp h).repX;refine evOp_sound H.er ht hΓ (hh:=fun i=>(hh i).map Obj.er) (fun i ob hi => ?_) he' hc' hxe (fun j q hj hn=>by simp[erF,hnew' j q hj hn]) fun v w' hout =>
    hK' v w' (Out.told (p:=p) (erF_shp h).symm (fun i o1 o2 h1 h2 => ?_) hp hout)
   ·simp only[Option.map_eq_some_iff]at hi;obtain⟨o1,h1,rfl⟩:=hi;simp[erF,hhh i o1 h1]
   ·simp only[erF,h2,Option.map_some,Option.some.injEq]at h1;subst h1;exact fun _ _ _ _ hr=>RepO_er.1 hr
 unfold evOpT at he
 split at he
 ·rename_i x' hn
  cases he
  unfold nilOp at hn
  split at hn
  ·rename_i ty X Y ty2 c' ho;rw[ho]at hx
   cases hx with | cons h1 h2=>cases h2 with | cons h2 h3 =>
   split at hn
   ·rename_i hs;have hY:a.eval Y = .slice none 0 0:=h2.1
    split at hn
    ·rename_i l
     cases hn
     obtain⟨ad,cap,e,_,_,hh⟩:=h1;refine op_nilEq (x := .nilq l.length) H ht ho hs (List.cons.inj e).1 hY ⟨_,rfl,fun hp => ?_⟩ hK;rcases hh with hh | ⟨b,o,rfl,_,_⟩
     ·omega
     ·rfl
    ·rename_i n _
     cases hn
     obtain⟨ad,cap,e,_,_,hh⟩:=h1;refine op_nilEq (x := .nilq n) H ht ho hs e hY ⟨_,rfl,fun hp => ?_⟩ hK;rcases hh with hh | ⟨b,o,rfl,_,_⟩
     ·omega
     ·rfl
    ·cases hn
     exact op_nilEq (x := .d (.one (.r (.v (.bool true))))) H ht ho hs h1.1 hY ⟨rfl,rfl⟩ hK
    ·cases hn
   ·cases hn
  ·cases hn
 rename_i hnn;clear hnn
 split at he
 ·rename_i r hr
  cases he
  exact xOp_sound H ht hhh hr hc hx hnew hK
 rename_i hxn;clear hxn
 split at he
 ·rename_i c' x' ups' he'
  split at he
  ·rename_i l hl
   cases he
   have hers:erases o=true∧erasesX o=true:=by
    unfold bytesPay at hl
    split at hl
    ·rename_i ho;simp[erases,erasesX,ho]
    ·rename_i ho;simp[erases,erasesX,ho]
    ·cases hl
   have he2:=he';rw[hers.1,hers.2]at he2;obtain⟨hx',hc'⟩:=pay_bytes hl he2;exact main he' (.inr hc') hnew none (fun q e=>by cases e) (by rw[hx'];exact hK)
  ·split at he
   ·rename_i p hp
    cases he
    refine main he' hc (fun j q hj hn => ?_) (some p) (fun q e=>by cases e;exact pay_ok he' hc hp) hK;obtain⟨q',hq'⟩:=isNew_look (p:=some p) hj;exact hnew j q' hq' hn
   ·cases he
    exact main he' hc hnew none (fun q e=>by cases e) hK
 ·cases he
end
end
/-
 One operation of a region,over what is known of temporaries and objects as functions.
-/
noncomputable section
open Go
abbrev EF:=Nat→Option T
def alv (h:HF) (i:Nat):Option Obj:=match h i with | some (some o)=>some o | _=>none
def evOpdF (E:EF):Operand→Option T
 | .tmp t=>E t
 | .const v=>evConst v
 | .func f=>some (.d (.one (.fn f [])))
 | .global _=>none
def opdsF (E:EF) (g:Option (Nat×Bool)) (o:Oper):Option (List T):=allSome (o.op.operands.toList.map fun x=>(evOpdF E x).map (unwrap g))
def holdsF (E:EF):Nat→Nat→Bool→Option Bool
 |0,_,_=>none
 |k+1,s,w=>match E s with
  |some .und=>some false
  |some (.d (.one (.r (.v (.bool b)))))=>some (b==w)
  |some (.when s' w' (.one (.r (.v (.bool b)))))=>match holdsF E k s' w' with
   |some v=>some (v&&(b==w))
   |none=>none
  |_=>none
def putF (E:EF) (dst:Option Nat) (x:T):EF:=match dst with | some t=>fun j=>if j=t then some x else E j | none=>E
def okC (c:Option Bool):Prop:=c=none∨c=some true
def PutOk (cx:Cx) (o:Oper) (E:EF):Prop:=∀t,o.dst=some t→t<cx.size∧(∀j s w y,E j=some (.when s w y)→s≠t)∧∀s w y,E t≠some (.when s w y)
def UpsOk (ids:List Nat) (o:Oper) (h:HF) (ups:Ups):Prop:=∀i q,(i,q)∈ups→(∃t,o.dst=some t∧isNew t i=true∧h i=none)∨(i∈ids∧isNew (o.dst.getD 0) i=false∧∃p,h i=some p)
inductive Ran (cx:Cx) (ops:Array Oper) (o:Oper) (E:EF) (h:HF):EF→HF→Marks→Prop
 | all {xs:List T} {c:Option Bool} {x:T} {ups:Ups}:(o.guard=none∨∃g want d,o.guard=some (g,want)∧(ops[g]?).bind (·.dst)=some d∧holdsF E 20 d want=some true) →
   opdsF E none o=some xs→evOpT cx.TT cx.Γ o xs (within (alv h) (foot o xs (alv h)))=some (c,x,ups)→okC c→UpsOk (foot o xs (alv h)) o h ups→PutOk cx o E→isWhen x=false →
   Ran cx ops o E h (putF E o.dst x) (upd ups h) ⟨o,foot o xs (alv h),ups.map (·.1)⟩
 | cond {g:Nat} {want:Bool} {d:Nat} {v:Bool} {xs:List T} {c:Option Bool} {x:D}:o.guard=some (g,want)→(ops[g]?).bind (·.dst)=some d→holdsF E 20 d want=some v →
   opdsF E (some (d,want)) o=some xs→evOpT cx.TT cx.Γ o xs (within (alv h) (foot o xs (alv h)))=some (c, .d x,[])→(v=true→okC c)→PutOk cx o E→o.dst≠some d →
   Ran cx ops o E h (putF E o.dst (.when d want x)) h ⟨o,foot o xs (alv h),[]⟩
 | skip {g:Nat} {want:Bool} {d:Nat}:o.guard=some (g,want)→(ops[g]?).bind (·.dst)=some d→holdsF E 20 d want=some false→PutOk cx o E →
   Ran cx ops o E h (putF E o.dst .und) h ⟨o,[],[]⟩
structure ER (cx:Cx) (E:EF) (a:Act) (w:World) (F:Nat→Prop) (h:HF) (β:Nat→Value):Prop where
 size:a.tmps.size=cx.size
 defers:a.defers=[]
 rep:∀t x,E t=some x→t<cx.size∧RepX a.tmps w F h β x (a.tmps.getD t undef)
section
variable {P:Program} {cx:Cx} {w0 w:World} {O0 F0 F:Nat→Prop} {h:HF} {β:Nat→Value} {a:Act} {o:Oper} {E:EF}
theorem ER.per (R:ER cx E a w F h β) {w':World} {F':Nat→Prop} {h':HF} {β':Nat→Value} (p:Per w F h β w' F' h' β'):ER cx E a w' F' h' β' :=
 ⟨R.size,R.defers,fun t x hx=>⟨(R.rep t x hx).1,p.repX (R.rep t x hx).2⟩⟩
theorem RepX.setTm {tm:Array Value} {t:Nat} {v:Value} {x:T} {u:Value} (hx:∀s w y,x = .when s w y→s≠t) (hr:RepX tm w F h β x u):RepX (tm.setIfInBounds t v) w F h β x u:=by
 cases x with
 |when s b y =>
  have hne:=hx s b y rfl;have:(tm.setIfInBounds t v)[s]? = tm[s]? := Array.getElem?_setIfInBounds_ne (Ne.symm hne);simp only[RepX,this];exact hr
 |_=>exact hr
theorem ER.put (R:ER cx E a w F h β) (hp:PutOk cx o E) {x:T} {v:Value} (hx:RepX a.tmps w F h β x v) (hw:∀t,o.dst=some t→∀s b y,x = .when s b y→s≠t):ER cx (putF E o.dst x) (a.put o.dst v) w F h β:=by
 cases hd:o.dst with
 |none=>exact R
 |some t =>
  obtain⟨ht,hno,_⟩:=hp t hd;refine⟨by simp[Act.put,R.size],R.defers,fun j y hy => ?_⟩;simp only[putF]at hy
  by_cases e:j=t
  ·subst e;simp only[if_true,Option.some.injEq]at hy;subst hy;refine⟨ht, ?_⟩;have:(a.put (some j) v).tmps.getD j undef=v:=by
    have:j<a.tmps.size:=by rw[R.size];exact ht
    simp[Act.put,this]
   rw[this];exact RepX.setTm (hw j hd) hx
  ·rw[if_neg e]at hy;obtain⟨h1,h2⟩:=R.rep j y hy;refine⟨h1, ?_⟩;have:(a.put (some t) v).tmps.getD j undef=a.tmps.getD j undef:=by
    simp[Act.put,Array.getElem?_setIfInBounds_ne (Ne.symm e)]
   rw[this];exact RepX.setTm (fun s w z e'=>hno j s w z (e' ▸ hy)) h2
theorem evOpd_sound (R:ER cx E a w F h β) {X:Operand} {x:T} (hx:evOpdF E X=some x):RepX a.tmps w F h β x (a.eval X):=by
 cases X with
 |tmp t=>exact (R.rep t x hx).2
 |const v=>exact evConst_sound hx
 |func f =>
  simp only[evOpdF,Option.some.injEq]at hx;subst hx;exact⟨rfl,fun i hi=>by simp at hi,fun _=>rfl⟩
 |global g=>cases hx
theorem opds_sound (R:ER cx E a w F h β) {g:Option (Nat×Bool)} (hg:∀s b,g=some (s,b)→a.tmps[s]? = some (.bool b)) {xs:List T} (hx:opdsF E g o=some xs):All2 (RepX a.tmps w F h β) xs (o.op.operands.toList.map a.eval):=by
 have hm:=allSome_map hx;rw[All2.map_r];refine hm.mono fun y X hy => ?_;simp only[Option.map_eq_some_iff]at hy;obtain⟨z,hz,rfl⟩:=hy;have hr:=evOpd_sound R hz
 cases z with
 |when s b y =>
  simp only[unwrap]
  split
  ·rename_i s' b'
   cases hc:(Nat.beq s s'&&(b==b'))
   ·exact hr
   ·simp only[Bool.and_eq_true,beq_iff_eq]at hc;have e:=zB hc.1;obtain⟨_,e2⟩:=hc;subst e;subst e2;exact hr.1 (hg s b rfl)
  ·exact hr
 |_=>exact hr
theorem holds_sound (R:ER cx E a w F h β):∀(k s:Nat) (b v:Bool),holdsF E k s b=some v→(a.tmps[s]? = some (.bool b)↔v=true)
 |0,s,b,v,hh=>by cases hh
 |k+1,s,b,v,hh=>by
  simp only[holdsF]at hh;have hget:∀ {x},E s=some x→s<a.tmps.size∧RepX a.tmps w F h β x (a.tmps.getD s undef):=fun hx=>by rw[R.size];exact R.rep s _ hx
  have hat:∀ {u:Value},s<a.tmps.size→a.tmps.getD s undef=u→a.tmps[s]? = some u:=fun hs hu=>by
   rw[← hu];simp[hs]
  split at hh
  ·rename_i hE
   cases hh
   obtain⟨h1,h2⟩:=hget hE;rw[hat h1 h2];simp[undef]
  ·rename_i b' hE
   cases hh
   obtain⟨h1,h2⟩:=hget hE;rw[hat h1 h2.1];simp
  ·rename_i s' w' b' hE
   split at hh
   ·rename_i v' hv
    cases hh
    have ih:=holds_sound R k s' w' v' hv;obtain⟨h1,h2⟩:=hget hE
    cases v' with
    |true =>
     have:=ih.2 rfl;rw[hat h1 (h2.1 this).1];simp
    |false =>
     have:a.tmps[s']? ≠ some (.bool w'):=fun e=>by have:=ih.1 e;cases this
     rw[hat h1 (h2.2 this)];simp[undef]
   ·cases hh
  ·cases hh
theorem yielded_at {ops:Array Oper} {g d:Nat} {tm:Array Value} {b:Bool} (hd:(ops[g]?).bind (·.dst)=some d):yielded ops tm g=some b↔tm[d]? = some (.bool b):=by
 unfold yielded;rw[hd];simp only[Option.bind_some]
 constructor
 ·intro hy
  split at hy
  ·rename_i hq;cases hy;exact hq
  ·cases hy
 ·intro hy;rw[hy]
def Stay (m:Nat) (β0:Nat→Value) (h:HF) (β:Nat→Value):Prop:=∀i o,i<m→h i=some (some o)→β i=β0 i
theorem isNew_big {t i:Nat} (h:isNew t i=true):1000≤i:=by
 simp only[isNew,sid,Bool.and_eq_true,Nat.ble_eq]at h;omega
theorem Ran.old {ops:Array Oper} {E':EF} {h':HF} {k:Marks} (hran:Ran cx ops o E h E' h' k) {i:Nat} {ob:Obj} (hi:i<1000) (ho:h' i=some (some ob)):∃q,h i=some q:=by
 cases hran with
 | @all xs c x ups hg hxs he hc hu hp hnw =>
  simp only[upd]at ho
  split at ho
  ·rename_i q hq;have:(i,q)∈ups:=by
    clear ho hu he
    induction ups with
    |nil=>simp[look]at hq
    |cons p l ih =>
     obtain⟨k,y⟩:=p;simp only[look]at hq
     cases hb:Nat.beq k i
     ·rw[hb]at hq;exact mem_cons_of_mem _ (ih hq)
     ·rw[hb]at hq;have e:=zB hb;simp only[cond_true,Option.some.injEq]at hq;subst e;subst hq;exact mem_cons_self ..
   rcases hu i q this with⟨t,_,h2,_⟩ | ⟨_,_,h3⟩
   ·have:=isNew_big h2;omega
   ·exact h3
  ·exact ⟨_,ho⟩
 |cond=>exact ⟨_,ho⟩
 |skip=>exact ⟨_,ho⟩
theorem Stay.per {m:Nat} {β0:Nat→Value} (S:Stay m β0 h β) {w':World} {F':Nat→Prop} {h':HF} {β':Nat→Value} (p:Per w F h β w' F' h' β') (hm:m≤1000) (hold:∀i ob,i<1000→h' i=some (some ob)→∃q,h i=some q):Stay m β0 h' β':=by
 intro i ob hi ho;obtain⟨q,hq⟩:=hold i ob (by omega) ho;obtain⟨⟨o',rfl⟩,e⟩:=p.back i q ob hq ho;rw[e];exact S i o' hi hq
theorem Ran.wp {n:Nat} {β0:Nat→Value} (hn:n≤1000) (hTT:TTok P cx.TT) (hΓ:EnvOk P cx.Γ) {ops:Array Oper} {i:Nat} (hi:ops[i]? = some o) {E':EF} {h':HF} {m:Marks} (hran:Ran cx ops o E h E' h' m) (H:Inv w0 O0 F0 w F h β) (S:Stay n β0 h β) (R:ER cx E a w F h β) {K:Act→World→Prop} {Q:Exit→Act→World→Prop}
  (hK:∀a' w' F' β',Inv w0 O0 F0 w' F' h' β'→Stay n β0 h' β'→ER cx E' a' w' F' h' β'→K a' w'):wpOp P ops Q i K a w:=by
 have hwith:∀(ids:List Nat) i ob,within (alv h) ids i=some ob→h i=some (some ob):=fun ids i ob hw=>by
  unfold within at hw
  cases he:elemNat i ids
  ·rw[he]at hw;cases hw
  ·rw[he]at hw;simp only[cond_true,alv]at hw
   split at hw
   ·rename_i e;cases hw;exact e
   ·cases hw
 have hnewOf:∀ {ids ups},UpsOk ids o h ups→∀j q,(j,q)∈ups→isNew (o.dst.getD 0) j=true→h j=none:=fun hu j q hj hn=>by
  rcases hu j q hj with⟨t,_,_,h3⟩ | ⟨_,h2,_⟩
  ·exact h3
  ·rw[hn]at h2;cases h2
 have hold:=fun i ob=>hran.old (i:=i) (ob:=ob);unfold wpOp;rw[hi];dsimp only
 cases hran with
 |all hg hxs he hc hu hp hnw =>
  rename_i xs c x ups;have hwanted:Region.wanted o (yielded ops a.tmps)=true:=by
   unfold Region.wanted;rcases hg with hg | ⟨g,want,d,hg,hd,hh⟩
   ·rw[hg]
   ·rw[hg];have:=(holds_sound R 20 d want true hh).2 rfl;simp only[(yielded_at hd).2 this,beq_self_eq_true]
  simp only[hwanted,if_true];refine .inl (evOpT_sound H hTT hΓ (hwith _) he hc (opds_sound R (fun s b e=>by cases e) hxs) (hnewOf hu) fun v w' hout => ?_);obtain⟨F',β',h1,h2,h3⟩:=hout;exact hK _ w' F' β' h1 (S.per h2 hn hold) ((R.per h2).put hp h3 fun t _ s b y e=>by subst e;cases hnw)
 |cond hg hd hh hxs he hc hp hne =>
  rename_i g want d v xs c x;have hiff:=holds_sound R 20 d want v hh;have hw:Region.wanted o (yielded ops a.tmps)=decide (yielded ops a.tmps g=some want):=by
   unfold Region.wanted;rw[hg];simp only[]
   by_cases e:yielded ops a.tmps g=some want
   ·simp[e]
   ·simp[e]
  by_cases hy:a.tmps[d]? = some (.bool want)
  ·have hv:=hiff.1 hy;rw[hw,zT ((yielded_at hd).2 hy)];simp only[if_true];refine .inl (evOpT_sound H hTT hΓ (hwith _) he (hc hv) (opds_sound R (fun s b e=>by cases e;exact hy) hxs) (fun j q hj=>by simp at hj) fun u w' hout => ?_);obtain⟨F',β',h1,h2,h3⟩:=hout;rw[upd_nil]at h1 h2 h3;exact hK _ w' F' β' h1 (S.per h2 hn hold) ((R.per h2).put hp (x := .when d want x) ⟨fun _=>h3,fun e=>absurd hy e⟩ fun t ht s b y e=>by cases e;exact fun e=>hne (by rw[ht,e]))
  ·rw[hw,zF (fun e=>hy ((yielded_at hd).1 e))];simp only[Bool.false_eq_true,if_false];exact hK _ w F β H S (R.put hp (x := .when d want x) ⟨fun e=>absurd e hy,fun _=>rfl⟩ fun t ht s b y e=>by cases e;exact fun e=>hne (by rw[ht,e]))
 |skip hg hd hh hp =>
  rename_i g want d;have hiff:=holds_sound R 20 d want false hh;have hy:a.tmps[d]? ≠ some (.bool want):=fun e=>by have:=hiff.1 e;cases this
  have hw:Region.wanted o (yielded ops a.tmps)=false:=by
   unfold Region.wanted;rw[hg];simp only[];have:yielded ops a.tmps g≠some want:=fun e=>hy ((yielded_at hd).1 e)
   simpa using this
  rw[hw];simp only[Bool.false_eq_true,if_false];exact hK _ w F β H S (R.put hp (x := .und) rfl fun t _ s b y e=>by cases e)
end
end
/-
 Regions: operations behind one another,and in any order that the edges leave open.
-/
noncomputable section
open Go
theorem evOpd_eq (env:List (Nat×T)) (X:Operand):evOpd env X=evOpdF (look env) X:=by cases X<;>rfl
theorem opds_eq (env:List (Nat×T)) (g:Option (Nat×Bool)) (o:Oper):opds env g o=opdsF (look env) g o:=by
 unfold opds opdsF;simp only[evOpd_eq]
theorem holds_eq (env:List (Nat×T)):∀(k s:Nat) (b:Bool),holds env k s b=holdsF (look env) k s b
 |0,_,_=>rfl
 |k+1,s,b=>by
  simp only[holds,holdsF]
  split<;>simp_all
  rename_i s' w' b' _;rw[holds_eq env k s' w']
  cases holdsF (look env) k s' w'<;>rfl
theorem live_eq (h:Heap):live h=alv (look h):=by
 funext i
 unfold live alv;rfl
theorem look_put (st:St) (dst:Option Nat) (x:T):look (st.put dst x).env=putF (look st.env) dst x∧(st.put dst x).heap=st.heap:=by
 cases dst with
 |none=>exact ⟨rfl,rfl⟩
 |some t =>
  refine⟨?_,rfl⟩
  funext j
  simp only[St.put,look,putF]
  cases hb:Nat.beq t j
  ·have:j≠t:=fun e=>by subst e;simp at hb
   simp[this]
  ·have:=zB hb;simp[this]
theorem noWhen_sound {t:Nat}:∀ {env:List (Nat×T)},noWhen t env=true→∀j s w y,look env j=some (.when s w y)→s≠t
 | [],_,j,s,w,y,hl=>by simp[look]at hl
 | (k,x)::l,hn,j,s,w,y,hl=>by
  have hrest:noWhen t l=true:=by
   unfold noWhen at hn
   split at hn
   ·rename_i e;cases e
   ·rename_i e;cases e
    cases hb:Nat.beq _ t<;>rw[hb]at hn
    ·exact hn
    ·cases hn
   ·rename_i e;cases e;exact hn
  simp only[look]at hl
  cases hb:Nat.beq k j
  ·rw[hb]at hl;exact noWhen_sound hrest j s w y hl
  ·rw[hb]at hl;simp only[cond_true,Option.some.injEq]at hl;subst hl;unfold noWhen at hn
   cases hb2:Nat.beq s t
   ·intro e;subst e;simp at hb2
   ·simp only[hb2]at hn;cases hn
def Clean (E:EF):Prop:=∀j s w y,E j≠some (.when s w y)
theorem upsOk_sound {ids:List Nat} {o:Oper} {h:Heap}:∀ {ups:Ups},upsOk ids o h ups=true→UpsOk ids o (look h) ups
 | [],_,i,q,hm=>by simp at hm
 | (k,r)::l,hu,i,q,hm=>by
  simp only[upsOk,Bool.and_eq_true]at hu;rcases List.mem_cons.1 hm with e | hm
  ·cases e
   have h1:=hu.1
   split at h1
   ·rename_i t ht
    cases hb:isNew t k
    ·rw[hb]at h1;simp only[cond_false,Bool.and_eq_true]at h1;refine .inr ⟨elemNat_iff.1 h1.1,by rw[ht];exact hb, ?_⟩;have h2:=h1.2;unfold missing at h2
     cases hl:look h k with
     |none=>rw[hl]at h2;cases h2
     |some q'=>exact ⟨q',rfl⟩
    ·rw[hb]at h1;simp only[cond_true,missing]at h1
     split at h1
     ·rename_i e;exact .inl ⟨t,ht,hb,e⟩
     ·cases h1
   ·rename_i ht
    cases hb:isNew 0 k
    ·rw[hb]at h1;simp only[cond_false,Bool.and_eq_true]at h1;refine .inr ⟨elemNat_iff.1 h1.1,by rw[ht];exact hb, ?_⟩;have h2:=h1.2;unfold missing at h2
     cases hl:look h k with
     |none=>rw[hl]at h2;cases h2
     |some q'=>exact ⟨q',rfl⟩
    ·rw[hb]at h1;cases h1
  ·exact upsOk_sound hu.2 i q hm
theorem putOk_sound {gd:Bool} {cx:Cx} {o:Oper} {env:List (Nat×T)} (hc:gd=false→Clean (look env)) (hp:putOk gd cx o env=true):PutOk cx o (look env):=by
 intro t ht;unfold putOk at hp;rw[ht]at hp;simp only[Bool.and_eq_true]at hp;obtain⟨h1,h2⟩:=hp;refine⟨by simpa using h1, ?_⟩
 cases gd with
 |false=>exact ⟨fun j s w y e=>absurd e (hc rfl j s w y),fun s w y e=>hc rfl t s w y e⟩
 |true =>
  simp only[cond_true,Bool.and_eq_true]at h2;refine⟨noWhen_sound h2.1,fun s w y e => ?_⟩;have:=h2.2;rw[e]at this
  cases this
theorem isWhen_iff {x:T} (h:isWhen x=false):∀s w y,x ≠ .when s w y:=by
 intro s w y e;subst e;cases h
theorem clean_put {E:EF} (hc:Clean E) (dst:Option Nat) {x:T} (hx:∀s w y,x ≠ .when s w y):Clean (putF E dst x):=by
 intro j s w y
 cases dst with
 |none=>exact hc j s w y
 |some t =>
  simp only[putF]
  split
  ·intro e;exact hx s w y (Option.some.inj e)
  ·exact hc j s w y
theorem choice_some {c:Option Bool} {x:Option Fin} {r:Fin} (h:choice c x=some r):okC c∧x=some r:=by
 unfold choice at h
 split at h
 ·exact ⟨.inl rfl,h⟩
 ·rename_i b;unfold branch at h
  cases b
  ·cases h
  ·exact ⟨.inr rfl,h⟩
theorem choiceIf_some {v:Bool} {c:Option Bool} {x:Option Fin} {r:Fin} (h:choiceIf v c x=some r):(v=true→okC c)∧x=some r:=by
 unfold choiceIf at h
 split at h
 ·exact ⟨fun _ => .inl rfl,h⟩
 ·rename_i b;unfold branch at h
  cases v
  ·exact ⟨fun e=>(by cases e),h⟩
  ·cases b
   ·cases h
   ·exact ⟨fun _ => .inr rfl,h⟩
section
variable {cx:Cx} {ops:Array Oper} {o:Oper} {r:Fin}
theorem run1_some {gd:Bool} {st:St} {K:St→Marks→Option Fin} (h:run1 cx gd o st K=some r) (hc:gd=false→Clean (look st.env))
  (hg:o.guard=none∨∃g want d,o.guard=some (g,want)∧(ops[g]?).bind (·.dst)=some d∧holdsF (look st.env) 20 d want=some true) :
  ∃st' m,Ran cx ops o (look st.env) (look st.heap) (look st'.env) (look st'.heap) m∧K st' m=some r∧m.op=o∧(gd=false→Clean (look st'.env)):=by
 unfold run1 at h
 split at h
 ·cases h
 ·rename_i xs hxs;dsimp only at h
  split at h
  ·cases h
  ·rename_i c x ups he
   split at h
   ·rename_i hck;simp only[Bool.and_eq_true,Bool.not_eq_true']at hck;obtain⟨⟨k1,k2⟩,k3⟩:=hck;obtain⟨g1,g2⟩:=choice_some h;obtain⟨p1,p2⟩:=look_put (St.mk st.env (ups++st.heap)) o.dst x;rw[opds_eq]at hxs;rw[live_eq]at he k1;refine⟨_,_, ?_,g2,rfl,fun e => ?_⟩
    ·rw[p1,p2,look_upd,live_eq];exact .all hg hxs he g1 (upsOk_sound k1) (putOk_sound hc k2) k3
    ·rw[p1];exact clean_put (hc e) _ (isWhen_iff k3)
   ·cases h
theorem run2_some {st:St} {g:Nat} {d:Nat} {w:Bool} {K:St→Marks→Option Fin} (hg:o.guard=some (g,w)) (hd:(ops[g]?).bind (·.dst)=some d) (h:run2 cx d w o st K=some r) :
  ∃st' m,Ran cx ops o (look st.env) (look st.heap) (look st'.env) (look st'.heap) m∧K st' m=some r∧m.op=o:=by
 unfold run2 at h
 split at h
 ·cases h
 ·rename_i v hv
  split at h
  ·cases h
  ·rename_i xs hxs;dsimp only at h
   split at h
   ·rename_i c x he
    split at h
    ·rename_i hck;simp only[Bool.and_eq_true]at hck;obtain⟨k1,k2⟩:=hck;obtain⟨g1,g2⟩:=choiceIf_some h;obtain⟨p1,p2⟩:=look_put st o.dst (.when d w x);rw[opds_eq]at hxs;rw[live_eq]at he;rw[holds_eq]at hv;refine⟨_,_, ?_,g2,rfl⟩;rw[p1,p2,live_eq];refine .cond hg hd hv hxs he g1 (putOk_sound (fun e=>by cases e) k1) ?_;intro e;unfold dstNe at k2;rw[e]at k2;simp at k2
    ·cases h
   ·cases h
theorem know_eq {d:Nat} {want v:Bool} {st:St} (h:holds st.env 20 d want=some v):look (know d (bif v then want else !want) st).env=look st.env∧(know d (bif v then want else !want) st).heap=st.heap:=by
 unfold know
 cases hl:look st.env d with
 |none=>exact ⟨rfl,rfl⟩
 |some x =>
  split
  ·rename_i b0 e
   cases e
   refine⟨funext fun j => ?_,rfl⟩;have hb:(bif v then want else !want)=b0:=by
    have h':some (b0==want)=some v:=by
     have:holds st.env 20 d want=some (b0==want):=by simp only[holds,hl]
     rw[← this];exact h
    cases h'
    cases b0<;>cases want<;>rfl
   rw[hb];show(bif Nat.beq d j then _ else look st.env j)=_
   cases hj:Nat.beq d j
   ·rfl
   ·have:=zB hj;subst this;exact hl.symm
  ·exact ⟨rfl,rfl⟩
theorem step_some {gd part:Bool} {st:St} {K:St→Marks→Option Fin} (h:step cx gd part ops o st K=some r) (hc:gd=false→Clean (look st.env)) (hgd:gd=false→o.guard=none) :
  ∃st' m,Ran cx ops o (look st.env) (look st.heap) (look st'.env) (look st'.heap) m∧K st' m=some r∧m.op=o∧(gd=false→Clean (look st'.env)):=by
 unfold step at h
 split at h
 ·rename_i hg;exact run1_some h hc (.inl hg)
 ·rename_i g want hg;have hgd':gd=true:=by
   cases gd with
   |true=>rfl
   |false=>rw[hgd rfl]at hg;cases hg
  subst hgd'
  split at h
  ·cases h
  ·rename_i d hd
   split at h
   ·obtain ⟨st',m,h1,h2,h3⟩:=run2_some hg hd h;exact⟨st',m,h1,h2,h3,fun e=>by cases e⟩
   ·split at h
    ·rename_i v hv0;have hv:=hv0;unfold branch at h;rw[holds_eq]at hv
     cases v with
     |true =>
      obtain⟨e1,e2⟩:=know_eq (v:=true) hv0;have:=run1_some h (fun e=>by cases e) (.inr ⟨g,want,d,hg,hd,by rw[show look (know d want st).env=look st.env from e1];exact hv⟩);rw[show look (know d want st).env=look st.env from e1,show (know d want st).heap=st.heap from e2]at this;exact this
     |false =>
      simp only[cond_false]at h
      cases hp:putOk true cx o st.env with
      |false=>rw[hp]at h;cases h
      |true =>
       rw[hp]at h;simp only[cond_true]at h;obtain⟨e1,e2⟩:=know_eq (v:=false) hv0;obtain⟨p1,p2⟩:=look_put (know d (!want) st) o.dst .und;refine⟨_,_, ?_,h,rfl,fun e=>by cases e⟩;rw[p1,p2,show look (know d (!want) st).env=look st.env from e1,show (know d (!want) st).heap=st.heap from e2];exact .skip hg hd hv (putOk_sound (fun e=>by cases e) hp)
    ·cases h
inductive RanL (cx:Cx) (ops:Array Oper):List Oper→EF→HF→EF→HF→List Marks→Prop
 | nil {E h}:RanL cx ops [] E h E h []
 | cons {o l E h E1 h1 E2 h2 m ms}:Ran cx ops o E h E1 h1 m→m.op=o→RanL cx ops l E1 h1 E2 h2 ms→RanL cx ops (o::l) E h E2 h2 (m::ms)
theorem steps_some {gd part:Bool}:∀ {l:List Oper} {st:St} {K:St→List Marks→Option Fin},steps cx gd part ops l st K=some r→(gd=false→Clean (look st.env))→(gd=false→∀o∈l,o.guard=none) →
  ∃st' ms,RanL cx ops l (look st.env) (look st.heap) (look st'.env) (look st'.heap) ms∧K st' ms=some r∧(gd=false→Clean (look st'.env))
 | [],st,K,h,hc,_=>⟨st,[], .nil,h,hc⟩
 |o::l,st,K,h,hc,hgd=>by
  simp only[steps]at h;obtain⟨st1,m,h1,h2,h3,h4⟩:=step_some h hc fun e=>hgd e o (mem_cons_self ..);obtain⟨st2,ms,g1,g2,g3⟩:=steps_some h2 h4 fun e o' ho'=>hgd e o' (mem_cons_of_mem _ ho');exact⟨st2,m::ms, .cons h1 h3 g1,g2,g3⟩
end
/-! ### in any order -/
theorem disj_iff {a b:List Nat}:disj a b=true↔∀i∈a,i∉b:=by
 simp only[disj,all_eq_true,Bool.not_eq_true']
 constructor
 ·intro h i hi hb;have:=h i hi;rw[elemNat_iff.2 hb]at this;cases this
 ·intro h i hi
  cases hb:elemNat i b
  ·rfl
  ·exact absurd (elemNat_iff.1 hb) (h i hi)
theorem look_none {ups:Ups} {i:Nat} (h:i∉ups.map (·.1)):look ups i=none:=by
 induction ups with
 |nil=>rfl
 |cons p l ih =>
  obtain⟨k,q⟩:=p;simp only[List.map_cons,List.mem_cons,not_or]at h;simp only[look]
  cases hb:Nat.beq k i
  ·exact ih h.2
  ·exact absurd (zB hb).symm h.1
theorem upd_none {ups:Ups} {h:HF} {i:Nat} (hi:i∉ups.map (·.1)):upd ups h i=h i:=by simp[upd,look_none hi]
theorem upd_comm {a b:Ups} (hd:∀i∈a.map (·.1),i∉b.map (·.1)) (h:HF):upd a (upd b h)=upd b (upd a h):=by
 funext i
 by_cases ha:i∈a.map (·.1)
 ·have hb:=hd i ha;rw[upd_none hb];simp only[upd,look_none hb]
 ·rw[upd_none ha];simp only[upd,look_none ha]
theorem closure_congr {h h':Nat→Option Obj}:∀(k:Nat) (l:List Nat),(∀i∈closure h k l,h i=h' i)→closure h' k l=closure h k l
 |0,_,_=>rfl
 |k+1,l,hh=>by
  simp only[closure]at hh ⊢;have e:l.flatMap (hget h')=l.flatMap (hget h):=by
   rw[List.flatMap_def,List.flatMap_def]
   congr 1
   apply List.map_congr_left
   intro i hi;have:=hh i (closure_self h k _ i (mem_addNew.2 (.inl hi)));simp only[hget,this]
  rw[e];exact closure_congr k _ hh
theorem foot_congr {o:Oper} {xs:List T} {h h':Nat→Option Obj} (hh:∀i∈foot o xs h,h i=h' i):foot o xs h'=foot o xs h:=by
 unfold foot at hh ⊢
 split
 all_goals first | rfl | skip
 rename_i c hc;rw[hc]at hh;dsimp only at hh
 split
 ·rfl
 ·rename_i hn
  split at hh
  ·rename_i b hb;exact absurd hb (hn b)
  ·exact closure_congr 3 _ hh
theorem within_congr {h h':Nat→Option Obj} {ids:List Nat} (hh:∀i∈ids,h i=h' i):within h' ids=within h ids:=by
 funext i
 unfold within
 cases he:elemNat i ids
 ·rfl
 ·rw[hh i (elemNat_iff.1 he)]
theorem putF_ne {E:EF} {dst:Option Nat} {x:T} {j:Nat} (h:dst≠some j):putF E dst x j=E j:=by
 cases dst with
 |none=>rfl
 |some t=>simp only[putF];rw[if_neg];intro e;exact h (by rw[e])
theorem putF_comm {E:EF} {d1 d2:Option Nat} {x1 x2:T} (h:∀d,d1=some d→d2≠some d):putF (putF E d1 x1) d2 x2=putF (putF E d2 x2) d1 x1:=by
 cases d1 with
 |none=>rfl
 |some a=>cases d2 with
  |none=>rfl
  |some b =>
   have hab:a≠b:=fun e=>h a rfl (by rw[e])
   funext j
   simp only[putF]
   split<;>split<;>simp_all
theorem opdsF_congr {E E':EF} {g:Option (Nat×Bool)} {o:Oper} (h:∀t,Operand.tmp t∈o.op.operands.toList→E' t=E t):opdsF E' g o=opdsF E g o:=by
 unfold opdsF
 congr 1
 apply List.map_congr_left
 intro x hx
 cases x with
 |tmp t=>simp only[evOpdF,h t hx]
 |_=>rfl
theorem holdsF_congr {E E':EF} {t:Option Nat} (h:∀j,t≠some j→E' j=E j) (hno:∀j s w y,E j=some (.when s w y)→t≠some s):∀(k s:Nat) (b:Bool),t≠some s→holdsF E' k s b=holdsF E k s b
 |0,_,_,_=>rfl
 |k+1,s,b,hs=>by
  simp only[holdsF,h s hs]
  split<;>try rfl
  rename_i s' w' b' hE;rw[holdsF_congr h hno k s' w' (hno s s' w' _ hE)]
section
variable {cx:Cx} {ops:Array Oper}
theorem Ran.mop {o:Oper} {E E':EF} {h h':HF} {m:Marks} (hr:Ran cx ops o E h E' h' m):m.op=o:=by cases hr<;>rfl
theorem Ran.move {o:Oper} {E E1:EF} {h h1:HF} {m:Marks} (hr:Ran cx ops o E h E1 h1 m) :
  ∃x ups,E1=putF E o.dst x∧h1=upd ups h∧m.wrote=ups.map (·.1)∧(∀s w y,x = .when s w y→s∈o.looksAt ops)∧PutOk cx o E ∧
   ∀E' h',(∀t,t∈o.looksAt ops→E' t=E t)→(∀k s b,s∈o.looksAt ops→holdsF E' k s b=holdsF E k s b)→(∀i∈m.seen,h' i=h i)→(∀i∈m.wrote,h i=none→h' i=none)→PutOk cx o E' →
    Ran cx ops o E' h' (putF E' o.dst x) (upd ups h') m:=by
 have hop:∀ {E':EF} {g},(∀t,t∈o.looksAt ops→E' t=E t)→opdsF E' g o=opdsF E g o:=fun {E' g} hE=>opdsF_congr fun t ht=>hE t (mem_append_left _ (List.mem_filterMap.2 ⟨.tmp t,ht,rfl⟩));have hgl:∀ {g want d},o.guard=some (g,want)→(ops[g]?).bind (·.dst)=some d→d∈o.looksAt ops:=fun {g want d} hg hd=>by
  refine mem_append_right _ ?_;rw[hg];simp[hd]
 have hal:∀ {h':HF} {i},h' i=h i→alv h' i=alv h i:=fun {h' i} e=>by simp only[alv,e]
 cases hr with
 |all hg hxs he hc hu hp hw =>
  rename_i xs c x ups;refine⟨x,ups,rfl,rfl,rfl,fun s w y e=>absurd e (isWhen_iff hw s w y),hp,fun E' h' hE hH hS hN hp' => ?_⟩;have hf:foot o xs (alv h')=foot o xs (alv h):=foot_congr fun i hi=>(hal (hS i hi)).symm;have hwi:within (alv h') (foot o xs (alv h))=within (alv h) (foot o xs (alv h)):=within_congr fun i hi=>(hal (hS i hi)).symm;have:=Ran.all (cx:=cx) (ops:=ops) (o:=o) (E:=E') (h:=h') (xs:=xs) (c:=c) (x:=x) (ups:=ups)
   (hg.imp id fun⟨g,want,d,e1,e2,e3⟩=>⟨g,want,d,e1,e2,by rw[hH 20 d want (hgl e1 e2)];exact e3⟩) (by rw[hop hE];exact hxs) (by rw[hf,hwi];exact he) hc
   (by rw[hf];exact fun i q hi=>(hu i q hi).imp (fun ⟨t,e1,e2,e3⟩=>⟨t,e1,e2,hN i (List.mem_map.2 ⟨(i,q),hi,rfl⟩) e3⟩) fun⟨e1,e2,p,e3⟩=>⟨e1,e2,p,by rw[hS i e1];exact e3⟩) hp' hw
  rw[hf]at this;exact this
 |cond hg hd hh hxs he hc hp hne =>
  rename_i g want d v xs c x;refine⟨.when d want x,[],rfl,rfl,rfl,fun s w y e=>(by cases e;exact hgl hg hd),hp,fun E' h' hE hH hS hN hp' => ?_⟩;have hf:foot o xs (alv h')=foot o xs (alv h):=foot_congr fun i hi=>(hal (hS i hi)).symm;have hwi:within (alv h') (foot o xs (alv h))=within (alv h) (foot o xs (alv h)):=within_congr fun i hi=>(hal (hS i hi)).symm;have:=Ran.cond (cx:=cx) (ops:=ops) (o:=o) (E:=E') (h:=h') (v:=v) (xs:=xs) (c:=c) (x:=x) hg hd (by rw[hH 20 d want (hgl hg hd)];exact hh) (by rw[hop hE];exact hxs) (by rw[hf,hwi];exact he) hc hp' hne;rw[hf]at this;exact this
 |skip hg hd hh hp =>
  rename_i g want d;exact⟨.und,[],rfl,rfl,rfl,fun s w y e=>(by cases e),hp,fun E' h' hE hH hS hN hp'=>Ran.skip hg hd (by rw[hH 20 d want (hgl hg hd)];exact hh) hp'⟩
theorem Ran.swap {o1 o2:Oper} {E E1 E2:EF} {h h1 h2:HF} {m1 m2:Marks} (r1:Ran cx ops o1 E h E1 h1 m1) (r2:Ran cx ops o2 E1 h1 E2 h2 m2) (hi:indep ops m1 m2=true) :
  ∃E1' h1',Ran cx ops o2 E h E1' h1' m2∧Ran cx ops o1 E1' h1' E2 h2 m1:=by
 simp only[indep,Bool.and_eq_true]at hi;obtain⟨⟨⟨i1,i2⟩,i3⟩,i4⟩:=hi;rw[r1.mop,r2.mop]at i1;have i2:=disj_iff.1 i2;have i3:=disj_iff.1 i3;have i4:=disj_iff.1 i4;obtain⟨a1,a2,a3⟩:=Oper.apart_spec i1;obtain⟨x1,ups1,e1,e2,e3,e4,p1,mv1⟩:=r1.move;obtain⟨x2,ups2,f1,f2,f3,f4,p2,mv2⟩:=r2.move;subst e1;subst e2;subst f1;subst f2
 -- the first one's slot hangs on nothing
 have hno1:∀j s w y,E j=some (.when s w y)→o1.dst≠some s:=fun j s w y hE hd=>(p1 s hd).2.1 j s w y hE rfl;have p2':PutOk cx o2 E:=fun t ht=>by
  obtain⟨q1,q2,q3⟩:=p2 t ht;refine⟨q1,fun j s w y hE => ?_,fun s w y hE => ?_⟩
  ·by_cases hd:o1.dst=some j
   ·exact absurd hE ((p1 j hd).2.2 s w y)
   ·exact q2 j s w y (by rw[putF_ne hd];exact hE)
  ·have hd:o1.dst≠some t:=fun e=>a2 t e ht;exact q3 s w y (by rw[putF_ne hd];exact hE)
 have hno2:∀j s w y,E j=some (.when s w y)→o2.dst≠some s:=fun j s w y hE hd=>(p2' s hd).2.1 j s w y hE rfl;have R2:=mv2 E h (fun t ht=>(putF_ne (fun e=>a1 t e ht)).symm) (fun k s b hs=>(holdsF_congr (t:=o1.dst) (fun j hj=>putF_ne hj) hno1 k s b (fun e=>a1 s e hs)).symm)
  (fun i hi=>(upd_none (fun hm=>i2 i (by rw[e3];exact hm) hi)).symm) (fun i hi hn=>by
   have:i∉ups1.map (·.1):=fun hm=>i3 i (by rw[e3];exact hm) hi;rw[upd_none this]at hn;exact hn) p2'
 refine⟨_,_,R2, ?_⟩;have R1:=mv1 (putF E o2.dst x2) (upd ups2 h) (fun t ht=>putF_ne (fun e=>a3 t e ht)) (fun k s b hs=>holdsF_congr (t:=o2.dst) (fun j hj=>putF_ne hj) hno2 k s b (fun e=>a3 s e hs))
  (fun i hi=>upd_none (fun hm=>i4 i (by rw[f3];exact hm) hi)) (fun i hi hn=>by
   have:i∉ups2.map (·.1):=fun hm=>i3 i hi (by rw[f3];exact hm);rw[upd_none this];exact hn)
  (fun t ht=>by
   obtain⟨q1,q2,q3⟩:=p1 t ht;refine⟨q1,fun j s w y hE => ?_,fun s w y hE => ?_⟩
   ·by_cases hd:o2.dst=some j
    ·rw[hd]at hE;simp only[putF,if_true,Option.some.injEq]at hE;exact fun e=>a1 t ht (e ▸ f4 s w y hE)
    ·rw[putF_ne hd]at hE;exact q2 j s w y hE
   ·have hd:o2.dst≠some t:=fun e=>a2 t ht e;rw[putF_ne hd]at hE;exact q3 s w y hE)
 rw[← putF_comm a2,upd_comm (fun i hi=>by rw[← e3]at hi;rw[← f3];exact i3 i hi)]at R1;exact R1
end
end
/-
 A region whose order is open comes to what the text's order comes to.
-/
noncomputable section
open Go
theorem befOf_bit {acc:List Nat} {k:Nat}:∀ {l:List Edge},(befOf acc l).testBit k=true→∃e∈l,Region.binds .any e=true∧(e.on=k∨(acc.getD e.on 0).testBit k=true)
 | [],h=>by simp[befOf]at h
 |e::l,h=>by
  simp only[befOf,Nat.testBit_or,Bool.or_eq_true]at h;rcases h with h | h
  ·cases hb:Region.binds .any e
   ·rw[hb]at h;simp at h
   ·rw[hb]at h;simp only[cond_true,Nat.testBit_or,Bool.or_eq_true,Nat.testBit_two_pow]at h;exact⟨e,mem_cons_self ..,hb,h.imp (fun h=>of_decide_eq_true h) id⟩
  ·obtain ⟨e',h1,h2⟩:=befOf_bit h;exact⟨e',mem_cons_of_mem _ h1,h2⟩
theorem befs_len:∀(l:List Oper) (acc:List Nat),(befs l acc).length=acc.length+l.length
 | [],acc=>by simp[befs]
 |o::l,acc=>by rw[befs,befs_len l];simp;omega
theorem befs_old:∀(l:List Oper) (acc:List Nat) (j:Nat),j<acc.length→(befs l acc)[j]? = acc[j]?
 | [],acc,j,_=>rfl
 |o::l,acc,j,hj=>by
  rw[befs,befs_old l _ j (by simp;omega),getElem?_append_left hj]
theorem befs_take:∀(l:List Oper) (acc:List Nat),(befs l acc).take acc.length=acc
 | [],acc=>by simp[befs]
 |o::l,acc=>by
  have:=befs_take l (acc++[befOf acc o.after.toList]);rw[befs];have h2:=congrArg (List.take acc.length) this;rw[List.take_take]at h2;simp only[length_append,length_cons,List.length_nil]at h2;rw[show min acc.length (acc.length+(0+1))=acc.length by omega]at h2;rw[h2];simp
theorem befs_at:∀(l:List Oper) (acc:List Nat) (k:Nat) (o:Oper),l[k]? = some o→(befs l acc)[acc.length+k]? = some (befOf ((befs l acc).take (acc.length+k)) o.after.toList)
 | [],acc,k,o,h=>by simp at h
 |o'::l,acc,0,o,h=>by
  simp at h;subst h;rw[Nat.add_zero,befs_take,befs,befs_old _ _ _ (by simp)];simp
 |o'::l,acc,k+1,o,h=>by
  simp at h;have:=befs_at l (acc++[befOf acc o'.after.toList]) k o h;simp only[length_append,length_cons,List.length_nil]at this;rw[befs,show acc.length+(k+1)=acc.length+(0+1)+k by omega];exact this
section
variable {ops:Array Oper}
def Down (ops:Array Oper) (listed:Array Bool):Prop:=∀j o,ops[j]? = some o→listed.getD j false=true→∀e∈o.after,Region.binds .any e=true→listed.getD e.on false=true
theorem reach {listed:Array Bool} (hd:Down ops listed) {k:Nat}:∀(i:Nat) (o:Oper),ops[i]? = some o→(∀e∈o.after,Region.binds .any e=true→listed.getD e.on false=true) →
  ((befs ops.toList []).getD i 0).testBit k=true→listed.getD k false=true:=by
 intro i
 induction i using Nat.strongRecOn with
 |_ i ih =>
  intro o ho he hb;have h1:=befs_at ops.toList [] i o (by simpa using ho);simp only[List.length_nil,Nat.zero_add]at h1;rw[getD,h1]at hb;simp only[Option.getD_some]at hb;obtain⟨e,hm,hbind,hor⟩:=befOf_bit hb;have hm':e∈o.after:=by simpa using hm
  rcases hor with rfl | hor
  ·exact he e hm' hbind
  ·by_cases hlt:e.on<i
   ·have:((befs ops.toList []).take i).getD e.on 0=(befs ops.toList []).getD e.on 0:=by
     simp[getD,hlt]
    rw[this]at hor
    cases ho':ops[e.on]? with
    |none =>
     exfalso;have hlen:=befs_len ops.toList [];rw[getD,getElem?_eq_none (by rw[hlen];simp at ho' ⊢;exact ho')]at hor;simp at hor
    |some o'=>exact ih e.on hlt o' ho' (fun e' he' hb'=>hd e.on o' ho' (he e hm' hbind) e' he' hb') hor
   ·exfalso;have:((befs ops.toList []).take i).getD e.on 0=0:=by
     simp[getD,getElem?_take,hlt]
    rw[this]at hor;simp at hor
theorem okAfter_get {bs:List Nat} {i:Nat} {m:Marks}:∀ {k:Nat} {xs:List Marks},okAfter ops bs i m k xs=true→∀(j:Nat) (x:Marks),xs[j]? = some x→(bs.getD (k+j) 0).testBit i=true∨indep ops m x=true
 |k,[],_,j,x,hj=>by simp at hj
 |k,y::ys,h,j,x,hj=>by
  simp only[okAfter,Bool.and_eq_true,Bool.or_eq_true]at h
  cases j with
  |zero=>simp at hj;subst hj;exact h.1
  |succ j =>
   simp at hj;have:=okAfter_get h.2 j x hj;rw[show k+(j+1)=k+1+j by omega];exact this
theorem okOrder_get {bs:List Nat}:∀ {i:Nat} {ms:List Marks},okOrder ops bs i ms=true→∀(j k:Nat) (x y:Marks),j<k→ms[j]? = some x→ms[k]? = some y→(bs.getD (i+k) 0).testBit (i+j)=true∨indep ops x y=true
 |i,[],_,j,k,x,y,_,hj,_=>by simp at hj
 |i,m::ms,h,j,k,x,y,hjk,hj,hk=>by
  simp only[okOrder,Bool.and_eq_true]at h
  cases j with
  |zero =>
   simp at hj;subst hj
   cases k with
   |zero=>omega
   |succ k =>
    simp at hk;have:=okAfter_get h.1 k y hk;rw[Nat.add_zero,show i+(k+1)=i+1+k by omega];exact this
  |succ j =>
   cases k with
   |zero=>omega
   |succ k =>
    simp at hj hk;have:=okOrder_get h.2 j k x y (by omega) hj hk;rw[show i+(k+1)=i+1+k by omega,show i+(j+1)=i+1+j by omega];exact this
theorem edgesOk_get:∀ {i:Nat} {l:List Oper},edgesOk i l=true→∀(k:Nat) (o:Oper),l[k]? = some o→∀e∈o.after,Region.binds .any e=true→e.on<i+k
 |i,[],_,k,o,hk=>by simp at hk
 |i,o'::l,h,k,o,hk=>by
  simp only[edgesOk,Bool.and_eq_true,all_eq_true,Bool.or_eq_true,Bool.not_eq_true']at h
  cases k with
  |zero =>
   simp at hk;subst hk;intro e he hb;rcases h.1 e (by simpa using he)with h1 | h1
   ·rw[hb]at h1;cases h1
   ·simpa using h1
  |succ k =>
   simp at hk;intro e he hb;have:=edgesOk_get h.2 k o hk e he hb;omega
end
structure It where
 i:Nat
 o:Oper
 m:Marks
section
variable {P:Program} {cx:Cx} {ops:Array Oper} {w0:World} {O0 F0:Nat→Prop} {m:Nat} {β0:Nat→Value}
theorem front {x:It}:∀ {l1 l2:List It} {E E':EF} {h h':HF},RanL cx ops ((l1++x::l2).map (·.o)) E h E' h' ((l1++x::l2).map (·.m))→(∀y∈l1,indep ops y.m x.m=true) →
  RanL cx ops ((x::(l1++l2)).map (·.o)) E h E' h' ((x::(l1++l2)).map (·.m))
 | [],l2,E,E',h,h',hr,_=>hr
 |y::l1,l2,E,E',h,h',hr,hi=>by
  simp only[List.cons_append,List.map_cons]at hr ⊢
  cases hr with
  |cons r1 e1 hrest =>
   have ih:=front hrest fun z hz=>hi z (mem_cons_of_mem _ hz);simp only[List.map_cons]at ih
   cases ih with
   |cons r2 e2 hrest2 =>
    obtain⟨E1',h1',s1,s2⟩:=r1.swap r2 (hi y (mem_cons_self ..));exact .cons s1 e2 (.cons s2 e1 hrest2)
theorem any_order (hm:m≤1000) (hTT:TTok P cx.TT) (hΓ:EnvOk P cx.Γ) (hedges:∀(k:Nat) (o:Oper),ops[k]? = some o→∀e∈o.after,Region.binds .any e=true→e.on<k) {Q:Exit→Act→World→Prop} {E':EF} {h':HF}
  (hQ:∀a w F β,Inv w0 O0 F0 w F h' β→Stay m β0 h' β→ER cx E' a w F h' β→Q .normal a w) :
  ∀(n:Nat) (L:List It) (listed:Array Bool) (E:EF) (h:HF) (a:Act) (w:World) (F:Nat→Prop) (β:Nat→Value),L.length=n→listed.size=ops.size →
   L.Pairwise (fun x y=>x.i<y.i∧(((befs ops.toList []).getD y.i 0).testBit x.i=true∨indep ops x.m y.m=true))→(∀x∈L,ops[x.i]? = some x.o) →
   RanL cx ops (L.map (·.o)) E h E' h' (L.map (·.m))→(∀i,i<ops.size→(listed.getD i true=false↔∃x∈L,x.i=i))→Down ops listed→Inv w0 O0 F0 w F h β→Stay m β0 h β→ER cx E a w F h β→wpAny P .any ops Q n listed a w:=by
 intro n
 induction n with
 |zero =>
  intro L listed E h a w F β hl hsz _ _ hr hlist _ H S R;have hL:L=[]:=List.eq_nil_of_length_eq_zero hl;subst hL;have hready:Region.ready .any ops listed=[]:=by
   cases hq:Region.ready .any ops listed with
   |nil=>rfl
   |cons j js =>
    exfalso;have hj:j∈Region.ready .any ops listed:=by rw[hq];exact mem_cons_self ..
    obtain⟨h1,o,ho,_⟩:=mem_ready.1 hj;have hlt:j<ops.size:=(Array.getElem?_eq_some_iff.1 ho).1;obtain⟨x,hx,_⟩:=(hlist j hlt).1 h1;simp at hx
  simp only[List.map_nil]at hr
  cases hr
  exact⟨hready,hQ a w F β H S R⟩
 |succ n ih =>
  intro L listed E h a w F β hl hsz hpw hops hr hlist hdown H S R;have hat:∀ {i},i<ops.size→listed.getD i true=listed.getD i false:=fun {i} hi=>by
   have:i<listed.size:=by omega
   simp[this]
  refine⟨fun h0 => ?_,fun i hi => ?_⟩
  ·exfalso
   cases L with
   |nil=>simp at hl
   |cons x L =>
    have hox:=hops x (mem_cons_self ..);have hlt:x.i<ops.size:=(Array.getElem?_eq_some_iff.1 hox).1;have:x.i∈Region.ready .any ops listed:=mem_ready.2 ⟨(hlist x.i hlt).2 ⟨x,mem_cons_self ..,rfl⟩,x.o,hox,fun e he hb=>by
     have h1:=hedges x.i x.o hox e he hb;have hlt':e.on<ops.size:=by omega
     rw[← hat hlt']
     cases hq:listed.getD e.on true with
     |true=>rfl
     |false =>
      exfalso;obtain⟨y,hy,hyi⟩:=(hlist e.on hlt').1 hq;rcases List.mem_cons.1 hy with rfl | hy
      ·omega
      ·have:=(List.pairwise_cons.1 hpw).1 y hy;omega⟩
    rw[h0]at this;simp at this
  ·obtain ⟨h1,o,ho,hedg⟩:=mem_ready.1 hi;have hlt:i<ops.size:=(Array.getElem?_eq_some_iff.1 ho).1;obtain⟨x,hx,hxi⟩:=(hlist i hlt).1 h1;subst hxi;have hox:=hops x hx;rw[ho]at hox
   cases hox
   obtain⟨l1,l2,rfl⟩:=List.append_of_mem hx;have hind:∀y∈l1,indep ops y.m x.m=true:=fun y hy=>by
    have hp:=(List.pairwise_append.1 hpw).2.2 y hy x (mem_cons_self ..);rcases hp.2 with hp | hp
    ·exfalso;have:=reach hdown x.i x.o ho hedg hp;have hylt:y.i<ops.size:=by omega
     have hyun:=(hlist y.i hylt).2 ⟨y,mem_append_left _ hy,rfl⟩;rw[hat hylt,this]at hyun
     cases hyun
    ·exact hp
   have hfr:=front hr hind;simp only[List.map_cons]at hfr
   cases hfr with
   |cons r1 e1 hrest =>
    refine r1.wp hm hTT hΓ ho H S R fun a' w' F' β' H' S' R' => ?_;refine ih (l1++l2) (listed.setIfInBounds x.i true) _ _ a' w' F' β' (by simp at hl ⊢;omega) (by simpa using hsz) ?_ (fun y hy=>hops y ?_) hrest (fun j hj => ?_) ?_ H' S' R'
    ·rw[List.pairwise_append]at hpw ⊢;exact⟨hpw.1,(List.pairwise_cons.1 hpw.2.1).2,fun y hy z hz=>hpw.2.2 y hy z (mem_cons_of_mem _ hz)⟩
    ·rcases mem_append.1 hy with hy | hy
     ·exact mem_append_left _ hy
     ·exact mem_append_right _ (mem_cons_of_mem _ hy)
    ·by_cases e:j=x.i
     ·subst e;have hs:x.i<listed.size:=by omega
      constructor
      ·intro hf;simp[hs]at hf
      ·rintro ⟨y,hy,hyi⟩;exfalso;rw[List.pairwise_append]at hpw;rcases mem_append.1 hy with hy | hy
       ·have:=(hpw.2.2 y hy x (mem_cons_self ..)).1;omega
       ·have:=((List.pairwise_cons.1 hpw.2.1).1 y hy).1;omega
     ·rw[getD_set_ne true (Ne.symm e),hlist j hj]
      constructor
      ·rintro ⟨y,hy,hyi⟩;refine⟨y, ?_,hyi⟩;rcases mem_append.1 hy with hy | hy
       ·exact mem_append_left _ hy
       ·rcases List.mem_cons.1 hy with rfl | hy
        ·exact absurd hyi.symm e
        ·exact mem_append_right _ hy
      ·rintro ⟨y,hy,hyi⟩;refine⟨y, ?_,hyi⟩;rcases mem_append.1 hy with hy | hy
       ·exact mem_append_left _ hy
       ·exact mem_append_right _ (mem_cons_of_mem _ hy)
    ·intro j o' ho' hj e he hb
     by_cases e':j=x.i
     ·subst e';rw[ho]at ho'
      cases ho'
      exact getD_set_true (hedg e he hb)
     ·rw[getD_set_ne false (Ne.symm e')]at hj;exact getD_set_true (hdown j o' ho' hj e he hb)
theorem in_order (hm:m≤1000) (hTT:TTok P cx.TT) (hΓ:EnvOk P cx.Γ) {Q:Exit→Act→World→Prop} {E':EF} {h':HF} (hQ:∀a w F β,Inv w0 O0 F0 w F h' β→Stay m β0 h' β→ER cx E' a w F h' β→Q .normal a w) :
  ∀(l:List Oper) (k:Nat) (ms:List Marks) (E:EF) (h:HF) (a:Act) (w:World) (F:Nat→Prop) (β:Nat→Value),ops.toList.drop k=l→RanL cx ops l E h E' h' ms→Inv w0 O0 F0 w F h β→Stay m β0 h β→ER cx E a w F h β→wpOps P ops Q (List.range' k l.length) a w
 | [],k,ms,E,h,a,w,F,β,_,hr,H,S,R=>by cases hr;exact hQ a w F β H S R
 |o::l,k,ms,E,h,a,w,F,β,hk,hr,H,S,R=>by
  cases hr with
  |cons r1 e1 hrest =>
   have ho:ops[k]? = some o:=by
    have:=congrArg (·[0]?) hk
    simpa [List.getElem?_drop]using this
   rw[length_cons,List.range'_succ,wpOps_cons];refine r1.wp hm hTT hΓ ho H S R fun a' w' F' β' H' S' R' => ?_;exact in_order hm hTT hΓ hQ l (k+1) _ _ _ a' w' F' β' (by rw[← List.drop_drop,hk];rfl) hrest H' S' R'
theorem RanL.len {l:List Oper} {E E':EF} {h h':HF} {ms:List Marks} (hr:RanL cx ops l E h E' h' ms):l.length=ms.length:=by
 induction hr with
 |nil=>rfl
 |cons _ _ _ ih=>simp[ih]
theorem region_wp (hm:m≤1000) (hTT:TTok P cx.TT) (hΓ:EnvOk P cx.Γ) (hmix:P.follows .mixedOrders=true) {id:Nat} {draw:Bool} {Q:Exit→Act→World→Prop} {E E':EF} {h h':HF} {ms:List Marks} (hr:RanL cx ops ops.toList E h E' h' ms)
  (hdraw:draw=true→edgesOk 0 ops.toList=true∧okOrder ops (befs ops.toList []) 0 ms=true) (hQ:∀a w F β,Inv w0 O0 F0 w F h' β→Stay m β0 h' β→ER cx E' a w F h' β→Q .normal a w)
  {a:Act} {w:World} {F:Nat→Prop} {β:Nat→Value} (H:Inv w0 O0 F0 w F h β) (S:Stay m β0 h β) (R:ER cx E a w F h β):(Code.region id ops draw).wp P Q a w:=by
 cases draw with
 |false =>
  refine wp_region ?_;have:=in_order hm hTT hΓ hQ ops.toList 0 ms E h a w F β rfl hr H S R
  rwa [Array.length_toList,← List.range_eq_range']at this
 |true =>
  obtain⟨h1,h2⟩:=hdraw rfl;refine wp_region_any hmix ?_;obtain⟨H',P'⟩:=H.same (w':={ w with drawn:=w.drawn+1 }) rfl rfl rfl rfl;have hlen:=hr.len
  let L:List It:=(List.range ops.size).map fun i=>⟨i,ops.getD i default,ms.getD i ⟨default,[],[]⟩⟩
  have hLo:L.map (·.o)=ops.toList:=by
   apply List.ext_getElem?
   intro i;simp only[L,List.map_map,List.getElem?_map]
   by_cases hi:i<ops.size
   ·rw[List.getElem?_range hi];simp[hi]
   ·rw[getElem?_eq_none (by simp;omega),getElem?_eq_none (by simp;omega)];rfl
  have hLm:L.map (·.m)=ms:=by
   apply List.ext_getElem?
   intro i;simp only[L,List.map_map,List.getElem?_map]
   by_cases hi:i<ops.size
   ·have:i<ms.length:=by rw[← hlen];simpa using hi
    rw[List.getElem?_range hi];simp[this]
   ·rw[getElem?_eq_none (by simp;omega),getElem?_eq_none (by rw[← hlen];simp;omega)];rfl
  refine any_order hm hTT hΓ (fun k o ho e he hb=>by have:=edgesOk_get h1 k o (by simpa using ho) e he hb;omega) hQ ops.size L (Array.replicate ops.size false) E h a _ F β (by simp[L]) (by simp) ?_ (fun x hx => ?_) (by rw[hLo,hLm];exact hr) (fun i hi => ?_) (fun j o ho hj => ?_) H' S (R.per P')
  ·rw[List.pairwise_map];refine List.Pairwise.imp_of_mem ?_ List.pairwise_lt_range;intro i j hi hj hij;simp only[List.mem_range]at hi hj;refine⟨hij, ?_⟩;have hmi:i<ms.length:=by rw[← hlen];simpa using hi
   have hmj:j<ms.length:=by rw[← hlen];simpa using hj
   have:=okOrder_get h2 i j ms[i] ms[j] hij (zE hmi) (zE hmj)
   simpa [hmi,hmj]using this
  ·simp only[L,List.mem_map,List.mem_range]at hx;obtain⟨i,hi,rfl⟩:=hx;simp[hi]
  ·simp only[L,List.mem_map,List.mem_range]
   constructor
   ·intro _;exact⟨_,⟨i,hi,rfl⟩,rfl⟩
   ·intro _;simp[hi]
  ·exfalso;simp only[Array.getD_eq_getD_getElem?,Array.getElem?_replicate]at hj
   split at hj<;>simp at hj
end
end
/-
 What is kept,under new ids.
-/
noncomputable section
open Go
section
variable {w0 w:World} {O0 F0 F:Nat→Prop} {h hq:HF} {β:Nat→Value} {ρ:Nat→Option Nat}
theorem rename_inv (H:Inv w0 O0 F0 w F h β) (K1:∀j o',hq j=some (some o')→∃i o,ρ i=some j∧h i=some (some o)∧o'=o.ren ρ) (K2:∀i j q,h i=some q→ρ i=some j→∃q',hq j=some q')
  (hinj:∀i i' j,ρ i=some j→ρ i'=some j→i=i') :
  ∃ βq:Nat→Value,(∀i j,ρ i=some j→βq j=β i)∧(∀i q j,h i=some q→ρ i=some j→(∃q',hq j=some q')∧∀o',hq j=some (some o')→(∃o,q=some o)∧βq j=β i)∧Inv w0 O0 F0 w F hq βq:=by
 let βq:Nat→Value:=fun j=>open Classical in if hj:∃i,ρ i=some j then β (Classical.choose hj)else default
 have hβ:∀i j,ρ i=some j→βq j=β i:=fun i j hij=>by
  have hex:∃i,ρ i=some j:=⟨i,hij⟩;simp only[βq,dif_pos hex];rw[hinj _ _ _ (Classical.choose_spec hex) hij]
 have hr:∀i q j,h i=some q→ρ i=some j→(∃q',hq j=some q')∧∀o',hq j=some (some o')→(∃o,q=some o)∧βq j=β i:=fun i q j hi hij=>by
  refine⟨K2 i j q hi hij,fun o' ho' => ?_⟩;obtain⟨k,o,g1,g2,_⟩:=K1 j o' ho';have:=hinj _ _ _ g1 hij;subst this;rw[hi]at g2;exact⟨⟨o,Option.some.inj g2⟩,hβ _ _ hij⟩
 refine⟨βq,hβ,hr,⟨fun j o' hj => ?_,fun j k o o' b hj hk hbj hbk => ?_,fun j o b hj hb => ?_,H.low,H.os,H.tape,H.output,H.size,H.kept,fun j o b hj hb => ?_,H.fromF,H.inF⟩⟩
 ·obtain ⟨i,o,g1,g2,rfl⟩:=K1 j o' hj;exact ren_repO hr (hβ i j g1) (H.obj i o g2)
 ·obtain ⟨i,o1,g1,g2,_⟩:=K1 j o hj;obtain⟨l,o2,f1,f2,_⟩:=K1 k o' hk;rw[hβ i j g1]at hbj;rw[hβ l k f1]at hbk;have:=H.apart i l o1 o2 b g2 f2 hbj hbk;subst this;rw[g1]at f1;exact Option.some.inj f1
 ·obtain ⟨i,o1,g1,g2,_⟩:=K1 j o hj;rw[hβ i j g1]at hb;exact H.notF i o1 b g2 hb
 ·obtain ⟨i,o1,g1,g2,_⟩:=K1 j o hj;rw[hβ i j g1]at hb;exact H.fromO i o1 b g2 hb
theorem look_mem {α:Type}:∀ {l:List (Nat×α)} {i:Nat} {x:α},look l i=some x→(i,x)∈l
 | [],i,x,h=>by simp[look]at h
 | (k,y)::l,i,x,h=>by
  simp only[look]at h
  cases hb:Nat.beq k i
  ·rw[hb]at h;exact mem_cons_of_mem _ (look_mem h)
  ·rw[hb]at h;have e:=zB hb;simp only[cond_true,Option.some.injEq]at h;subst e;subst h;exact mem_cons_self ..
theorem mem_look {α:Type}:∀ {l:List (Nat×α)} {i:Nat} {x:α},(l.map (·.1)).Nodup→(i,x)∈l→look l i=some x
 | [],i,x,_,h=>by simp at h
 | (k,y)::l,i,x,hn,h=>by
  simp only[List.map_cons,List.nodup_cons]at hn;simp only[look];rcases List.mem_cons.1 h with e | h
  ·cases e;simp
  ·cases hb:Nat.beq k i
   ·exact mem_look hn.2 h
   ·exfalso;have e:=zB hb;subst e;exact hn.1 (List.mem_map.2 ⟨(k,x),h,rfl⟩)
theorem tab_inj {tab:List (Nat×Nat)} (hv:(tab.map (·.2)).Nodup) {i i' j:Nat} (h1:look tab i=some j) (h2:look tab i'=some j):i=i':=by
 have m1:=look_mem h1;have m2:=look_mem h2;obtain⟨a,ha⟩:=List.getElem?_of_mem m1;obtain⟨b,hb⟩:=List.getElem?_of_mem m2;have e1:(tab.map (·.2))[a]? = some j:=by simp[ha]
 have e2:(tab.map (·.2))[b]? = some j:=by simp[hb]
 have:=nodup_inj hv e1 e2;subst this;rw[ha]at hb
 cases hb;rfl
theorem keepHeap_mem {h:Heap} {ρ:Nat→Option Nat}:∀ {tab:List (Nat×Nat)} {j:Nat} {q:Option Obj},(j,q)∈keepHeap h ρ tab→∃i o,(i,j)∈tab∧live h i=some o∧q=some (o.ren ρ)
 | [],j,q,hm=>by simp[keepHeap]at hm
 | (i,j')::l,j,q,hm=>by
  simp only[keepHeap]at hm
  split at hm
  ·rename_i o ho;rcases List.mem_cons.1 hm with e | hm
   ·cases e;exact ⟨i,o,mem_cons_self ..,ho,rfl⟩
   ·obtain ⟨i',o',h1,h2⟩:=keepHeap_mem hm;exact⟨i',o',mem_cons_of_mem _ h1,h2⟩
  ·obtain ⟨i',o',h1,h2⟩:=keepHeap_mem hm;exact⟨i',o',mem_cons_of_mem _ h1,h2⟩
theorem keepHeap_of {h:Heap} {ρ:Nat→Option Nat}:∀ {tab:List (Nat×Nat)} {i j:Nat} {o:Obj},(i,j)∈tab→live h i=some o→∃q,look (keepHeap h ρ tab) j=some q
 | [],i,j,o,hm,_=>by simp at hm
 | (i',j')::l,i,j,o,hm,ho=>by
  simp only[keepHeap];rcases List.mem_cons.1 hm with e | hm
  ·cases e
   rw[ho];exact⟨some (o.ren ρ),by simp[look]⟩
  ·obtain ⟨q,hq⟩:=keepHeap_of (ρ:=ρ) hm ho
   split
   ·simp only[look]
    cases Nat.beq j' j
    ·exact ⟨q,hq⟩
    ·exact ⟨_,rfl⟩
   ·exact ⟨q,hq⟩
theorem live_some {h:Heap} {i:Nat} {o:Obj}:live h i=some o↔look h i=some (some o):=by
 unfold live
 split
 ·rename_i e;rw[e];simp
 ·rename_i hn
  constructor
  ·intro e;cases e
  ·intro e;exact absurd e (hn o)
theorem liveOnly_mem {h:Heap}:∀ {l:List Nat} {i:Nat},i∈liveOnly h l→∃o,look h i=some (some o)
 | [],i,hi=>by simp[liveOnly]at hi
 |k::l,i,hi=>by
  simp only[liveOnly]at hi
  split at hi
  ·rename_i o ho;rcases List.mem_cons.1 hi with rfl | hi
   ·exact ⟨o,live_some.1 ho⟩
   ·exact liveOnly_mem hi
  ·exact liveOnly_mem hi
theorem liveOnly_of {h:Heap}:∀ {l:List Nat} {i:Nat} {o:Obj},i∈l→look h i=some (some o)→i∈liveOnly h l
 | [],i,o,hi,_=>by simp at hi
 |k::l,i,o,hi,ho=>by
  simp only[liveOnly];rcases List.mem_cons.1 hi with rfl | hi
  ·rw[live_some.2 ho];exact mem_cons_self ..
  ·have:=liveOnly_of hi ho
   split
   ·exact mem_cons_of_mem _ this
   ·exact this
theorem freshAt_mem:∀ {k:Nat} {l:List Nat} {i j:Nat},(i,j)∈freshAt k l→i∈l∧(i<1000→j=i)∧(j<1000→i=j)
 |k,[],i,j,h=>by simp[freshAt]at h
 |k,a::l,i,j,h=>by
  simp only[freshAt]at h
  cases hb:Nat.blt a 1000
  ·rw[hb]at h;simp only[cond_false]at h
   have ha : ¬ a < 1000 := fun e => by have : Nat.blt a 1000 = true := by simpa using e
                                       rw [hb] at this; cases this
   rcases List.mem_cons.1 h with e | h
   ·cases e;exact ⟨mem_cons_self ..,fun e=>absurd e ha,fun e=>by omega⟩
   ·obtain ⟨g1,g2⟩:=freshAt_mem h;exact⟨mem_cons_of_mem _ g1,g2⟩
  ·rw[hb]at h;simp only[cond_true]at h;rcases List.mem_cons.1 h with e | h
   ·cases e;exact ⟨mem_cons_self ..,fun _=>rfl,fun _=>rfl⟩
   ·obtain ⟨g1,g2⟩:=freshAt_mem h;exact⟨mem_cons_of_mem _ g1,g2⟩
theorem backIds_mem:∀ {k:Nat} {l:List Nat} {i j:Nat},(i,j)∈backIds k l→i∈l∧(i<1000→j=i)∧(j<1000→i=j)
 |k,[],i,j,h=>by simp[backIds]at h
 |k,a::l,i,j,h=>by
  simp only[backIds]at h
  cases hb:Nat.blt a 1000
  ·rw[hb]at h;simp only[cond_false]at h
   have ha : ¬ a < 1000 := fun e => by have : Nat.blt a 1000 = true := by simpa using e
                                       rw [hb] at this; cases this
   rcases List.mem_cons.1 h with e | h
   ·cases e;exact ⟨mem_cons_self ..,fun e=>absurd e ha,fun e=>by omega⟩
   ·obtain ⟨g1,g2⟩:=backIds_mem h;exact⟨mem_cons_of_mem _ g1,g2⟩
  ·rw[hb]at h;simp only[cond_true]at h;rcases List.mem_cons.1 h with e | h
   ·cases e;exact ⟨mem_cons_self ..,fun _=>rfl,fun _=>rfl⟩
   ·obtain ⟨g1,g2⟩:=backIds_mem h;exact⟨mem_cons_of_mem _ g1,g2⟩
theorem backIds_of:∀ {k:Nat} {l:List Nat} {i:Nat},i∈l→i<1000→(i,i)∈backIds k l
 |k,[],i,h,_=>by simp at h
 |k,a::l,i,h,hi=>by
  simp only[backIds]
  cases hb:Nat.blt a 1000
  ·rcases List.mem_cons.1 h with rfl | h
   ·have:Nat.blt i 1000=true:=by simpa using hi
    rw[hb]at this;cases this
   ·exact mem_cons_of_mem _ (backIds_of h hi)
  ·rcases List.mem_cons.1 h with rfl | h
   ·exact mem_cons_self ..
   ·exact mem_cons_of_mem _ (backIds_of h hi)
structure Rel (cx:Cx) (m:Nat) (β0:Nat→Value) (w0:World) (O0 F0:Nat→Prop) (st:St) (a:Act) (w:World) (F:Nat→Prop) (β:Nat→Value):Prop where
 inv:Inv w0 O0 F0 w F (look st.heap) β
 env:ER cx (look st.env) a w F (look st.heap) β
 clean:Clean (look st.env)
 stay:Stay m β0 (look st.heap) β
section
variable {cx:Cx} {m:Nat} {β0:Nat→Value} {w0 w:World} {O0 F0 F:Nat→Prop} {β:Nat→Value} {st:St} {a:Act}
theorem look_keepEnv {env:List (Nat×T)} {ρ:Nat→Option Nat}:∀ {l:List Nat} {t:Nat} {x:T},look (keepEnv env ρ l) t=some x→∃y,look env t=some y∧x=y.ren ρ
 | [],t,x,h=>by simp[keepEnv,look]at h
 |k::l,t,x,h=>by
  simp only[keepEnv]at h
  split at h
  ·rename_i y hy;simp only[look]at h
   cases hb:Nat.beq k t
   ·rw[hb]at h;exact look_keepEnv h
   ·rw[hb]at h;have e:=zB hb;subst e;simp only[cond_true,Option.some.injEq]at h;exact⟨y,hy,h.symm⟩
  ·exact look_keepEnv h
theorem isWhen_ren {ρ:Nat→Option Nat} {y:T} {s:Nat} {b:Bool} {d:D} (h:T.ren ρ y = .when s b d):∃d',y = .when s b d':=by
 cases y with
 |when s' b' d'=>simp only[T.ren]at h;cases h;exact ⟨d',rfl⟩
 |d x=>simp[T.ren]at h
 |tup xs=>simp[T.ren]at h
 |nilq n=>simp[T.ren]at h
 |und=>simp[T.ren]at h
 |unk=>simp[T.ren]at h
theorem nodups {tab:List (Nat×Nat)} (h:tabOk tab=true):(tab.map (·.1)).Nodup∧(tab.map (·.2)).Nodup:=by
 simp only[tabOk,Bool.and_eq_true]at h;exact⟨nodupN_iff.1 h.1,nodupN_iff.1 h.2⟩
theorem prune_rel (hm:m≤1000) (R:Rel cx m β0 w0 O0 F0 st a w F β) (keep:List Nat):∃ β',Rel cx m β0 w0 O0 F0 (prune keep st) a w F β':=by
 unfold prune;dsimp only
 generalize htab:freshAt 0 (liveOnly st.heap (closure (live st.heap) 4 (addNew [] (rootsOf st.env keep++passed st.heap))))=tab
 split
 ·rename_i hok;obtain⟨hk,hv⟩:=nodups hok;have hmem:∀ {i j},look tab i=some j→(∃o,look st.heap i=some (some o))∧(i<1000→j=i)∧(j<1000→i=j):=fun {i j} hij=>by
   have:=look_mem hij;rw[← htab]at this;obtain⟨g1,g2⟩:=freshAt_mem this;exact⟨liveOnly_mem g1,g2⟩
  obtain⟨βq,q1,q2,q3⟩:=rename_inv (ρ:=look tab) (hq:=look (keepHeap st.heap (look tab) tab)) R.inv
   (fun j o' hj=>by
    obtain⟨i,o,g1,g2,g3⟩:=keepHeap_mem (look_mem hj);exact⟨i,o,mem_look hk g1,live_some.1 g2,Option.some.inj g3⟩)
   (fun i j q hi hij=>by
    obtain⟨⟨o,ho⟩,_⟩:=hmem hij;exact keepHeap_of (look_mem hij) (live_some.2 ho))
   (fun i i' j=>tab_inj hv)
  refine⟨βq,q3,⟨R.env.size,R.env.defers,fun t x hx => ?_⟩,fun t s b d hx => ?_,fun i o hi ho => ?_⟩
  ·obtain ⟨y,hy,rfl⟩:=look_keepEnv hx;obtain⟨g1,g2⟩:=R.env.rep t y hy;exact⟨g1,ren_repX q2 g2⟩
  ·obtain ⟨y,hy,e⟩:=look_keepEnv hx;obtain⟨d',rfl⟩:=isWhen_ren e.symm;exact R.clean t s b d' hy
  ·obtain ⟨k,o',g1,g2,_⟩:=keepHeap_mem (look_mem ho);have hki:=mem_look hk g1;obtain⟨_,_,f2⟩:=hmem hki;have:=f2 (by omega);subst this;rw[q1 _ _ hki];exact R.stay _ o' hi (live_some.1 g2)
 ·refine ⟨β,⟨fun i o hi=>by simp[look]at hi,fun i j o o' b hi=>by simp[look]at hi,fun i o b hi=>by simp[look]at hi,R.inv.low,R.inv.os,R.inv.tape,R.inv.output,R.inv.size,R.inv.kept,fun i o b hi=>by simp[look]at hi,R.inv.fromF,R.inv.inF⟩,
   ⟨R.env.size,R.env.defers,fun t x hx=>by simp[look]at hx⟩,fun t s b d hx=>by simp[look]at hx,fun i o _ hi=>by simp[look]at hi⟩
theorem missing_iff {h:Heap} {i:Nat} (hmis:missing h i=true):look h i=none:=by
 unfold missing at hmis
 split at hmis
 ·rename_i hn;exact hn
 ·cases hmis
theorem look_cons (i:Nat) (q:Option Obj) (h:Heap):look ((i,q)::h)=setH (look h) i q:=by
 funext j
 simp only[look,setH]
 by_cases ej:j=i
 ·subst ej;simp
 ·rw[if_neg ej]
  cases hb:Nat.beq i j
  ·rfl
  ·exact absurd (zB hb).symm ej
theorem cellNil_rel (hm:m≤1000) (s:Nat) (t:TypeId) (e:Ty) (R:Rel cx m β0 w0 O0 F0 st a w F β):∃ β',Rel cx m β0 w0 O0 F0 (cellNil s t e st) a w F β':=by
 unfold cellNil
 split
 ·rename_i i hs
  split
  ·rename_i bt cs hi
   split
   ·rename_i hc
    split
    ·rename_i hmis;have hno:=missing_iff hmis
     generalize hk:450000+s % 100000=k at hno
     have hik:i≠k:=fun e=>by subst e;rw[hno]at hi;cases hi
     have T:=R.inv.turn (w':=w) (F':=F) k (some (.lis t e [])) (.slice none 0 0) rfl rfl rfl (Nat.le_refl _) (fun _=>False) (fun _ h=>h.elim) (fun _ _ _=>rfl) (fun _ h=>h) (fun _ h => .inl h)
      (fun q0 _ h0=>by rw[hno]at h0;cases h0) (fun _ ob hob=>by cases hob;exact ⟨.inl ⟨none,by simp[setB],rfl⟩,fun b hb=>by simp[blk]at hb⟩)
     have hi1:setH (look st.heap) k (some (.lis t e [])) i=some (some (.box bt cs)):=by simp only[setH,if_neg hik];exact hi
     obtain⟨b,us,b1,b2,b3⟩:=T.1.obj _ _ hi1;have hblk:Blk (setB β k (.slice none 0 0) i) b:=by rw[b1];exact Blk_pointer.2 rfl
     have T2:=T.1.turn (w':=w) (F':=F) i (some (.box bt (cs.set (s / 100000-1) (.own k)))) (setB β k (.slice none 0 0) i) rfl rfl rfl (Nat.le_refl _) (fun c=>c=b)
      (fun c hc=>by
       subst hc;exact⟨T.1.notF i _ c hi1 hblk,fun j o' hj hj' hb'=>hj (T.1.apart j i o' _ c hj' hi1 hb' hblk),T.1.fromO i _ c hi1 hblk⟩)
      (fun _ _ _=>rfl) (fun _ h=>h) (fun _ h => .inl h) (fun q0 _ h0 _=>⟨⟨_,by rw[hi1]at h0;exact (Option.some.inj h0).symm⟩,rfl⟩)
      (fun P ob hob=>by
       cases hob
       refine⟨⟨b,us,by rw[setB_self];exact b1,b2, ?_⟩,fun c hc => ?_⟩
       ·have b3':=b3.mono fun _ _=>P.repC;refine All2.of_get (by rw[length_set];exact b3'.len) fun j d hj => ?_
        by_cases hjo:j=s / 100000-1
        ·subst hjo;obtain⟨u,hu,hr⟩:=b3'.get hc;have hlt:s / 100000-1<cs.length:=(List.getElem?_eq_some_iff.1 hc).1;rw[List.getElem?_set_self hlt]at hj
         cases hj
         refine⟨u,hu, ?_⟩;obtain⟨e1,_⟩:=hr;subst e1;refine⟨rfl,⟨some (.lis t e []),by simp only[setH,if_neg (Ne.symm hik)];simp⟩,fun o ho => ?_⟩;simp only[setB,if_neg (Ne.symm hik)];simp
        ·rw[List.getElem?_set_ne (Ne.symm hjo)]at hj;exact b3'.get hj
       ·rw[b1]at hc;have hc:=Blk_pointer.1 hc;exact .inl (by simpa [blk]using hc.symm))
     rw[setB_self]at T2;have eh:look ((i,some (.box bt (cs.set (s / 100000-1) (.own k))))::(k,some (.lis t e []))::st.heap)=setH (setH (look st.heap) k (some (.lis t e []))) i (some (.box bt (cs.set (s / 100000-1) (.own k)))):=by rw[look_cons,look_cons]
     refine⟨setB β k (.slice none 0 0),⟨by rw[eh];exact T2.1,⟨R.env.size,R.env.defers,fun t' x hx => ?_⟩,R.clean,fun j o hj ho => ?_⟩⟩
     ·rw[eh];exact⟨(R.env.rep t' x hx).1,T2.2.repX (T.2.repX (R.env.rep t' x hx).2)⟩
     ·rw[eh]at ho;have hjk:j≠k:=by omega
      simp only[setB,if_neg hjk]
      by_cases hji:j=i
      ·subst hji;exact R.stay j _ hj hi
      ·simp only[setH,if_neg hji,if_neg hjk]at ho;exact R.stay j o hj ho
    ·exact ⟨β,R⟩
   ·exact ⟨β,R⟩
  ·exact ⟨β,R⟩
 ·exact ⟨β,R⟩
theorem nilDeep_at {p:List Nat} {u:Value} (h:skAt p (.tuple #[.slice none 0 0])=some u):blk u=none:=by
 cases p with
 |nil=>simp[skAt,hd]at h;subst h;rfl
 |cons k p=>simp[skAt]at h
theorem nilDeep_blk (b:Nat):¬Blk (.tuple #[.slice none 0 0]) b:=by
 rintro⟨p,u,h1,h2⟩;rw[nilDeep_at h1]at h2;cases h2
theorem nilDeep {w:World} {F:Nat→Prop} {h:HF} {β:Nat→Value} {i:Nat} {t t':TypeId} {e:Ty} (hb:β i = .tuple #[.slice none 0 0]):RepO w F h β i (.deep [t,t'] (.list e) []):=by
 refine⟨rfl, ?_, ?_⟩
 ·rw[hb];exact⟨t,[t'],_,none,0,rfl,rfl,rfl,rfl,Nat.le_refl _,Nat.zero_le _, .inl rfl,fun k hk=>absurd hk (Nat.not_lt_zero _)⟩
 ·rw[hb];intro p q u u' b h1 _ h3 _;rw[nilDeep_at h1]at h3;cases h3
theorem cellNilD_rel (hm:m≤1000) (s:Nat) (t:TypeId) (e:Ty) (R:Rel cx m β0 w0 O0 F0 st a w F β):∃ β',Rel cx m β0 w0 O0 F0 (cellNilD s t e st) a w F β':=by
 unfold cellNilD
 split
 case h_2=>exact ⟨β,R⟩
 rename_i e'
 split
 ·rename_i i hs
  split
  ·rename_i bt cs hi
   split
   ·rename_i hc
    split
    ·rename_i hmis;have hno:=missing_iff hmis
     generalize hk:460000+s % 100000=k at hno
     have hik:i≠k:=fun e=>by subst e;rw[hno]at hi;cases hi
     have T:=R.inv.turn (w':=w) (F':=F) k (some (.deep [t,s / 100000000-1] (.list e') [])) (.tuple #[.slice none 0 0]) rfl rfl rfl (Nat.le_refl _) (fun _=>False) (fun _ h=>h.elim) (fun _ _ _=>rfl) (fun _ h=>h) (fun _ h => .inl h)
      (fun q0 _ h0=>by rw[hno]at h0;cases h0) (fun _ ob hob=>by cases hob;exact ⟨nilDeep (by simp[setB]),fun b hb=>absurd hb (nilDeep_blk b)⟩)
     have hi1:setH (look st.heap) k (some (.deep [t,s / 100000000-1] (.list e') [])) i=some (some (.box bt cs)):=by simp only[setH,if_neg hik];exact hi
     obtain⟨b,us,b1,b2,b3⟩:=T.1.obj _ _ hi1;have hblk:Blk (setB β k (.tuple #[.slice none 0 0]) i) b:=by rw[b1];exact Blk_pointer.2 rfl
     have T2:=T.1.turn (w':=w) (F':=F) i (some (.box bt (cs.set (s % 100000000 / 100000-1) (.dsl k [])))) (setB β k (.tuple #[.slice none 0 0]) i) rfl rfl rfl (Nat.le_refl _) (fun c=>c=b)
      (fun c hc=>by
       subst hc;exact⟨T.1.notF i _ c hi1 hblk,fun j o' hj hj' hb'=>hj (T.1.apart j i o' _ c hj' hi1 hb' hblk),T.1.fromO i _ c hi1 hblk⟩)
      (fun _ _ _=>rfl) (fun _ h=>h) (fun _ h => .inl h) (fun q0 _ h0 _=>⟨⟨_,by rw[hi1]at h0;exact (Option.some.inj h0).symm⟩,rfl⟩)
      (fun P ob hob=>by
       cases hob
       refine⟨⟨b,us,by rw[setB_self];exact b1,b2, ?_⟩,fun c hc => ?_⟩
       ·have b3':=b3.mono fun _ _=>P.repC;refine All2.of_get (by rw[length_set];exact b3'.len) fun j d hj => ?_
        by_cases hjo:j=s % 100000000 / 100000-1
        ·subst hjo;obtain⟨u,hu,hr⟩:=b3'.get hc;have hlt:s % 100000000 / 100000-1<cs.length:=(List.getElem?_eq_some_iff.1 hc).1;rw[List.getElem?_set_self hlt]at hj
         cases hj
         refine⟨u,hu, ?_⟩;obtain⟨e1,_⟩:=hr;subst e1;refine⟨rfl,⟨some (.deep [t,s / 100000000-1] (.list e') []),by simp only[setH,if_neg (Ne.symm hik)];simp⟩,fun o ho => ?_⟩;simp only[setB,if_neg (Ne.symm hik)];simp[skAt,hd]
        ·rw[List.getElem?_set_ne (Ne.symm hjo)]at hj;exact b3'.get hj
       ·rw[b1]at hc;have hc:=Blk_pointer.1 hc;exact .inl (by simpa [blk]using hc.symm))
     rw[setB_self]at T2;have eh:look ((i,some (.box bt (cs.set (s % 100000000 / 100000-1) (.dsl k []))))::(k,some (.deep [t,s / 100000000-1] (.list e') []))::st.heap)=setH (setH (look st.heap) k (some (.deep [t,s / 100000000-1] (.list e') []))) i (some (.box bt (cs.set (s % 100000000 / 100000-1) (.dsl k [])))):=by rw[look_cons,look_cons]
     refine⟨setB β k (.tuple #[.slice none 0 0]),⟨by rw[eh];exact T2.1,⟨R.env.size,R.env.defers,fun t' x hx => ?_⟩,R.clean,fun j o hj ho => ?_⟩⟩
     ·rw[eh];exact⟨(R.env.rep t' x hx).1,T2.2.repX (T.2.repX (R.env.rep t' x hx).2)⟩
     ·rw[eh]at ho;have hjk:j≠k:=by omega
      simp only[setB,if_neg hjk]
      by_cases hji:j=i
      ·subst hji;exact R.stay j _ hj hi
      ·simp only[setH,if_neg hji,if_neg hjk]at ho;exact R.stay j o hj ho
    ·exact ⟨β,R⟩
   ·exact ⟨β,R⟩
  ·exact ⟨β,R⟩
 ·exact ⟨β,R⟩
theorem ownNils_rel (hm:m≤1000):∀(l:List (Nat×TypeId×Ty)) {st:St} {β:Nat→Value},Rel cx m β0 w0 O0 F0 st a w F β→∃ β',Rel cx m β0 w0 O0 F0 (ownNils l st) a w F β'
 | [],st,β,R=>⟨β,R⟩
 | (s,t,e)::l,st,β,R=>by
  simp only[ownNils]
  cases Nat.ble 100000000 s
  rotate_left
  ·obtain ⟨β1,R1⟩:=cellNilD_rel hm s t e R;exact ownNils_rel hm l R1
  simp only[cond_false]
  cases Nat.ble 100000 s
  rotate_left
  ·obtain ⟨β1,R1⟩:=cellNil_rel hm s t e R;exact ownNils_rel hm l R1
  simp only[cond_false]
  split
  ·rename_i hs
   split
   ·rename_i hmis;have hno:look st.heap (400000+s)=none:=by
     unfold missing at hmis
     split at hmis
     ·rename_i hn;exact hn
     ·cases hmis
    have hv:=R.env.rep s _ hs;have hval:a.tmps.getD s undef = .slice none 0 0:=hv.2.1;have T:=R.inv.turn (w':=w) (F':=F) (400000+s) (some (.lis t e [])) (.slice none 0 0) rfl rfl rfl (Nat.le_refl _) (fun _=>False) (fun _ h=>h.elim) (fun _ _ _=>rfl) (fun _ h=>h) (fun _ h => .inl h)
     (fun q0 _ h0=>by rw[hno]at h0;cases h0) (fun _ ob hob=>by cases hob;exact ⟨.inl ⟨none,by simp[setB],rfl⟩,fun b hb=>by simp[blk]at hb⟩)
    have eh:look ((400000+s,some (.lis t e []))::st.heap)=setH (look st.heap) (400000+s) (some (.lis t e [])):=by
     funext j
     simp only[look,setH]
     by_cases ej:j=400000+s
     ·subst ej;simp
     ·rw[if_neg ej]
      cases hb:Nat.beq (400000+s) j
      ·rfl
      ·exact absurd (zB hb).symm ej
    refine ownNils_rel hm l (β:=setB β (400000+s) (.slice none 0 0)) ⟨by rw[eh];exact T.1,⟨R.env.size,R.env.defers,fun t' x hx => ?_⟩,fun t' s' b d hx => ?_,fun i o hi ho => ?_⟩
    ·rw[eh];simp only[look]at hx
     cases hb:Nat.beq s t'
     ·rw[hb]at hx;exact⟨(R.env.rep t' x hx).1,T.2.repX (R.env.rep t' x hx).2⟩
     ·rw[hb]at hx;have:=zB hb;subst this;simp only[cond_true,Option.some.injEq]at hx;subst hx;refine⟨hv.1, ?_⟩;rw[hval];exact⟨rfl,⟨_,by simp[setH];rfl⟩,fun ob _=>by simp[setB]⟩
    ·simp only[look]at hx
     cases hb:Nat.beq s t'
     ·rw[hb]at hx;exact R.clean t' s' b d hx
     ·rw[hb]at hx;cases hx
    ·rw[eh]at ho;have:i≠400000+s:=by omega
     simp only[setH,if_neg this]at ho;simp only[setB,if_neg this];exact R.stay i o hi ho
   ·exact ownNils_rel hm l R
  ·exact ownNils_rel hm l R
theorem pruneAt_rel (hm:m≤1000) (R:Rel cx m β0 w0 O0 F0 st a w F β) (l:List (Nat×List Nat)) (i:Nat):∃ β',Rel cx m β0 w0 O0 F0 (pruneAt l i st) a w F β':=by
 unfold pruneAt
 split
 ·exact prune_rel hm R _
 ·exact ⟨β,R⟩
theorem headAt_rel (hm:m≤1000) (R:Rel cx m β0 w0 O0 F0 st a w F β) (i:Nat):∃ β',Rel cx m β0 w0 O0 F0 (headAt cx i st) a w F β':=by
 unfold headAt
 split
 ·rename_i l _;obtain⟨β',R'⟩:=ownNils_rel hm l R;exact pruneAt_rel hm R' _ _
 ·exact pruneAt_rel hm R _ _
theorem dropWhen_look:∀ {env:List (Nat×T)} {t:Nat} {x:T},look (dropWhen env) t=some x→x = .unk∨(look env t=some x∧∀s b d,x ≠ .when s b d)
 | [],t,x,h=>by simp[dropWhen,look]at h
 | (k,y)::l,t,x,h=>by
  cases y with
  |when s b d =>
   simp only[dropWhen,look]at h ⊢
   cases hb:Nat.beq k t
   ·rw[hb]at h;exact dropWhen_look h
   ·rw[hb]at h;simp only[cond_true,Option.some.injEq]at h;exact .inl h.symm
  |_ =>
   simp only[dropWhen,look]at h ⊢
   cases hb:Nat.beq k t
   ·rw[hb]at h;exact dropWhen_look h
   ·rw[hb]at h;simp only[cond_true,Option.some.injEq]at h;subst h;exact .inr ⟨rfl,fun _ _ _ e=>by cases e⟩
end
end
end
/-
 Code does what the evaluator tells.
-/
noncomputable section
open Go
def LoopsOk (cx:Cx) (c:Code):Prop:=∀id b g,(id,b)∈loopsOf c→cx.loops id=some g→∀st K r,g st K=some r→∃N,iter (evC cx b) (headAt cx id) N st K=some r
section
variable {P:Program} {cx:Cx} {m:Nat} {β0:Nat→Value} {w0:World} {O0 F0:Nat→Prop}
def PostK (cx:Cx) (m:Nat) (β0:Nat→Value) (w0:World) (O0 F0:Nat→Prop) (K:Cont) (r:Fin):Exit→Act→World→Prop
 | .normal,a,w=>∃st F β,Rel cx m β0 w0 O0 F0 st a w F β∧K .normal st=some r
 | .exit i,a,w=>∃st F β,Rel cx m β0 w0 O0 F0 st a w F β∧K (.exit i) st=some r
 | .ret,a,w=>∃st F β,Rel cx m β0 w0 O0 F0 st a w F β∧K .ret st=some r
 |_,_,_=>False
theorem PostK.seq {K K':Cont} {r:Fin} {next:Act→World→Prop} (hn:∀st F β a w,Rel cx m β0 w0 O0 F0 st a w F β→K' .normal st=some r→next a w)
  (hK:∀e st,e ≠ .normal→K' e st=K e st):∀e a w,PostK cx m β0 w0 O0 F0 K' r e a w→Exit.then next (PostK cx m β0 w0 O0 F0 K r) e a w:=by
 intro e a w h
 cases e with
 |normal=>obtain ⟨st,F,β,h1,h2⟩:=h;exact hn st F β a w h1 h2
 |exit i=>obtain ⟨st,F,β,h1,h2⟩:=h;exact ⟨st,F,β,h1,by rw[← hK _ _ (by simp)];exact h2⟩
 |ret=>obtain ⟨st,F,β,h1,h2⟩:=h;exact ⟨st,F,β,h1,by rw[← hK _ _ (by simp)];exact h2⟩
 |goto l=>exact h.elim
 |panic c=>exact h.elim
 |outgrown=>exact h.elim
theorem region_sound (hm:m≤1000) (hTT:TTok P cx.TT) (hΓ:EnvOk P cx.Γ) (hmix:P.follows .mixedOrders=true) {id:Nat} {ops:Array Oper} {draw:Bool} {st:St} {K:St→Option Fin} {r:Fin} (he:region cx id ops draw st K=some r)
  {a:Act} {w:World} {F:Nat→Prop} {β:Nat→Value} (R:Rel cx m β0 w0 O0 F0 st a w F β) {Q:Exit→Act→World→Prop} (hQ:∀st' a' w' F' β',Rel cx m β0 w0 O0 F0 st' a' w' F' β'→K st'=some r→Q .normal a' w'):(Code.region id ops draw).wp P Q a w:=by
 have tailS:∀ {ms:List Marks} {x:Option Fin},region.tail ops draw ms x=some r→(draw=true→edgesOk 0 ops.toList=true∧okOrder ops (befs ops.toList []) 0 ms=true)∧x=some r:=fun {ms x} h=>by
  unfold region.tail at h
  split at h
  ·exact ⟨fun e=>(by cases e),h⟩
  ·split at h
   ·rename_i hck;simp only[Bool.and_eq_true]at hck;exact⟨fun _=>hck,h⟩
   ·cases h
 have gnone:∀ {l:List Oper},guarded l=false→∀o∈l,o.guard=none:=by
  intro l
  induction l with
  |nil=>intro _ o ho;simp at ho
  |cons o' l ih =>
   intro hg o ho;simp only[guarded]at hg
   split at hg
   ·cases hg
   ·rename_i hn;rcases List.mem_cons.1 ho with rfl | ho
    ·exact hn
    ·exact ih hg o ho
 unfold region at he
 split at he
 ·rename_i hg;obtain⟨st',ms,h1,h2,h3⟩:=steps_some he (fun _=>R.clean) (fun _=>gnone hg);obtain⟨g1,g2⟩:=tailS h2;exact region_wp hm hTT hΓ hmix h1 g1 (fun a' w' F' β' H' S' R'=>hQ st' a' w' F' β' ⟨H',R',h3 rfl,S'⟩ g2) R.inv R.stay R.env
 ·obtain ⟨st',ms,h1,h2,_⟩:=steps_some he (fun e=>by cases e) (fun e=>by cases e);obtain⟨g1,g2⟩:=tailS h2;refine region_wp hm hTT hΓ hmix h1 g1 (fun a' w' F' β' H' S' R'=>hQ ⟨dropWhen st'.env,st'.heap⟩ a' w' F' β' ⟨H',⟨R'.size,R'.defers,fun t x hx => ?_⟩,fun t s b d hx => ?_,S'⟩ g2) R.inv R.stay R.env
  ·rcases dropWhen_look hx with rfl | ⟨hx,_⟩
   ·have:∃y,look st'.env t=some y:=by
     have:∀ {env:List (Nat×T)},look (dropWhen env) t=some .unk→∃y,look env t=some y:=by
      intro env
      induction env with
      |nil=>intro h;simp[dropWhen,look]at h
      |cons p l ih =>
       obtain⟨k,y⟩:=p;intro h;simp only[look]
       cases hb:Nat.beq k t
       ·refine ih ?_
        cases y<;>simpa [dropWhen,look,hb]using h
       ·exact ⟨y,rfl⟩
     exact this hx
    obtain⟨y,hy⟩:=this;exact⟨(R'.rep t y hy).1,trivial⟩
   ·exact R'.rep t x hx
  ·rcases dropWhen_look hx with e | ⟨_,hx⟩
   ·cases e
   ·exact hx s b d rfl
theorem evC_sound (hm:m≤1000) (hTT:TTok P cx.TT) (hΓ:EnvOk P cx.Γ) (hmix:P.follows .mixedOrders=true) (c:Code):LoopsOk cx c→∀(st:St) (K:Cont) (r:Fin) (a:Act) (w:World) (F:Nat→Prop) (β:Nat→Value),
  evC cx c st K=some r→Rel cx m β0 w0 O0 F0 st a w F β→c.wp P (PostK cx m β0 w0 O0 F0 K r) a w:=by
 induction c with
 |skip=>intro _ st K r a w F β he R;exact wp_skip ⟨st,F,β,R,he⟩
 |region id ops draw=>intro _ st K r a w F β he R;exact region_sound hm hTT hΓ hmix he R fun st' a' w' F' β' R' h=>⟨st',F',β',R',h⟩
 |seq x y ihx ihy =>
  intro hL st K r a w F β he R;have hLx:LoopsOk cx x:=fun id b g hm=>hL id b g (mem_append_left _ hm);have hLy:LoopsOk cx y:=fun id b g hm=>hL id b g (mem_append_right _ hm);refine wp_seq (wp_mono (ihx hLx st _ r a w F β he R) ?_);refine PostK.seq (fun st' F' β' a' w' R' h=>ihy hLy st' K r a' w' F' β' h R') fun e st' hne => ?_
  cases e<;>first | rfl | exact absurd rfl hne
 |cond x y z ihy ihz =>
  intro hL st K r a w F β he R;have hLy:LoopsOk cx y:=fun id b g hm=>hL id b g (mem_append_left _ hm);have hLz:LoopsOk cx z:=fun id b g hm=>hL id b g (mem_append_right _ hm);simp only[evC]at he
  split at he
  ·rename_i n hn;simp only[Option.bind_eq_some_iff]at hn;obtain⟨v,hv,hb⟩:=hn;rw[evOpd_eq]at hv;have hr:=evOpd_sound R.env hv;have e:v = .nilq n:=by
    unfold nilD at hb
    split at hb
    ·cases hb;rfl
    ·cases hb
   subst e;obtain⟨t,ht,hz⟩:=hr;refine wp_cond ht ?_
   cases hq:Nat.blt 0 n
   ·rw[hq]at he;replace he:both (evC cx y st K) (evC cx z st K)=some r:=he;unfold both at he
    split at he
    ·rename_i hyz
     cases t
     ·exact ihz hLz st K r a w F β (by rw[← hyz];exact he) R
     ·exact ihy hLy st K r a w F β he R
    ·cases he
   ·rw[hq]at he;have:=hz (by simpa using hq);subst this;exact ihz hLz st K r a w F β he R
  split at he
  ·rename_i t ht;simp only[Option.bind_eq_some_iff]at ht;obtain⟨v,hv,hb⟩:=ht;rw[evOpd_eq]at hv;have hr:=evOpd_sound R.env hv;have hval:a.eval x = .bool t:=by
    unfold boolD at hb
    split at hb
    ·cases hb;exact hr.1
    ·cases hb
   refine wp_cond hval ?_;unfold branch at he
   cases t
   ·exact ihz hLz st K r a w F β he R
   ·exact ihy hLy st K r a w F β he R
  ·cases he
 |block id c ih =>
  intro hL st K r a w F β he R;refine wp_block (wp_mono (ih hL st _ r a w F β he R) ?_);intro e a' w' h
  cases e with
  |normal=>obtain ⟨st',F',β',h1,h2⟩:=h;exact ⟨st',F',β',h1,h2⟩
  |exit i =>
   obtain⟨st',F',β',h1,h2⟩:=h;simp only[Exit.inBlock]
   cases hb:Nat.beq i id
   ·have:i≠id:=fun e=>by subst e;simp at hb
    simp only[hb,cond_false]at h2;rw[if_neg this];exact⟨st',F',β',h1,h2⟩
   ·have:=zB hb;simp only[hb,cond_true]at h2;rw[if_pos this];exact⟨st',F',β',h1,h2⟩
  |ret=>obtain ⟨st',F',β',h1,h2⟩:=h;exact ⟨st',F',β',h1,h2⟩
  |goto l=>exact h.elim
  |panic c=>exact h.elim
  |outgrown=>exact h.elim
 |loop c ih =>
  intro hL st K r a w F β he R;have hLc:LoopsOk cx c:=fun id b g hm=>hL id b g (mem_cons_of_mem _ hm);simp only[evC]at he
  split at he
  ·rename_i g hg;obtain⟨N,hN⟩:=hL _ c g (mem_cons_self ..) hg _ K r he;obtain⟨β1,R1⟩:=headAt_rel hm R ((firstRegion c).getD 0);refine wp_loop_rounds N ?_;have key:∀(N:Nat) (st:St) (a:Act) (w:World) (F:Nat→Prop) (β:Nat→Value),iter (evC cx c) (headAt cx ((firstRegion c).getD 0)) N st K=some r→Rel cx m β0 w0 O0 F0 st a w F β →
     Code.rounds P c (PostK cx m β0 w0 O0 F0 K r) N a w:=by
    intro N
    induction N with
    |zero=>intro st a w F β h _;cases h
    |succ N ihN =>
     intro st a w F β h R;simp only[iter]at h;refine wp_mono (ih hLc st _ r a w F β h R) ?_;refine PostK.seq (fun st' F' β' a' w' R' h => ?_) fun e st' hne => ?_
     ·obtain ⟨β2,R2⟩:=headAt_rel hm R' ((firstRegion c).getD 0);exact ihN _ a' w' F' β2 h R2
     ·cases e<;>first | rfl | exact absurd rfl hne
   exact key N _ a w F β1 hN R1
  ·cases he
 |exit id =>
  intro _ st K r a w F β he R;obtain⟨β1,R1⟩:=pruneAt_rel hm R cx.ends id;exact wp_exit ⟨_,F,β1,R1,he⟩
 |ret =>
  intro _ st K r a w F β he R;obtain⟨β1,R1⟩:=pruneAt_rel hm R cx.ends 1000000;exact wp_ret ⟨_,F,β1,R1,he⟩
 |rangeFunc f ps x y _ _=>intro _ st K r a w F β he;cases he
 |scope c _=>intro _ st K r a w F β he;cases he
 |label l=>intro _ st K r a w F β he;cases he
 |goto l=>intro _ st K r a w F β he;cases he
 |refuse s=>intro _ st K r a w F β he;cases he
end
end
/-
 A function does what the evaluator tells.
-/
noncomputable section
open Go
section
variable {P:Program} {TT:Types} {w0 w:World} {O0 F0 F:Nat→Prop} {h:HF} {β:Nat→Value}
theorem nilCell_sound {ti:TI} {c:C} {u:Value} (hc:RepC w F h β c u):RepC w F h β (nilCell TT ti c) u:=by
 unfold nilCell
 split
 ·split
  ·split
   ·have e:=hc.1
    split
    ·exact ⟨none,0,by rw[e];rfl,by simp,by simp[maxLen], .inl rfl⟩
    ·exact ⟨none,0,e,by omega,by simp[maxLen], .inl rfl⟩
   ·exact hc
  ·exact hc
 ·exact hc
theorem nilCells_sound:∀ {fs:List Field} {cs:List C} {us:List Value},All2 (RepC w F h β) cs us→All2 (RepC w F h β) (nilCells TT fs cs) us
 | [],cs,us,hc=>by unfold nilCells;exact hc
 |f::fs,[],us,hc=>by unfold nilCells;exact hc
 |f::fs,c::cs,us,hc=>by
  cases hc with
  |cons h1 h2 =>
   unfold nilCells;refine .cons ?_ (nilCells_sound h2)
   split
   ·rename_i ti _
    cases Nat.beq ti.info.size 1
    ·exact h1
    ·exact nilCell_sound h1
   ·exact h1
theorem nils_sound {ty:TypeId} {d:D} {u:Value} (hd:RepD w F h β d u):RepD w F h β (d.nils TT ty) u:=by
 cases d with
 |one c =>
  unfold D.nils;dsimp only
  split
  ·exact nilCell_sound (c:=c) hd
  ·exact hd
 |agg cs =>
  unfold D.nils;dsimp only
  split
  ·split
   ·rename_i fs _
    cases (fs.toList.all fun f=>match TT f.type with | some fi=>Nat.beq fi.info.size 1 | none=>false)
    ·exact hd
    ·obtain ⟨us,e,hh⟩:=hd;exact⟨us,e,nilCells_sound hh⟩
   ·exact hd
  ·exact hd
theorem nilsAll_sound:∀ {ts:List TypeId} {ds:List D} {us:List Value},All2 (RepD w F h β) ds us→All2 (RepD w F h β) (nilsAll TT ts ds) us
 | [],ds,us,hd=>by unfold nilsAll;exact hd
 |t::ts,[],us,hd=>by unfold nilsAll;exact hd
 |t::ts,d::ds,us,hd=>by
  cases hd with
  |cons h1 h2 =>
   unfold nilsAll;exact .cons (nils_sound h1) (nilsAll_sound h2)
theorem mkRes_sound {ds:List D} {us:List Value} (hd:All2 (RepD w F h β) ds us) (tm:Array Value):RepX tm w F h β (mkRes ds) (if h:us.toArray.size=1 then us.toArray[0] else .tuple us.toArray):=by
 cases hd with
 |nil=>exact ⟨#[],rfl, .nil⟩
 |cons h1 h2 =>
  cases h2 with
  |nil=>exact h1
  |cons h2 h3 =>
   simp only[mkRes];rw[dif_neg (by simp)];exact⟨_,rfl, .cons h1 (.cons h2 h3)⟩
theorem leave {hp:Heap} {m:Nat} {β0:Nat→Value} (hm:m≤1000) (H:Inv w0 O0 F0 w F (look hp) β) (S:Stay m β0 (look hp) β) {tab:List (Nat×Nat)} (hok:tabOk tab=true)
  (hid:∀i j,(i,j)∈tab→j<1000→i=j) (hcase:∀i j,(i,j)∈tab→(∃o,look hp i=some (some o))∨(i=j∧j<m))
  (hall:∀i o,i<m→look hp i=some (some o)→(i,i)∈tab) :
  ∃ βq:Nat→Value,(∀i q j,look hp i=some q→look tab i=some j→(∃q',look (keepHeap hp (look tab) tab++gone hp m) j=some q')∧∀o',look (keepHeap hp (look tab) tab++gone hp m) j=some (some o')→(∃o,q=some o)∧βq j=β i) ∧
   Inv w0 O0 F0 w F (look (keepHeap hp (look tab) tab++gone hp m)) βq∧(∀i,i<m→∃q,look (keepHeap hp (look tab) tab++gone hp m) i=some q) ∧
   ∀i o,i<m→look (keepHeap hp (look tab) tab++gone hp m) i=some (some o)→βq i=β0 i:=by
 obtain⟨hk,hv⟩:=nodups hok;have goneN:∀ {n j:Nat} {q:Option Obj},look (gone hp n) j=some q→q=none:=fun {n j q} hq=>by
  have:=look_mem hq;clear hq
  induction n with
  |zero=>simp[gone]at this
  |succ n ih =>
   simp only[gone,mem_append]at this;rcases this with h1 | h1
   ·split at h1
    ·simp at h1
    ·simp at h1;exact h1.2
   ·exact ih h1
 have goneO:∀ {n j:Nat},j<n→(∀o,look hp j≠some (some o))→∃q,look (gone hp n) j=some q:=fun {n j} hj hno=>by
  induction n with
  |zero=>omega
  |succ n ih =>
   simp only[gone,look_append];rcases Nat.lt_or_ge j n with h1 | h1
   ·obtain ⟨q,hq⟩:=ih h1
    split
    ·exact ⟨_,rfl⟩
    ·exact ⟨q,hq⟩
   ·have:j=n:=by omega
    subst this
    split
    ·exact ⟨_,rfl⟩
    ·rename_i hn
     split at hn
     ·rename_i o ho;exact absurd (live_some.1 ho) (hno o)
     ·simp[look]at hn
 have K1:∀j o',look (keepHeap hp (look tab) tab++gone hp m) j=some (some o')→∃i o,look tab i=some j∧look hp i=some (some o)∧o'=o.ren (look tab):=fun j o' hj=>by
  rw[look_append]at hj
  split at hj
  ·rename_i q hq
   cases hj
   obtain⟨i,o,g1,g2,g3⟩:=keepHeap_mem (look_mem hq);exact⟨i,o,mem_look hk g1,live_some.1 g2,Option.some.inj g3⟩
  ·have:=goneN hj
   cases this
 have K2:∀i j q,look hp i=some q→look tab i=some j→∃q',look (keepHeap hp (look tab) tab++gone hp m) j=some q':=fun i j q hi hij=>by
  rw[look_append]
  cases hkh:look (keepHeap hp (look tab) tab) j with
  |some q'=>exact ⟨q',rfl⟩
  |none =>
   have no:∀o,look hp i≠some (some o):=fun o ho=>by
    obtain⟨q',hq'⟩:=keepHeap_of (ρ:=look tab) (look_mem hij) (live_some.2 ho);rw[hkh]at hq';cases hq'
   rcases hcase i j (look_mem hij)with⟨o,ho⟩ | ⟨rfl,hlt⟩
   ·exact absurd ho (no o)
   ·exact goneO hlt no
 obtain⟨βq,q1,q2,q3⟩:=rename_inv (ρ:=look tab) (hq:=look (keepHeap hp (look tab) tab++gone hp m)) H K1 K2 (fun i i' j=>tab_inj hv);refine⟨βq,q2,q3,fun i hi => ?_,fun i o hi ho => ?_⟩
 ·by_cases hex:∃o,look hp i=some (some o)
  ·obtain ⟨o,ho⟩:=hex;exact K2 i i _ ho (mem_look hk (hall i o hi ho))
  ·rw[look_append]
   cases look (keepHeap hp (look tab) tab) i with
   |some q'=>exact ⟨q',rfl⟩
   |none=>exact goneO hi fun o ho=>hex ⟨o,ho⟩
 ·obtain ⟨k,o',g1,g2,_⟩:=K1 i o ho;have:=hid k i (look_mem g1) (by omega);subst this;rw[q1 _ _ g1];exact S _ o' hi g2
theorem ren_all {ρ:Nat→Option Nat} {h':HF} {β':Nat→Value} (hr:∀i q j,h i=some q→ρ i=some j→(∃q',h' j=some q')∧∀o',h' j=some (some o')→(∃o,q=some o)∧β' j=β i) :
  ∀ {ds:List D} {us:List Value},All2 (RepD w F h β) ds us→All2 (RepD w F h' β') (ds.map (D.ren ρ)) us:=fun hd =>
 All2.map_l.2 (hd.mono fun _ _=>ren_repD hr)
end
section
variable {P:Program} {cx:Cx} {m:Nat} {β0:Nat→Value} {w0 w:World} {O0 F0 F:Nat→Prop} {β:Nat→Value} {st:St} {a:Act}
theorem liveHH {hp:Heap}:∀i ob,live hp i=some ob→look hp i=some (some ob):=fun _ _ e=>live_some.1 e
def runRes (tmps:Array Value):ResultVar→Sem Value
 | .tmp t=>pure (tmps.getD t undef)
 | .cell a t=>do loadVar t (← asAddr (tmps.getD a undef))
theorem resOf_sound (hTT:TTok P cx.TT) (R:Rel cx m β0 w0 O0 F0 st a w F β) {rv:ResultVar} {d:D} (hd:resOf st rv cx.TT=some d):∃v,(runRes a.tmps rv).run P w = .ok v w∧RepD w F (look st.heap) β d v:=by
 cases rv with
 |tmp t =>
  simp only[resOf]at hd
  split at hd
  ·rename_i x hx
   cases hd
   exact⟨_,rfl,(R.env.rep t _ hx).2⟩
  ·cases hd
 |cell ad ty =>
  simp only[resOf]at hd
  split at hd
  ·rename_i c ti hc hti;simp only[Option.bind_eq_some_iff]at hd;obtain⟨cs,hcs,hd⟩:=hd;have hx:=(R.env.rep ad _ hc).2;obtain⟨b,off,us,hu,hl,hat,hrc⟩:=cellsAt_sound R.inv liveHH hx hcs;obtain⟨v,hv,hr⟩:=load_sound hTT hti hrc hl hat hd;refine⟨v, ?_,hr⟩;simp only[runRes,hu,asAddr,Sem.run_bind,Sem.run_pure,Result.andThen_ok,hv]
  ·cases hd
theorem resAll_sound (hTT:TTok P cx.TT) (R:Rel cx m β0 w0 O0 F0 st a w F β):∀ {rvs:List ResultVar} {ds:List D},resAll cx.TT st rvs=some ds →
  ∃vs,(rvs.mapM (runRes a.tmps)).run P w = .ok vs w∧All2 (RepD w F (look st.heap) β) ds vs
 | [],ds,hd=>by simp[resAll]at hd;subst hd;exact ⟨[],rfl, .nil⟩
 |rv::rvs,ds,hd=>by
  simp only[resAll]at hd
  split at hd
  ·rename_i d ds' h1 h2
   cases hd
   obtain⟨v,hv,hr⟩:=resOf_sound hTT R h1;obtain⟨vs,hvs,hrs⟩:=resAll_sound hTT R h2;exact⟨v::vs,by simp only[List.mapM_cons,Sem.run_bind,hv,hvs,Result.andThen_ok,Sem.run_pure], .cons hr hrs⟩
  ·cases hd
theorem toR_all {h:HF} {hh:Nat→Option Obj} (H:Inv w0 O0 F0 w F h β) (hhh:∀i ob,hh i=some ob→h i=some (some ob)) {F':Nat→Prop} (hF:∀b,F b→F' b) {l:List Nat}
  (hb:∀i∈closure hh 3 l,∀o b,h i=some (some o)→Blk (β i) b→F' b) (h':HF) (β':Nat→Value):∀ {ds rs:List D} {us:List Value},All2 (RepD w F h β) ds us→allSome (ds.map (D.toR hh))=some rs→(∀i∈ds.flatMap D.refs,i∈l)→All2 (RepD w F' h' β') rs us
 | [],rs,us,hd,hr,_=>by cases hd;simp[allSome]at hr;subst hr;exact .nil
 |d::ds,rs,us,hd,hr,hl=>by
  cases hd with
  |cons h1 h2 =>
   simp only[List.map_cons]at hr
   cases hd:d.toR hh with
   |none=>rw[hd]at hr;simp[allSome]at hr
   |some d' =>
    rw[hd]at hr;simp only[allSome,Option.map_eq_some_iff]at hr;obtain⟨rs',h3,rfl⟩:=hr;exact .cons (toR_D H hhh hF hb h1 hd (fun i hi=>hl i (by simp only[List.flatMap_cons,mem_append];exact .inl hi)) h' β')
     (toR_all H hhh hF hb h' β' h2 h3 fun i hi=>hl i (by simp only[List.flatMap_cons,mem_append];exact .inr hi))
theorem mem_sameIds {m i j:Nat}:(i,j)∈sameIds m↔i=j∧i<m:=by
 simp only[sameIds,List.mem_map,List.mem_range,Prod.mk.injEq]
 constructor
 ·rintro ⟨k,h1,rfl,rfl⟩;exact ⟨rfl,h1⟩
 ·rintro ⟨rfl,h1⟩;exact ⟨i,h1,rfl,rfl⟩
theorem sameIds_ok (m:Nat):tabOk (sameIds m)=true:=by
 simp only[tabOk,Bool.and_eq_true,nodupN_iff,sameIds,List.map_map];have:∀ {f:Nat→Nat},(∀i,f i=i)→((List.range m).map f).Nodup:=fun {f} hf=>by
  have e:f=id:=funext hf;rw[e,List.map_id];exact List.nodup_range
 exact⟨this fun _=>rfl,this fun _=>rfl⟩
theorem refs_all {h:HF} {ds:List D} {us:List Value} (hd:All2 (RepD w F h β) ds us):∀i∈ds.flatMap D.refs,∃q,h i=some q:=by
 induction hd with
 |nil=>intro i hi;simp at hi
 |cons h1 _ ih =>
  intro i hi;simp only[List.flatMap_cons,mem_append]at hi;rcases hi with hi | hi
  ·exact RepD.pres h1 i hi
  ·exact ih i hi
theorem Per.all {h h':HF} {β β':Nat→Value} (Pr:Per w F h β w F h' β') {cs:List C} {us:List Value} (hc:All2 (RepC w F h β) cs us):All2 (RepC w F h' β') cs us:=hc.mono fun _ _=>Pr.repC
theorem ownCell_sound (hm:m≤1000) {ty:TypeId} {c c':C} {hp hp':Heap} {k:Nat} (hc:ownCell cx.TT ty c hp k=some (c',hp')) {β:Nat→Value} (H:Inv w0 O0 F0 w F (look hp) β) (S:Stay m β0 (look hp) β) {u:Value} (hr:RepC w F (look hp) β c u) :
  ∃ β',Inv w0 O0 F0 w F (look hp') β'∧Stay m β0 (look hp') β'∧Per w F (look hp) β w F (look hp') β'∧RepC w F (look hp') β' c' u:=by
 unfold ownCell at hc
 split at hc
 ·split at hc
  ·rename_i e _
   split at hc
   ·split at hc
    ·rename_i t _
     split at hc
     ·rename_i hmis
      cases hc
      have hno:look hp (600000+k)=none:=by
       unfold missing at hmis
       split at hmis
       ·rename_i hn;exact hn
       ·cases hmis
      have hval:u = .slice none 0 0:=hr.1;have eh:∀(q:Option Obj),look ((600000+k,q)::hp)=setH (look hp) (600000+k) q:=fun q=>by
       funext j
       simp only[look,setH]
       by_cases ej:j=600000+k
       ·subst ej;simp
       ·rw[if_neg ej]
        cases hb:Nat.beq (600000+k) j
        ·rfl
        ·exact absurd (zB hb).symm ej
      have T:=H.turn (w':=w) (F':=F) (600000+k) (some (.lis e t [])) (.slice none 0 0) rfl rfl rfl (Nat.le_refl _) (fun _=>False) (fun _ h=>h.elim) (fun _ _ _=>rfl) (fun _ h=>h) (fun _ h => .inl h)
       (fun q0 _ h0=>by rw[hno]at h0;cases h0) (fun _ ob hob=>by cases hob;exact ⟨.inl ⟨none,by simp[setB],rfl⟩,fun b hb=>by simp[blk]at hb⟩)
      refine⟨setB β (600000+k) (.slice none 0 0),by rw[eh];exact T.1,fun i o hi ho => ?_,by rw[eh];exact T.2, ?_⟩
      ·rw[eh]at ho;have hne:i≠600000+k:=by omega
       simp only[setH,if_neg hne]at ho;simp only[setB,if_neg hne];exact S i o hi ho
      ·rw[eh,hval];exact⟨rfl,⟨_,by simp[setH];rfl⟩,fun ob _=>by simp[setB]⟩
     ·cases hc
    ·cases hc
   ·cases hc
  ·cases hc
 ·cases hc
theorem ownCells_sound (hm:m≤1000):∀ {ts:List TypeId} {cs:List C} {hp:Heap} {k:Nat} {β:Nat→Value},Inv w0 O0 F0 w F (look hp) β→Stay m β0 (look hp) β→∀ {us:List Value},All2 (RepC w F (look hp) β) cs us →
  ∃ β',Inv w0 O0 F0 w F (look (ownCells cx.TT ts cs hp k).2) β'∧Stay m β0 (look (ownCells cx.TT ts cs hp k).2) β'∧Per w F (look hp) β w F (look (ownCells cx.TT ts cs hp k).2) β'∧All2 (RepC w F (look (ownCells cx.TT ts cs hp k).2) β') (ownCells cx.TT ts cs hp k).1 us
 | [],cs,hp,k,β,H,S,us,hc=>by unfold ownCells;exact ⟨β,H,S,Per.refl _ _ _ _,hc⟩
 |t::ts,[],hp,k,β,H,S,us,hc=>by unfold ownCells;exact ⟨β,H,S,Per.refl _ _ _ _,hc⟩
 |t::ts,c::cs,hp,k,β,H,S,us,hc=>by
  cases hc with
  |cons h1 h2 =>
   simp only[ownCells]
   split
   ·rename_i c' hp' ho;obtain⟨β1,H1,S1,P1,r1⟩:=ownCell_sound hm ho H S h1;obtain⟨β2,H2,S2,P2,r2⟩:=ownCells_sound hm (ts:=ts) (k:=k+1) H1 S1 (P1.all h2);exact⟨β2,H2,S2,P1.trans P2, .cons (P2.repC r1) r2⟩
   ·obtain ⟨β2,H2,S2,P2,r2⟩:=ownCells_sound hm (ts:=ts) (k:=k+1) H S h2;exact⟨β2,H2,S2,P2, .cons (P2.repC h1) r2⟩
theorem ownRes_sound (hm:m≤1000):∀ {ts:List TypeId} {ds:List D} {hp:Heap} {k:Nat} {β:Nat→Value},Inv w0 O0 F0 w F (look hp) β→Stay m β0 (look hp) β→∀ {us:List Value},All2 (RepD w F (look hp) β) ds us →
  ∃ β',Inv w0 O0 F0 w F (look (ownRes cx.TT ts ds hp k).2) β'∧Stay m β0 (look (ownRes cx.TT ts ds hp k).2) β'∧Per w F (look hp) β w F (look (ownRes cx.TT ts ds hp k).2) β'∧All2 (RepD w F (look (ownRes cx.TT ts ds hp k).2) β') (ownRes cx.TT ts ds hp k).1 us
 | [],ds,hp,k,β,H,S,us,hc=>by unfold ownRes;exact ⟨β,H,S,Per.refl _ _ _ _,hc⟩
 |t::ts,[],hp,k,β,H,S,us,hc=>by unfold ownRes;exact ⟨β,H,S,Per.refl _ _ _ _,hc⟩
 |t::ts, .one c::ds,hp,k,β,H,S,us,hc=>by
  cases hc with
  |cons h1 h2 =>
   obtain⟨β1,H1,S1,P1,r1⟩:=ownCells_sound hm (cx:=cx) (ts:=cellTys cx.TT t) (cs:=[c]) (k:=k*64) H S (.cons h1 .nil);simp only[ownRes]
   split
   ·rename_i c' hp' ho;rw[ho]at H1 S1 P1 r1
    cases r1 with
    |cons r1 _ =>
     obtain⟨β2,H2,S2,P2,r2⟩:=ownRes_sound hm (ts:=ts) (k:=k+1) H1 S1 (h2.mono fun _ _=>P1.repD);exact⟨β2,H2,S2,P1.trans P2, .cons (P2.repD (d := .one c') r1) r2⟩
   ·exact ⟨β,H,S,Per.refl _ _ _ _, .cons h1 h2⟩
 |t::ts, .agg cs::ds,hp,k,β,H,S,us,hc=>by
  cases hc with
  | @cons _ u _ _ h1 h2 =>
   obtain⟨us1,e1,h1⟩:=h1;obtain⟨β1,H1,S1,P1,r1⟩:=ownCells_sound hm (cx:=cx) (ts:=cellTys cx.TT t) (cs:=cs) (k:=k*64) H S h1;simp only[ownRes];obtain⟨β2,H2,S2,P2,r2⟩:=ownRes_sound hm (ts:=ts) (k:=k+1) H1 S1 (h2.mono fun _ _=>P1.repD);exact⟨β2,H2,S2,P1.trans P2, .cons (P2.repD (d := .agg _) ⟨us1,e1,r1⟩) r2⟩
theorem fin_sound (hm:m≤1000) (hTT:TTok P cx.TT) (R:Rel cx m β0 w0 O0 F0 st a w F β) {fn:Func} {ro:Bool} {x:T} {objs:Heap} (hf:fin cx.TT fn ro m st=some (x,objs)) :
  ∃v F' β',(results fn a.tmps).run P w = .ok v w∧Inv w0 O0 F0 w F' (look objs) β'∧(∀i,i<m→∃q,look objs i=some q)∧(∀i o,i<m→look objs i=some (some o)→β' i=β0 i) ∧
   RepX #[] w F' (look objs) β' x v∧∀s b d,x ≠ .when s b d:=by
 unfold fin at hf
 split at hf
 ·cases hf
 ·rename_i ds hds;obtain⟨vs,hvs,hr⟩:=resAll_sound hTT R hds;have hres:(results fn a.tmps).run P w = .ok (if h:vs.toArray.size=1 then vs.toArray[0] else .tuple vs.toArray) w:=by
   have e:(fn.results.mapM (runRes a.tmps)).run P w = .ok vs.toArray w:=by
    rw[Array.mapM_eq_mapM_toList];simp only[Sem.run_map,hvs,Result.andThen_ok]
   have e2:results fn a.tmps=(do let vs ← fn.results.mapM (runRes a.tmps);pure (if h:vs.size=1 then vs[0] else .tuple vs)):=by
    unfold results
    congr 1
   rw[e2];simp only[Sem.run_bind,e,Result.andThen_ok,Sem.run_pure]
  have mkw:∀l:List D,∀s b d,mkRes l ≠ .when s b d:=fun l s b d e=>by
   unfold mkRes at e
   split at e<;>cases e
  split at hf
  ·split at hf
   ·rename_i rs hrs
    cases hf
    obtain⟨F',H',Pr,hb⟩:=R.inv.freezes (closure (live st.heap) 3 (addNew [] (ds.flatMap D.refs))) (closure_pres R.inv liveHH 3 _ fun i hi=>by
     rcases mem_addNew.1 hi with hi | hi
     ·simp at hi
     ·exact refs_all hr i hi)
    rw[← look_upd]at H' Pr;have S':Stay m β0 (look (dropIds (closure (live st.heap) 3 (addNew [] (ds.flatMap D.refs)))++st.heap)) β:=fun i o hi ho=>by
     rw[look_upd]at ho;simp only[upd,look_dropIds]at ho
     split at ho
     ·rename_i q hq
      split at hq
      ·cases hq;cases ho
      ·cases hq
     ·exact R.stay i o hi ho
    obtain⟨βq,q1,q2,q3,q4⟩:=leave hm H' S' (sameIds_ok m) (fun i j hij _=>(mem_sameIds.1 hij).1) (fun i j hij=>by
     obtain⟨e,h2⟩:=mem_sameIds.1 hij;exact .inr ⟨e,by omega⟩) (fun i o hi _=>mem_sameIds.2 ⟨rfl,hi⟩)
    refine⟨_,F',βq,hres,q2,q3,q4, ?_,mkw _⟩;exact mkRes_sound (nilsAll_sound (toR_all R.inv liveHH Pr.sub hb _ _ hr hrs fun i hi=>mem_addNew.2 (.inr hi))) _
   ·cases hf
  ·dsimp only at hf
   split at hf
   ·rename_i hok
    cases hf
    obtain⟨β1,H1,S1,_,hr1⟩:=ownRes_sound hm (cx:=cx) (ts:=fn.resultTypes.toList) (k:=0) R.inv R.stay hr;obtain⟨βq,q1,q2,q3,q4⟩:=leave hm H1 S1 hok (fun i j hij hj=>((backIds_mem hij).2.2 hj)) (fun i j hij => .inl (liveOnly_mem (backIds_mem hij).1))
     (fun i o hi ho=>backIds_of (liveOnly_of (closure_self _ _ _ _ (mem_addNew.2 (.inr (mem_append_right _ (List.mem_range.2 hi))))) ho) (by omega))
    refine⟨_,F,βq,hres,q2,q3,q4, ?_,mkw _⟩;exact mkRes_sound (nilsAll_sound (ren_all q1 hr1)) _
   ·cases hf
theorem look_startEnv:∀ {ds:List D} {k t:Nat} {x:T},look (startEnv k ds) t=some x→∃d,k≤t∧ds[t-k]? = some d∧x = .d d
 | [],k,t,x,hx=>by simp[startEnv,look]at hx
 |d::ds,k,t,x,hx=>by
  simp only[startEnv,look]at hx
  cases hb:Nat.beq k t
  ·rw[hb]at hx;obtain⟨d',h1,h2,h3⟩:=look_startEnv hx;refine⟨d',by omega, ?_,h3⟩;rw[show t-k=(t-(k+1))+1 by omega]
   simpa using h2
  ·rw[hb]at hx;have e:=zB hb;subst e;simp only[cond_true,Option.some.injEq]at hx;exact⟨d,Nat.le_refl _,by simp,hx.symm⟩
theorem fn_sound {f:FuncId} {fn:Func} (hf:P.funcs[f]? = some fn) (hsz:fn.ntmps=cx.size) (hTT:TTok P cx.TT) (hΓ:EnvOk P cx.Γ) (hmix:P.follows .mixedOrders=true) (hL:∀c,fn.body=some c→LoopsOk cx c)
  {ro:Bool} {ds:List D} {os:List Obj} {x:T} {objs:Heap} (he:evFn cx fn ro ds os=some (x,objs)):Sat P f ds os x objs:=by
 unfold evFn at he
 split at he
 ·rename_i c hc
  split at he
  ·rename_i hle;simp only[Bool.and_eq_true,Nat.ble_eq]at hle;obtain⟨hle1,hle2⟩:=hle;intro w F β args H hds;refine calls_of_wp hf hc ?_;have hlen:=hds.len;have hRel:Rel cx os.length β w (Own (hOf os) β) F ⟨startEnv 0 ds,startHeap 0 os⟩ { tmps:=args.toArray++Array.replicate (fn.ntmps-args.toArray.size) undef,defers:=[] } w F β:=by
    refine⟨H,⟨by simp;omega,rfl,fun t y hy => ?_⟩,fun t s b d hy => ?_,fun i o _ _=>rfl⟩
    ·obtain ⟨d,_,h2,rfl⟩:=look_startEnv hy;obtain⟨v,hv,hr⟩:=hds.get h2;have hlt:t<ds.length:=by
      rcases Nat.lt_or_ge t ds.length with h1 | h1
      ·exact h1
      ·rw[Nat.sub_zero,getElem?_eq_none h1]at h2;cases h2
     refine⟨by omega, ?_⟩;have:(args.toArray++Array.replicate (fn.ntmps-args.toArray.size) undef).getD t undef=v:=by
      rw[Nat.sub_zero]at hv;rw[Array.getD_eq_getD_getElem?,Array.getElem?_append_left (by simp;omega)];simp[hv]
     rw[this];exact hr
    ·obtain ⟨d',_,_,e⟩:=look_startEnv hy
     cases e
   refine wp_mono (evC_sound hle2 hTT hΓ hmix c (hL c hc) _ _ _ _ _ _ _ he hRel) ?_;intro e a' w' hpost;have hfin:∀st F' β',Rel cx os.length β w (Own (hOf os) β) F st a' w' F' β'→fin cx.TT fn ro os.length st=some (x,objs) →
     a'.defers=[]∧∃v,(results fn a'.tmps).run P w' = .ok v w'∧∃v' F' β',Ending.returned v = .returned v'∧Inv w (Own (hOf os) β) F w' F' (look objs) β' ∧
      (∀i,i<os.length→∃q,look objs i=some q)∧(∀i o,i<os.length→look objs i=some (some o)→β' i=β i)∧(∀s b d,x ≠ .when s b d)∧RepX #[] w' F' (look objs) β' x v':=by
    intro st F' β' R' hf';obtain⟨v,F2,β2,g1,g2,g3,g4,g5,g6⟩:=fin_sound hle2 hTT R' hf';exact⟨R'.env.defers,v,g1,v,F2,β2,rfl,g2,g3,g4,g6,g5⟩
   cases e with
   |normal=>obtain ⟨st,F',β',R',h2⟩:=hpost;exact hfin st F' β' R' h2
   |exit i=>obtain ⟨st,F',β',R',h2⟩:=hpost;cases h2
   |ret=>obtain ⟨st,F',β',R',h2⟩:=hpost;exact hfin st F' β' R' h2
   |goto l=>exact hpost.elim
   |panic c=>exact hpost.elim
   |outgrown=>exact hpost.elim
  ·cases he
 ·cases he
end
end
/-
 Contracts out of equations.
-/
noncomputable section
open Go
@[reducible] def Fn:List Ty→Type→Type
 | [],α=>α
 |a::as,α=>Den a→Fn as α
def applyD {α:Type}:(as:List Ty)→Fn as α→List D→Option α
 | [],f,[]=>some f
 |a::as,f,d::ds=>match asD a d with
  |some x=>applyD as (f x) ds
  |none=>none
 |_,_,_=>none
def conT (as:List Ty) (F:Fn as (Option Bool×T)):Con:=⟨true,fun ds os=>match os with
 | []=>match applyD as F ds with
  |some (c,r)=>some (c,r,[])
  |none=>none
 |_=>none⟩
section
variable {P:Program} {w:World} {F:Nat→Prop} {h:HF} {β:Nat→Value}
theorem rOfC_all:∀ {cs:List C} {rs:List R},allSome (cs.map rOfC)=some rs→cs=rs.map .r
 | [],rs,h=>by cases h;rfl
 |c::cs,rs,h=>by
  simp only[List.map_cons]at h
  cases hc:rOfC c with
  |none=>rw[hc]at h;simp[allSome]at h
  |some r =>
   rw[hc]at h;simp only[allSome,Option.map_eq_some_iff]at h;obtain⟨rs',h1,rfl⟩:=h;have:c = .r r:=by
    unfold rOfC at hc
    split at hc
    ·cases hc;rfl
    ·cases hc
   rw[rOfC_all h1,this];rfl
theorem asD_sound {t:Ty} {d:D} {x:Den t} (ha:asD t d=some x) {u:Value} (hd:RepD w F h β d u) (h':HF) (β':Nat→Value):RepD w F h' β' (ofD t x) u:=by
 unfold asD at ha
 split at ha
 ·rename_i cs hs
  split at ha
  ·rename_i rs hrs;have e:=rOfC_all hrs;subst e;obtain⟨us,e1,e2⟩:=hd;have h2:=asR_sound ha;have h3:All2 (Ro w F) (cellsR t x) us.toList:=All2_le ((All2.map_l (f:=C.r)).1 e2) h2
   cases t with
   |struct t=>exact ⟨us,e1,(All2.map_l (f:=C.r)).2 h3⟩
   |pair a b=>exact ⟨us,e1,(All2.map_l (f:=C.r)).2 h3⟩
   |unit=>exact ⟨us,e1,by generalize us.toList=l at h3;cases h3;exact .nil⟩
   |tree=>exact ⟨us,e1,(All2.map_l (f:=C.r)).2 h3⟩
   |_=>cases hs
  ·cases ha
 ·rename_i r hs;have h2:=asR_sound ha;have h3:All2 (Ro w F) (cellsR t x) [u]:=All2_le (.cons hd .nil) h2
  cases t with
  |int k=>cases h3 with |cons g1 g2=>exact g1
  |str=>cases h3 with |cons g1 g2=>exact g1
  |bool=>cases h3 with |cons g1 g2=>exact g1
  |list t=>cases h3 with |cons g1 g2=>exact g1
  |struct t=>cases hs
  |unit=>cases hs
  |pair a b=>cases hs
  |tree=>cases hs
  |map k e=>cases h3 with |cons g1 g2=>exact g1
  |ref t=>cases h3 with |cons g1 g2=>exact g1
 ·cases ha
def ConOk (P:Program) (f:FuncId) (con:Con):Prop :=
 (∀args w,(callFunc f args).run P w = .ok (.enter f args) w) ∧
 ∀ds os c x objs,con.f ds os=some (c,x,objs)→(c=none∨c=some true)→Sat P f ds os x objs
theorem EnvOk.nil:EnvOk P (look []):=fun f con h=>by simp[look]at h
theorem EnvOk.cons {f:FuncId} {con:Con} {l:List (Nat×Con)} (h1:ConOk P f con) (h2:EnvOk P (look l)):EnvOk P (look ((f,con)::l)):=fun g c hg=>by
 simp only[look]at hg
 cases hb:Nat.beq f g
 ·rw[hb]at hg;exact h2 g c hg
 ·rw[hb]at hg;have e:=zB hb;subst e;simp only[cond_true,Option.some.injEq]at hg;subst hg;exact fun ds os c x objs hc hok w F β args H hds => .inl ⟨h1.1 _ _,h1.2 ds os c x objs hc hok w F β args H hds⟩
theorem TTok.nil:TTok P (look []):=⟨fun t ti h=>by simp[look]at h,fun t ti h=>by simp[look]at h,fun t ti fs h=>by simp[look]at h⟩
theorem TTok.cons {t:TypeId} {ti:TI} {l:List (Nat×TI)} (h1:P.info? t=some ti.info) (h2:P.underlying t=some ti.desc) (h3:∀fs,ti.desc = .struct fs→P.stoodInHeld t=false∧P.eqGuardType P.depth t=false) (h:TTok P (look l)) :
  TTok P (look ((t,ti)::l)):=by
 have key:∀t' ti',look ((t,ti)::l) t'=some ti'→(t'=t∧ti'=ti)∨look l t'=some ti':=fun t' ti' hl=>by
  simp only[look]at hl
  cases hb:Nat.beq t t'
  ·rw[hb]at hl;exact .inr hl
  ·rw[hb]at hl;simp only[cond_true,Option.some.injEq]at hl;exact .inl ⟨(zB hb).symm,hl.symm⟩
 refine⟨fun t' ti' hl => ?_,fun t' ti' hl => ?_,fun t' ti' fs hl => ?_⟩
 ·rcases key t' ti' hl with⟨rfl,rfl⟩ | hl
  ·exact h1
  ·exact h.info t' ti' hl
 ·rcases key t' ti' hl with⟨rfl,rfl⟩ | hl
  ·exact h2
  ·exact h.under t' ti' hl
 ·rcases key t' ti' hl with⟨rfl,rfl⟩ | hl
  ·exact h3 fs
  ·exact h.held t' ti' fs hl
def TTokL (P:Program):List (Nat×TI)→Prop
 | []=>True
 | (t,ti)::l=>(P.info? t=some ti.info∧P.underlying t=some ti.desc∧∀fs,ti.desc = .struct fs→P.stoodInHeld t=false∧P.eqGuardType P.depth t=false)∧TTokL P l
theorem TTok.of:∀ {l:List (Nat×TI)},TTokL P l→TTok P (look l)
 | [],_=>TTok.nil
 | (_,_)::_,h=>TTok.cons h.1.1 h.1.2.1 h.1.2.2 (TTok.of h.2)
inductive FitT:GTree→Prop
 | node {s:List UInt8} {r:Int} {ks:List GTree} (h1:length s≤9223372036854775807) (h2:IntKind.i64.wrap r=r) (h3:length ks≤9223372036854775807) (h4:∀k,k∈ks→FitT k):FitT (.node s r ks)
def Fit:(t:Ty)→Den t→Prop
 | .int k,n=>k.wrap n=n
 | .str,s=>length s≤9223372036854775807
 | .list t,l=>length l≤9223372036854775807∧∀x:Den t,List.Mem x l→Fit t x
 | .pair a b,x=>Fit a x.1∧Fit b x.2
 | .struct t,x=>Fit t x
 | .tree,x=>FitT x
 | .map k e,m=>∀p:Den k×Den e,List.Mem p m→Fit k p.1∧Fit e p.2
 | .ref t,x=>Fit t x
 |_,_=>True
theorem fit_list {t:Ty} {l:List (Den t)} (h1:l.length≤9223372036854775807) (h2:∀i,i<l.length→Fit t (l.getD i (dflt t))):Fit (.list t) l:=by
 refine⟨h1,fun x hx => ?_⟩;obtain⟨i,hi,e⟩:=List.getElem_of_mem (show x∈l from hx);have:=h2 i hi;rw[zG,zE hi]at this;rw[← e];exact this
theorem RoT_fit {w:World} {F:Nat→Prop} {x:GTree} {us:List Value} (h:RoT w F x us):FitT x:=by
 induction h with
 |node ys h1 h2 h3 h4 h5 _ ih =>
  refine .node (by simpa [plain]using h1) (by simpa [plain]using h2) (by simp only[maxLen]at h4;omega) fun k hk => ?_;obtain⟨i,hi,rfl⟩:=List.getElem_of_mem hk;have:=ih i hi;rw[zG,zE hi]at this;exact this
theorem RoL_fit {w:World} {F:Nat→Prop}:∀ {t:Ty} {x:Den t} {us:List Value},RoL w F t x us→Fit t x
 | .int k,n,us,h=>by have h2:=h.2;simp only[plain,decide_eq_true_eq]at h2;exact h2
 | .bool,_,_,_=>trivial
 | .unit,_,_,_=>trivial
 | .tree,x,us,h=>by
  have h:RoT w F x us:=h;show FitT x;exact RoT_fit h
 | .map k e,m,us,h=>by
  obtain⟨b,es,clock,_,_,_,h4⟩:=h;intro p hp;obtain⟨i,hi⟩:=List.getElem?_of_mem (show p∈(show List (Den k×Den e)from m)from hp);obtain⟨en,_,h5⟩:=h4.get hi;exact⟨RoL_fit h5.1.1,RoL_fit h5.2.1⟩
 | .ref t,x,us,h=>by
  obtain⟨_,_,_,_,ys,h1,_⟩:=h;exact RoL_fit (t:=t) h1
 | .str,s,us,h=>by have h2:=h.2;simp only[plain,Nat.ble_eq]at h2;exact h2
 | .struct t,x,us,h=>RoL_fit (t:=t) h
 | .pair a b,x,us,h=>by obtain⟨_,_,_,h1,h2⟩:=h;exact ⟨RoL_fit h1,RoL_fit h2⟩
 | .list t,l,us,h=>by
  obtain⟨a,cap,_,h1,h2,h3⟩:=h;refine fit_list (l:=l) (by simp only[maxLen]at h2;omega) fun i hi => ?_;rcases h3 with h3 | ⟨b,o,_,_,h3⟩
  ·have:i<length l:=hi;omega
  ·obtain ⟨ys,h4,_⟩:=h3 i hi;exact RoL_fit h4
theorem RepD_fit {t:Ty} {x:Den t} {u:Value} (hd:RepD w F h β (ofD t x) u):Fit t x:=by
 have one:∀ {us:List Value},All2 (Ro w F) (cellsR t x) us→Fit t x:=fun h=>RoL_fit (RoL_cells.2 h)
 cases t with
 |int k=>exact one (us:=[u]) (.cons hd .nil)
 |bool=>trivial
 |unit=>trivial
 |str=>exact one (us:=[u]) (.cons hd .nil)
 |list t=>exact one (us:=[u]) (.cons hd .nil)
 |struct t=>obtain ⟨us,_,h2⟩:=hd;exact one ((All2.map_l (f:=C.r)).1 h2)
 |pair a b=>obtain ⟨us,_,h2⟩:=hd;exact one ((All2.map_l (f:=C.r)).1 h2)
 |tree=>obtain ⟨us,_,h2⟩:=hd;exact one ((All2.map_l (f:=C.r)).1 h2)
 |map k e=>exact one (us:=[u]) (.cons hd .nil)
 |ref t=>exact one (us:=[u]) (.cons hd .nil)
def EachF {α:Type}:(as:List Ty)→Fn as α→(List D→α→Prop)→Prop
 | [],f,p=>p [] f
 |a::as,f,p=>∀x:Den a,Fit a x→EachF as (f x) fun ds r=>p (ofD a x::ds) r
theorem each_of {α:Type}:∀ {as:List Ty} {G:Fn as α} {p:List D→α→Prop} {ds:List D} {r:α} {us:List Value},EachF as G p→applyD as G ds=some r→All2 (RepD w F h β) ds us →
  ∃ds',p ds' r∧All2 (RepD w F h β) ds' us
 | [],G,p,ds,r,us,he,ha,hd=>by
  cases ds with
  |nil=>cases ha;exact ⟨[],he,hd⟩
  |cons d ds=>cases ha
 |a::as,G,p,ds,r,us,he,ha,hd=>by
  cases ds with
  |nil=>cases ha
  |cons d ds =>
   simp only[applyD]at ha
   split at ha
   ·rename_i x hx
    cases hd with
    |cons g1 g2 =>
     have g1':=asD_sound hx g1 h β;obtain⟨ds',h1,h2⟩:=each_of (he x (RepD_fit g1')) ha g2;exact⟨ofD a x::ds',h1, .cons g1' h2⟩
   ·cases ha
theorem conT_ok {f:FuncId} {as:List Ty} {G:Fn as (Option Bool×T)} (hin:∀args w,(callFunc f args).run P w = .ok (.enter f args) w)
  (he:EachF as G fun ds r=>(r.1=none∨r.1=some true)→Sat P f ds [] r.2 []):ConOk P f (conT as G):=by
 refine⟨hin,fun ds os c x objs hc hok => ?_⟩;simp only[conT]at hc
 split at hc
 ·split at hc
  ·rename_i c' r hap
   cases hc
   intro w F β args H hds;obtain⟨ds',h1,h2⟩:=each_of he hap hds;exact h1 hok w F β args H h2
  ·cases hc
 ·cases hc
/-! ### loops -/
theorem wrap_small {n:Int} (h1 : -9223372036854775808≤n) (h2:n≤9223372036854775807):IntKind.i64.wrap n=n:=by rw[IntKind.wrap_i64];omega
theorem branch_true {α:Type} {x y:Option α}:branch true x y=x:=rfl
theorem branch_false {α:Type} {x y:Option α}:branch false x y=y:=rfl
def onward (head:St→St) (R:St→Option Fin) (K:Cont):Cont:=fun e st=>match e with
 | .normal=>R (head st)
 |e=>K e st
theorem iter_succ (f:St→Cont→Option Fin) (head:St→St) (n:Nat) (st:St) (K:Cont):iter f head (n+1) st K=f st (onward head (fun st'=>iter f head n st' K) K):=rfl
theorem LoopsOk.nil {cx:Cx} {c:Code} (h:loopsOf c=[]):LoopsOk cx c:=fun id b g hm=>by rw[h]at hm;cases hm
theorem LoopsOk.of {cx:Cx} {c:Code} {l:List (Nat×Code)} (hl:loopsOf c=l) (h:∀id b,(id,b)∈l→∀g,cx.loops id=some g→∀st K r,g st K=some r→∃N,iter (evC cx b) (headAt cx id) N st K=some r):LoopsOk cx c :=
 fun id b g hm hg=>h id b (hl ▸ hm) g hg
theorem LoopsOk.one {cx:Cx} {c b:Code} {id:Nat} {g:St→Cont→Option Fin} (hl:loopsOf c=[(id,b)]) (hg:cx.loops id=some g) (h:∀st K r,g st K=some r→∃N,iter (evC cx b) (headAt cx id) N st K=some r):LoopsOk cx c :=
 LoopsOk.of hl fun id' b' hm g' hg'=>by
  simp only[mem_singleton,Prod.mk.injEq]at hm;obtain⟨rfl,rfl⟩:=hm;rw[hg]at hg'
  cases hg'
  exact h
end
end
/-
 What a call is handed,as typed data.
-/
noncomputable section
open Go
mutual
def labB (P:Program):Nat→Ty→TypeId→Bool
 |0,_,_=>false
 |n+1,ty,t=>match ty,P.underlying t with
  | .int k,some (.int k')=>decide (k=k')
  | .str,some .string=>true
  | .bool,some .bool=>true
  | .list e,some (.slice et)=>Nat.beq (P.cellsOf et) (width e)&&Nat.blt 0 (width e)&&labB P n e et
  | .struct s,some (.struct fs)=>Nat.beq (P.cellsOf t) (width s)&&labF P n s fs.toList 0
  |_,_=>false
def labF (P:Program):Nat→Ty→List Field→Nat→Bool
 |0,_,_,_=>false
 |n+1, .pair a b,f::fs,off=>Nat.beq f.offset off&&Nat.beq (P.cellsOf f.type) (width a)&&labB P n a f.type&&labF P n b fs (off+width a)
 |n+1,x,[f],off=>Nat.beq f.offset off&&Nat.beq (P.cellsOf f.type) (width x)&&labB P n x f.type
 |_,_,_,_=>false
end
section
variable {H:Type} {enc:TypeId×Value→H} {P:Program} {w:World} {base:Nat} {spare:Nat→Bool} {held:Bool}
theorem den_list {α:Type} (d:α) {n:Nat} {p:Nat→α→Prop} (hp:∀j,j<n→∃y,p j y):∃l:List α,l.length=n∧∀j,j<n→p j (l.getD j d):=by
 induction n with
 |zero=>exact ⟨[],rfl,fun j hj=>by omega⟩
 |succ n ih =>
  obtain⟨l,hl,hu⟩:=ih fun j hj=>hp j (by omega);obtain⟨y,hy⟩:=hp n (by omega);refine⟨l++[y],by simp[hl],fun j hj => ?_⟩;rcases Nat.lt_or_ge j n with h1 | h1
  ·have:=hu j h1;simp only[getD,getElem?_append_left (show j<l.length by omega)]at this ⊢;exact this
  ·have:j=n:=by omega
   subst this;simp only[getD,getElem?_append_right (show l.length≤j by omega),hl,Nat.sub_self,List.getElem?_cons_zero,Option.getD_some];exact hy
theorem open_typed:∀(n:Nat),
  (∀(ty:Ty) (t:TypeId) (fuel:Nat) (cs:List Value) (x:DataW H×List MemPlace),labB P n ty t=true→DataW.trod enc P w base spare held fuel t cs=some x→∃d:Den ty,RoL w (fun b=>b<w.heap.size) ty d cs) ∧
  (∀(ty:Ty) (fs:List Field) (off fuel:Nat) (cs:List Value),labF P n ty fs off=true→cs.length=off+width ty→(∀f∈fs,∃x,DataW.trod enc P w base spare held fuel f.type ((cs.drop f.offset).take (P.cellsOf f.type))=some x) →
   ∃d:Den ty,RoL w (fun b=>b<w.heap.size) ty d (cs.drop off))
 |0=>⟨fun ty t fuel cs x h=>by simp[labB]at h,fun ty fs off fuel cs h=>by simp[labF]at h⟩
 |n+1=>by
  obtain⟨ihB,ihF⟩:=open_typed n
  constructor
  ·intro ty t fuel cs x hl ht;simp only[labB]at hl
   split at hl
   ·rename_i k k' hu;have:=of_decide_eq_true hl;subst this;obtain⟨m,rfl,_,hwf⟩:=DataW.trod_int hu ht;refine⟨m,rfl, ?_⟩;simp only[Lit.wf,Bool.and_eq_true,decide_eq_true_eq]at hwf;simp only[plain,decide_eq_true_eq];obtain⟨h1,h2⟩:=hwf
    cases k<;>simp only[IntKind.wrap,IntKind.bits,IntKind.signed,IntKind.min,IntKind.max]at * <;> simp at * <;> omega
   ·rename_i hu;obtain⟨s,rfl,_,hs⟩:=DataW.trod_string hu ht;refine⟨s.data.toList,rfl, ?_⟩;simp only[plain,Nat.ble_eq];have:s.data.toList.length=s.size:=by rw[size_list]
    show s.data.toList.length≤_;rw[this];simpa [maxLen]using hs
   ·rename_i hu;obtain⟨b,rfl,_⟩:=DataW.trod_bool hu ht;exact⟨b,rfl⟩
   ·rename_i e et hu;simp only[Bool.and_eq_true,Nat.blt_eq]at hl;obtain⟨⟨h1,h2⟩,h3⟩:=hl;have h1:=zB h1;rcases DataW.trod_slice hu ht with⟨rfl,_⟩ | ⟨a,len,cap,elems,rest,m,_,rfl,_,hb,hlc,hcm,hlen,hel,_,_⟩
    ·exact ⟨([]:List (Den e)),none,0,rfl,by simp,by simp[maxLen], .inl rfl⟩
    ·have each:∀i,i<len→∃d:Den e,∃ys,RoL w (fun b=>b<w.heap.size) e d ys∧∀j,j<width e→∃y,ys[j]? = some y∧w.cell? ((a.add (i*width e)).add j)=some y:=fun i hi=>by
      have hx:=hel i hi;rw[zE (show i<elems.length by omega),Option.bind_eq_some_iff]at hx;obtain⟨cs',hcs,hx⟩:=hx;obtain⟨d,hd⟩:=ihB e et m cs' _ h3 hx;obtain⟨_,g1,g2⟩:=World.cells?_some hcs;refine⟨d,cs',hd,fun j hj => ?_⟩;rw[h1]at g1 g2;have hjl:j<cs'.length:=by omega
      refine⟨cs'[j],zE hjl, ?_⟩;rw[g2 j hj,zE hjl]
     obtain⟨l,hl2,hd⟩:=den_list (dflt e) each;refine⟨l,some a,cap,by rw[hl2],by rw[hl2];exact hlc,hcm, ?_⟩;rcases Nat.eq_zero_or_pos len with h0 | h0
     ·left;rw[hl2,h0]
     ·right;obtain⟨ys,_,q2⟩:=hd 0 h0;obtain⟨y,_,q3⟩:=q2 0 h2;have hsp:a.spot=none:=by
       simp only[Nat.zero_mul,Addr.add,if_true]at q3;unfold World.cell? at q3
       split at q3
       ·split at q3
        ·cases q3
        ·rename_i hs;simpa using hs
       ·cases q3
      have ha:a=⟨a.block,a.off,none⟩:=by cases a;simp at hsp;simp[hsp]
      have hblk:a.block<w.heap.size:=by
       simp only[Nat.zero_mul,Addr.add,if_true]at q3;unfold World.cell? at q3
       split at q3
       ·rename_i hh;exact (Array.getElem?_eq_some_iff.1 hh).1
       ·cases q3
      refine⟨a.block,a.off,by rw[← ha],hblk,fun i hi => ?_⟩;rw[hl2]at hi;obtain⟨ys,q1,q2⟩:=hd i hi;refine⟨ys,q1,fun j hj => ?_⟩;obtain⟨y,q3,q4⟩:=q2 j hj;refine⟨y,q3, ?_⟩;rw[ha,Addr.add_lit,Addr.add_lit,Nat.add_assoc]at q4;exact q4
   ·rename_i s fs hu;simp only[Bool.and_eq_true]at hl;obtain⟨h1,h2⟩:=hl;have h1:=zB h1;obtain⟨xs,m,_,_,g1,g2,g3⟩:=DataW.trod_struct hu ht;obtain⟨d,hd⟩:=ihF s fs.toList 0 m cs h2 (by rw[g1,h1];omega) fun f hf=>by
     obtain⟨i,hi⟩:=List.getElem?_of_mem hf;have hi':fs[i]? = some f:=by simpa using hi
     have hlt:i<xs.length:=by
      rw[g2];have:=(Array.getElem?_eq_some_iff.1 hi').1;exact this
     exact⟨xs[i],by rw[g3 i f hi',zE hlt]⟩
    exact⟨d,by rw[List.drop_zero]at hd;exact hd⟩
   ·cases hl
  ·intro ty fs off fuel cs hl hlen hall;unfold labF at hl
   split at hl
   ·simp at hl
   ·rename_i off _ _ _ _ n' a b f fs heq
    cases heq
    simp only[Bool.and_eq_true]at hl;obtain⟨⟨⟨h1,h2⟩,h3⟩,h4⟩:=hl;have h1:=zB h1;have h2:=zB h2;obtain⟨x,hx⟩:=hall f (mem_cons_self ..);rw[h1,h2]at hx;obtain⟨d1,hd1⟩:=ihB a f.type fuel _ x h3 hx;simp only[width]at hlen;obtain⟨d2,hd2⟩:=ihF b fs (off+width a) fuel cs h4 (by omega) fun f' hf=>hall f' (mem_cons_of_mem _ hf);refine⟨(d1,d2),_,_, ?_,hd1,hd2⟩;rw[← List.drop_drop,List.take_append_drop]
   ·rename_i ty off _ _ _ n' f heq _
    cases heq
    simp only[Bool.and_eq_true]at hl;obtain⟨⟨h1,h2⟩,h3⟩:=hl;have h1:=zB h1;have h2:=zB h2;obtain⟨x,hx⟩:=hall f (mem_cons_self ..);rw[h1,h2]at hx;obtain⟨d1,hd1⟩:=ihB _ f.type fuel _ x h3 hx;refine⟨d1, ?_⟩;rw[List.take_of_length_le (by simp;omega)]at hd1;exact hd1
   ·cases hl
end
end
/-
 Words for loops,and for laws.
-/
noncomputable section
open Go
def exS:T→Option (List UInt8)
 | .d (.one (.r r))=>strR r
 |_=>none
abbrev vI (n:Int):T := .d (.one (.r (.v (.int .i64 n))))
abbrev vS (s:List UInt8):T := .d (.one (.r (.v (.string (mk s)))))
abbrev vB (b:Bool):T := .d (.one (.r (.v (.bool b))))
theorem exS_some {x:T} {n:List UInt8} (h:exS x=some n):x=vS n:=by
 unfold exS at h
 split at h
 ·rw[strR_some h]
 ·cases h
abbrev need {α:Type} (b:Bool) (x:Option α):Option α:=branch b x none
theorem need_some {α:Type} {b:Bool} {x:Option α} {r:α}:need b x=some r↔b=true∧x=some r:=by
 cases b<;>simp[need,branch]
def big:Nat:=9223372036854775807
theorem inb_ok {i:Int} {n:Nat} (h0:0≤i) (h1:i<(n:Int)):inb i n=true:=zT ⟨h0,h1⟩
theorem getD_at {α:Type} {l:List α} {i:Nat} (h:i<l.length) (d:α):l.getD i d=l[i]:=by simp[getD,h]
/-! ### laws -/
section
variable {H:Type} {enc:TypeId×Value→H} {P:Program} {w:World} {base:Nat} {spare:Nat→Bool} {held:Bool}
theorem open_arg {n:Nat} {ty:Ty} {t:TypeId} {v:Value} {d:DataW H} {p:List MemPlace} {r:Reach} {b0:Nat} (hl:labB P n ty t=true) (ht:DataW.Trod enc P w base spare held t v d p) (hv:Value.okWide P w r b0 t v) (h:HF) (β:Nat→Value) :
  ∃x:Den ty,RepD w (fun b=>b<w.heap.size) h β (ofD ty x) v:=by
 obtain⟨fuel,ht⟩:=ht;obtain⟨x,hx⟩:=(open_typed n).1 ty t fuel _ _ hl ht;refine⟨x, ?_⟩
 cases n with
 |zero=>simp[labB]at hl
 |succ n =>
  simp only[labB]at hl;have one:∀ {ty:Ty} {x:Den ty},(∀cs,v ≠ .agg cs)→RoL w (fun b=>b<w.heap.size) ty x v.cells.toList→∀ {rr:R},cellsR ty x=[rr]→Ro w (fun b=>b<w.heap.size) rr v:=by
   intro ty x hna hx rr hc;have h1:v.cells=#[v]:=by cases v<;>first | rfl | exact absurd rfl (hna _)
   rw[h1]at hx;have h2:=RoL_cells.1 hx;rw[hc]at h2
   cases h2 with | cons g1 _=>exact g1
  split at hl
  ·rename_i hu;exact one (fun cs e=>by subst e;simp[Value.okWide,hu,Cell.okWide,Cell.ok]at hv) hx rfl
  ·rename_i hu;exact one (fun cs e=>by subst e;simp[Value.okWide,hu,Cell.okWide,Cell.ok]at hv) hx rfl
  ·rename_i hu;exact one (fun cs e=>by subst e;simp[Value.okWide,hu,Cell.okWide,Cell.ok]at hv) hx rfl
  ·rename_i hu;exact one (fun cs e=>by subst e;simp[Value.okWide,hu,Cell.okWide,Cell.ok]at hv) hx rfl
  ·rename_i hu;simp only[Value.okWide,hu]at hv;obtain⟨cs,rfl,_,_⟩:=hv;exact⟨cs,rfl,(All2.map_l (f:=C.r)).2 (RoL_cells.1 hx)⟩
  ·cases hl
theorem law_calls {f:FuncId} {args:List Value} {ds:List D} {ty:Ty} {x:Den ty} (hs:Sat P f ds [] (.d (ofD ty x)) []) (W:World) (hd:All2 (RepD W (fun b=>b<W.heap.size) (hOf []) (fun _=>default)) ds args) :
  Calls P f args.toArray W fun e W'=>∃v,e = .returned v∧RepD W' (fun _=>True) (fun _=>none) (fun _=>default) (ofD ty x) v∧RowKit.Below W.heap.size W W':=by
 have hI:Inv W (Own (hOf []) fun _=>default) (fun b=>b<W.heap.size) W (fun b=>b<W.heap.size) (hOf []) (fun _=>default) :=
  ⟨fun i o hi=>by simp[hOf,startHeap,look]at hi,fun i j o o' b hi=>by simp[hOf,startHeap,look]at hi,fun i o b hi=>by simp[hOf,startHeap,look]at hi,fun _ h=>h,rfl,rfl,rfl,Nat.le_refl _,fun _ _ _=>rfl,
   fun i o b hi=>by simp[hOf,startHeap,look]at hi,fun b hb => .inl hb,fun _ h=>h⟩
 refine(hs W _ _ args hI hd).mono ?_;rintro e W' ⟨v,F',β',rfl,H',_,_,_,hr⟩;refine⟨v,rfl, ?_,⟨H'.os,H'.tape,H'.output,H'.size,fun k hk=>H'.kept k hk fun⟨i,o,hi,_⟩=>by simp[hOf,startHeap,look]at hi⟩⟩;have mono:∀ {rs:List R} {us:List Value},All2 (Ro W' F') rs us→All2 (Ro W' fun _=>True) rs us:=fun h=>h.mono fun _ _ hh=>Ro.mono (fun _ _=>rfl) (fun _ _=>trivial) hh
 cases ty with
 |int k=>exact hr
 |str=>exact hr
 |bool=>exact hr
 |list t=>exact Ro.mono (w:=W') (fun _ _=>rfl) (fun _ _=>trivial) hr
 |struct t=>obtain ⟨us,e,h2⟩:=hr;exact ⟨us,e,(All2.map_l (f:=C.r)).2 (mono ((All2.map_l (f:=C.r)).1 h2))⟩
 |pair a b=>obtain ⟨us,e,h2⟩:=hr;exact ⟨us,e,(All2.map_l (f:=C.r)).2 (mono ((All2.map_l (f:=C.r)).1 h2))⟩
 |unit=>obtain ⟨us,e,h2⟩:=hr;exact ⟨us,e,(All2.map_l (l:=[]) (f:=C.r)).2 (mono ((All2.map_l (l:=[]) (f:=C.r)).1 h2))⟩
 |tree=>obtain ⟨us,e,h2⟩:=hr;exact ⟨us,e,(All2.map_l (f:=C.r)).2 (mono ((All2.map_l (f:=C.r)).1 h2))⟩
 |map k e=>exact Ro.mono (w:=W') (fun _ _=>rfl) (fun _ _=>trivial) hr
 |ref t=>exact Ro.mono (w:=W') (fun _ _=>rfl) (fun _ _=>trivial) hr
end
end
/-
 Contracts of functions that are handed a pointer to a struct of plain data,and turn it.
-/
noncomputable section
open Go
abbrev boxD (t:TypeId) (s:Ty) (x:Den s):Obj := .box t ((cellsR s x).map .r)
def conB (t:TypeId) (s:Ty) (as:List Ty) (G:Den s→Fn as (Option Bool×T×Den s)):Con:=⟨false,fun ds os=>match ds,os with
 | .one (.ptr 0 0)::ds,[.box t' cs]=>match Nat.beq t t',allSome (cs.map rOfC)with
  |true,some rs=>match asR s rs with
   |some x=>match applyD as (G x) ds with
    |some (c,r,y)=>some (c,r,[(0,some (boxD t s y))])
    |none=>none
   |none=>none
  |_,_=>none
 |_,_=>none⟩
section
variable {P:Program} {w:World} {F:Nat→Prop} {h:HF} {β:Nat→Value}
theorem cells_fit {t:TypeId} {s:Ty} {x:Den s} {i:Nat} (ho:RepO w F h β i (boxD t s x)):Fit s x:=by
 obtain⟨b,us,_,_,h3⟩:=ho;exact RoL_fit (RoL_cells.2 ((All2.map_l (f:=C.r)).1 h3))
theorem conB_ok {f:FuncId} {t:TypeId} {s:Ty} {as:List Ty} {G:Den s→Fn as (Option Bool×T×Den s)} (hin:∀args w,(callFunc f args).run P w = .ok (.enter f args) w)
  (he:∀x,Fit s x→EachF as (G x) fun ds r=>(r.1=none∨r.1=some true)→Sat P f (.one (.ptr 0 0)::ds) [boxD t s x] r.2.1 [(0,some (boxD t s r.2.2))]):ConOk P f (conB t s as G):=by
 refine⟨hin,fun ds os c x objs hc hok => ?_⟩;simp only[conB]at hc
 split at hc
 ·rename_i ds t' cs
  split at hc
  ·rename_i rs htt hrs
   split at hc
   ·rename_i x0 hx0
    split at hc
    ·rename_i c' r y hap
     cases hc
     have:=zB htt;subst this;have e:=rOfC_all hrs;subst e;intro w F β args H hds
     -- the variable, told by its typed data
     have h0:hOf [.box t (rs.map .r)] 0=some (some (.box t (rs.map .r))):=by rw[hOf_eq];rfl
     have hs:∀i o o',hOf [.box t (rs.map .r)] i=some (some o)→hOf [boxD t s x0] i=some (some o')→o = .box t (rs.map .r)∧o'=boxD t s x0:=fun i o o' h1 h2=>by
      rw[hOf_eq]at h1 h2
      cases i with
      |zero=>simp at h1 h2;exact ⟨h1.symm,h2.symm⟩
      |succ i=>simp at h1
     have S:Shp (hOf [.box t (rs.map .r)]) (hOf [boxD t s x0]):=fun i=>by
      rw[hOf_eq,hOf_eq]
      cases i with
      |zero=>simp
      |succ i=>simp
     have hle:=asR_sound hx0;have key:∀ {g:HF} {w':World} {F':Nat→Prop} {β':Nat→Value} {i:Nat},RepO w' F' g β' i (.box t (rs.map .r))→RepO w' F' g β' i (boxD t s x0):=by
      intro g w' F' β' i ho;obtain⟨b,us,g1,g2,g3⟩:=ho;exact⟨b,us,g1,g2,(All2.map_l (f:=C.r)).2 (All2_le ((All2.map_l (f:=C.r)).1 g3) hle)⟩
     have H1:Inv w (Own (hOf [.box t (rs.map .r)]) β) F w F (hOf [boxD t s x0]) β:=H.told S fun i o o' h1 h2 hr=>by
      obtain⟨rfl,rfl⟩:=hs i o o' h1 h2;exact key hr
     have hOwn:Own (hOf [.box t (rs.map .r)]) β=Own (hOf [boxD t s x0]) β:=by
      funext b
      apply propext
      constructor
      ·rintro ⟨i,o,h1,h2⟩;obtain⟨o',ho'⟩:=(S i).2.1 ⟨o,h1⟩;exact⟨i,o',ho',h2⟩
      ·rintro ⟨i,o,h1,h2⟩;obtain⟨o',ho'⟩:=(S i).2.2 ⟨o,h1⟩;exact⟨i,o',ho',h2⟩
     rw[hOwn]at H1;have hfit:Fit s x0:=cells_fit (key (H.obj 0 _ h0))
     cases hds with
     |cons g1 g2 =>
      have g2':=g2.mono fun _ _=>S.repD;obtain⟨ds',q1,q2⟩:=each_of (he x0 hfit) hap g2';refine(q1 hok w F β _ H1 (.cons (S.repD g1) q2)).mono ?_;rintro e w' ⟨v,F',β',r1,r2,r3,r4,r5,r6⟩;rw[← hOwn]at r2;exact⟨v,F',β',r1,r2,r3,r4,r5,r6⟩
    ·cases hc
   ·cases hc
  ·cases hc
 ·cases hc
end
end
/-
 Words for proofs over the evaluator: what an evaluation comes to,loops with typed heads,things that are chosen.
-/
noncomputable section
open Go
def Ok {α:Type} (t:Option α) (φ:α→Prop):Prop:=∃r,t=some r∧φ r
section
variable {α:Type} {φ:α→Prop} {b:Bool} {x y:Option α} {r:α}
theorem Ok_some:Ok (some r) φ↔φ r:=⟨fun ⟨_,h1,h2⟩=>by cases h1;exact h2,fun h=>⟨r,rfl,h⟩⟩
theorem Ok_branch:Ok (branch b x y) φ↔(b=true→Ok x φ)∧(b=false→Ok y φ):=by
 cases b
 ·exact ⟨fun h=>⟨fun e=>(by cases e),fun _=>h⟩,fun h=>h.2 rfl⟩
 ·exact ⟨fun h=>⟨fun _=>h,fun e=>(by cases e)⟩,fun h=>h.1 rfl⟩
theorem Ok_need:Ok (need b x) φ↔b=true∧Ok x φ:=by
 cases b
 ·exact ⟨fun ⟨_,h,_⟩=>(by cases h),fun h=>by cases h.1⟩
 ·exact ⟨fun h=>⟨rfl,h⟩,fun h=>h.2⟩
theorem Ok.need (h:b=true) (g:Ok x φ):Ok (need b x) φ:=Ok_need.2 ⟨h,g⟩
theorem Ok.br (h1:b=true→Ok x φ) (h2:b=false→Ok y φ):Ok (branch b x y) φ:=Ok_branch.2 ⟨h1,h2⟩
theorem Ok.no (h:b=false) (g:Ok y φ):Ok (branch b x y) φ:=Ok_branch.2 ⟨fun e=>(by rw[h]at e;cases e),fun _=>g⟩
theorem Ok.ret (h:φ r):Ok (some r) φ:=Ok_some.2 h
theorem Ok.mono {ψ:α→Prop} (h:Ok x φ) (g:∀r,φ r→ψ r):Ok x ψ:=by obtain⟨r,h1,h2⟩:=h;exact ⟨r,h1,g r h2⟩
end
theorem pre_of {b:Bool} (h:some b=none∨some b=some true):b=true:=by
 rcases h with h | h
 ·cases h
 ·exact Option.some.inj h
def conN (as:List Ty) (F:Fn as (Option Bool×T×Heap)):Con:=⟨true,fun ds os=>match os with
 | []=>applyD as F ds
 |_=>none⟩
theorem conN_ok {P:Program} {f:FuncId} {as:List Ty} {G:Fn as (Option Bool×T×Heap)} (hin:∀args w,(callFunc f args).run P w = .ok (.enter f args) w)
  (he:EachF as G fun ds r=>(r.1=none∨r.1=some true)→Sat P f ds [] r.2.1 r.2.2):ConOk P f (conN as G):=by
 refine⟨hin,fun ds os c x objs hc hok => ?_⟩;simp only[conN]at hc
 split at hc
 ·intro w F β args H hds;obtain⟨ds',h1,h2⟩:=each_of he hc hds;exact h1 hok w F β args H h2
 ·cases hc
/-! ### exact reading -/
def listX (t:Ty):R→Option (List (Den t))
 | .li e l=>castL e t l
 |_=>none
def refX (t:Ty):R→Option (Den t)
 | .rf t' x=>refC t' t x
 |_=>none
def treeX:List R→Option (GTree×List R)
 |a::b::c::rs=>match strR a,intR .i64 b,listX .tree c with
  |some s,some n,some l=>some (.node s n l,rs)
  |_,_,_=>none
 |_=>none
def parseX:(t:Ty)→List R→Option (Den t×List R)
 | .int k,rs=>headR (intR k) rs
 | .str,rs=>headR strR rs
 | .bool,rs=>headR boolR rs
 | .list t,rs=>headR (listX t) rs
 | .pair a b,rs=>match parseX a rs with
  |some (x,rs)=>match parseX b rs with
   |some (y,rs)=>some ((x,y),rs)
   |none=>none
  |none=>none
 | .struct t,rs=>parseX t rs
 | .unit,rs=>some ((),rs)
 | .tree,rs=>treeX rs
 | .map k e,rs=>headR (mapR k e) rs
 | .ref t,rs=>headR (refX t) rs
theorem parseX_some:∀ {t:Ty} {rs rest:List R} {x:Den t},parseX t rs=some (x,rest)→rs=cellsR t x++rest
 | .int k,rs,rest,x,h=>by obtain⟨r,h1,h2⟩:=headR_some h;rw[h1,intR_some h2];rfl
 | .str,rs,rest,x,h=>by obtain⟨r,h1,h2⟩:=headR_some h;rw[h1,strR_some h2];rfl
 | .bool,rs,rest,x,h=>by obtain⟨r,h1,h2⟩:=headR_some h;rw[h1,boolR_some h2];rfl
 | .list t,rs,rest,x,h=>by
  obtain⟨r,h1,h2⟩:=headR_some h;rw[h1];unfold listX at h2
  split at h2
  ·obtain ⟨g,e⟩:=castL_some h2;subst g;rw[show x=_ from e];rfl
  ·cases h2
 | .pair a b,rs,rest,x,h=>by
  simp only[parseX]at h
  split at h
  ·rename_i y rs1 e1
   split at h
   ·rename_i z rs2 e2
    cases h
    rw[parseX_some e1,parseX_some e2];exact(append_assoc _ _ _).symm
   ·cases h
  ·cases h
 | .struct t,rs,rest,x,h=>parseX_some (t:=t) h
 | .unit,rs,rest,x,h=>by cases h;rfl
 | .tree,rs,rest,x,h=>by
  have h:treeX rs=some (x,rest):=h;unfold treeX at h
  split at h
  ·split at h
   ·rename_i s n l h1 h2 h3
    cases h
    unfold listX at h3
    split at h3
    ·obtain ⟨g,e⟩:=castL_some h3;subst g;rw[strR_some h1,intR_some h2,show l=_ from e];rfl
    ·cases h3
   ·cases h
  ·cases h
 | .map k e,rs,rest,x,h=>by obtain⟨r,h1,h2⟩:=headR_some h;rw[h1,mapR_some h2];rfl
 | .ref t,rs,rest,x,h=>by
  obtain⟨r,h1,h2⟩:=headR_some h;unfold refX at h2
  split at h2
  ·obtain ⟨g,e⟩:=refC_some h2;subst g;rw[h1,show x=_ from e];rfl
  ·cases h2
def exCells (t:Ty) (cs:List C):Option (Den t):=match allSome (cs.map rOfC)with
 |some rs=>match parseX t rs with
  |some (x,[])=>some x
  |_=>none
 |none=>none
theorem exCells_some {t:Ty} {cs:List C} {x:Den t} (h:exCells t cs=some x):cs=(cellsR t x).map .r:=by
 unfold exCells at h
 split at h
 ·rename_i rs hrs
  split at h
  ·rename_i y hy
   cases h
   rw[rOfC_all hrs,parseX_some hy,List.append_nil]
  ·cases h
 ·cases h
def exT (t:Ty):T→Option (Den t)
 | .d (.one c)=>match isStruct t with
  |false=>exCells t [c]
  |true=>none
 | .d (.agg cs)=>match isStruct t with
  |true=>exCells t cs
  |false=>none
 |_=>none
theorem exT_some {t:Ty} {x:T} {v:Den t} (h:exT t x=some v):x = .d (ofD t v):=by
 unfold exT at h
 split at h
 ·split at h
  ·rename_i hs;have e:=exCells_some h
   cases t with
   |int k=>cases e;rfl
   |str=>cases e;rfl
   |bool=>cases e;rfl
   |list t=>cases e;rfl
   |struct t=>cases hs
   |pair a b=>cases hs
   |unit=>cases hs
   |tree=>cases hs
   |map k e=>cases e;rfl
   |ref t=>cases e;rfl
  ·cases h
 ·split at h
  ·rename_i hs;have e:=exCells_some h
   cases t with
   |struct t=>rw[e];rfl
   |pair a b=>rw[e];rfl
   |unit=>rw[e];rfl
   |int k=>cases hs
   |str=>cases hs
   |bool=>cases hs
   |list t=>cases hs
   |tree=>rw[e];rfl
   |map k e=>cases hs
   |ref t=>cases hs
  ·cases h
 ·cases h
/-! ### heads of loops, typed -/
inductive HK where
 | d (t:Ty)
 | own (i:Nat)
 | ptr (i off:Nat)
 | fn (f:FuncId) (l:List Nat)
 | deep (i:Nat)
 | win (i sz:Nat)
inductive CK where
 | d (t:Ty)
 | own (i:Nat)
 | nil
 | nlp
 | deep (i:Nat)
 | fnv
 | slf (i:Nat)
inductive HO where
 | lis (t:TypeId) (e:Ty)
 | box (t:TypeId) (s:Ty)
 | mix (t:TypeId) (l:List CK)
 | map (k e:Ty)
 | deep (ts:List TypeId) (e:Ty)
def CV:List CK→Type
 | []=>Unit
 | .d t::l=>Den t×CV l
 | .fnv::l=>Nat×CV l
 | .own _::l=>CV l
 | .nil::l=>CV l
 | .nlp::l=>CV l
 | .deep _::l=>CV l
 | .slf _::l=>CV l
def mkC:(l:List CK)→CV l→List C
 | [],_=>[]
 | .d t::l,v=>(cellsR t v.1).map .r++mkC l v.2
 | .own i::l,v => .own i::mkC l v
 | .nil::l,v => .r (.v (.slice none 0 0))::mkC l v
 | .nlp::l,v => .r (.v (.pointer none))::mkC l v
 | .deep i::l,v => .dsl i []::mkC l v
 | .slf i::l,v => .slf i::mkC l v
 | .fnv::l,v => .fn v.1 []::mkC l v.2
def isOwnC (i:Nat):C→Bool
 | .own j=>Nat.beq i j
 |_=>false
def isSlfC (i:Nat):C→Bool
 | .slf j=>Nat.beq i j
 |_=>false
def isDeepC (i:Nat):C→Bool
 | .dsl j []=>Nat.beq i j
 |_=>false
def isNilC:C→Bool
 | .r (.v (.slice none 0 0))=>true
 |_=>false
def isNlpC:C→Bool
 | .r (.v (.pointer none))=>true
 |_=>false
def getFnC:C→Option Nat
 | .fn f []=>some f
 |_=>none
theorem getFnC_some {f:Nat} {c:C} (h:getFnC c=some f):c = .fn f []:=by
 unfold getFnC at h
 split at h
 ·cases h;rfl
 ·cases h
def pC:(l:List CK)→List C→Option (CV l)
 | [],[]=>some ()
 | .d t::l,cs=>match exCells t (cs.take (width t)),pC l (cs.drop (width t))with
  |some x,some r=>some (x,r)
  |_,_=>none
 | .own i::l,c::cs=>match isOwnC i c with
  |true=>pC l cs
  |false=>none
 | .nil::l,c::cs=>match isNilC c with
  |true=>pC l cs
  |false=>none
 | .nlp::l,c::cs=>match isNlpC c with
  |true=>pC l cs
  |false=>none
 | .deep i::l,c::cs=>match isDeepC i c with
  |true=>pC l cs
  |false=>none
 | .slf i::l,c::cs=>match isSlfC i c with
  |true=>pC l cs
  |false=>none
 | .fnv::l,c::cs=>match getFnC c,pC l cs with
  |some f,some r=>some (f,r)
  |_,_=>none
 |_,_=>none
theorem pC_some:∀ {l:List CK} {cs:List C} {v:CV l},pC l cs=some v→cs=mkC l v
 | [],[],_,_=>rfl
 | [],_::_,_,h=>by simp[pC]at h
 | .d t::l,cs,v,h=>by
  simp only[pC]at h
  split at h
  ·rename_i e1 e2
   cases h
   have h1:=exCells_some e1;have h2:=pC_some e2;show cs=_;rw[← List.take_append_drop (width t) cs,h1,h2];rfl
  ·cases h
 | .own i::l,[],_,h=>by simp[pC]at h
 | .own i::l,c::cs,v,h=>by
  simp only[pC]at h
  split at h
  ·rename_i hb;unfold isOwnC at hb
   split at hb
   ·have:=zB hb;subst this;rw[pC_some h];rfl
   ·cases hb
  ·cases h
 | .deep i::l,[],_,h=>by simp[pC]at h
 | .deep i::l,c::cs,v,h=>by
  simp only[pC]at h
  split at h
  ·rename_i hb;unfold isDeepC at hb
   split at hb
   ·have:=zB hb;subst this;rw[pC_some h];rfl
   ·cases hb
  ·cases h
 | .slf i::l,[],_,h=>by simp[pC]at h
 | .slf i::l,c::cs,v,h=>by
  simp only[pC]at h
  split at h
  ·rename_i hb;unfold isSlfC at hb
   split at hb
   ·have:=zB hb;subst this;rw[pC_some h];rfl
   ·cases hb
  ·cases h
 | .fnv::l,[],_,h=>by simp[pC]at h
 | .fnv::l,c::cs,v,h=>by
  simp only[pC]at h
  split at h
  ·rename_i e1 e2
   cases h
   rw[getFnC_some e1,pC_some e2];rfl
  ·cases h
 | .nlp::l,[],_,h=>by simp[pC]at h
 | .nlp::l,c::cs,v,h=>by
  simp only[pC]at h
  split at h
  ·rename_i hb;unfold isNlpC at hb
   split at hb
   ·rw[pC_some h];rfl
   ·cases hb
  ·cases h
 | .nil::l,[],_,h=>by simp[pC]at h
 | .nil::l,c::cs,v,h=>by
  simp only[pC]at h
  split at h
  ·rename_i hb;unfold isNilC at hb
   split at hb
   ·rw[pC_some h];rfl
   ·cases hb
  ·cases h
def EnvV:List (Nat×HK)→Type
 | []=>Unit
 | (_, .d t)::l=>Den t×EnvV l
 | (_, .win _ _)::l=>Nat×EnvV l
 | (_, .own _)::l=>EnvV l
 | (_, .ptr _ _)::l=>EnvV l
 | (_, .fn _ _)::l=>EnvV l
 | (_, .deep _)::l=>EnvV l
def mkEnv:(l:List (Nat×HK))→EnvV l→List (Nat×T)
 | [],_=>[]
 | (s, .d t)::l,v=>(s, .d (ofD t v.1))::mkEnv l v.2
 | (s, .own i)::l,v=>(s, .d (.one (.own i)))::mkEnv l v
 | (s, .ptr i off)::l,v=>(s, .d (.one (.ptr i off)))::mkEnv l v
 | (s, .fn f ids)::l,v=>(s, .d (.one (.fn f ids)))::mkEnv l v
 | (s, .deep i)::l,v=>(s, .d (.one (.dsl i [])))::mkEnv l v
 | (s, .win i sz)::l,v=>(s, .d (.one (.win i sz v.1)))::mkEnv l v.2
def eqIds:List Nat→List Nat→Bool
 | [],[]=>true
 |a::l,b::m=>Nat.beq a b&&eqIds l m
 |_,_=>false
theorem eqIds_iff:∀ {l m:List Nat},eqIds l m=true→l=m
 | [],[],_=>rfl
 |a::l,b::m,h=>by simp only[eqIds,Bool.and_eq_true]at h;rw[zB h.1,eqIds_iff h.2]
 | [],_::_,h=>by cases h
 |_::_,[],h=>by cases h
def isOwn (i:Nat):T→Bool
 | .d (.one (.own j))=>Nat.beq i j
 |_=>false
def isDsl (i:Nat):T→Bool
 | .d (.one (.dsl j []))=>Nat.beq i j
 |_=>false
theorem isDsl_iff {i:Nat} {x:T} (h:isDsl i x=true):x = .d (.one (.dsl i [])):=by
 unfold isDsl at h
 split at h
 ·rw[zB h]
 ·cases h
def isPtr (i o:Nat):T→Bool
 | .d (.one (.ptr j q))=>Nat.beq i j&&Nat.beq o q
 |_=>false
def isFn (f:FuncId) (l:List Nat):T→Bool
 | .d (.one (.fn g m))=>Nat.beq f g&&eqIds l m
 |_=>false
theorem isOwn_iff {i:Nat} {x:T} (h:isOwn i x=true):x = .d (.one (.own i)):=by
 unfold isOwn at h
 split at h
 ·rw[zB h]
 ·cases h
theorem isPtr_iff {i o:Nat} {x:T} (h:isPtr i o x=true):x = .d (.one (.ptr i o)):=by
 unfold isPtr at h
 split at h
 ·simp only[Bool.and_eq_true]at h;rw[zB h.1,zB h.2]
 ·cases h
theorem isFn_iff {f:FuncId} {l:List Nat} {x:T} (h:isFn f l x=true):x = .d (.one (.fn f l)):=by
 unfold isFn at h
 split at h
 ·simp only[Bool.and_eq_true]at h;rw[zB h.1,eqIds_iff h.2]
 ·cases h
def getWin (i sz:Nat):T→Option Nat
 | .d (.one (.win j s k))=>match Nat.beq i j&&Nat.beq sz s with
  |true=>some k
  |false=>none
 |_=>none
theorem getWin_some {i sz k:Nat} {x:T} (h:getWin i sz x=some k):x = .d (.one (.win i sz k)):=by
 unfold getWin at h
 split at h
 ·split at h
  ·rename_i hb;simp only[Bool.and_eq_true]at hb
   cases h
   rw[zB hb.1,zB hb.2]
  ·cases h
 ·cases h
def pEnv:(l:List (Nat×HK))→List (Nat×T)→Option (EnvV l)
 | [],[]=>some ()
 | (s, .d t)::l,(s',x)::e=>match Nat.beq s s',exT t x,pEnv l e with
  |true,some v,some r=>some (v,r)
  |_,_,_=>none
 | (s, .own i)::l,(s',x)::e=>match Nat.beq s s'&&isOwn i x with
  |true=>pEnv l e
  |false=>none
 | (s, .ptr i o)::l,(s',x)::e=>match Nat.beq s s'&&isPtr i o x with
  |true=>pEnv l e
  |false=>none
 | (s, .fn f k)::l,(s',x)::e=>match Nat.beq s s'&&isFn f k x with
  |true=>pEnv l e
  |false=>none
 | (s, .deep i)::l,(s',x)::e=>match Nat.beq s s'&&isDsl i x with
  |true=>pEnv l e
  |false=>none
 | (s, .win i sz)::l,(s',x)::e=>match Nat.beq s s',getWin i sz x,pEnv l e with
  |true,some v,some r=>some (v,r)
  |_,_,_=>none
 |_,_=>none
theorem pEnv_some:∀ {l:List (Nat×HK)} {e:List (Nat×T)} {v:EnvV l},pEnv l e=some v→e=mkEnv l v
 | [],[],_,_=>rfl
 | [],_::_,_,h=>by simp[pEnv]at h
 | (s,k)::l,[],_,h=>by cases k<;>simp[pEnv]at h
 | (s, .d t)::l,(s',x)::e,v,h=>by
  simp only[pEnv]at h
  split at h
  ·rename_i e1 e2 e3
   cases h
   have:=zB e1;subst this;rw[exT_some e2,pEnv_some e3];rfl
  ·cases h
 | (s, .own i)::l,(s',x)::e,v,h=>by
  simp only[pEnv]at h
  split at h
  ·rename_i hb;simp only[Bool.and_eq_true]at hb;have e1:=zB hb.1;subst e1;rw[isOwn_iff hb.2,pEnv_some h];rfl
  ·cases h
 | (s, .ptr i o)::l,(s',x)::e,v,h=>by
  simp only[pEnv]at h
  split at h
  ·rename_i hb;simp only[Bool.and_eq_true]at hb;have e1:=zB hb.1;subst e1;rw[isPtr_iff hb.2,pEnv_some h];rfl
  ·cases h
 | (s, .deep i)::l,(s',x)::e,v,h=>by
  simp only[pEnv]at h
  split at h
  ·rename_i hb;simp only[Bool.and_eq_true]at hb;have e1:=zB hb.1;subst e1;rw[isDsl_iff hb.2,pEnv_some h];rfl
  ·cases h
 | (s, .win i sz)::l,(s',x)::e,v,h=>by
  simp only[pEnv]at h
  split at h
  ·rename_i e1 e2 e3
   cases h
   have:=zB e1;subst this;rw[getWin_some e2,pEnv_some e3];rfl
  ·cases h
 | (s, .fn f k)::l,(s',x)::e,v,h=>by
  simp only[pEnv]at h
  split at h
  ·rename_i hb;simp only[Bool.and_eq_true]at hb;have e1:=zB hb.1;subst e1;rw[isFn_iff hb.2,pEnv_some h];rfl
  ·cases h
def HeapV:List (Nat×HO)→Type
 | []=>Unit
 | (_, .lis _ e)::l=>List (Den e)×HeapV l
 | (_, .box _ s)::l=>Den s×HeapV l
 | (_, .mix _ k)::l=>CV k×HeapV l
 | (_, .map k e)::l=>List (Den k×Den e)×HeapV l
 | (_, .deep _ e)::l=>List (Den e)×HeapV l
def mkHeap:(l:List (Nat×HO))→HeapV l→Heap
 | [],_=>[]
 | (i, .lis t e)::l,v=>(i,some (.lis t e v.1))::mkHeap l v.2
 | (i, .box t s)::l,v=>(i,some (boxD t s v.1))::mkHeap l v.2
 | (i, .mix t k)::l,v=>(i,some (.box t (mkC k v.1)))::mkHeap l v.2
 | (i, .map k e)::l,v=>(i,some (.map k e v.1))::mkHeap l v.2
 | (i, .deep ts e)::l,v=>(i,some (.deep ts e v.1))::mkHeap l v.2
def exLis (t:TypeId) (e:Ty):Option Obj→Option (List (Den e))
 |some (.lis t' e' m)=>match Nat.beq t t' with
  |true=>castL e' e m
  |false=>none
 |_=>none
def exBox (t:TypeId) (s:Ty):Option Obj→Option (Den s)
 |some (.box t' cs)=>match Nat.beq t t' with
  |true=>exCells s cs
  |false=>none
 |_=>none
theorem exLis_some {t:TypeId} {e:Ty} {q:Option Obj} {m:List (Den e)} (h:exLis t e q=some m):q=some (.lis t e m):=by
 unfold exLis at h
 split at h
 ·split at h
  ·rename_i hb;have:=zB hb;subst this;obtain⟨g,rfl⟩:=castL_some h;subst g;rfl
  ·cases h
 ·cases h
theorem exBox_some {t:TypeId} {s:Ty} {q:Option Obj} {x:Den s} (h:exBox t s q=some x):q=some (boxD t s x):=by
 unfold exBox at h
 split at h
 ·split at h
  ·rename_i hb;have:=zB hb;subst this;rw[exCells_some h]
  ·cases h
 ·cases h
def exMix (t:TypeId) (k:List CK):Option Obj→Option (CV k)
 |some (.box t' cs)=>match Nat.beq t t' with
  |true=>pC k cs
  |false=>none
 |_=>none
theorem exMix_some {t:TypeId} {k:List CK} {q:Option Obj} {x:CV k} (h:exMix t k q=some x):q=some (.box t (mkC k x)):=by
 unfold exMix at h
 split at h
 ·split at h
  ·rename_i hb;have:=zB hb;subst this;rw[pC_some h]
  ·cases h
 ·cases h
def exMap (k e:Ty):Option Obj→Option (List (Den k×Den e))
 |some (.map k' e' m)=>castM k' e' k e m
 |_=>none
theorem exMap_some {k e:Ty} {q:Option Obj} {m:List (Den k×Den e)} (h:exMap k e q=some m):q=some (.map k e m):=by
 unfold exMap at h
 split at h
 ·obtain ⟨g,g',rfl⟩:=castM_some h;subst g;subst g';rfl
 ·cases h
def exDeep (ts:List TypeId) (e:Ty):Option Obj→Option (List (Den e))
 |some (.deep ts' e' m)=>match eqNats ts ts' with
  |true=>castL e' e m
  |false=>none
 |_=>none
theorem exDeep_some {ts:List TypeId} {e:Ty} {q:Option Obj} {m:List (Den e)} (h:exDeep ts e q=some m):q=some (.deep ts e m):=by
 unfold exDeep at h
 split at h
 ·split at h
  ·rename_i hb;have:=eqNats_iff hb;subst this;obtain⟨g,rfl⟩:=castL_some h;subst g;rfl
  ·cases h
 ·cases h
def pHeap:(l:List (Nat×HO))→Heap→Option (HeapV l)
 | [],[]=>some ()
 | (i, .lis t e)::l,(i',q)::h=>match Nat.beq i i',exLis t e q,pHeap l h with
  |true,some m,some r=>some (m,r)
  |_,_,_=>none
 | (i, .box t s)::l,(i',q)::h=>match Nat.beq i i',exBox t s q,pHeap l h with
  |true,some x,some r=>some (x,r)
  |_,_,_=>none
 | (i, .mix t k)::l,(i',q)::h=>match Nat.beq i i',exMix t k q,pHeap l h with
  |true,some x,some r=>some (x,r)
  |_,_,_=>none
 | (i, .map k e)::l,(i',q)::h=>match Nat.beq i i',exMap k e q,pHeap l h with
  |true,some x,some r=>some (x,r)
  |_,_,_=>none
 | (i, .deep ts e)::l,(i',q)::h=>match Nat.beq i i',exDeep ts e q,pHeap l h with
  |true,some x,some r=>some (x,r)
  |_,_,_=>none
 |_,_=>none
theorem pHeap_some:∀ {l:List (Nat×HO)} {h:Heap} {v:HeapV l},pHeap l h=some v→h=mkHeap l v
 | [],[],_,_=>rfl
 | [],_::_,_,h=>by simp[pHeap]at h
 | (i,k)::l,[],_,h=>by cases k<;>simp[pHeap]at h
 | (i, .lis t e)::l,(i',q)::hp,v,h=>by
  simp only[pHeap]at h
  split at h
  ·rename_i e1 e2 e3
   cases h
   have g1:=zB e1;subst g1;rw[exLis_some e2,pHeap_some e3];rfl
  ·cases h
 | (i, .box t s)::l,(i',q)::hp,v,h=>by
  simp only[pHeap]at h
  split at h
  ·rename_i e1 e2 e3
   cases h
   have g1:=zB e1;subst g1;rw[exBox_some e2,pHeap_some e3];rfl
  ·cases h
 | (i, .map k e)::l,(i',q)::hp,v,h=>by
  simp only[pHeap]at h
  split at h
  ·rename_i e1 e2 e3
   cases h
   have g1:=zB e1;subst g1;rw[exMap_some e2,pHeap_some e3];rfl
  ·cases h
 | (i, .deep ts e)::l,(i',q)::hp,v,h=>by
  simp only[pHeap]at h
  split at h
  ·rename_i e1 e2 e3
   cases h
   have g1:=zB e1;subst g1;rw[exDeep_some e2,pHeap_some e3];rfl
  ·cases h
 | (i, .mix t k)::l,(i',q)::hp,v,h=>by
  simp only[pHeap]at h
  split at h
  ·rename_i e1 e2 e3
   cases h
   have g1:=zB e1;subst g1;rw[exMix_some e2,pHeap_some e3];rfl
  ·cases h
abbrev Sh:=List (Nat×HK)×List (Nat×HO)
abbrev Sh.V (s:Sh):Type:=EnvV s.1×HeapV s.2
def Sh.mk (s:Sh) (v:s.V):St:=⟨mkEnv s.1 v.1,mkHeap s.2 v.2⟩
def Sh.p (s:Sh) (st:St):Option s.V:=match pEnv s.1 st.env,pHeap s.2 st.heap with
 |some a,some b=>some (a,b)
 |_,_=>none
theorem Sh.p_some {s:Sh} {st:St} {v:s.V} (h:s.p st=some v):st=s.mk v:=by
 unfold Sh.p at h
 split at h
 ·rename_i e1 e2
  cases h
  cases st
  simp only[Sh.mk,St.mk.injEq];exact⟨pEnv_some e1,pHeap_some e2⟩
 ·cases h
def orc (s:Sh) (g:s.V→Cont→Option Fin):St→Cont→Option Fin:=fun st K=>match s.p st with
 |some v=>g v K
 |none=>none
theorem orc_ok {s:Sh} {g:s.V→Cont→Option Fin} {f:St→Cont→Option Fin} {head:St→St} (h:∀v K r,g v K=some r→∃N,iter f head N (s.mk v) K=some r):∀st K r,orc s g st K=some r→∃N,iter f head N st K=some r:=by
 intro st K r hr;unfold orc at hr
 split at hr
 ·rename_i v hv;rw[Sh.p_some hv];exact h v K r hr
 ·cases hr
theorem loop_any {V O:Type} {mk:V→St} {out:O→St} {f:St→Cont→Option Fin} {head:St→St} (I:V→Prop) (φ:V→O→Prop) (ex:Ex) (μ:V→Nat)
  (h:∀v,I v→(∃o,φ v o∧∀R K,f (mk v) (onward head R K)=K ex (out o))∨∃v',I v'∧μ v'<μ v∧(∀o,φ v' o→φ v o)∧∀R K,f (mk v) (onward head R K)=R (mk v')) :
  ∀v,I v→∃o,φ v o∧∀K r,K ex (out o)=some r→∃N,iter f head N (mk v) K=some r:=by
 have key:∀(N:Nat) v,μ v<N→I v→∃o,φ v o∧∀K,iter f head N (mk v) K=K ex (out o):=by
  intro N
  induction N with
  |zero=>intro v hN;omega
  |succ N ih =>
   intro v hN hI;rcases h v hI with⟨o,h1,h2⟩ | ⟨v',h1,h2,h3,h4⟩
   ·exact ⟨o,h1,fun K=>by rw[iter_succ,h2]⟩
   ·obtain ⟨o,g1,g2⟩:=ih v' (by omega) h1;exact⟨o,h3 o g1,fun K=>by rw[iter_succ,h4];exact g2 K⟩
 intro v hI;obtain⟨o,h1,h2⟩:=key _ v (Nat.lt_succ_self _) hI;exact⟨o,h1,fun K r hr=>⟨_,by rw[h2];exact hr⟩⟩
/-! ### loops in place -/
def Cx.withLoops (cx:Cx) (l:Nat→Option (St→Cont→Option Fin)):Cx:={ cx with loops:=l }
theorem steps_indep (cx:Cx) (l:Nat→Option (St→Cont→Option Fin)) (gd part:Bool) (ops:Array Oper):∀(os:List Oper) (st:St) (K:St→List Marks→Option Fin),steps (cx.withLoops l) gd part ops os st K=steps cx gd part ops os st K
 | [],st,K=>rfl
 |o::os,st,K=>by
  simp only[steps];have:(fun st m=>steps (cx.withLoops l) gd part ops os st fun st ms=>K st (m::ms))=fun st m=>steps cx gd part ops os st fun st ms=>K st (m::ms):=by
   funext st m;exact steps_indep cx l gd part ops os st _
  rw[this];rfl
theorem evC_indep (cx:Cx) (l:Nat→Option (St→Cont→Option Fin)):∀c,loopsOf c=[]→∀st K,evC (cx.withLoops l) c st K=evC cx c st K:=by
 intro c
 induction c with
 |seq x y ihx ihy =>
  intro h st K;simp only[loopsOf,List.append_eq_nil_iff]at h;simp only[evC];rw[ihx h.1]
  congr 1
  funext e st'
  cases e<;>first | rfl | exact ihy h.2 _ _
 |cond o y z ihy ihz =>
  intro h st K;simp only[loopsOf,List.append_eq_nil_iff]at h;simp only[evC]
  cases (evOpd st.env o).bind nilD with
  |some n=>dsimp only;rw[ihy h.1,ihz h.2]
  |none =>
   cases (evOpd st.env o).bind boolD with
   |none=>rfl
   |some t=>dsimp only;rw[ihy h.1,ihz h.2]
 |block id c ih =>
  intro h st K;simp only[evC];rw[ih h]
 |loop c _=>intro h;simp[loopsOf]at h
 |region id ops draw =>
  intro _ st K;simp only[evC,region]
  split<;>rw[steps_indep]<;>rfl
 |_=>intro _ st K;rfl
def unroll (cx:Cx) (b:Code) (id n:Nat):St→Cont→Option Fin:=iter (evC cx b) (headAt cx id) n
theorem unroll_ok {cx:Cx} {b:Code} {id n:Nat} {l:Nat→Option (St→Cont→Option Fin)} (h:loopsOf b=[]):∀st K r,unroll cx b id n st K=some r→∃N,iter (evC (cx.withLoops l) b) (headAt (cx.withLoops l) id) N st K=some r:=by
 intro st K r hr;have:evC (cx.withLoops l) b=evC cx b:=by funext st K;exact evC_indep cx l b h st K
 exact⟨n,by rw[this];exact hr⟩
theorem with_ok {cx:Cx} {b:Code} {id:Nat} {g:St→Cont→Option Fin} {l:Nat→Option (St→Cont→Option Fin)} (h:loopsOf b=[]) (hg:∀st K r,g st K=some r→∃N,iter (evC cx b) (headAt cx id) N st K=some r) :
  ∀st K r,g st K=some r→∃N,iter (evC (cx.withLoops l) b) (headAt (cx.withLoops l) id) N st K=some r:=by
 intro st K r hr;have:evC (cx.withLoops l) b=evC cx b:=by funext st K;exact evC_indep cx l b h st K
 rw[this];exact hg st K r hr
def oneOf {α:Type} [Nonempty α] (p:α→Prop):α:=Classical.epsilon p
theorem oneOf_spec {α:Type} [Nonempty α] {p:α→Prop} (h:∃x,p x):p (oneOf p):=Classical.epsilon_spec h
def endOf {V O:Type} [Nonempty O] (mk:V→St) (out:O→St) (f:St→Cont→Option Fin) (head:St→St) (φ:V→O→Prop) (ex:Ex) (v:V):O:=oneOf fun o=>φ v o∧∀K r,K ex (out o)=some r→∃N,iter f head N (mk v) K=some r
theorem endOf_spec {V O:Type} [Nonempty O] {mk:V→St} {out:O→St} {f:St→Cont→Option Fin} {head:St→St} {φ:V→O→Prop} {ex:Ex} {v:V} (h:∃o,φ v o∧∀K r,K ex (out o)=some r→∃N,iter f head N (mk v) K=some r) :
  φ v (endOf mk out f head φ ex v)∧∀K r,K ex (out (endOf mk out f head φ ex v))=some r→∃N,iter f head N (mk v) K=some r:=oneOf_spec h
def gEnd {O:Type} [Nonempty O] (s:Sh) (pre:s.V→Bool) (out:O→St) (f:St→Cont→Option Fin) (head:St→St) (φ:s.V→O→Prop) (ex:Ex):St→Cont→Option Fin:=orc s fun v K=>need (pre v) (K ex (out (endOf s.mk out f head φ ex v)))
theorem gEnd_ok {O:Type} [Nonempty O] {s:Sh} {pre:s.V→Bool} {out:O→St} {f:St→Cont→Option Fin} {head:St→St} {φ:s.V→O→Prop} {ex:Ex} (h:∀v,pre v=true→∃o,φ v o∧∀K r,K ex (out o)=some r→∃N,iter f head N (s.mk v) K=some r) :
  ∀st K r,gEnd s pre out f head φ ex st K=some r→∃N,iter f head N st K=some r :=
 orc_ok fun v K r hg=>by
  obtain⟨hp,hg⟩:=need_some.1 hg;exact(endOf_spec (h v hp)).2 K r hg
theorem LoopsOk.no {cx:Cx} {c:Code} (h:∀id,cx.loops id=none):LoopsOk cx c:=fun id _ g _ hg=>by rw[h id]at hg;cases hg
end
end Go.Proofs.YtkhhclpkljikkaaDoor.Ev
