/-
  Append, make, function values, the least and the greatest.
-/
import Derived.Test.YtkhhclpkljikkaaDoorEv1
import Derived.Lib.ConvBytes
/-
 Append,make,function values,the least and the greatest.
-/
namespace Go.Proofs.YtkhhclpkljikkaaDoor.Ev
open Go
open List (length length_append length_cons length_singleton length_replicate length_set length_take length_drop mem_cons_of_mem mem_cons_self getD replicate mem_append_left mem_append_right all_eq_true drop_eq_getElem_cons drop_eq_nil_of_le append_assoc mem_singleton getElem?_append_left getElem?_append_right getElem?_eq_none getElem?_take mem_append)
section
variable {P:Program} {TT:Types} {w0 w:World} {O0 F0 F:Nat→Prop} {h:HF} {β:Nat→Value} {a:Act} {o:Oper} {K:Act→World→Prop} {Q:Exit→Act→World→Prop} {x:T} {v:Value}
theorem run_append_zero (ht:TTok P TT) {t e:TypeId} {ti ei:TI} (hti:TT t=some ti) (hd:ti.desc = .slice e) (hei:TT e=some ei) {base ad:Option Addr} {n cap c:Nat} (hn:n≤cap) (ty:TypeId) :
  (Builtin.append_ #[t,t] ty #[.slice base n cap, .slice ad 0 c]).run P w = .ok (.slice base n cap) w:=by
 have h1:∀ad':Option Addr,(Builtin.firstCells ei.info.size 0 (.slice ad' 0 c)).run P w = .ok #[] w:=fun ad'=>by
  cases ad'<;>simp[Builtin.firstCells,loadCells,loadCellsFrom]
 simp only[Builtin.append_,Sem.run_bind,List.getElem?_toArray,List.getElem?_cons_zero,List.getElem?_cons_succ,ht.run_under hti,hd,Result.andThen_ok,ht.run_size hei,Sem.run_pure,Builtin.lenOf,Nat.add_zero,hn,if_true,Bool.false_eq_true,if_false,Bool.not_false,h1]
 cases base<;>simp[storeCells]
theorem run_append_room_M (w:World) (t ty e:TypeId) (i:TypeInfo) (ht:P.underlying t=some (.slice e)) (hi:P.info? e=some i)
  (g sLen sCap:Nat) (cur:Array Value) (hg:RowAt w g cur e) (a:Addr) (m c:Nat) (news:List Value) (hl:news.length=m*i.size) (hnews:∀j u,news[j]? = some u→w.cell? (a.add j)=some u) (h1:∀u∈news,u.oneCell'=true)
  (hroom:sLen+m≤sCap) (hfit:sLen*i.size+news.length≤cur.size) :
  (Builtin.append_ #[t,t] ty #[.slice (some ⟨g,0,none⟩) sLen sCap, .slice (some a) m c]).run P w =
   .ok (.slice (some ⟨g,0,none⟩) (sLen+m) sCap) (w.setRow g (cur.toList.take (sLen*i.size)++news++cur.toList.drop (sLen*i.size+news.length)).toArray):=by
 have hf:=run_firstCells_some (P:=P) w i.size m a m c news hl hnews;have hst:=run_storeCells_M (P:=P) (o:=sLen*i.size) news 0 cur w hg (by simpa using hfit) h1;simp only[Nat.add_zero]at hst;simp[Builtin.append_,run_underlying ht,sizeOf,typeInfo,hi,Builtin.lenOf,hroom,hf,Addr.add_lit,hst]
def Appended (w:World) (e:TypeId) (size n m cap:Nat) (base:Option Addr) (olds news:List Value) (v':Value) (w':World):Prop :=
 w'.os=w.os∧w'.tape=w.tape∧w'.output=w.output∧w.heap.size≤w'.heap.size ∧
 (∀b,b<w.heap.size→(0<cap→base.map (·.block)≠some b)→w'.heap[b]? = w.heap[b]?) ∧
 ((∃a',v' = .slice a' 0 0∧n+m=0) ∨
  ∃g cap' cur,v' = .slice (some ⟨g,0,none⟩) (n+m) cap'∧0<cap'∧RowAt w' g cur e∧n+m≤cap'∧cap'≤maxLen∧cur.size=cap'*size∧cur.toList.take ((n+m)*size)=olds++news ∧
   (g=w.heap.size∨base=some ⟨g,0,none⟩∧0<cap))
theorem grown_cells {size n m cap':Nat} {z:Array Value} {olds news:List Value} (ho:olds.length=n*size) (hn:news.length=m*size) (hz:z.size=size) (hc:n+m≤cap') :
  (olds.toArray++news.toArray++Builtin.zeroCells z (cap'-(n+m))).size=cap'*size ∧
  (olds.toArray++news.toArray++Builtin.zeroCells z (cap'-(n+m))).toList.take ((n+m)*size)=olds++news:=by
 have hl:(olds++news).length=(n+m)*size:=by rw[length_append,ho,hn,Nat.add_mul]
 refine⟨?_, ?_⟩
 ·simp only[Array.size_append,List.size_toArray,size_zeroCells,hz,ho,hn,← Nat.add_mul]
  congr 1;omega
 ·simp only[Array.toList_append,append_assoc];rw[← append_assoc,← hl];exact List.take_left
theorem append_core (ht:TTok P TT) {t e:TypeId} {ti ei:TI} (hti:TT t=some ti) (hd:ti.desc = .slice e) (hei:TT e=some ei) {z:Value} (hz:ei.info.zero=some z) (hzs:z.cells.size=ei.info.size) (_hpos:0<ei.info.size) (ty:TypeId)
  {base:Option Addr} {n cap:Nat} {olds:List Value} (ho:olds.length=n*ei.info.size)
  (hx:(n=0∧cap=0)∨∃g cur,base=some ⟨g,0,none⟩∧0<cap∧RowAt w g cur e∧n≤cap∧cap≤maxLen∧cur.size=cap*ei.info.size∧cur.toList.take (n*ei.info.size)=olds)
  {ad:Option Addr} {m c:Nat} {news:List Value} (hn:news.length=m*ei.info.size) (h1:∀u∈news,u.oneCell'=true)
  (hy:m=0∨∃b off,ad=some ⟨b,off,none⟩∧CellsAt w b off news) (hm:n+m≤maxLen) (hfit:fits (n+m) ei.info.bytes=true) :
  ∃v' w',(Builtin.append_ #[t,t] ty #[.slice base n cap, .slice ad m c]).run P w = .ok v' w'∧Appended w e ei.info.size n m cap base olds news v' w':=by
 have hu:P.underlying t=some (.slice e):=by rw[ht.under t ti hti,hd]
 have hi:=ht.info e ei hei;have hfit':(n+m)*ei.info.bytes≤140737488355328:=by simpa [fits]using hfit
 have hmI:((n+m:Nat):Int)≤9223372036854775807:=by simp[maxLen]at hm;omega
 rcases hy with rfl | ⟨b,off,rfl,hc⟩
 ·have hnews:news=[]:=List.eq_nil_of_length_eq_zero (by simpa using hn);subst hnews;rcases hx with⟨rfl,rfl⟩ | ⟨g,cur,rfl,h2,h3,h4,h5,h6,h7⟩
  ·exact ⟨_,w,run_append_zero ht hti hd hei (Nat.le_refl _) ty,rfl,rfl,rfl,Nat.le_refl _,fun _ _ _=>rfl, .inl ⟨base,rfl,rfl⟩⟩
  ·exact ⟨_,w,run_append_zero ht hti hd hei h4 ty,rfl,rfl,rfl,Nat.le_refl _,fun _ _ _=>rfl, .inr ⟨g,cap,cur,rfl,h2,h3,h4,h5,h6,by simpa using h7, .inr ⟨rfl,h2⟩⟩⟩
 ·have hcells:∀j u,news[j]? = some u→w.cell? ((⟨b,off,none⟩:Addr).add j)=some u:=fun j u hj=>by rw[Addr.add_lit];exact hc j u hj
  by_cases hm0:m=0
  ·subst hm0;have hnews:news=[]:=List.eq_nil_of_length_eq_zero (by simpa using hn);subst hnews;rcases hx with⟨rfl,rfl⟩ | ⟨g,cur,rfl,h2,h3,h4,h5,h6,h7⟩
   ·exact ⟨_,w,run_append_zero ht hti hd hei (Nat.le_refl _) ty,rfl,rfl,rfl,Nat.le_refl _,fun _ _ _=>rfl, .inl ⟨base,rfl,rfl⟩⟩
   ·exact ⟨_,w,run_append_zero ht hti hd hei h4 ty,rfl,rfl,rfl,Nat.le_refl _,fun _ _ _=>rfl, .inr ⟨g,cap,cur,rfl,h2,h3,h4,h5,h6,by simpa using h7, .inr ⟨rfl,h2⟩⟩⟩
  ·have fresh:∀old,old<n+m→∃cap' cur,grownCap w (n+m) old e=cap'∧olds.toArray++news.toArray++Builtin.zeroCells z.cells (cap'-(n+m))=cur ∧
     Appended w e ei.info.size n m cap base olds news (.slice (some ⟨w.heap.size,0,none⟩) (n+m) cap') (w.drew.alloc (.cells cur e)):=fun old hold=>by
    have hge:=grownCap_ge w (n+m) old e;have hle:=grownCap_le_maxLen w (n+m) old e hm;obtain⟨g1,g2⟩:=grown_cells ho hn hzs hge;exact⟨_,_,rfl,rfl,rfl,rfl,rfl,by simp,fun k hk _=>heap_alloc_old w.drew _ k hk, .inr ⟨w.heap.size,_,_,rfl,by omega, .new (heap_alloc_new w.drew _),hge,hle,g1,g2, .inl rfl⟩⟩
   rcases hx with⟨rfl,rfl⟩ | ⟨g,cur,rfl,h2,h3,h4,h5,h6,h7⟩
   ·have holds:olds=[]:=List.eq_nil_of_length_eq_zero (by simpa using ho);subst holds;obtain⟨cap',cur,e1,e2,hA⟩:=fresh 0 (by omega);have e2':news.toArray++Builtin.zeroCells z.cells (cap'-m)=cur:=by simpa using e2
    cases base with
    |none =>
     have:=run_append_nil (P:=P) w t ty e ei.info z hu hi hz ⟨b,off,none⟩ m c news hn hcells (by omega) (by omega) (by rw[Nat.zero_add]at hfit';omega);rw[Nat.zero_add]at e1 hA;rw[e1,e2']at this;exact⟨_,_,this,hA⟩
    |some ad0 =>
     have:=run_append_grow (P:=P) w t ty e ei.info z hu hi hz ad0 0 0 [] (by simp) (by simp) ⟨b,off,none⟩ m c news hn hcells (by omega) (by omega) (growslice_fits (by omega) hfit');rw[e1,e2]at this;exact⟨_,_,this,hA⟩
   ·by_cases hroom:n+m≤cap
    ·have hfc:n*ei.info.size+news.length≤cur.size:=by rw[hn,h6,← Nat.add_mul];exact Nat.mul_le_mul_right _ hroom
     have:=run_append_room_M (P:=P) w t ty e ei.info hu hi g n cap cur h3 ⟨b,off,none⟩ m c news hn hcells h1 hroom hfc;obtain⟨s1,s2,s3,s4⟩:=setRow_same w g (cur.toList.take (n*ei.info.size)++news++cur.toList.drop (n*ei.info.size+news.length)).toArray;refine⟨_,_,this,s1,s2,s3,Nat.le_of_eq s4.symm,fun k hk hne=>setRow_other w g k _ (fun e=>hne h2 (by simp[e])), .inr ⟨g,cap,_,rfl,h2,h3.set (by simp only[List.size_toArray,length_append,length_take,length_drop,Array.length_toList];omega),hroom,h5, ?_, ?_, .inr ⟨rfl,h2⟩⟩⟩
     ·simp only[List.size_toArray,length_append,length_take,length_drop,Array.length_toList];omega
     ·rw[h7];have:(n+m)*ei.info.size=(olds++news).length:=by rw[length_append,ho,hn,Nat.add_mul]
      rw[this];exact List.take_left
    ·have holds:∀j u,olds[j]? = some u→w.cell? ((⟨g,0,none⟩:Addr).add j)=some u:=fun j u hj=>by
      rw[Addr.add_lit,h3.cell];rw[← h7,getElem?_take]at hj
      split at hj
      ·simpa using hj
      ·cases hj
     have:=run_append_grow (P:=P) w t ty e ei.info z hu hi hz ⟨g,0,none⟩ n cap olds ho holds ⟨b,off,none⟩ m c news hn hcells (by omega) (by omega) (growslice_fits (by omega) hfit');obtain⟨cap',cur',e1,e2,hA⟩:=fresh cap (by omega);rw[e1,e2]at this;exact⟨_,_,this,hA⟩
theorem sliceIn_cells (H:Inv w0 O0 F0 w F h β) {hh:Nat→Option Obj} (hhh:∀i ob,hh i=some ob→h i=some (some ob)) {sz:Nat} {ez:List R} {c:C} {ids:List Nat} {n:Nat} {get:Nat→Nat→R} {u:Value}
  (hs:sliceIn hh sz ez c=some (ids,n,get)) (hc:RepC w F h β c u) :
  ∃ad cap us,u = .slice ad n cap∧n≤cap∧cap≤maxLen∧us.length=n*sz∧(n=0∨∃b off,ad=some ⟨b,off,none⟩∧CellsAt w b off us)∧∀i,i<n→∀j,j<sz→∃y,us[i*sz+j]? = some y∧Ro w F (get i j) y:=by
 have gen:∀(b off:Nat),(∀i,i<n→∀j,j<sz→∃y,w.cell? ⟨b,off+(i*sz+j),none⟩=some y∧Ro w F (get i j) y) →
   ∃us:List Value,us.length=n*sz∧CellsAt w b off us∧∀i,i<n→∀j,j<sz→∃y,us[i*sz+j]? = some y∧Ro w F (get i j) y:=fun b off hall=>by
  rcases Nat.eq_zero_or_pos sz with hsz | hsz
  ·subst hsz;exact ⟨[],by simp,fun j y hj=>by simp at hj,fun i _ j hj=>by omega⟩
  obtain⟨us,hl,hu⟩:=list_of (n:=n*sz) (p:=fun k y=>w.cell? ⟨b,off+k,none⟩=some y∧Ro w F (get (k / sz) (k % sz)) y) fun k hk=>by
   have h1:k / sz<n:=Nat.div_lt_of_lt_mul (by rw[Nat.mul_comm];exact hk);have h2:k % sz<sz:=Nat.mod_lt _ hsz;obtain⟨y,hy,hr⟩:=hall (k / sz) h1 (k % sz) h2;refine⟨y, ?_,hr⟩;have:k / sz*sz+k % sz=k:=by rw[Nat.mul_comm];exact Nat.div_add_mod k sz
   rw[this]at hy;exact hy
  refine⟨us,hl,fun j y hj=>(hu j y hj).1,fun i hi j hj => ?_⟩;have hlt:i*sz+j<us.length:=by have:=rows_fit (sz:=sz) hi;omega
  have hk:=hu (i*sz+j) us[i*sz+j] (zE hlt);have e1:(i*sz+j) / sz=i:=by rw[Nat.add_comm,Nat.add_mul_div_right _ _ hsz,Nat.div_eq_of_lt hj];omega
  have e2:(i*sz+j) % sz=j:=by rw[Nat.add_comm,Nat.add_mul_mod_self_right];exact Nat.mod_eq_of_lt hj
  rw[e1,e2]at hk;exact⟨_,zE hlt,hk.2⟩
 unfold sliceIn at hs
 split at hs
 ·split at hs
  ·rename_i e
   cases hs
   have e:=zB e;subst e;obtain⟨ad,cap,rfl,h1,h2,h3⟩:=hc;rcases h3 with rfl | ⟨b,off,rfl,hf,h3⟩
   ·exact ⟨ad,cap,[],rfl,h1,h2,by simp, .inl rfl,fun i hi=>by omega⟩
   ·obtain ⟨us,g1,g2,g3⟩:=gen b off h3;exact⟨_,cap,us,rfl,h1,h2,g1, .inr ⟨b,off,rfl,g2⟩,g3⟩
  ·cases hs
 ·cases hs;obtain ⟨rfl,_⟩:=hc;exact ⟨none,0,[],rfl,by omega,by simp[maxLen],by simp, .inl rfl,fun i hi=>by omega⟩
 ·split at hs
  ·rename_i hi
   split at hs
   ·rename_i e
    cases hs
    have e:=zB e;subst e;have hi':=hhh _ _ hi;rw[hc.2.2 _ hi'];rcases H.obj _ _ hi' with⟨ad,h2,rfl⟩ | ⟨b,cap,cur,h2,h3,h4,h5,h6,h7,h8⟩
    ·exact ⟨ad,0,[],h2,by omega,by simp[maxLen],by simp, .inl rfl,fun i hi=>by omega⟩
    ·obtain ⟨us,g1,g2,g3⟩:=gen b 0 fun i hi j hj=>by
      obtain⟨y,hy,hr⟩:=h8 i hi j hj;exact⟨y,by rw[h4.cell];simpa using hy,hr⟩
     exact⟨_,cap,us,h2,h5,h6,g1, .inr ⟨b,0,rfl,g2⟩,g3⟩
   ·cases hs
  ·cases hs
 ·cases hs
theorem Ro.ones {us:List Value} {n sz:Nat} {get:Nat→Nat→R} (hl:us.length=n*sz) (hg:∀i,i<n→∀j,j<sz→∃y,us[i*sz+j]? = some y∧Ro w F (get i j) y):∀u∈us,u.oneCell'=true:=by
 intro u hu;obtain⟨k,hk⟩:=List.getElem?_of_mem hu;have hkl:k<us.length:=by
  rcases Nat.lt_or_ge k us.length with h1 | h1
  ·exact h1
  ·rw[getElem?_eq_none h1]at hk;cases hk
 rcases Nat.eq_zero_or_pos sz with hsz | hsz
 ·subst hsz;simp at hl;subst hl;simp at hu
 have h1:k / sz<n:=Nat.div_lt_of_lt_mul (by rw[Nat.mul_comm];omega);obtain⟨y,hy,hr⟩:=hg (k / sz) h1 (k % sz) (Nat.mod_lt _ hsz);have:k / sz*sz+k % sz=k:=by rw[Nat.mul_comm];exact Nat.div_add_mod k sz
 rw[this,hk]at hy
 cases hy
 exact Ro.one hr
theorem op_append (H:Inv w0 O0 F0 w F h β) (ht:TTok P TT) {hh:Nat→Option Obj} (hhh:∀i ob,hh i=some ob→h i=some (some ob)) {X Y:Operand} {t e:TypeId} {ti ei:TI} (ho:o.op = .call { callee := .builtin .append,args:=#[X,Y],argTypes:=#[t,t] })
  (hti:TT t=some ti) (hd:ti.desc = .slice e) (hei:TT e=some ei) {zs:List C} (hz:zeroCells ei=some zs) (hzl:zs.length=ei.info.size) (hpos:0<ei.info.size) (hby:0<ei.info.bytes) {cx cy:C} {n m:Nat} {get get':Nat→Nat→R} {ids:List Nat} {pre:Ups}
  (hxs:(cx = .r (.v (.slice none 0 0))∧n=0∧pre=[])∨∃i,cx = .own i∧h i=some (some (.arr e ei.info.size n get))∧pre=[(i,none)])
  (hy:sliceIn hh ei.info.size ti.ez cy=some (ids,m,get')) (hx:RepC w F h β cx (a.eval X)) (hyr:RepC w F h β cy (a.eval Y)) (hfit:fits (n+m) ei.info.bytes=true) {s:Nat} (hs0:h s=none) {g:Nat→Nat→R} (hg:∀i,g i=if i<n then get i else get' (i-n))
  (hK:∀v w',Out w0 O0 F0 w F h β a.tmps (pre++[(s,some (.arr e ei.info.size (n+m) g))]) (.d (.one (.own s))) v w'→K (a.put o.dst v) w'):o.wp P a w K Q:=by
 obtain⟨zv,hz1,hz2⟩:=zeroCells_sound (w:=w) (F:=F) (h:=h) (β:=β) hz;have hzs:zv.cells.size=ei.info.size:=by have:=hz2.len;simp at this;omega
 obtain⟨ad,c,news,hyv,hmc,hcm,hnl,hyc,hyg⟩:=sliceIn_cells H hhh hy hyr;have h1:=Ro.ones hnl hyg;have hy':m=0∨∃b off,ad=some ⟨b,off,none⟩∧CellsAt w b off news:=hyc
 -- the slice that is appended to
 have main:∀(base:Option Addr) (cap:Nat) (olds:List Value),a.eval X = .slice base n cap→olds.length=n*ei.info.size →
   ((n=0∧cap=0)∨∃g cur,base=some ⟨g,0,none⟩∧0<cap∧RowAt w g cur e∧n≤cap∧cap≤maxLen∧cur.size=cap*ei.info.size∧cur.toList.take (n*ei.info.size)=olds) →
   (∀i,i<n→∀j,j<ei.info.size→∃y,olds[i*ei.info.size+j]? = some y∧Ro w F (get i j) y)→n+m≤maxLen →
   (∃h1,upd pre h=h1∧Inv w0 O0 F0 w F h1 β∧Per w F h β w F h1 β∧h1 s=none∧∀b,0<cap→base.map (·.block)=some b→¬F b∧(∀j o,h1 j=some (some o)→¬Blk (β j) b)∧(O0 b∨w0.heap.size≤b)) →
   o.wp P a w K Q:=by
  intro base cap olds hxv hol hxb hxg hmax ⟨h2,hpre,H1,P1,hs1,hfree⟩;obtain⟨v',w',hrun,q1,q2,q3,q4,q5,q6⟩:=append_core (P:=P) (c:=c) ht hti hd hei hz1 hzs hpos o.type hol hxb hnl h1 hy' hmax hfit;have T:=H1.turn (w':=w') (F':=F) s (some (.arr e ei.info.size (n+m) g)) v' q1 q2 q3 q4 (fun b=>0<cap∧base.map (·.block)=some b)
   (fun b hb=>by obtain⟨g1,g2,g3⟩:=hfree b hb.1 hb.2;exact ⟨g1,fun j o' _ hj hb'=>g2 j o' hj hb',g3⟩)
   (fun b hb hx=>q5 b hb fun h0 e=>hx ⟨h0,e⟩) (fun _ hf=>hf) (fun _ hf => .inl hf) (fun q0 _ h0=>by rw[hs1]at h0;cases h0)
   (fun P2 ob hob=>by
    cases hob
    rcases q6 with⟨a',rfl,hnm⟩ | ⟨g',cap',cur,rfl,r1,r2,r3,r4,r5,r6,r7⟩
    ·exact ⟨.inl ⟨a',by simp[setB],hnm⟩,fun b hb=>by cases a'<;>simp[blk]at hb⟩
    ·refine ⟨.inr ⟨g',cap',cur,by simp[setB],r1,r2,r3,r4,r5,fun k hk j hj => ?_⟩,fun b hb => ?_⟩
     ·have hfit2:=rows_fit (sz:=ei.info.size) hk;have e0:cur.toList[k*ei.info.size+j]? = (olds++news)[k*ei.info.size+j]? := by
       rw[← r6,getElem?_take,if_pos (by omega)]
      rw[hg]
      by_cases hkn:k<n
      ·obtain ⟨y,hy1,hy2⟩:=hxg k hkn j hj;refine⟨y, ?_, ?_⟩
       ·have:cur.toList[k*ei.info.size+j]? = some y:=by
         rw[e0,getElem?_append_left (by rw[hol];have:=rows_fit (sz:=ei.info.size) hkn;omega)];exact hy1
        simpa using this
       ·rw[if_pos hkn];exact Ro.mono P2.blocks P2.sub (Ro.mono (fun _ _=>rfl) (fun _ h=>h) hy2)
      ·obtain ⟨y,hy1,hy2⟩:=hyg (k-n) (by omega) j hj;refine⟨y, ?_, ?_⟩
       ·have hnk:n*ei.info.size≤k*ei.info.size:=Nat.mul_le_mul_right _ (by omega);have:cur.toList[k*ei.info.size+j]? = some y:=by
         rw[e0,getElem?_append_right (by rw[hol];omega),hol,← hy1]
         congr 1
         rw[Nat.sub_mul];omega
        simpa using this
       ·rw[if_neg hkn];exact Ro.mono P2.blocks P2.sub (Ro.mono (fun _ _=>rfl) (fun _ h=>h) hy2)
     ·have:b=g':=by simp[blk]at hb;exact hb.2.symm
      subst this;rcases r7 with rfl | ⟨rfl,r8⟩
      ·exact .inr (Nat.le_refl _)
      ·exact .inl ⟨r8,rfl⟩)
  have hcomm:upd (pre++[(s,some (.arr e ei.info.size (n+m) g))]) h=setH h2 s (some (.arr e ei.info.size (n+m) g)):=by
   rw[upd_append,upd_cons,upd_nil,← hpre];rcases hxs with⟨_,_,rfl⟩ | ⟨i,_,hi,rfl⟩
   ·rfl
   ·rw[upd_cons,upd_cons,upd_nil,upd_nil];exact setH_comm h (fun e=>by subst e;rw[hs0]at hi;cases hi) _ _
  refine wp_val (v:=v') (w':=w') (op_builtin ho (f:=Builtin.append_ #[t,t] o.type #[a.eval X,a.eval Y]) (by simp[builtin]) (by rw[hxv,hyv];exact hrun)) (hK _ _ ⟨F,_,by rw[hcomm];exact T.1,by rw[hcomm];exact P1.trans T.2, ?_⟩);refine⟨?_,⟨some (.arr e ei.info.size (n+m) g),by rw[hcomm];simp[setH]⟩,fun ob _=>by simp[setB]⟩;rcases q6 with⟨a',rfl,_⟩ | ⟨g',cap',cur,rfl,_⟩<;>rfl
 have hmax:n+m≤maxLen:=by
  have h3:(n+m)*ei.info.bytes≤140737488355328:=by simpa [fits]using hfit
  have h4:n+m≤(n+m)*ei.info.bytes:=Nat.le_mul_of_pos_right _ hby;simp only[maxLen];omega
 rcases hxs with⟨rfl,rfl,rfl⟩ | ⟨i,rfl,hi,rfl⟩
 ·obtain ⟨hxv,_⟩:=hx;exact main none 0 [] hxv (by simp) (.inl ⟨rfl,rfl⟩) (fun i hi=>by omega) hmax ⟨h,rfl,H,Per.refl w F h β,hs0,fun b h0=>by omega⟩
 ·have hxv:=hx.2.2 _ hi;obtain⟨H1,P1⟩:=H.kill i;rw[setB_self]at H1 P1;have hs1:setH h i none s=none:=by
   simp only[setH];split
   ·rename_i e;subst e;rw[hs0]at hi;cases hi
   ·exact hs0
  have hfree:∀b,Blk (β i) b→¬F b∧(∀j o,setH h i none j=some (some o)→¬Blk (β j) b)∧(O0 b∨w0.heap.size≤b):=fun b hb =>
   ⟨H.notF i _ b hi hb,fun j o' hj hb'=>by
    simp only[setH]at hj
    split at hj
    ·cases hj
    ·rename_i hne;exact hne (H.apart j i o' _ b hj hi hb' hb),H.fromO i _ b hi hb⟩
  rcases H.obj _ _ hi with⟨ad0,r1,rfl⟩ | ⟨b,cap,cur,r1,r2,r3,r4,r5,r6,r7⟩
  ·exact main ad0 0 [] (by rw[hxv,r1]) (by simp) (.inl ⟨rfl,rfl⟩) (fun i hi=>by omega) hmax ⟨_,by rw[upd_cons,upd_nil],H1,P1,hs1,fun b h0=>by omega⟩
  ·refine main (some ⟨b,0,none⟩) cap (cur.toList.take (n*ei.info.size)) (by rw[hxv,r1]) ?_ (.inr ⟨b,cur,rfl,r2,r3,r4,r5,r6,rfl⟩) (fun i hi j hj => ?_) hmax
    ⟨_,by rw[upd_cons,upd_nil],H1,P1,hs1,fun b' _ hb'=>hfree b' (by rw[r1];simp[blk];simp at hb';exact ⟨by omega,hb'⟩)⟩
   ·simp only[length_take,Array.length_toList,r6];have:=Nat.mul_le_mul_right ei.info.size r4;omega
   ·obtain ⟨y,hy1,hy2⟩:=r7 i hi j hj;refine⟨y, ?_,hy2⟩;have:=rows_fit (sz:=ei.info.size) hi;rw[getElem?_take,if_pos (by omega)]
    simpa using hy1
/-! ### make, function values, the least and the greatest -/
theorem op_makeSlice (H:Inv w0 O0 F0 w F h β) (ht:TTok P TT) {ty e:TypeId} {ti ei:TI} {X Y:Operand} (ho:o.op = .makeSlice ty X Y) (hti:TT ty=some ti) (hd:ti.desc = .slice e) (hei:TT e=some ei)
  {z:List C} (hz:zeroCells ei=some z) {zr:List R} (hzr:allR (fun _=>none) z=some zr) (hl:zr.length=ei.info.size) (_hpos:0<ei.info.size) {n c:Int} {kn kc:IntKind} (hX:a.eval X = .int kn n) (hY:a.eval Y = .int kc c)
  (hc:decide (0≤n∧n≤c∧c*ei.info.bytes≤140737488355328∧c≤9223372036854775807)=true) {s:Nat} (hs0:h s=none) (ez:List R)
  (hK:∀v w',Out w0 O0 F0 w F h β a.tmps [(s,some (.arr e ei.info.size n.toNat fun i=>if i<n.toNat then ezAt zr else ezAt ez))] (.d (.one (.own s))) v w'→K (a.put o.dst v) w'):o.wp P a w K Q:=by
 obtain⟨h0,h1,h2,h3⟩:=of_decide_eq_true hc;obtain⟨zv,hz1,hz2⟩:=zeroCells_sound (w:=w) (F:=F) (h:=h) (β:=β) hz;have hzro:All2 (Ro w F) zr zv.cells.toList:=allR_sound H (hh:=fun _=>none) (fun _ _ hq=>by cases hq) (fun _ hf=>hf) hz2 hzr (fun i hi=>by
  have:=allR_refs hzr i hi;exfalso;rw[allR_none_own hzr]at this;simp at this)
 have hrows:=zero_rows (w:=w) (F:=F) (z:=zv) ei.info.size c.toNat hzro hl;have hrun:=run_make (P:=P) w ty e ei.info zv (by rw[ht.under ty ti hti,hd]) (ht.info e ei hei) hz1 kn kc n c h0 h1 (by rw[Int.mul_comm];omega) h3;have T:=H.new hs0 (.cells (madeCells zv.cells (c.toNat*ei.info.size)) e) (.arr e ei.info.size n.toNat fun i=>if i<n.toNat then ezAt zr else ezAt ez) (.slice (some ⟨w.heap.size,0,none⟩) n.toNat c.toNat) (fun b hb=>by
   have hb:=Blk_slice.1 hb;simp only[blk]at hb;split at hb
   ·cases hb
   ·simpa using hb.symm) (fun P=>by
   by_cases hc0:c.toNat=0
   ·exact .inl ⟨some ⟨w.heap.size,0,none⟩,by simp[setB];omega,by omega⟩
   ·refine .inr ⟨w.heap.size,c.toNat,_,by simp[setB],by omega, .new (heap_alloc_new w _),by omega,by simp[maxLen];omega, ?_,fun k hk j hj => ?_⟩
    ·have:=hrows.1;rw[repl_len]at this;exact this
    ·obtain ⟨r,hr⟩:∃r,zr[j]? = some r:=⟨zr[j]'(by omega),zE _⟩;obtain⟨y,hy,hro⟩:=(hrows.2 k zr (by rw[repl_get,if_pos (by omega)])).2 j r hr;exact⟨y,hy,by simp only[hk,if_true,ezAt,getD,hr,Option.getD_some];exact Ro.mono P.blocks P.sub hro⟩)
 refine wp_val (v := .slice (some ⟨w.heap.size,0,none⟩) n.toNat c.toNat) (w':=w.alloc (.cells (madeCells zv.cells (c.toNat*ei.info.size)) e)) ?_ (hK _ _ ⟨F,_,by rw[upd_cons];exact T.1,by rw[upd_cons];exact T.2,rfl,⟨some (.arr e ei.info.size n.toNat fun i=>if i<n.toNat then ezAt zr else ezAt ez),by rw[upd_cons];simp[setH]⟩,fun ob _=>by simp[setB]⟩);simp only[execOp,ho,hX,hY,Sem.run_bind,hrun,Result.andThen_ok,Sem.run_pure]
theorem op_makeFunc (H:Inv w0 O0 F0 w F h β) {f:FuncId} {caps:Array Operand} (ho:o.op = .makeFunc (.func f) #[] caps) {ids:List Nat} (hx:All2 (fun i u=>RepC w F h β (.ptr i 0) u) ids (caps.toList.map a.eval))
  (hK:∀v w',Out w0 O0 F0 w F h β a.tmps [] (.d (.one (.fn f ids))) v w'→K (a.put o.dst v) w'):o.wp P a w K Q:=by
 refine op_quiet H (x := .d (.one (.fn f ids))) (v := .func (.func f) #[] (caps.map a.eval)) (by simp[execOp,ho,Instr.makeFunc]) ⟨rfl,fun i hi => ?_,fun hall => ?_⟩ hK
 ·obtain ⟨k,hk⟩:=List.getElem?_of_mem hi;obtain⟨u,_,hr⟩:=hx.get hk;exact hr.2.1
 ·congr 1
  apply Array.ext'
  simp only[Array.toList_map];have:∀ {l:List Nat} {us:List Value},All2 (fun i u=>RepC w F h β (.ptr i 0) u) l us→(∀i∈l,∃o,h i=some (some o))→us=l.map β:=by
   intro l us hh
   induction hh with
   |nil=>intro _;rfl
   |cons h1 _ ih =>
    intro hal;obtain⟨o',ho'⟩:=hal _ (mem_cons_self ..);obtain⟨b,e1,e2⟩:=h1.2.2 o' ho';rw[ih fun i hi=>hal i (mem_cons_of_mem _ hi),List.map_cons,e1,e2]
  exact this hx hall
theorem run_foldMin:∀ {l:List T} {us:List Value} {u r:Value},foldMin u l=some r→All2 (RepX a.tmps w F h β) l us→(us.foldlM Builtin.min2 u).run P w = .ok r w
 | [],us,u,r,hm,hx=>by cases hx;simp[foldMin]at hm;subst hm;rfl
 |y::l,us,u,r,hm,hx=>by
  cases hx with
  |cons h1 h2 =>
   unfold foldMin at hm
   split at hm
   ·simp_all
   ·rename_i e1 e2
    cases e2
    obtain⟨hu,_⟩:=h1
    split at hm
    ·rw[List.foldlM_cons,Sem.run_bind];simp only[hu,Builtin.min2,Sem.run_pure,Result.andThen_ok];exact run_foldMin hm h2
    ·cases hm
   ·cases hm
theorem run_foldMax:∀ {l:List T} {us:List Value} {u r:Value},foldMax u l=some r→All2 (RepX a.tmps w F h β) l us→(us.foldlM Builtin.max2 u).run P w = .ok r w
 | [],us,u,r,hm,hx=>by cases hx;simp[foldMax]at hm;subst hm;rfl
 |y::l,us,u,r,hm,hx=>by
  cases hx with
  |cons h1 h2 =>
   unfold foldMax at hm
   split at hm
   ·simp_all
   ·rename_i e1 e2
    cases e2
    obtain⟨hu,_⟩:=h1
    split at hm
    ·rw[List.foldlM_cons,Sem.run_bind];simp only[hu,Builtin.max2,Sem.run_pure,Result.andThen_ok];exact run_foldMax hm h2
    ·cases hm
   ·cases hm
theorem foldMin_plain:∀ {l:List T} {us:List Value} {u r:Value},plain u=true→foldMin u l=some r→All2 (RepX a.tmps w F h β) l us→plain r=true
 | [],us,u,r,hp,hm,_=>by simp[foldMin]at hm;subst hm;exact hp
 |y::l,us,u,r,hp,hm,hx=>by
  cases hx with
  |cons h1 h2 =>
   unfold foldMin at hm
   split at hm
   ·cases hm;exact hp
   ·rename_i e1 e2
    cases e2
    split at hm
    ·rename_i hk;have hk:=of_decide_eq_true hk;subst hk;refine foldMin_plain ?_ hm h2
     split
     ·exact h1.2
     ·exact hp
    ·cases hm
   ·cases hm
theorem foldMax_plain:∀ {l:List T} {us:List Value} {u r:Value},plain u=true→foldMax u l=some r→All2 (RepX a.tmps w F h β) l us→plain r=true
 | [],us,u,r,hp,hm,_=>by simp[foldMax]at hm;subst hm;exact hp
 |y::l,us,u,r,hp,hm,hx=>by
  cases hx with
  |cons h1 h2 =>
   unfold foldMax at hm
   split at hm
   ·cases hm;exact hp
   ·rename_i e1 e2
    cases e2
    split at hm
    ·rename_i hk;have hk:=of_decide_eq_true hk;subst hk;refine foldMax_plain ?_ hm h2
     split
     ·exact h1.2
     ·exact hp
    ·cases hm
   ·cases hm
theorem op_min (H:Inv w0 O0 F0 w F h β) {X:Operand} {args:List Operand} {ats:Array TypeId} {mx:Bool} (ho:o.op = .call { callee := .builtin (bif mx then .max else .min),args:=(X::args).toArray,argTypes:=ats }) {u r:Value} (hX:a.eval X=u) (hp:plain u=true) {l:List T}
  (hm:(bif mx then foldMax u l else foldMin u l)=some r) (hx:All2 (RepX a.tmps w F h β) l (args.map a.eval))
  (hK:∀v w',Out w0 O0 F0 w F h β a.tmps [] (.d (.one (.r (.v r)))) v w'→K (a.put o.dst v) w'):o.wp P a w K Q:=by
 cases mx
 ·refine op_quiet H (v:=r) ?_ (rep_v (foldMin_plain hp hm hx)) hK;refine op_builtin (b := .min) ho (f:=Builtin.min_ ats o.type ((X::args).toArray.map a.eval)) (fun cs=>by simp[builtin]) ?_;simp only[Builtin.min_,List.map_toArray,List.map_cons,hX];exact run_foldMin hm hx
 ·refine op_quiet H (v:=r) ?_ (rep_v (foldMax_plain hp hm hx)) hK;refine op_builtin (b := .max) ho (f:=Builtin.max_ ats o.type ((X::args).toArray.map a.eval)) (fun cs=>by simp[builtin]) ?_;simp only[Builtin.max_,List.map_toArray,List.map_cons,hX];exact run_foldMax hm hx
end
end Go.Proofs.YtkhhclpkljikkaaDoor.Ev
/-
 Calls: from a contract to what the caller knows.
-/
namespace Go.Proofs.YtkhhclpkljikkaaDoor.Ev
open Go
open List (length length_append length_cons length_singleton length_replicate length_set length_take length_drop mem_cons_of_mem mem_cons_self getD replicate mem_append_left mem_append_right all_eq_true drop_eq_getElem_cons drop_eq_nil_of_le append_assoc mem_singleton getElem?_append_left getElem?_append_right getElem?_eq_none getElem?_take mem_append)
def Own (h:HF) (β:Nat→Value) (b:Nat):Prop:=∃i o,h i=some (some o)∧Blk (β i) b
abbrev hOf (os:List Obj):HF:=look (startHeap 0 os)
def Sat (P:Program) (f:FuncId) (ds:List D) (os:List Obj) (x:T) (objs:Heap):Prop :=
 ∀(w:World) (F:Nat→Prop) (β:Nat→Value) (args:List Value),
  Inv w (Own (hOf os) β) F w F (hOf os) β→All2 (RepD w F (hOf os) β) ds args →
  Calls P f args.toArray w fun e w'=>∃v F' β',e = .returned v∧Inv w (Own (hOf os) β) F w' F' (look objs) β' ∧
   (∀i,i<os.length→∃q,look objs i=some q)∧(∀i o,i<os.length→look objs i=some (some o)→β' i=β i)∧(∀s b d,x ≠ .when s b d)∧RepX #[] w' F' (look objs) β' x v
theorem RepX.tm {tm tm':Array Value} {w:World} {F:Nat→Prop} {h:HF} {β:Nat→Value} {x:T} {v:Value} (hx:∀s b d,x ≠ .when s b d) (hr:RepX tm w F h β x v):RepX tm' w F h β x v:=by
 cases x with
 |when s b d=>exact absurd rfl (hx s b d)
 |_=>exact hr
theorem look_startHeap:∀(os:List Obj) (k i:Nat),look (startHeap k os) i=if k≤i then(os[i-k]?).map some else none
 | [],k,i=>by simp[startHeap,look]
 |o::os,k,i=>by
  simp only[startHeap,look]
  cases hb:Nat.beq k i
  ·have hne:k≠i:=fun e=>by subst e;simp at hb
   rw[cond_false,look_startHeap os (k+1) i]
   by_cases h1:k≤i
   ·rw[if_pos h1,if_pos (by omega),show i-k=(i-(k+1))+1 by omega];simp
   ·rw[if_neg h1,if_neg (by omega)]
  ·have:=zB hb;subst this;simp
theorem hOf_eq (os:List Obj) (i:Nat):hOf os i=(os[i]?).map some:=by
 have:=look_startHeap os 0 i
 simpa using this
theorem idxOf_get:∀ {ids:List Nat} {j i:Nat},idxOf ids j=some i→ids[i]? = some j
 | [],j,i,h=>by simp[idxOf]at h
 |a::l,j,i,h=>by
  simp only[idxOf]at h
  cases hb:Nat.beq a j
  ·rw[hb]at h;simp only[cond_false,Option.map_eq_some_iff]at h;obtain⟨k,hk,rfl⟩:=h
   simpa using idxOf_get hk
  ·rw[hb]at h;simp only[cond_true,Option.some.injEq]at h;subst h
   simpa using zB hb
theorem nodupN_iff:∀ {l:List Nat},nodupN l=true↔l.Nodup
 | []=>by simp[nodupN]
 |a::l=>by
  simp only[nodupN,Bool.and_eq_true,Bool.not_eq_true',List.nodup_cons,nodupN_iff (l:=l)]
  constructor
  ·rintro ⟨h1,h2⟩;exact⟨fun hm=>(by rw[elemNat_iff.2 hm]at h1;cases h1),h2⟩
  ·rintro ⟨h1,h2⟩;refine⟨?_,h2⟩
   cases hb:elemNat a l
   ·rfl
   ·exact absurd (elemNat_iff.1 hb) h1
theorem nodup_inj {l:List Nat} (hn:l.Nodup) {i j k:Nat} (hi:l[i]? = some k) (hj:l[j]? = some k):i=j:=by
 have hi':i<l.length:=by
  rcases Nat.lt_or_ge i l.length with h | h
  ·exact h
  ·rw[getElem?_eq_none h]at hi;cases hi
 exact(List.getElem?_inj hi' hn).1 (hi.trans hj.symm)
theorem mapM_rel {α γ:Type} {f:α→Option γ}:∀ {l:List α} {m:List γ},l.mapM f=some m→All2 (fun x y=>f x=some y) l m
 | [],m,h=>by simp at h;subst h;exact .nil
 |a::l,m,h=>by
  simp only[List.mapM_cons,Option.bind_eq_bind,Option.bind_eq_some_iff,Option.pure_def,Option.some.injEq]at h;obtain⟨b,h1,m',h2,rfl⟩:=h;exact .cons h1 (mapM_rel h2)
theorem ren_repC {w:World} {F:Nat→Prop} {h h':HF} {β β':Nat→Value} {ρ:Nat→Option Nat}
  (hr:∀i q j,h i=some q→ρ i=some j→(∃q',h' j=some q')∧∀o',h' j=some (some o')→(∃o,q=some o)∧β' j=β i) {c:C} {u:Value} (hc:RepC w F h β c u):RepC w F h' β' (c.ren ρ) u:=by
 cases c with
 |r x=>exact hc
 |own i =>
  obtain⟨h1,⟨q,hq⟩,h3⟩:=hc;simp only[C.ren]
  split
  ·rename_i j hj;obtain⟨p1,p2⟩:=hr i q j hq hj;refine⟨h1,p1,fun o ho => ?_⟩;obtain⟨⟨o',rfl⟩,e⟩:=p2 o ho;rw[e];exact h3 o' hq
  ·exact h1
 |ptr i off =>
  obtain⟨h1,⟨q,hq⟩,h3⟩:=hc;simp only[C.ren]
  split
  ·rename_i j hj;obtain⟨p1,p2⟩:=hr i q j hq hj;refine⟨h1,p1,fun o ho => ?_⟩;obtain⟨⟨o',rfl⟩,e⟩:=p2 o ho;rw[e];exact h3 o' hq
  ·exact h1
 |eptr i sz k off =>
  obtain⟨h1,⟨q,hq⟩,h3⟩:=hc;simp only[C.ren]
  split
  ·rename_i j hj;obtain⟨p1,p2⟩:=hr i q j hq hj;refine⟨h1,p1,fun o ho => ?_⟩;obtain⟨⟨o',rfl⟩,e⟩:=p2 o ho;rw[e];exact h3 o' hq
  ·exact h1
 |win i sz k =>
  obtain⟨h1,⟨q,hq⟩,h3⟩:=hc;simp only[C.ren]
  split
  ·rename_i j hj;obtain⟨p1,p2⟩:=hr i q j hq hj;refine⟨h1,p1,fun o ho => ?_⟩;obtain⟨⟨o',rfl⟩,e⟩:=p2 o ho;rw[e];exact h3 o' hq
  ·exact h1
 |slf i =>
  obtain⟨h1,⟨q,hq⟩,h3⟩:=hc;simp only[C.ren]
  split
  ·rename_i j hj;obtain⟨p1,p2⟩:=hr i q j hq hj;refine⟨h1,p1,fun o ho => ?_⟩;obtain⟨⟨o',rfl⟩,e⟩:=p2 o ho;rw[e];exact h3 o' hq
  ·exact h1
 |dsl i p =>
  obtain⟨h1,⟨q,hq⟩,h3⟩:=hc;simp only[C.ren]
  split
  ·rename_i j hj;obtain⟨p1,p2⟩:=hr i q j hq hj;refine⟨h1,p1,fun o ho => ?_⟩;obtain⟨⟨o',rfl⟩,e⟩:=p2 o ho;rw[e];exact h3 o' hq
  ·exact h1
 |dptr i p sz k off =>
  obtain⟨h1,⟨q,hq⟩,h3⟩:=hc;simp only[C.ren]
  split
  ·rename_i j hj;obtain⟨p1,p2⟩:=hr i q j hq hj;refine⟨h1,p1,fun o ho => ?_⟩;obtain⟨⟨o',rfl⟩,e⟩:=p2 o ho;rw[e];exact h3 o' hq
  ·exact h1
 |fn f l =>
  obtain⟨h1,h2,h3⟩:=hc;simp only[C.ren]
  split
  ·rename_i l' hl;have hm:=mapM_rel hl;refine⟨h1,fun j hj => ?_,fun hall => ?_⟩
   ·obtain ⟨k,hk⟩:=List.getElem?_of_mem hj;obtain⟨i,hi,hij⟩:=hm.getR hk;obtain⟨q,hq⟩:=h2 i (List.mem_of_getElem? hi);exact(hr i q j hq hij).1
   ·have key:∀ {l l':List Nat},All2 (fun x y=>ρ x=some y) l l'→(∀i∈l,∃q,h i=some q)→(∀j∈l',∃o,h' j=some (some o))→(∀i∈l,∃o,h i=some (some o))∧l'.map β'=l.map β:=by
     intro l l' hh
     induction hh with
     |nil=>intro _ _;exact ⟨fun i hi=>by simp at hi,rfl⟩
     | @cons i j l l' hij _ ih =>
      intro hp hal;obtain⟨q,hq⟩:=hp i (mem_cons_self ..);obtain⟨o,ho⟩:=hal j (mem_cons_self ..);obtain⟨⟨o',rfl⟩,e⟩:=(hr i q j hq hij).2 o ho;obtain⟨g1,g2⟩:=ih (fun i hi=>hp i (mem_cons_of_mem _ hi)) (fun j hj=>hal j (mem_cons_of_mem _ hj));refine⟨fun k hk => ?_,by rw[List.map_cons,List.map_cons,e,g2]⟩;rcases List.mem_cons.1 hk with rfl | hk
      ·exact ⟨o',hq⟩
      ·exact g1 k hk
    obtain⟨g1,g2⟩:=key hm h2 hall;rw[h3 g1,g2]
  ·exact h1
 |junk=>exact hc
theorem ren_repD {w:World} {F:Nat→Prop} {h h':HF} {β β':Nat→Value} {ρ:Nat→Option Nat}
  (hr:∀i q j,h i=some q→ρ i=some j→(∃q',h' j=some q')∧∀o',h' j=some (some o')→(∃o,q=some o)∧β' j=β i) {d:D} {u:Value} (hd:RepD w F h β d u):RepD w F h' β' (d.ren ρ) u:=by
 cases d with
 |one c=>exact ren_repC hr hd
 |agg cs=>obtain ⟨us,e,hh⟩:=hd;exact ⟨us,e,All2.map_l.2 (hh.mono fun _ _=>ren_repC hr)⟩
theorem ren_repX {tm:Array Value} {w:World} {F:Nat→Prop} {h h':HF} {β β':Nat→Value} {ρ:Nat→Option Nat}
  (hr:∀i q j,h i=some q→ρ i=some j→(∃q',h' j=some q')∧∀o',h' j=some (some o')→(∃o,q=some o)∧β' j=β i) {x:T} {u:Value} (hx:RepX tm w F h β x u):RepX tm w F h' β' (x.ren ρ) u:=by
 cases x with
 |d d=>exact ren_repD hr hx
 |tup xs=>obtain ⟨us,e,hh⟩:=hx;exact ⟨us,e,All2.map_l.2 (hh.mono fun _ _=>ren_repD hr)⟩
 |when s b d=>exact ⟨fun e=>ren_repD hr (hx.1 e),hx.2⟩
 |nilq n=>exact hx
 |und=>exact hx
 |unk=>trivial
theorem ren_repO {w:World} {F:Nat→Prop} {h h':HF} {β β':Nat→Value} {ρ:Nat→Option Nat}
  (hr:∀i q j,h i=some q→ρ i=some j→(∃q',h' j=some q')∧∀o',h' j=some (some o')→(∃o,q=some o)∧β' j=β i) {i j:Nat} (e:β' j=β i) {o:Obj} (ho:RepO w F h β i o):RepO w F h' β' j (o.ren ρ):=by
 cases o with
 |box t cs =>
  obtain⟨b,us,h1,h2,h3⟩:=ho;exact⟨b,us,e.trans h1,h2,All2.map_l.2 (h3.mono fun _ _=>ren_repC hr)⟩
 |arr t sz n get =>
  rcases ho with⟨x,h1,h2⟩ | ⟨b,cap,cur,h1,rest⟩
  ·exact .inl ⟨x,e.trans h1,h2⟩
  ·exact .inr ⟨b,cap,cur,e.trans h1,rest⟩
 |lis t x l =>
  rcases ho with⟨x,h1,h2⟩ | ⟨b,cap,cur,h1,rest⟩
  ·exact .inl ⟨x,e.trans h1,h2⟩
  ·exact .inr ⟨b,cap,cur,e.trans h1,rest⟩
 |map k x m =>
  obtain⟨b,es,clock,h1,rest⟩:=ho;exact⟨b,es,clock,e.trans h1,rest⟩
 |deep ts x l =>
  obtain⟨h0,h1,h2⟩:=ho;exact⟨h0,by rw[e];exact h1,by rw[e];exact h2⟩
theorem renUps_mem {ρ:Nat→Option Nat}:∀ {objs:Heap} {ups:Ups},renUps ρ objs=some ups→All2 (fun (p:Nat×Option Obj) (r:Nat×Option Obj)=>ρ p.1=some r.1∧r.2=p.2.map (Obj.ren ρ)) objs ups
 | [],ups,h=>by simp[renUps]at h;subst h;exact .nil
 | (i,o)::l,ups,h=>by
  simp only[renUps]at h
  split at h
  ·rename_i j r e1 e2
   cases h
   exact .cons ⟨e1,rfl⟩ (renUps_mem e2)
  ·cases h
theorem look_ren {ρ:Nat→Option Nat}:∀ {objs:Heap} {ups:Ups},All2 (fun (p:Nat×Option Obj) (r:Nat×Option Obj)=>ρ p.1=some r.1∧r.2=p.2.map (Obj.ren ρ)) objs ups →
  (∀i k j,(∃q,look objs i=some q)→(∃q,look objs k=some q)→ρ i=some j→ρ k=some j→i=k) →
  (∀i q j,look objs i=some q→ρ i=some j→look ups j=some (q.map (Obj.ren ρ)))∧(∀j q',look ups j=some q'→∃i q,look objs i=some q∧ρ i=some j∧q'=q.map (Obj.ren ρ))
 |_,_, .nil,_=>⟨fun i q j h=>by simp[look]at h,fun j q' h=>by simp[look]at h⟩
 |_,_, .cons (a:=p) (b:=r) (l:=l) (m:=m) hpr hrest,hinj=>by
  obtain⟨i0,q0⟩:=p;obtain⟨j0,r0⟩:=r;obtain⟨h1,h2⟩:=hpr;simp only at h1 h2;have hsub:∀i,(∃q,look l i=some q)→∃q,look ((i0,q0)::l) i=some q:=fun i ⟨q,hq⟩=>by
   simp only[look]
   cases Nat.beq i0 i
   ·exact ⟨q,hq⟩
   ·exact ⟨q0,rfl⟩
  obtain⟨ihA,ihB⟩:=look_ren hrest fun i k j hi hk=>hinj i k j (hsub i hi) (hsub k hk);have h0:∃q,look ((i0,q0)::l) i0=some q:=⟨q0,by simp[look]⟩;refine⟨fun i q j hi hj => ?_,fun j q' hj => ?_⟩
  ·simp only[look]at hi ⊢
   cases hb:Nat.beq i0 i
   ·rw[hb]at hi;simp only[cond_false]at hi;have:Nat.beq j0 j=false:=by
     cases hb':Nat.beq j0 j
     ·rfl
     ·have e:=zB hb';have:=hinj i0 i j0 h0 (hsub i ⟨q,hi⟩) h1 (by rw[e];exact hj);subst this;simp at hb
    rw[this];exact ihA i q j hi hj
   ·rw[hb]at hi;simp only[cond_true,Option.some.injEq]at hi;have e:=zB hb;subst e;rw[h1]at hj
    cases hj
    simp[h2,hi]
  ·simp only[look]at hj
   cases hb:Nat.beq j0 j
   ·rw[hb]at hj;simp only[cond_false]at hj;obtain⟨i,q,g1,g2,g3⟩:=ihB j q' hj;refine⟨i,q, ?_,g2,g3⟩;simp only[look]
    cases hb':Nat.beq i0 i
    ·exact g1
    ·have e:=zB hb';subst e;rw[h1]at g2
     cases g2
     simp at hb
   ·rw[hb]at hj;simp only[cond_true,Option.some.injEq]at hj;have e:=zB hb;subst e;exact⟨i0,q0,by simp[look],h1,by rw[← hj,h2]⟩
section
variable {P:Program} {w0 w:World} {O0 F0 F:Nat→Prop} {h:HF} {β:Nat→Value}
theorem callee_inv (H:Inv w0 O0 F0 w F h β) {ids:List Nat} {os:List Obj} (hn:ids.Nodup) (hos:All2 (fun o i=>h i=some (some o)) os ids) :
  (∀i q j,h i=some q→idxOf ids i=some j→(∃q',hOf (os.map (Obj.ren (idxOf ids))) j=some q')∧∀o',hOf (os.map (Obj.ren (idxOf ids))) j=some (some o')→(∃o,q=some o)∧(fun k=>β (ids.getD k 0)) j=β i) ∧
  Inv w (Own (hOf (os.map (Obj.ren (idxOf ids)))) fun k=>β (ids.getD k 0)) F w F (hOf (os.map (Obj.ren (idxOf ids)))) (fun k=>β (ids.getD k 0)):=by
 have hlen:=hos.len;have hat:∀k o',hOf (os.map (Obj.ren (idxOf ids))) k=some (some o')→∃o i,os[k]? = some o∧ids[k]? = some i∧o'=o.ren (idxOf ids)∧h i=some (some o)∧ids.getD k 0=i:=fun k o' hk=>by
  rw[hOf_eq,List.getElem?_map]at hk
  cases ho:os[k]? with
  |none=>simp[ho]at hk
  |some o =>
   simp[ho]at hk;obtain⟨i,hi,hh⟩:=hos.get ho;exact⟨o,i,rfl,hi,hk.symm,hh,by simp[getD,hi]⟩
 have hr:∀i q j,h i=some q→idxOf ids i=some j→(∃q',hOf (os.map (Obj.ren (idxOf ids))) j=some q')∧∀o',hOf (os.map (Obj.ren (idxOf ids))) j=some (some o')→(∃o,q=some o)∧(fun k=>β (ids.getD k 0)) j=β i:=fun i q j hi hj=>by
  have hg:=idxOf_get hj;obtain⟨o,ho,hh⟩:=hos.getR hg;rw[hi]at hh
  cases hh
  refine⟨⟨some (o.ren (idxOf ids)),by rw[hOf_eq,List.getElem?_map,ho];rfl⟩,fun o' _=>⟨⟨o,rfl⟩,by simp[getD,hg]⟩⟩
 refine⟨hr,⟨fun k o' hk => ?_,fun k l o o' b hk hl hbk hbl => ?_,fun k o b hk hb => ?_,H.low,rfl,rfl,rfl,Nat.le_refl _,fun _ _ _=>rfl,fun k o b hk hb => .inl ⟨k,o,hk,hb⟩,fun b hb => .inl hb,fun _ hb=>hb⟩⟩
 ·obtain ⟨o,i,h1,h2,rfl,h4,h5⟩:=hat k o' hk;exact ren_repO hr (by show β (ids.getD k 0)=β i;rw[h5]) (H.obj i o h4)
 ·obtain ⟨o1,i,h1,h2,_,h4,h5⟩:=hat k o hk;obtain⟨o2,j,g1,g2,_,g4,g5⟩:=hat l o' hl;simp only[h5]at hbk;simp only[g5]at hbl;have:=H.apart i j o1 o2 b h4 g4 hbk hbl;subst this;exact nodup_inj hn h2 g2
 ·obtain ⟨o1,i,h1,h2,_,h4,h5⟩:=hat k o hk;simp only[h5]at hb;exact H.notF i o1 b h4 hb
theorem caller_inv (H:Inv w0 O0 F0 w F h β) {ids:List Nat} {os:List Obj} (hn:ids.Nodup) (hl1000:ids.length≤1000) (hos:All2 (fun o i=>h i=some (some o)) os ids) {t:Nat} {objs:Heap} {ups:Ups}
  (hups:renUps (backTo ids t) objs=some ups) (hnew:∀j q,(j,q)∈ups→isNew t j=true→h j=none) {w':World} {F':Nat→Prop} {βq:Nat→Value}
  (HC:Inv w (Own (hOf (os.map (Obj.ren (idxOf ids)))) fun k=>β (ids.getD k 0)) F w' F' (look objs) βq)
  (hall:∀i,i<os.length→∃q,look objs i=some q) (hkeep:∀i o,i<os.length→look objs i=some (some o)→βq i=β (ids.getD i 0)) {tm:Array Value} {x:T} {v:Value} (hx:RepX tm w' F' (look objs) βq x v) :
  Out w0 O0 F0 w F h β tm ups (x.ren (backTo ids t)) v w':=by
 have hlen:=hos.len
 -- ids of the callee's that are known
 have hpast:∀ {i j},backTo ids t i=some j→i<1000→ids[i]? = some j:=fun {i j} hb hi=>by
  have:Nat.blt i 1000=true:=by simpa using hi
  simpa [backTo,this]using hb
 have hback:∀ {i j},ids[i]? = some j→backTo ids t i=some j:=fun {i j} hi=>by
  have hlt:i<ids.length:=by
   rcases Nat.lt_or_ge i ids.length with h1 | h1
   ·exact h1
   ·rw[getElem?_eq_none h1]at hi;cases hi
  have:Nat.blt i 1000=true:=by simp;omega
  simp[backTo,this,hi]
 have hfut:∀ {i j},backTo ids t i=some j→¬i<1000→isNew t j=true∧j=sid t (i-1000):=fun {i j} hb hi=>by
  have h1:Nat.blt i 1000=false:=by
   cases hh:Nat.blt i 1000
   ·rfl
   ·exact absurd (by simpa using hh) hi
  simp only[backTo,h1,cond_false]at hb
  cases h2:Nat.blt i 1064 with
  |false=>simp[h2]at hb
  |true =>
   simp only[h2,cond_true,Option.some.injEq]at hb;have h2':i<1064:=by simpa using h2
   exact⟨by rw[← hb];exact sid_new t _ (by omega),hb.symm⟩
 have halive:∀ {i j},ids[i]? = some j→∃o,os[i]? = some o∧h j=some (some o):=fun {i j} hi=>by
  obtain⟨o,ho,hh⟩:=hos.getR hi;exact⟨o,ho,hh⟩
 have hmem:=renUps_mem hups;have hmemNew:∀i j,(∃q,look objs i=some q)→backTo ids t i=some j→¬i<1000→h j=none:=fun i j ⟨q,hq⟩ hb hi=>by
  have:∀ {objs:Heap} {ups:Ups},All2 (fun (p:Nat×Option Obj) (r:Nat×Option Obj)=>backTo ids t p.1=some r.1∧r.2=p.2.map (Obj.ren (backTo ids t))) objs ups→∀q,look objs i=some q→∃q',(j,q')∈ups:=by
   intro objs ups hh
   induction hh with
   |nil=>intro q hq;simp[look]at hq
   | @cons p r l m h1 _ ih =>
    intro q hq;simp only[look]at hq
    cases hb':Nat.beq p.1 i
    ·rw[hb']at hq;obtain⟨q',hq'⟩:=ih q hq;exact⟨q',mem_cons_of_mem _ hq'⟩
    ·have e:=zB hb';rw[e,hb]at h1;refine⟨r.2, ?_⟩;have e2:j=r.1:=Option.some.inj h1.1;rw[e2];exact mem_cons_self ..
  obtain⟨q',hq'⟩:=this hmem q hq;exact hnew j q' hq' (hfut hb hi).1
 have hinj:∀i k j,(∃q,look objs i=some q)→(∃q,look objs k=some q)→backTo ids t i=some j→backTo ids t k=some j→i=k:=fun i k j hi hk h1 h2=>by
  by_cases e1:i<1000
  ·by_cases e2:k<1000
   ·exact nodup_inj hn (hpast h1 e1) (hpast h2 e2)
   ·obtain ⟨o,_,ho⟩:=halive (hpast h1 e1);have:=hmemNew k j hk h2 e2;rw[ho]at this;cases this
  ·by_cases e2:k<1000
   ·obtain ⟨o,_,ho⟩:=halive (hpast h2 e2);have:=hmemNew i j hi h1 e1;rw[ho]at this;cases this
   ·have g1:=(hfut h1 e1).2;have g2:=(hfut h2 e2).2;simp only[sid]at g1 g2;omega
 obtain⟨hA,hB⟩:=look_ren hmem hinj
 -- the caller's addresses
 let βn:Nat→Value:=fun j=>open Classical in if hj:∃i,(∃q,look objs i=some q)∧backTo ids t i=some j then βq (Classical.choose hj)else β j
 have hβ:∀ {i j q},look objs i=some q→backTo ids t i=some j→βn j=βq i:=fun {i j q} hi hj=>by
  have hex:∃i,(∃q,look objs i=some q)∧backTo ids t i=some j:=⟨i,⟨q,hi⟩,hj⟩;have hc:=Classical.choose_spec hex;simp only[βn,dif_pos hex];rw[hinj _ _ _ hc.1 ⟨q,hi⟩ hc.2 hj]
 have hβ0:∀ {j},look ups j=none→βn j=β j:=fun {j} hj=>by
  simp only[βn];rw[dif_neg];rintro⟨i,⟨q,hi⟩,hij⟩;rw[hA i q j hi hij]at hj
  cases hj
 have hup:∀j,upd ups h j=match look ups j with | some q=>some q | none=>h j:=fun _=>rfl
 have hr:∀i q j,look objs i=some q→backTo ids t i=some j→(∃q',upd ups h j=some q')∧∀o',upd ups h j=some (some o')→(∃o,q=some o)∧βn j=βq i:=fun i q j hi hj=>by
  have:=hA i q j hi hj;refine⟨⟨_,by rw[hup,this]⟩,fun o' ho' => ?_⟩;rw[hup,this]at ho';simp only[Option.some.injEq,Option.map_eq_some_iff]at ho';obtain⟨o,rfl,_⟩:=ho';exact⟨⟨o,rfl⟩,hβ hi hj⟩
 -- blocks that the callee owned are the caller's
 have hOc:∀b,Own (hOf (os.map (Obj.ren (idxOf ids)))) (fun k=>β (ids.getD k 0)) b→∃i o k,h i=some (some o)∧Blk (β i) b∧ids[k]? = some i:=fun b ⟨k,o',hk,hb⟩=>by
  rw[hOf_eq,List.getElem?_map]at hk
  cases ho:os[k]? with
  |none=>simp[ho]at hk
  |some o =>
   obtain⟨i,hi,hh⟩:=hos.get ho;have e:ids.getD k 0=i:=by simp[getD,hi]
   simp only[e]at hb;exact⟨i,o,k,hh,hb,hi⟩
 have hseen:∀ {k i},ids[k]? = some i→∃q,look ups i=some q:=fun {k i} hk=>by
  have hlt:k<ids.length:=by
   rcases Nat.lt_or_ge k ids.length with h1 | h1
   ·exact h1
   ·rw[getElem?_eq_none h1]at hk;cases hk
  obtain⟨q,hq⟩:=hall k (by omega);exact⟨_,hA k q i hq (hback hk)⟩
 have Pr:Per w F h β w' F' (upd ups h) βn:=by
  refine⟨fun b hb=>HC.kept b (H.low b hb) fun ho => ?_,HC.inF,fun i q hi => ?_,fun i q o hi ho => ?_⟩
  ·obtain ⟨i,o,k,h1,h2,_⟩:=hOc b ho;exact H.notF i o b h1 h2 hb
  ·rw[hup]
   cases look ups i with
   |some q'=>exact ⟨q',rfl⟩
   |none=>exact ⟨q,hi⟩
  ·rw[hup]at ho
   cases hu:look ups i with
   |some q' =>
    rw[hu]at ho;simp only[Option.some.injEq]at ho;subst ho;obtain⟨k,q0,g1,g2,g3⟩:=hB i _ hu
    cases q0 with
    |none=>cases g3
    |some o0 =>
     by_cases e1:k<1000
     ·have hk:=hpast g2 e1;obtain⟨o1,ho1,hh⟩:=halive hk;rw[hi]at hh
      cases hh
      have hlt:k<os.length:=by
       rcases Nat.lt_or_ge k os.length with h1 | h1
       ·exact h1
       ·rw[getElem?_eq_none h1]at ho1;cases ho1
      refine⟨⟨o1,rfl⟩, ?_⟩;rw[hβ g1 g2,hkeep k o0 hlt g1];simp[getD,hk]
     ·have:=hmemNew k i ⟨_,g1⟩ g2 e1;rw[hi]at this;cases this
   |none =>
    rw[hu]at ho;rw[hi]at ho
    cases ho
    exact⟨⟨o,rfl⟩,hβ0 hu⟩
 have hold:∀i o,look ups i=none→h i=some (some o)→∀b,Blk (β i) b→b<w.heap.size∧¬Own (hOf (os.map (Obj.ren (idxOf ids)))) (fun k=>β (ids.getD k 0)) b:=fun i o hu hi b hb=>by
  refine⟨blk_lt (H.obj i o hi) hb,fun ho => ?_⟩;obtain⟨j,o',k,h1,h2,h3⟩:=hOc b ho;have:=H.apart i j o o' b hi h1 hb h2;subst this;obtain⟨q,hq⟩:=hseen h3;rw[hu]at hq;cases hq
 have hsplit:∀i o,upd ups h i=some (some o)→(∃k o0,look objs k=some (some o0)∧backTo ids t k=some i∧o=o0.ren (backTo ids t)∧βn i=βq k)∨(look ups i=none∧h i=some (some o)∧βn i=β i):=fun i o hi=>by
  rw[hup]at hi
  cases hu:look ups i with
  |some q' =>
   rw[hu]at hi;simp only[Option.some.injEq]at hi;subst hi;obtain⟨k,q0,g1,g2,g3⟩:=hB i _ hu
   cases q0 with
   |none=>cases g3
   |some o0=>exact .inl ⟨k,o0,g1,g2,by simpa using g3,hβ g1 g2⟩
  |none=>rw[hu]at hi;exact .inr ⟨rfl,hi,hβ0 hu⟩
 refine⟨F',βn,⟨fun i o hi => ?_,fun i j o o' b hi hj hbi hbj => ?_,fun i o b hi hb hf => ?_,HC.low,HC.os.trans H.os,HC.tape.trans H.tape,HC.output.trans H.output,Nat.le_trans H.size HC.size,fun k hk ho => ?_,fun i o b hi hb => ?_,fun b hb => ?_,fun b hb=>HC.inF b (H.inF b hb)⟩,Pr,ren_repX hr hx⟩
 ·rcases hsplit i o hi with⟨k,o0,g1,g2,rfl,g4⟩ | ⟨g1,g2,g3⟩
  ·exact ren_repO hr g4 (HC.obj k o0 g1)
  ·exact Pr.repO (fun b hb=>HC.kept b (hold i o g1 g2 b hb).1 (hold i o g1 g2 b hb).2) g3 (H.obj i o g2)
 ·rcases hsplit i o hi with⟨k,o0,g1,g2,_,g4⟩ | ⟨g1,g2,g3⟩
  ·rw[g4]at hbi;rcases hsplit j o' hj with⟨l,o1,f1,f2,_,f4⟩ | ⟨f1,f2,f3⟩
   ·rw[f4]at hbj;have:=HC.apart k l o0 o1 b g1 f1 hbi hbj;subst this;rw[g2]at f2;exact Option.some.inj f2
   ·rw[f3]at hbj;obtain⟨q1,q2⟩:=hold j o' f1 f2 b hbj;rcases HC.fromO k o0 b g1 hbi with h1 | h1
    ·exact absurd h1 q2
    ·omega
  ·rw[g3]at hbi;obtain⟨q1,q2⟩:=hold i o g1 g2 b hbi;rcases hsplit j o' hj with⟨l,o1,f1,f2,_,f4⟩ | ⟨f1,f2,f3⟩
   ·rw[f4]at hbj;rcases HC.fromO l o1 b f1 hbj with h1 | h1
    ·exact absurd h1 q2
    ·omega
   ·rw[f3]at hbj;exact H.apart i j o o' b g2 f2 hbi hbj
 ·rcases hsplit i o hi with⟨k,o0,g1,g2,_,g4⟩ | ⟨g1,g2,g3⟩
  ·rw[g4]at hb;exact HC.notF k o0 b g1 hb hf
  ·rw[g3]at hb;obtain⟨q1,q2⟩:=hold i o g1 g2 b hb;rcases HC.fromF b hf with h1 | h1 | h1
   ·exact H.notF i o b g2 hb h1
   ·exact q2 h1
   ·omega
 ·rw[HC.kept k (Nat.lt_of_lt_of_le hk H.size) fun hoc => ?_]
  ·exact H.kept k hk ho
  ·obtain ⟨i,o,_,h1,h2,_⟩:=hOc k hoc;rcases H.fromO i o k h1 h2 with h3 | h3
   ·exact ho h3
   ·omega
 ·rcases hsplit i o hi with⟨k,o0,g1,g2,_,g4⟩ | ⟨g1,g2,g3⟩
  ·rw[g4]at hb;rcases HC.fromO k o0 b g1 hb with h1 | h1
   ·obtain ⟨i',o',_,h1,h2,_⟩:=hOc b h1;exact H.fromO i' o' b h1 h2
   ·exact .inr (Nat.le_trans H.size h1)
  ·rw[g3]at hb;exact H.fromO i o b g2 hb
 ·rcases HC.fromF b hb with h1 | h1 | h1
  ·exact H.fromF b h1
  ·obtain ⟨i',o',_,h1,h2,_⟩:=hOc b h1;rcases H.fromO i' o' b h1 h2 with h3 | h3
   ·exact .inr (.inl h3)
   ·exact .inr (.inr h3)
  ·exact .inr (.inr (Nat.le_trans H.size h1))
end
end Go.Proofs.YtkhhclpkljikkaaDoor.Ev
/-
 Calls,and all operations together.
-/
namespace Go.Proofs.YtkhhclpkljikkaaDoor.Ev
open Go
open List (length length_append length_cons length_singleton length_replicate length_set length_take length_drop mem_cons_of_mem mem_cons_self getD replicate mem_append_left mem_append_right all_eq_true drop_eq_getElem_cons drop_eq_nil_of_le append_assoc mem_singleton getElem?_append_left getElem?_append_right getElem?_eq_none getElem?_take mem_append)
def CallsX (P:Program) (f:FuncId) (args:Array Value) (w:World) (R:Ending→World→Prop):Prop :=
 ((callFunc f args).run P w = .ok (.enter f args) w∧Calls P f args w R)∨∃v w',(callFunc f args).run P w = .ok (.value v) w'∧R (.returned v) w'
theorem CallsX.mono {P:Program} {f:FuncId} {args:Array Value} {w:World} {R R':Ending→World→Prop} (h:CallsX P f args w R) (hr:∀e w',R e w'→R' e w'):CallsX P f args w R':=by
 rcases h with⟨h1,h2⟩ | ⟨v,w',h1,h2⟩
 ·exact .inl ⟨h1,h2.mono hr⟩
 ·exact .inr ⟨v,w',h1,hr _ _ h2⟩
def SatX (P:Program) (f:FuncId) (ds:List D) (os:List Obj) (x:T) (objs:Heap):Prop :=
 ∀(w:World) (F:Nat→Prop) (β:Nat→Value) (args:List Value),
  Inv w (Own (hOf os) β) F w F (hOf os) β→All2 (RepD w F (hOf os) β) ds args →
  CallsX P f args.toArray w fun e w'=>∃v F' β',e = .returned v∧Inv w (Own (hOf os) β) F w' F' (look objs) β' ∧
   (∀i,i<os.length→∃q,look objs i=some q)∧(∀i o,i<os.length→look objs i=some (some o)→β' i=β i)∧(∀s b d,x ≠ .when s b d)∧RepX #[] w' F' (look objs) β' x v
def EnvOk (P:Program) (Γ:Env):Prop:=∀f con,Γ f=some con →
 ∀ds os c x objs,con.f ds os=some (c,x,objs)→(c=none∨c=some true)→SatX P f ds os x objs
section
variable {P:Program} {TT:Types} {w0 w:World} {O0 F0 F:Nat→Prop} {h:HF} {β:Nat→Value} {a:Act} {o:Oper} {K:Act→World→Prop} {Q:Exit→Act→World→Prop} {x:T} {v:Value}
theorem closure_pres (H:Inv w0 O0 F0 w F h β) {hh:Nat→Option Obj} (hhh:∀i ob,hh i=some ob→h i=some (some ob)):∀(k:Nat) (l:List Nat),(∀i∈l,∃q,h i=some q)→∀i∈closure hh k l,∃q,h i=some q
 |0,_,hl,i,hi=>hl i hi
 |k+1,l,hl,i,hi=>closure_pres H hhh k _ (fun j hj=>by
   rcases mem_addNew.1 hj with hj | hj
   ·exact hl j hj
   ·obtain ⟨m,hm,hj⟩:=List.mem_flatMap.1 hj;unfold hget at hj
    split at hj
    ·rename_i ob hob;have:=H.obj m ob (hhh m ob hob)
     cases ob with
     |box t cs=>obtain ⟨b,us,_,_,hc⟩:=this;exact All2.pres hc j hj
     |arr=>simp[Obj.refs]at hj
     |lis=>simp[Obj.refs]at hj
     |map=>simp[Obj.refs]at hj
     |deep=>simp[Obj.refs]at hj
    ·simp at hj) i hi
theorem toR_D (H:Inv w0 O0 F0 w F h β) {hh:Nat→Option Obj} (hhh:∀i ob,hh i=some ob→h i=some (some ob)) {F':Nat→Prop} (hF:∀b,F b→F' b) {l:List Nat}
  (hb:∀i∈closure hh 3 l,∀o b,h i=some (some o)→Blk (β i) b→F' b) {d d':D} {u:Value} (hd:RepD w F h β d u) (ht:d.toR hh=some d') (hl:∀i∈d.refs,i∈l) (h':HF) (β':Nat→Value):RepD w F' h' β' d' u:=by
 unfold D.toR at ht
 split at ht
 ·rename_i i off
  split at ht
  ·rename_i t cs hi;simp only[Option.map_eq_some_iff]at ht;obtain⟨rs,h1,rfl⟩:=ht;have hi':=hhh _ _ hi;obtain⟨b,e1,e2⟩:=hd.2.2 _ hi';obtain⟨b',us,e3,e4,e5⟩:=H.obj _ _ hi';rw[e1]at e3
   cases e3
   have hil:i∈l:=hl i (by simp[D.refs,D.cells,C.refs]);have hro:=allR_sound H hhh hF (e5.drop off) h1 fun k hk o' b' g1 g2=>hb k (closure_step hh 2 l i k hil (by
    simp only[hget,hi,Obj.refs];obtain⟨c,hc,hk⟩:=List.mem_flatMap.1 hk;exact List.mem_flatMap.2 ⟨c,List.mem_of_mem_drop hc,hk⟩)) o' b' g1 g2
   refine⟨b,off,e2,hb i (closure_self hh 3 l i hil) _ b hi' (by rw[e1];exact Blk_pointer.2 rfl),fun j hj => ?_⟩;obtain⟨y,hy,hr⟩:=hro.get (j:=j) (x:=rs.getD j z0) (by simp[getD,List.getElem?_eq_getElem hj]);refine⟨y, ?_,hr⟩;rw[e4.cell];rw[List.getElem?_drop]at hy
   simpa using hy
  ·cases ht
 ·cases ht
  exact⟨hd.1,fun i hi=>by simp at hi,fun _=>by have:=hd.2.2 (fun i hi=>by simp at hi);simpa using this⟩
 ·simp only[Option.map_eq_some_iff]at ht;obtain⟨r,h1,rfl⟩:=ht;exact toR_sound H hhh hF hd h1 fun i hi o' b g1 g2=>hb i (closure_self hh 3 l i (hl i (by simpa [D.refs,D.cells]using hi))) o' b g1 g2
 ·simp only[Option.map_eq_some_iff]at ht;obtain⟨rs,h1,rfl⟩:=ht;obtain⟨us,e1,e2⟩:=hd;have hro:=allR_sound H hhh hF e2 h1 fun i hi o' b g1 g2=>hb i (closure_self hh 3 l i (hl i (by simpa [D.refs,D.cells]using hi))) o' b g1 g2;exact⟨us,e1,All2.map_l.2 (hro.mono fun _ _ hr=>hr)⟩
theorem flat_rep {tm:Array Value} {w':World} {F':Nat→Prop} {h':HF} {β':Nat→Value} {y:T} {u:Value} (hy:y.flat=true) (hr:RepX tm w F h β y u):RepX tm w' F' h' β' y u:=by
 have hc:∀ {c:C} {u:Value},c.flat=true→RepC w F h β c u→RepC w' F' h' β' c u:=by
  intro c u hf hr;unfold C.flat at hf
  split at hf
  ·exact hr
  ·exact ⟨hr.1,fun i hi=>by simp at hi,fun _=>by have:=hr.2.2 (fun i hi=>by simp at hi);simpa using this⟩
  ·cases hf
 have hd:∀ {d:D} {u:Value},d.flat=true→RepD w F h β d u→RepD w' F' h' β' d u:=by
  intro d u hf hr
  cases d with
  |one c=>exact hc (by simpa [D.flat,D.cells]using hf) hr
  |agg cs =>
   obtain⟨us,e,hh⟩:=hr;refine⟨us,e,All2.of_get hh.len fun j c hj => ?_⟩;obtain⟨y,hy,hr⟩:=hh.get hj;have:c∈cs:=List.mem_of_getElem? hj;exact⟨y,hy,hc (by have:=all_eq_true.1 (show cs.all C.flat=true from hf) c this;exact this) hr⟩
 cases y with
 |d d=>exact hd hy hr
 |tup xs =>
  obtain⟨us,e,hh⟩:=hr;refine⟨us,e,All2.of_get hh.len fun j c hj => ?_⟩;obtain⟨y,hy',hr⟩:=hh.get hj;have:c∈xs:=List.mem_of_getElem? hj;exact⟨y,hy',hd (all_eq_true.1 (show xs.all D.flat=true from hy) c this) hr⟩
 |when s b d=>exact ⟨fun e=>hd hy (hr.1 e),hr.2⟩
 |nilq n=>exact hr
 |und=>exact hr
 |unk=>trivial
theorem Inv.grow (H:Inv w0 O0 F0 w F h β) {w':World} (hos:w'.os=w.os) (htape:w'.tape=w.tape) (hout:w'.output=w.output) (hsz:w.heap.size≤w'.heap.size) (hk:∀b,b<w.heap.size→w'.heap[b]? = w.heap[b]?) :
  Inv w0 O0 F0 w' F h β∧Per w F h β w' F h β:=by
 have Pr:Per w F h β w' F h β:=⟨fun b hb=>hk b (H.low b hb),fun _ hf=>hf,fun i q hi=>⟨q,hi⟩,fun i q o' hi ho=>by rw[hi]at ho;cases ho;exact ⟨⟨o',rfl⟩,rfl⟩⟩;exact⟨⟨fun i o' hi=>Pr.repO (fun b hb=>hk b (blk_lt (H.obj i o' hi) hb)) rfl (H.obj i o' hi),H.apart,H.notF,fun b hb=>Nat.lt_of_lt_of_le (H.low b hb) hsz,hos.trans H.os,htape.trans H.tape,hout.trans H.output,Nat.le_trans H.size hsz,
  fun k hk' ho=>(hk k (Nat.lt_of_lt_of_le hk' H.size)).trans (H.kept k hk' ho),H.fromO,H.fromF,H.inF⟩,Pr⟩
theorem flat_ty {w':World} {F':Nat→Prop}:∀ {t:Ty} {x:Den t},tyFlat t=true→∀r∈cellsR t x,∀u,Ro w F r u→Ro w' F' r u
 | .int k,n,_,r,hr,u,h=>by simp only[cellsR,mem_singleton]at hr;subst hr;exact h
 | .str,n,_,r,hr,u,h=>by simp only[cellsR,mem_singleton]at hr;subst hr;exact h
 | .bool,n,_,r,hr,u,h=>by simp only[cellsR,mem_singleton]at hr;subst hr;exact h
 | .list t,n,hf,_,_,_,_=>by cases hf
 | .pair a b,x,hf,r,hr,u,h=>by
  simp only[tyFlat,Bool.and_eq_true]at hf;simp only[cellsR,mem_append]at hr;rcases hr with hr | hr
  ·exact flat_ty hf.1 r hr u h
  ·exact flat_ty hf.2 r hr u h
 | .struct t,x,hf,r,hr,u,h=>flat_ty (t:=t) hf r hr u h
 | .unit,_,_,r,hr,u,h=>by simp[cellsR]at hr
 | .tree,_,hf,_,_,_,_=>by cases hf
 | .map _ _,_,hf,_,_,_,_=>by cases hf
 | .ref _,_,hf,_,_,_,_=>by cases hf
theorem flat_L {w':World} {F':Nat→Prop} {t:Ty} {x:Den t} (hf:tyFlat t=true) {us:List Value} (h:RoL w F t x us):RoL w' F' t x us:=by
 refine RoL_cells.2 (All2.of_get (RoL_cells.1 h).len fun j r hj => ?_);obtain⟨y,hy,hr⟩:=(RoL_cells.1 h).get hj;exact⟨y,hy,flat_ty hf r (List.mem_of_getElem? hj) y hr⟩
theorem thin_leaf {F':Nat→Prop} {t:TypeId} {e:Ty} {l:List (Den e)} {v:Value} (hf:tyFlat e=true) (ho:LeafAt w F' t e l v):LeafAt w F t e l v:=by
 rcases ho with ho | ⟨b,cap,cur,h1,h2,h3,h4,h5,h6,h7⟩
 ·exact .inl ho
 ·refine .inr ⟨b,cap,cur,h1,h2,h3,h4,h5,h6,fun k hk j hj => ?_⟩;obtain⟨y,g1,g2⟩:=h7 k hk j hj;refine⟨y,g1, ?_⟩;unfold getL at g2 ⊢
  by_cases hlt:j<(cellsR e (l.getD k (dflt e))).length
  ·rw[zG,zE hlt]at g2 ⊢;exact flat_ty hf _ (List.getElem_mem hlt) _ g2
  ·rw[zG,getElem?_eq_none (by omega)]at g2 ⊢;exact g2
theorem thin_deep {F':Nat→Prop} {e:Ty}:∀ {ts:List TypeId} {l:List (Den e)} {sk:Value},tyNest e=true→DeepAt w F' e ts l sk→DeepAt w F e ts l sk:=by
 induction e with
 |list e ih =>
  rintro ts l sk hf ⟨t,ts',us,ad,cap,rfl,rfl,h1,h2,h3,h4,h5,h6⟩;refine⟨t,ts',us,ad,cap,rfl,rfl,h1,h2,h3,h4,h5,fun k hk => ?_⟩;obtain⟨s,g1,g2⟩:=h6 k hk;exact⟨s,g1,ih hf g2⟩
 |int k=>rintro ts l sk hf ⟨t,u,rfl,rfl,h⟩;exact ⟨t,u,rfl,rfl,thin_leaf hf h⟩
 |str=>rintro ts l sk hf ⟨t,u,rfl,rfl,h⟩;exact ⟨t,u,rfl,rfl,thin_leaf hf h⟩
 |bool=>rintro ts l sk hf ⟨t,u,rfl,rfl,h⟩;exact ⟨t,u,rfl,rfl,thin_leaf hf h⟩
 |pair a b _ _=>rintro ts l sk hf ⟨t,u,rfl,rfl,h⟩;exact ⟨t,u,rfl,rfl,thin_leaf hf h⟩
 |struct a _=>rintro ts l sk hf ⟨t,u,rfl,rfl,h⟩;exact ⟨t,u,rfl,rfl,thin_leaf hf h⟩
 |unit=>rintro ts l sk _ h;exact h
 |tree=>rintro ts l sk _ h;exact h
 |map k e _ _=>rintro ts l sk _ h;exact h
 |ref t _=>rintro ts l sk _ h;exact h
theorem thin_obj {F':Nat→Prop} {i:Nat} {q:Nat×Option Obj} {o:Obj} (hq:objFresh q=true) (e:q.2=some o) (ho:RepO w F' h β i o):RepO w F h β i o:=by
 obtain⟨j,q⟩:=q;subst e
 cases o with
 |box t cs=>cases hq
 |arr t sz n get=>cases hq
 |lis t e l =>
  exact RepO.leaf.2 (thin_leaf (show tyFlat e=true from hq) (RepO.leaf.1 ho))
 |map k e m =>
  have hf:(tyFlat k&&tyFlat e)=true:=hq;rw[Bool.and_eq_true]at hf;obtain⟨b,es,clock,h1,h2,h3⟩:=ho;exact⟨b,es,clock,h1,h2,h3.mono fun p en h=>⟨⟨flat_L hf.1 h.1.1,h.1.2⟩,flat_L hf.2 h.2.1,h.2.2⟩⟩
 |deep ts e l =>
  obtain⟨h0,h1,h2⟩:=ho;exact⟨h0,thin_deep (show tyNest e=true from hq) h1,h2⟩
theorem thin_inv {O:Nat→Prop} {w':World} {F1 F':Nat→Prop} {objs:Heap} {β':Nat→Value} (hi:Inv w O F1 w' F' (look objs) β') (hF:∀b,F b→F1 b) (hf:objs.all objFresh=true):Inv w O F w' F (look objs) β':=by
 have hsub:∀b,F b→F' b:=fun b hb=>hi.inF b (hF b hb);refine⟨fun i o ho => ?_,hi.apart,fun i o b h1 h2 h3=>hi.notF i o b h1 h2 (hsub b h3),fun b hb=>hi.low b (hsub b hb),hi.os,hi.tape,hi.output,hi.size,hi.kept,hi.fromO,fun b hb => .inl hb,fun _ h=>h⟩;have hm:∃q∈objs,q.2=some o:=by
  have:∀ {l:Heap},look l i=some (some o)→∃q∈l,q.2=some o:=by
   intro l
   induction l with
   |nil=>intro h;simp[look]at h
   |cons p l ih =>
    obtain⟨k,y⟩:=p;intro h;simp only[look]at h
    cases hb:Nat.beq k i
    ·rw[hb]at h;obtain⟨q,q1,q2⟩:=ih h;exact⟨q,mem_cons_of_mem _ q1,q2⟩
    ·rw[hb]at h;simp only[cond_true,Option.some.injEq]at h;exact⟨(k,y),mem_cons_self ..,h⟩
  exact this ho
 obtain⟨q,q1,q2⟩:=hm;exact thin_obj (all_eq_true.1 hf q q1) q2 (hi.obj i o ho)
theorem thin_rep {tm:Array Value} {w':World} {F':Nat→Prop} {h':HF} {β':Nat→Value} {y:T} {u:Value} (hy:y.fresh=true) (hr:RepX tm w' F' h' β' y u):RepX tm w' F h' β' y u:=by
 have hc:∀ {c:C} {u:Value},c.fresh=true→RepC w' F' h' β' c u→RepC w' F h' β' c u:=by
  intro c u hf hr;unfold C.fresh at hf
  split at hf
  ·exact hr
  ·exact hr
  ·exact hr
  ·cases hf
 have hd:∀ {d:D} {u:Value},d.cells.all C.fresh=true→RepD w' F' h' β' d u→RepD w' F h' β' d u:=by
  intro d u hf hr
  cases d with
  |one c=>exact hc (by simpa [D.cells]using hf) hr
  |agg cs =>
   obtain⟨us,e,hh⟩:=hr;refine⟨us,e,All2.of_get hh.len fun j c hj => ?_⟩;obtain⟨y,hy,hr⟩:=hh.get hj;exact⟨y,hy,hc (all_eq_true.1 (show cs.all C.fresh=true from hf) c (List.mem_of_getElem? hj)) hr⟩
 cases y with
 |d d=>exact hd hy hr
 |tup xs =>
  obtain⟨us,e,hh⟩:=hr;refine⟨us,e,All2.of_get hh.len fun j c hj => ?_⟩;obtain⟨y,hy',hr⟩:=hh.get hj;exact⟨y,hy',hd (all_eq_true.1 (show (xs.all fun x=>x.cells.all C.fresh)=true from hy) c (List.mem_of_getElem? hj)) hr⟩
 |when s b d=>cases hy
 |nilq n=>cases hy
 |und=>cases hy
 |unk=>cases hy
theorem evCall_sound (H:Inv w0 O0 F0 w F h β) {Γ:Env} (hΓ:EnvOk P Γ) {hh:Nat→Option Obj} (hhh:∀i ob,hh i=some ob→h i=some (some ob)) {f:FuncId} {con:Con} (hcon:Γ f=some con) {t:Nat} {ds:List D} {args:List Value} (hds:All2 (RepD w F h β) ds args)
  {c:Option Bool} {ups:Ups} (he:evCall con t ds hh=some (c,x,ups)) (hc:c=none∨c=some true) (hnew:∀j q,(j,q)∈ups→isNew t j=true→h j=none) (tm:Array Value) :
  CallsX P f args.toArray w fun e w'=>∃v,e = .returned v∧Out w0 O0 F0 w F h β tm ups x v w':=by
 have hsat:=hΓ f con hcon;have hpres0:∀i∈addNew [] (ds.flatMap D.refs),∃q,h i=some q:=fun i hi=>by
  rcases mem_addNew.1 hi with hi | hi
  ·simp at hi
  ·obtain ⟨d,hd,hi⟩:=List.mem_flatMap.1 hi;obtain⟨k,hk⟩:=List.getElem?_of_mem hd;obtain⟨u,_,hr⟩:=hds.get hk;exact RepD.pres hr i hi
 have hpres:=closure_pres H hhh 3 _ hpres0;unfold evCall at he
 split at he
 ·-- read only
  split at he
  ·cases he
  ·rename_i ds' hds';obtain⟨F1,H1,P1,hb1⟩:=H.freezes (closure hh 3 (addNew [] (ds.flatMap D.refs))) hpres;have hargs:All2 (RepD w F1 (hOf []) (fun k=>β (([]:List Nat).getD k 0))) ds' args:=by
    have hmap:=allSome_map hds';refine All2.of_get (hmap.len.trans hds.len) fun j d' hj => ?_;obtain⟨d,hd,he⟩:=hmap.get hj;obtain⟨u,hu,hr⟩:=hds.get hd;refine⟨u,hu,toR_D H hhh P1.sub (l:=addNew [] (ds.flatMap D.refs)) hb1 hr he (fun i hi=>mem_addNew.2 (.inr (List.mem_flatMap.2 ⟨d,List.mem_of_getElem? hd,hi⟩))) _ _⟩
   have key:∀c' r objs,con.f ds' []=some (c',r,objs)→(c'=none∨c'=some true) →
     CallsX P f args.toArray w fun e w'=>∃v F' β',e = .returned v∧Inv w (Own (hOf []) (fun k=>β (([]:List Nat).getD k 0))) F1 w' F' (look objs) β'∧(∀s b d,r ≠ .when s b d)∧RepX #[] w' F' (look objs) β' r v:=fun c' r objs hf hc'=>by
    have s2:=hsat ds' [] c' r objs hf hc';refine(s2 w F1 (fun k=>β (([]:List Nat).getD k 0)) args ?_ hargs).mono ?_
    ·have:=(callee_inv H1 (ids:=[]) (os:=[]) List.nodup_nil .nil).2;exact this
    ·rintro e w' ⟨v,F',β',g1,g2,_,_,hw,g5⟩;exact⟨v,F',β',g1,g2,hw,g5⟩
   have fin:∀c' r objs ups',con.f ds' []=some (c',r,objs)→(c'=none∨c'=some true)→renUps (backTo [] t) objs=some ups'→(∀j q,(j,q)∈ups'→isNew t j=true→h j=none) →
     CallsX P f args.toArray w fun e w'=>∃v,e = .returned v∧Out w0 O0 F0 w F h β tm (ups'++dropIds (closure hh 3 (addNew [] (ds.flatMap D.refs)))) (r.ren (backTo [] t)) v w':=fun c' r objs ups' hf hc' hren hnew'=>by
    have hcalls:=key c' r objs hf hc';refine hcalls.mono ?_;rintro e w' ⟨v,F',β',g1,g2,hw,g3⟩;refine⟨v,g1, ?_⟩;obtain⟨F2,β2,r1,r2,r3⟩:=caller_inv H1 (ids:=[]) (os:=[]) List.nodup_nil (by simp) .nil hren (fun j q hj hn=>by
     have hjn:=hnew' j q hj hn;rw[upd_drop_ne]
     ·exact hjn
     ·intro hm;obtain⟨q',hq'⟩:=hpres j hm;rw[hjn]at hq';cases hq') g2 (fun i hi=>by simp at hi) (fun i _ hi=>by simp at hi) (RepX.tm (tm':=tm) hw g3)
    exact⟨F2,β2,by rw[upd_append];exact r1,by rw[upd_append];exact P1.trans r2,by rw[upd_append];exact r3⟩
   split at he
   ·cases he
   ·rename_i c' r hf
    split at he
    ·rename_i hflat
     cases he
     have hcalls:=key _ _ _ hf hc;refine hcalls.mono ?_;rintro e w' ⟨v,F',β',g1,g2,hw,g3⟩;have hk:∀b,b<w.heap.size→w'.heap[b]? = w.heap[b]? := fun b hb=>g2.kept b hb fun⟨i,o',hi,_⟩=>by simp[hOf,startHeap,look]at hi
     obtain⟨H2,P2⟩:=H.grow g2.os g2.tape g2.output g2.size hk;exact⟨v,g1,F,β,by rw[upd_nil];exact H2,by rw[upd_nil];exact P2,flat_rep hflat (RepX.tm (tm':=tm) hw g3)⟩
    ·cases he
     exact fin _ _ _ [] hf hc rfl (fun j q hj=>by simp at hj)
   ·rename_i c' r objs _ hf
    split at he
    ·cases he
    ·rename_i ups' hren
     split at he
     ·rename_i hfr
      cases he
      simp only[Bool.and_eq_true]at hfr;have hcalls:=key _ _ _ hf hc;refine hcalls.mono ?_;rintro e w' ⟨v,F',β',g1,g2,hw,g3⟩;refine⟨v,g1, ?_⟩;exact caller_inv H (ids:=[]) (os:=[]) List.nodup_nil (by simp) .nil hren hnew (thin_inv g2 P1.sub hfr.2) (fun i hi=>by simp at hi) (fun i _ hi=>by simp at hi) (RepX.tm (tm':=tm) hw (thin_rep hfr.1 g3))
     ·cases he
      exact fin _ _ _ _ hf hc hren fun j q hj hn=>hnew j q (mem_append_left _ hj) hn
 ·-- with objects
  dsimp only at he
  split at he
  ·rename_i os hos hnd;simp only[Bool.and_eq_true]at hnd
   split at he
   ·cases he
   ·rename_i c' r objs hf
    split at he
    ·cases he
    ·rename_i ups' hren
     cases he
     have hn:=nodupN_iff.1 hnd.1;have hl:(closure hh 3 (addNew [] (ds.flatMap D.refs))).length≤1000:=by simpa using hnd.2
     have hos':All2 (fun o i=>h i=some (some o)) os (closure hh 3 (addNew [] (ds.flatMap D.refs))):=(allSome_map hos).mono fun ob i hi=>hhh i ob hi;obtain⟨hr,HC⟩:=callee_inv H hn hos';have s2:=hsat _ _ _ _ _ hf hc;have hargs:All2 (RepD w F (hOf (os.map (Obj.ren (idxOf (closure hh 3 (addNew [] (ds.flatMap D.refs))))))) (fun k=>β ((closure hh 3 (addNew [] (ds.flatMap D.refs))).getD k 0))) (ds.map (D.ren (idxOf (closure hh 3 (addNew [] (ds.flatMap D.refs)))))) args :=
      All2.map_l.2 (hds.mono fun _ _ hd=>ren_repD hr hd)
     refine(s2 w F _ args HC hargs).mono ?_;rintro e w' ⟨v,F',β',g1,g2,g3,g4,s1,g5⟩;exact⟨v,g1,caller_inv H hn hl hos' hren hnew g2 (by simpa using g3) (by simpa using g4) (RepX.tm (tm':=tm) s1 g5)⟩
  ·cases he
theorem dsOf_sound {tm:Array Value}:∀ {xs:List T} {ds:List D} {us:List Value},dsOf xs=some ds→All2 (RepX tm w F h β) xs us→All2 (RepD w F h β) ds us
 | [],ds,us,hd,hx=>by cases hx;simp[dsOf]at hd;subst hd;exact .nil
 |x::xs,ds,us,hd,hx=>by
  cases hx with
  |cons h1 h2 =>
   cases x<;>simp only[dsOf]at hd<;>try cases hd
   simp only[Option.map_eq_some_iff]at hd;obtain⟨ds',g1,rfl⟩:=hd;exact .cons h1 (dsOf_sound g1 h2)
theorem areBoxes_sound {hh:Nat→Option Obj}:∀ {l:List Nat},areBoxes hh l=true→∀i∈l,∃t cs,hh i=some (.box t cs)
 | [],_,i,hi=>by simp at hi
 |k::l,hb,i,hi=>by
  simp only[areBoxes]at hb
  split at hb
  ·rename_i hk;rcases List.mem_cons.1 hi with rfl | hi
   ·exact ⟨_,_,hk⟩
   ·exact areBoxes_sound hb i hi
  ·cases hb
theorem op_call (H:Inv w0 O0 F0 w F h β) {Γ:Env} (hΓ:EnvOk P Γ) {hh:Nat→Option Obj} (hhh:∀i ob,hh i=some ob→h i=some (some ob)) {fo:Operand} {args:Array Operand} {ats:Array TypeId} (ho:o.op = .call { callee := .value fo,args:=args,argTypes:=ats })
  {f:FuncId} {caps:List Nat} {con:Con} (hcon:Γ f=some con) {xs:List T} {ds:List D} (hds:dsOf xs=some ds) (hbx:areBoxes hh caps=true) (hf:RepC w F h β (.fn f caps) (a.eval fo)) (hx:All2 (RepX a.tmps w F h β) xs (args.toList.map a.eval))
  {c:Option Bool} {ups:Ups} (he:evCall con (o.dst.getD 0) (ds++caps.map fun i => .one (.ptr i 0)) hh=some (c,x,ups)) (hc:c=none∨c=some true) (hnew:∀j q,(j,q)∈ups→isNew (o.dst.getD 0) j=true→h j=none)
  (hK:∀v w',Out w0 O0 F0 w F h β a.tmps ups x v w'→K (a.put o.dst v) w'):o.wp P a w K Q:=by
 have hbox:∀i∈caps,(∃ob,h i=some (some ob))∧∃b,β i = .pointer (some ⟨b,0,none⟩):=fun i hi=>by
  obtain⟨t,cs,hi⟩:=areBoxes_sound hbx i hi;obtain⟨b,us,e1,_⟩:=H.obj _ _ (hhh _ _ hi);exact⟨⟨_,hhh _ _ hi⟩,b,e1⟩
 have halive:∀i∈caps,∃ob,h i=some (some ob):=fun i hi=>(hbox i hi).1;have hfv:=hf.2.2 halive;have hcaps:All2 (RepD w F h β) (caps.map fun i=>D.one (.ptr i 0)) (caps.map β):=by
  rw[All2.map_l,All2.map_r];have:∀ {l:List Nat},(∀i∈l,(∃ob,h i=some (some ob))∧∃b,β i = .pointer (some ⟨b,0,none⟩))→All2 (fun i j=>RepD w F h β (.one (.ptr i 0)) (β j)) l l:=by
   intro l
   induction l with
   |nil=>intro _;exact .nil
   |cons i l ih =>
    intro hl;obtain⟨⟨ob,g1⟩,b,g2⟩:=hl i (mem_cons_self ..);exact .cons ⟨by rw[g2];rfl,⟨_,g1⟩,fun o' _=>⟨b,g2,g2⟩⟩ (ih fun k hk=>hl k (mem_cons_of_mem _ hk))
  exact this hbox
 have hcalls:=evCall_sound H hΓ hhh hcon (args:=args.toList.map a.eval++caps.map β) ((dsOf_sound hds hx).append hcaps) he hc hnew a.tmps;unfold Oper.wp;have hrun:(execOp a.eval o).run P w=(callFunc f (args.toList.map a.eval++caps.map β).toArray).run P w:=by
  simp only[execOp,ho,resolve,hfv,Deferred.ofValue,Sem.run_bind,Sem.run_pure,Result.andThen_ok,invoke]
  congr 2
  apply Array.ext'
  simp
 rw[hrun];rcases hcalls with⟨hcf,hcalls⟩ | ⟨v',w'',hcf,v,e,hout⟩
 ·rw[hcf];refine hcalls.mono ?_;rintro e w' ⟨v,rfl,hout⟩;exact hK v w' hout
 ·rw[hcf]
  cases e
  exact hK _ _ hout
end
end Go.Proofs.YtkhhclpkljikkaaDoor.Ev
/-
 All operations together.
-/
namespace Go.Proofs.YtkhhclpkljikkaaDoor.Ev
open Go
open List (length length_append length_cons length_singleton length_replicate length_set length_take length_drop mem_cons_of_mem mem_cons_self getD replicate mem_append_left mem_append_right all_eq_true drop_eq_getElem_cons drop_eq_nil_of_le append_assoc mem_singleton getElem?_append_left getElem?_append_right getElem?_eq_none getElem?_take mem_append)
section
variable {P:Program} {TT:Types} {w0 w:World} {O0 F0 F:Nat→Prop} {h:HF} {β:Nat→Value} {a:Act} {o:Oper} {K:Act→World→Prop} {Q:Exit→Act→World→Prop} {x:T} {v:Value}
theorem isThere_ptr {hh:Nat→Option Obj} (hhh:∀i ob,hh i=some ob→h i=some (some ob)) {c:C} {u:Value} (hi:isThere hh c=true) (hc:RepC w F h β c u) :
  (∃b off,u = .pointer (some ⟨b,off,none⟩))∨∃f,c = .fn f []∧u = .func (.func f) #[] #[]:=by
 unfold isThere at hi
 split at hi
 ·split at hi
  ·rename_i hb;obtain⟨b,_,e⟩:=hc.2.2 _ (hhh _ _ hb);exact .inl ⟨b,_,e⟩
  ·cases hi
 ·split at hi
  ·rename_i hb;obtain⟨b,n,cap,_,_,e⟩:=hc.2.2 _ (hhh _ _ hb);exact .inl ⟨b,_,e⟩
  ·cases hi
 ·obtain ⟨b,off,e,_⟩:=hc;exact .inl ⟨b,off,e⟩
 ·obtain ⟨b,off,e,_⟩:=hc;exact .inl ⟨b,off,by simpa using e⟩
 ·exact .inr ⟨_,rfl,by simpa using hc.2.2 (fun i hi=>by simp at hi)⟩
 ·cases hi
theorem pickOpt_sound {fl:Option Operand} {xs xs':List T} {n:Option Int} {us:List Value} (hp:pickOpt fl xs=some (n,xs')) (hx:All2 (RepX a.tmps w F h β) xs ((fl.toList.map a.eval)++us)) :
  OptInt (fl.map a.eval) n∧All2 (RepX a.tmps w F h β) xs' us:=by
 unfold pickOpt at hp
 split at hp
 ·cases hp;exact ⟨trivial,hx⟩
 ·simp only[Option.map_eq_some_iff]at hp;obtain⟨m,h1,h2⟩:=hp
  cases h2
  cases hx with
  |cons g1 g2 =>
   obtain⟨k,hk⟩:=intD_sound h1 g1;refine⟨?_,g2⟩;unfold intD at h1
   split at h1
   ·cases h1
    obtain⟨e,_⟩:=g1;simp only[Option.map_some,OptInt,e]
   ·cases h1
 ·cases hp
theorem new_of {t k:Nat} {ups:Ups} {q:Option Obj} (hnew:∀j q,(j,q)∈ups→isNew t j=true→h j=none) (hk:k<64) (hm:(sid t k,q)∈ups):h (sid t k)=none:=hnew _ q hm (sid_new t k hk)
theorem ownAt_some {h:Nat→Option Obj} {e:TypeId} {lo:Option Int} {c:C} {i:Nat} (he:ownAt h e lo c=some i):lo=none∧c = .own i∧∃sz n get,h i=some (.arr e sz n get):=by
 unfold ownAt at he
 split at he
 ·split at he
  ·rename_i hi
   split at he
   ·rename_i hb
    cases he
    have hb:=zB hb;subst hb;exact⟨rfl,rfl,_,_,_,hi⟩
   ·cases he
  ·cases he
 ·cases he
theorem op_slice_own (H:Inv w0 O0 F0 w F h β) (ht:TTok P TT) {ty e:TypeId} {ti ei:TI} {X:Operand} {hi:Option Operand} (ho:o.op = .slice ty X none hi none)
  (hti:TT ty=some ti) (hd:ti.desc = .slice e) (hei:TT e=some ei) {i n:Nat} {get:Nat→Nat→R} (hi0:h i=some (some (.arr e ei.info.size n get))) (hx:RepC w F h β (.own i) (a.eval X)) {hi':Option Int}
  (hh':OptInt (hi.map a.eval) hi') (hr:inr 0 (hi'.getD (n:Int)) n=true) {s:Nat} (hs0:h s=none) (g:Nat→Nat→R) (hg:∀k,k<(hi'.getD (n:Int)).toNat→g k=get k)
  (hK:∀v w',Out w0 O0 F0 w F h β a.tmps [(i,none),(s,some (.arr e ei.info.size (hi'.getD (n:Int)).toNat g))] (.d (.one (.own s))) v w'→K (a.put o.dst v) w'):o.wp P a w K Q:=by
 have hxv:=hx.2.2 _ hi0;obtain⟨H1,P1⟩:=H.kill i;rw[setB_self]at H1 P1;have hs1:setH h i none s=none:=by
  simp only[setH];split
  ·rename_i e;subst e;rw[hs0]at hi0;cases hi0
  ·exact hs0
 obtain⟨h0,h1,h2⟩:=inr_iff.1 hr;have main:∀(ad:Option Addr) (cap:Nat),β i = .slice ad n cap→n≤cap →
   (∀b β',β' s=sliced ad 0 (hi'.getD (n:Int)).toNat cap ei.info.size→RepO w F (setH (setH h i none) s b) β' s (.arr e ei.info.size (hi'.getD (n:Int)).toNat g)) →
   (∀b,blk (sliced ad 0 (hi'.getD (n:Int)).toNat cap ei.info.size)=some b→Blk (β i) b)→o.wp P a w K Q:=by
  intro ad cap hb hnc hrep hblk;have T:=H1.turn (w':=w) (F':=F) s (some (.arr e ei.info.size (hi'.getD (n:Int)).toNat g)) (sliced ad 0 (hi'.getD (n:Int)).toNat cap ei.info.size) rfl rfl rfl (Nat.le_refl _) (fun b=>Blk (β i) b)
   (fun b hb=>⟨H.notF i _ b hi0 hb,fun j o' _ hj hb'=>by
    simp only[setH]at hj
    split at hj
    ·cases hj
    ·rename_i hne;exact hne (H.apart j i o' _ b hj hi0 hb' hb),H.fromO i _ b hi0 hb⟩)
   (fun _ _ _=>rfl) (fun _ hf=>hf) (fun _ hf => .inl hf) (fun q0 _ h0=>by rw[hs1]at h0;cases h0)
   (fun _ ob hob=>by
    cases hob
    exact⟨hrep _ _ (by simp[setB]),fun b hb => .inl (hblk b (Blk_slice.1 hb))⟩)
  have hcomm:upd [(i,none),(s,some (.arr e ei.info.size (hi'.getD (n:Int)).toNat g))] h=setH (setH h i none) s (some (.arr e ei.info.size (hi'.getD (n:Int)).toNat g)):=by
   rw[upd_cons,upd_cons,upd_nil];exact setH_comm h (fun e=>by subst e;rw[hs0]at hi0;cases hi0) _ _
  refine wp_val (v:=sliced ad 0 (hi'.getD (n:Int)).toNat cap ei.info.size) (w':=w) ?_ (hK _ _ ⟨F,_,by rw[hcomm];exact T.1,by rw[hcomm];exact P1.trans T.2, ?_⟩)
  ·have:=run_slice_sl (w:=w) ht hti hd hei (lo:=none) (li:=none) trivial hh' (ad:=ad) (cap:=cap) (by exact hr) hnc;simp only[execOp,ho,hxv,hb,Option.map_none,Sem.run_bind,this,Result.andThen_ok,Sem.run_pure];rfl
  ·exact ⟨rfl,⟨some (.arr e ei.info.size (hi'.getD (n:Int)).toNat g),by rw[hcomm];simp[setH]⟩,fun ob _=>by simp[setB]⟩
 rcases H.obj _ _ hi0 with⟨ad,r1,rfl⟩ | ⟨b,cap,cur,r1,r2,r3,r4,r5,r6,r7⟩
 ·have hm:(hi'.getD ((0:Nat):Int)).toNat=0:=by omega
  refine main ad 0 r1 (Nat.le_refl _) (fun b' β' hb' => .inl ⟨ad,by rw[hb',hm];simp[sliced],hm⟩) fun b hb => ?_;rw[hm]at hb
  cases ad<;>simp[sliced,blk]at hb
 ·have hsl:sliced (some ⟨b,0,none⟩) 0 (hi'.getD (n:Int)).toNat cap ei.info.size = .slice (some ⟨b,0,none⟩) (hi'.getD (n:Int)).toNat cap:=by
   simp[sliced,Addr.add_lit,Nat.ne_of_gt r2]
  refine main _ cap r1 r4 (fun b' β' hb' => .inr ⟨b,cap,cur,by rw[hb',hsl],r2,r3,by omega,r5,r6,fun k hk j hj => ?_⟩) fun b' hb => ?_
  ·rw[hg k hk];exact r7 k (by omega) j hj
  ·rw[hsl]at hb;rw[r1];simpa [blk]using hb
theorem evSlice_sound (H:Inv w0 O0 F0 w F h β) (ht:TTok P TT) {hh:Nat→Option Obj} (hhh:∀i ob,hh i=some ob→h i=some (some ob)) {ty:TypeId} {X:Operand} {lo hi mx:Option Operand} (ho:o.op = .slice ty X lo hi mx) {d:D} {li hi' mi:Option Int}
  {c:Option Bool} {ups:Ups} (he:evSlice TT d ty li hi' mi hh (o.dst.getD 0)=some (c,x,ups)) (hc:c=none∨c=some true) (hx:RepX a.tmps w F h β (.d d) (a.eval X)) (hl:OptInt (lo.map a.eval) li) (hr:OptInt (hi.map a.eval) hi') (hm:OptInt (mx.map a.eval) mi)
  (hnew:∀j q,(j,q)∈ups→isNew (o.dst.getD 0) j=true→h j=none) (hK:∀v w',Out w0 O0 F0 w F h β a.tmps ups x v w'→K (a.put o.dst v) w'):o.wp P a w K Q:=by
 have hmx:mi=none→mx=none:=fun e=>by
  subst e
  cases mx with
  |none=>rfl
  |some Z=>simp only[Option.map_some]at hm;cases hz:a.eval Z<;>rw[hz]at hm<;>exact hm.elim
 unfold evSlice at he
 split at he
 ·rename_i s
  split at he
  ·cases he
  ·dsimp only at he
   split at he
   ·cases he
   ·rename_i ti hti
    split at he
    ·cases he
    ·rename_i hs
     cases he
     have hmx:=hmx rfl;subst hmx;simp only[reduceCtorEq,Option.some.injEq,false_or]at hc;exact op_slice_str H ht ho hti hs hx.1 hx.2 hl hr hc hK
 ·split at he
  ·cases he
  ·rename_i e ei ez hb;simp only[Option.bind_eq_some_iff]at hb;obtain⟨ti,hti,hb⟩:=hb
   split at hb
   ·rename_i e' hd;simp only[Option.map_eq_some_iff,Prod.mk.injEq]at hb;obtain⟨ei',hei,rfl,rfl,rfl⟩:=hb
    split at he
    ·cases he
    ·rename_i ids n get hsl;rcases tri_some he with⟨rfl,rfl,rfl,he⟩ | ⟨rfl,he'⟩
     ·cases he
      cases lo with
      |some L=>simp only[Option.map_some]at hl;cases hz:a.eval L<;>rw[hz]at hl<;>exact hl.elim
      |none =>
       cases hi with
       |none=>exact hr.elim
       |some Y =>
        cases mx with
        |none=>exact hm.elim
        |some Z =>
         simp only[Option.map_some]at hr hm
         cases hy:a.eval Y<;>rw[hy]at hr<;>first | exact hr.elim | skip
         cases hz:a.eval Z<;>rw[hz]at hm<;>first | exact hm.elim | skip
         have e1:_=(0:Int):=hr;have e2:_=(0:Int):=hm;subst e1;subst e2;exact op_slice_zero H ht hhh ho hti hd hei hsl hx hy hz (new_of hnew (by omega) (List.mem_singleton_self _)) _ hK
     ·have hmx:=hmx rfl;subst hmx
      split at he'
      ·rename_i i hown
       cases he'
       simp only[reduceCtorEq,Option.some.injEq,false_or]at hc;obtain⟨rfl,rfl,sz,n',get',hi0⟩:=ownAt_some hown
       cases lo with
       |some L=>simp only[Option.map_some]at hl;cases hz:a.eval L<;>rw[hz]at hl<;>exact hl.elim
       |none =>
        have:sz=ei'.info.size∧n'=n∧get'=get:=by
         simp only[sliceIn,hi0]at hsl
         split at hsl
         ·rename_i hb
          cases hsl
          exact⟨(zB hb),rfl,rfl⟩
         ·cases hsl
        obtain⟨rfl,rfl,rfl⟩:=this;exact op_slice_own H ht ho hti hd hei (hhh _ _ hi0) hx hr hc (new_of hnew (by omega) (mem_cons_of_mem _ (List.mem_singleton_self _))) _ (fun k hk=>by simp only[arrSub,if_pos hk,Nat.zero_add]) hK
      ·cases he'
       simp only[reduceCtorEq,Option.some.injEq,false_or]at hc;exact op_slice_sl H ht hhh ho hti hd hei hsl hx hl hr hc hK
   ·cases hb
 ·cases he
theorem evBuiltin_sound (H:Inv w0 O0 F0 w F h β) (ht:TTok P TT) {hh:Nat→Option Obj} (hhh:∀i ob,hh i=some ob→h i=some (some ob)) {b:Builtin} {args:Array Operand} {ats:Array TypeId} (ho:o.op = .call { callee := .builtin b,args:=args,argTypes:=ats })
  {xs:List T} {c:Option Bool} {ups:Ups} (he:evBuiltin TT b ats (o.dst.getD 0) xs hh=some (c,x,ups)) (hc:c=none∨c=some true) (hx:All2 (RepX a.tmps w F h β) xs (args.toList.map a.eval))
  (hnew:∀j q,(j,q)∈ups→isNew (o.dst.getD 0) j=true→h j=none) (hK:∀v w',Out w0 O0 F0 w F h β a.tmps ups x v w'→K (a.put o.dst v) w'):o.wp P a w K Q:=by
 unfold evBuiltin at he
 split at he
 ·-- len
  split at he
  ·rename_i ti hb;simp only[Option.map_eq_some_iff,Prod.mk.injEq]at he;obtain⟨n,h1,rfl,rfl,rfl⟩:=he;simp only[Option.bind_eq_some_iff]at hb;obtain⟨t,h2,hti⟩:=hb;obtain⟨args⟩:=args
   cases args with
   |nil=>cases hx
   |cons X l =>
    cases l with
    |cons Y l=>cases hx with |cons g1 g2=>cases g2
    |nil =>
     cases hx with
     |cons g1 g2 =>
      obtain⟨ats⟩:=ats
      cases ats with
      |nil=>simp at h2
      |cons t' l' =>
       simp at h2;subst h2;exact op_len' H ht hhh ho hti h1 g1 hK
  ·cases he
 ·-- append
  split at he
  ·cases he
  ·rename_i st hats
   split at hats
   ·rename_i t1 t2 e;have hte:t1=t2∧st=t1:=by
     cases hb:Nat.beq t1 t2
     ·rw[hb]at hats;cases hats
     ·rw[hb]at hats;simp only[cond_true,Option.some.injEq]at hats;exact⟨zB hb,hats.symm⟩
    obtain⟨rfl,rfl⟩:=hte;have hats':ats=#[st,st]:=by apply Array.ext';rw[e]
    subst hats'
    split at he
    ·cases he
    ·rename_i ti hti
     split at he
     ·rename_i et hd
      split at he
      ·rename_i ei hei;obtain⟨args⟩:=args
       cases args with
       |nil=>cases hx
       |cons X l =>
        cases l with
        |nil=>cases hx with |cons g1 g2=>cases g2
        |cons Y l =>
         cases l with
         |cons Z l=>cases hx with |cons g1 g2=>cases g2 with |cons g2 g3=>cases g3
         |nil =>
          cases hx with
          |cons g1 g2 =>
           cases g2 with
           |cons g2 g3 =>
            unfold evAppend at he
            split at he
            ·rename_i zs ids m get' hz hsl
             split at he
             ·rename_i hck;simp only[Bool.and_eq_true]at hck;obtain⟨⟨k1,k2⟩,k3⟩:=hck;have k1:=zB k1;have k2:0<ei.info.size:=by simpa using k2
              have k3:0<ei.info.bytes:=by simpa using k3
              split at he
              ·cases he
               simp only[reduceCtorEq,Option.some.injEq,false_or]at hc;exact op_append (n:=0) (get:=fun _ _=>z0) H ht hhh ho hti hd hei hz k1 k2 k3 (.inl ⟨rfl,rfl,rfl⟩) hsl g1 g2 (by rw[Nat.zero_add];exact hc) (new_of hnew (by omega) (List.mem_singleton_self _)) (g:=get') (fun i=>by simp) (by simpa using hK)
              ·rename_i i
               split at he
               ·rename_i at_ sz n get hi
                split at he
                ·rename_i hck2
                 cases he
                 simp only[Bool.and_eq_true]at hck2;have e1:=zB hck2.1;have e2:=zB hck2.2;subst e1;subst e2;simp only[reduceCtorEq,Option.some.injEq,false_or]at hc;exact op_append H ht hhh ho hti hd hei hz k1 k2 k3 (.inr ⟨i,rfl,hhh _ _ hi,rfl⟩) hsl g1 g2 hc (new_of hnew (by omega) (mem_cons_of_mem _ (List.mem_singleton_self _))) (g:=arrApp n get get') (fun _=>rfl) hK
                ·cases he
               ·cases he
              ·cases he
             ·cases he
            ·cases he
      ·cases he
     ·cases he
   ·cases hats
 ·-- min
  rename_i k n l;simp only[Option.map_eq_some_iff,Prod.mk.injEq]at he;obtain⟨r,h1,rfl,rfl,rfl⟩:=he;obtain⟨args⟩:=args
  cases args with
  |nil=>cases hx
  |cons X l' =>
   cases hx with
   |cons g1 g2=>exact op_min (mx:=false) H ho g1.1 g1.2 h1 g2 hK
 ·rename_i k n l;simp only[Option.map_eq_some_iff,Prod.mk.injEq]at he;obtain⟨r,h1,rfl,rfl,rfl⟩:=he;obtain⟨args⟩:=args
  cases args with
  |nil=>cases hx
  |cons X l' =>
   cases hx with
   |cons g1 g2=>exact op_min (mx:=true) H ho g1.1 g1.2 h1 g2 hK
 ·cases he
end
end Go.Proofs.YtkhhclpkljikkaaDoor.Ev
/-
 All operations together: the theorem.
-/
namespace Go.Proofs.YtkhhclpkljikkaaDoor.Ev
open Go
open List (length length_append length_cons length_singleton length_replicate length_set length_take length_drop mem_cons_of_mem mem_cons_self getD replicate mem_append_left mem_append_right all_eq_true drop_eq_getElem_cons drop_eq_nil_of_le append_assoc mem_singleton getElem?_append_left getElem?_append_right getElem?_eq_none getElem?_take mem_append)
section
variable {P:Program} {TT:Types} {w0 w:World} {O0 F0 F:Nat→Prop} {h:HF} {β:Nat→Value} {a:Act} {o:Oper} {K:Act→World→Prop} {Q:Exit→Act→World→Prop} {x:T} {v:Value}
theorem evOp_sound (H:Inv w0 O0 F0 w F h β) (ht:TTok P TT) {Γ:Env} (hΓ:EnvOk P Γ) {hh:Nat→Option Obj} (hhh:∀i ob,hh i=some ob→h i=some (some ob)) {xs:List T} {c:Option Bool} {ups:Ups}
  (he:evOp TT Γ o xs hh=some (c,x,ups)) (hc:c=none∨c=some true) (hx:All2 (RepX a.tmps w F h β) xs (o.op.operands.toList.map a.eval)) (hnew:∀j q,(j,q)∈ups→isNew (o.dst.getD 0) j=true→h j=none)
  (hK:∀v w',Out w0 O0 F0 w F h β a.tmps ups x v w'→K (a.put o.dst v) w'):o.wp P a w K Q:=by
 unfold evOp at he;dsimp only at he
 split at he
 case h_1 | h_2 =>
  rename_i ho;cases he;rw[ho]at hx
  cases hx with | cons h1 h2=>exact op_move H (.inl ho) h1 hK
 case h_3 | h_4 =>
  rename_i ho;cases he;rw[ho]at hx
  cases hx with | cons h1 h2=>exact op_move H (.inr ho) h1 hK
 case h_5 =>
  rename_i ho;rw[ho]at hx
  cases hx with | cons h1 h2=>cases h2 with | cons h2 h3=>cases h3 with | cons h3 h4 =>
  split at he
  ·rename_i p q e1 e2
   cases he
   exact op_pick H ho h1.1 h2 h3 e1 e2 hK
  ·rename_i q _ e2
   split at he
   ·cases he
    exact op_pickF H ho h1.1 (hc.resolve_left (fun e=>nomatch e) |> Option.some.inj) h3 e2 hK
   ·cases he
  ·rename_i p e1 _
   split at he
   ·cases he
    exact op_pickT H ho h1.1 (hc.resolve_left (fun e=>nomatch e) |> Option.some.inj) h2 e1 hK
   ·cases he
  ·cases he
 case h_6 =>
  rename_i ho;rw[ho]at hx
  cases hx with | cons h1 h2 =>
  split at he
  ·split at he
   ·cases he
    exact op_box H ho h1 (new_of hnew (by omega) (List.mem_singleton_self _)) hK
   ·cases he
  ·cases he
 case h_7 =>
  rename_i ho
  split at he
  ·rename_i ti hti
   split at he
   ·rename_i cs hz
    cases he
    exact op_alloc H ht ho hti hz (new_of hnew (by omega) (List.mem_singleton_self _)) hK
   ·cases he
  ·cases he
 case h_8 =>
  rename_i ty ps ho;rw[ho]at hx
  split at he
  ·rename_i ti hti
   split at he
   ·rename_i fs z e1 e2
    split at he
    ·rename_i cs e3 e4
     cases he
     refine op_build H ht ho hti e1 e2 e3 e4 ?_ hK
     simpa [Op.operands,List.map_map,Function.comp_def]using hx
    ·cases he
   ·cases he
  ·cases he
 case h_9 =>
  rename_i ty n ps ho;rw[ho]at hx
  split at he
  ·rename_i ti hti
   split at he
   ·rename_i e hd
    split at he
    ·rename_i ei hei
     split at he
     ·rename_i z hz
      split at he
      ·rename_i zr hzr
       split at he
       ·rename_i rows hck hb
        cases he
        simp only[Bool.and_eq_true]at hck;obtain⟨⟨k1,k2⟩,k3⟩:=hck;have k1:n*ei.info.size≤16777216:=Nat.le_of_ble_eq_true k1;have k2:=zB k2;have k3:0<ei.info.size:=by simpa using k3
        refine op_buildSlice H ht hhh ho hti hd hei hz hzr k2 k3 k1 hb ?_ (new_of hnew (by omega) (mem_cons_self ..)) hK
        simpa [Op.operands,List.map_map,Function.comp_def]using hx
       ·cases he
      ·cases he
     ·cases he
    ·cases he
   ·cases he
  ·cases he
 case h_10 =>
  rename_i ho;rw[ho]at hx
  cases hx with | cons h1 h2 =>
  split at he
  ·rename_i ti hti
   split at he
   ·rename_i cs hcs;simp only[Option.map_eq_some_iff,Prod.mk.injEq]at he;obtain⟨d,hd,rfl,rfl,rfl⟩:=he;exact op_load H ht hhh ho hti hcs hd h1 hK
   ·cases he
  ·cases he
 case h_11 =>
  rename_i ho;rw[ho]at hx
  cases hx with | cons h1 h2=>cases h2 with | cons h2 h3 =>
  split at he
  ·rename_i ti hti;simp only[Option.map_eq_some_iff,Prod.mk.injEq]at he;obtain⟨u,hu,rfl,rfl,rfl⟩:=he;unfold evStore at hu
   split at hu
   ·cases hu
   ·rename_i hn;have hn:=zB hn
    split at hu
    ·split at hu
     ·rename_i hi
      split at hu
      ·rename_i hle
       cases hu
       exact op_store_box H ht ho hti (hhh _ _ hi) h1 h2 hn (by simpa using hle) hK
      ·cases hu
     ·cases hu
    ·split at hu
     ·rename_i hi
      split at hu
      ·rename_i rs e1 e2 e3
       cases hu
       simp only[Bool.and_eq_true]at e2;have e4:=zB e2.2;subst e4;have e5:_≤_:=Nat.le_of_ble_eq_true e2.1;have hni:_∉_:=fun hm=>by rw[elemNat_iff.2 hm]at e3;cases e3
       refine op_store_arr H ht hhh ho hti (hhh _ _ hi) h1 h2 hn e1 e5 hni ?_
       split at hK
       ·rename_i r;have:∀get k off,arrSetAll get k off [r]=arrSet get k off r:=fun get k off=>by funext i j;exact arrSet_one get k off r i j
        rw[this];exact hK
       ·exact hK
      ·cases hu
     ·cases hu
    ·cases hu
  ·cases he
 case h_12 =>
  rename_i ho;rw[ho]at hx
  cases hx with | cons h1 h2 =>
  split at he
  ·rename_i hi
   cases he
   refine op_nilCheck H ho ?_ h1 hK;rcases isThere_ptr hhh hi h1 with⟨b,off,e⟩ | ⟨f,_,e⟩
   ·exact .inl ⟨_,e⟩
   ·exact .inr ⟨f,_,e⟩
  ·cases he
 case h_13 =>
  rename_i ho;rw[ho]at hx
  cases hx with | cons h1 h2=>cases h2 with | cons h2 h3 =>
  split at he
  ·rename_i hb
   split at hb
   ·rename_i ti hti
    split at he
    ·cases he;exact op_boolEq H ht ho hti hb h1.1 h2.1 (.inl ⟨rfl,rfl⟩) hK
    ·cases he;exact op_boolEq H ht ho hti hb h1.1 h2.1 (.inr ⟨rfl,rfl⟩) hK
    ·cases he
   ·cases hb
  ·cases he
 case h_14 =>
  rename_i ho;rw[ho]at hx
  cases hx with | cons h1 h2=>cases h2 with | cons h2 h3 =>
  simp only[Option.map_eq_some_iff,Prod.mk.injEq]at he;obtain⟨⟨c',r⟩,e1,rfl,rfl,rfl⟩:=he;exact op_binOp H ho e1 hc h1.2 h1.1 h2.1 hK
 case h_15 =>
  rename_i ho;rw[ho]at hx
  cases hx with | cons h1 h2=>cases h2 with | cons h2 h3 =>
  split at he
  ·rename_i ti hti
   split at he
   ·rename_i fs hfs
    split at he
    ·rename_i ts e1 e2
     split at he
     ·rename_i b hb
      split at he
      ·cases he;exact op_structEq H ht ho hti hfs e2 e1 hb h1 h2 (.inl ⟨rfl,rfl⟩) hK
      ·cases he;exact op_structEq H ht ho hti hfs e2 e1 hb h1 h2 (.inr ⟨rfl,rfl⟩) hK
      ·cases he
     ·cases he
    ·cases he
   ·cases he
  ·cases he
 case h_16 =>
  rename_i ho;rw[ho]at hx
  cases hx with | cons h1 h2 =>
  simp only[Option.map_eq_some_iff,Prod.mk.injEq]at he;obtain⟨r,e1,rfl,rfl,rfl⟩:=he;exact op_unOp H ho e1 h1.1 hK
 case h_17 =>
  rename_i ho;rw[ho]at hx
  cases hx with | cons h1 h2 =>
  split at he
  ·rename_i si di hsi hdi;simp only[Option.map_eq_some_iff,Prod.mk.injEq]at he;obtain⟨⟨b,c'⟩,e1,rfl,rfl,rfl⟩:=he;exact op_convert H ht hhh ho hsi hdi e1 hc h1 hK
  ·cases he
 case h_18 =>
  rename_i f first cap ho;rw[ho]at hx
  split at he
  ·rename_i ds hds
   split at he
   ·rename_i ids e1 e2
    cases he
    have e2:=zB e2;have hl:=hx.len;simp only[Op.operands,Array.toList_append,List.map_append,length_append,List.length_map,Array.length_toList]at hl;have hf:first=#[]:=by
     apply Array.eq_empty_of_size_eq_zero;omega
    subst hf;refine op_makeFunc H ho ?_ hK;have hds':=dsOf_sound hds hx;have hm:=allSome_map e1;simp only[Op.operands,Array.toList_append,List.nil_append]at hds';refine All2.of_get (hm.len.trans hds'.len) fun j i hj => ?_;obtain⟨d,hd,hdi⟩:=hm.get hj;obtain⟨u,hu,hr⟩:=hds'.get hd;refine⟨u,by simpa using hu, ?_⟩
    split at hdi
    ·cases hdi;exact hr
    ·cases hdi
   ·cases he
  ·cases he
 case h_19 =>
  rename_i ho;rw[ho]at hx
  cases hx with | cons h1 h2=>cases h2 with | cons h2 h3 =>
  split at he
  ·rename_i ti n' c' hti e1 e2
   split at he
   ·rename_i e hd
    split at he
    ·rename_i ei hei
     split at he
     ·rename_i z hz
      split at he
      ·rename_i zr hzr
       split at he
       ·rename_i hck
        cases he
        simp only[Bool.and_eq_true]at hck;have k2:=zB hck.1;have k3:0<ei.info.size:=by simpa using hck.2
        simp only[reduceCtorEq,Option.some.injEq,false_or]at hc;obtain⟨kn,hkn⟩:∃k,a.eval _ = .int k n':=by
         unfold intD at e1;split at e1
         ·cases e1;exact ⟨_,h1.1⟩
         ·cases e1
        obtain⟨kc,hkc⟩:∃k,a.eval _ = .int k c':=by
         unfold intD at e2;split at e2
         ·cases e2;exact ⟨_,h2.1⟩
         ·cases e2
        exact op_makeSlice H ht ho hti hd hei hz hzr k2 k3 hkn hkc hc (new_of hnew (by omega) (List.mem_singleton_self _)) ti.ez hK
       ·cases he
      ·cases he
     ·cases he
    ·cases he
   ·cases he
  ·cases he
 case h_20 =>
  rename_i X lo hi mx d xs ho;rw[ho]at hx;have hx':All2 (RepX a.tmps w F h β) (.d d::xs) (a.eval X::(lo.toList.map a.eval++(hi.toList.map a.eval++(mx.toList.map a.eval++[])))):=by simpa [Op.operands]using hx
  cases hx' with | cons h1 h2 =>
  split at he
  ·rename_i lo' xs1 e1;obtain⟨p1,q1⟩:=pickOpt_sound e1 h2
   split at he
   ·rename_i hi' xs2 e2;obtain⟨p2,q2⟩:=pickOpt_sound e2 q1
    split at he
    ·rename_i mx' e3;obtain⟨p3,_⟩:=pickOpt_sound e3 q2;exact evSlice_sound H ht hhh ho he hc h1 p1 p2 p3 hnew hK
    ·cases he
   ·cases he
  ·cases he
 case h_21 =>
  rename_i s X k c' ho;rw[ho]at hx
  cases hx with | cons h1 h2 =>
  split at he
  ·rename_i ti hti
   split at he
   ·rename_i f hf;simp only[Option.bind_eq_some_iff]at hf;obtain⟨fs,hfs,hf⟩:=hf;have aux:∀fi,TT f.type=some fi→0<fi.info.size→∀ {b off:Nat},a.eval X = .pointer (some ⟨b,off,none⟩)→∀ {c2:C},RepC w F h β c2 (.pointer (some ⟨b,off+f.offset,none⟩)) →
      (∀v w',Out w0 O0 F0 w F h β a.tmps [] (.d (.one c2)) v w'→K (a.put o.dst v) w')→o.wp P a w K Q:=fun fi hfi hp b off hu c2 hr hK=>op_fieldAddr H ht ho hti hfs hf hfi hp hu hr hK
    have aux2:∀ {b:Bool},((match TT f.type with | some fi=>Nat.blt 0 fi.info.size | none=>false)&&b)=true→∃fi,TT f.type=some fi∧0<fi.info.size∧b=true:=fun {b} hb=>by
     simp only[Bool.and_eq_true]at hb;obtain⟨g1,g2⟩:=hb
     split at g1
     ·rename_i fi hfi;exact ⟨fi,hfi,by simpa using g1,g2⟩
     ·cases g1
    split at he
    ·rename_i i off hck
     cases he
     obtain⟨fi,hfi,hp,hth⟩:=aux2 hck;simp only[isThere]at hth
     split at hth
     ·rename_i hb;obtain⟨b,e1,e2⟩:=h1.2.2 _ (hhh _ _ hb);exact aux fi hfi hp e2 (c2 := .ptr i (off+f.offset)) ⟨rfl,h1.2.1,fun ob _=>⟨b,e1,rfl⟩⟩ hK
     ·cases hth
    ·rename_i i sz n off hck
     cases he
     obtain⟨fi,hfi,hp,hth⟩:=aux2 hck;simp only[isThere]at hth
     split at hth
     ·rename_i ob hb;obtain⟨b,n',cap,e1,e2,e3⟩:=h1.2.2 _ (hhh _ _ hb);exact aux fi hfi hp e3 (c2 := .eptr i sz n (off+f.offset)) ⟨rfl,h1.2.1,fun ob _=>⟨b,n',cap,e1,e2,by rw[Nat.add_assoc]⟩⟩ hK
     ·cases hth
    ·rename_i m get hck;obtain⟨fi,hfi,hp,hth⟩:=aux2 hck
     split at he
     ·rename_i hle
      cases he
      obtain⟨b,off,e,hf',hc'⟩:=h1;refine aux fi hfi hp e (c2 := .r (.rop (m-f.offset) fun j=>get (f.offset+j))) ⟨b,off+f.offset,rfl,hf',fun j hj => ?_⟩ hK;obtain⟨y,hy,hr⟩:=hc' (f.offset+j) (by omega);exact⟨y,by rw[Nat.add_assoc];exact hy,hr⟩
     ·cases he
    ·cases he
   ·cases he
  ·cases he
 case h_22 =>
  rename_i s X k cs ho;rw[ho]at hx
  cases hx with | cons h1 h2 =>
  split at he
  ·rename_i ti hti
   split at he
   ·rename_i f hf;simp only[Option.bind_eq_some_iff]at hf;obtain⟨fs,hfs,hf⟩:=hf
    split at he
    ·rename_i fi hfi
     split at he
     ·simp only[Option.map_eq_some_iff,Prod.mk.injEq]at he;obtain⟨d,hd,rfl,rfl,rfl⟩:=he;exact op_field H ht ho hti hfs hf hfi hd h1 hK
     ·cases he
    ·cases he
   ·cases he
  ·cases he
 case h_23 =>
  rename_i ty X Y c' i ho;rw[ho]at hx
  cases hx with | cons h1 h2=>cases h2 with | cons h2 h3 =>
  split at he
  ·rename_i es i' e1 e2;simp only[Option.bind_eq_some_iff]at e1;obtain⟨ti,hti,e1⟩:=e1
   split at e1
   ·rename_i e hd;simp only[Option.map_eq_some_iff]at e1;obtain⟨ei,hei,rfl⟩:=e1;obtain⟨k,hk⟩:∃k,a.eval Y = .int k i':=by
     unfold intD at e2;split at e2
     ·cases e2;exact ⟨_,h2.1⟩
     ·cases e2
    split at he
    ·split at he
     ·rename_i hsz
      cases he
      have hsz:=zB hsz;simp only[reduceCtorEq,Option.some.injEq,false_or]at hc;exact op_indexAddr_ro H ht ho hti hd hei hsz h1 hk hc hK
     ·cases he
    ·split at he
     ·rename_i hid
      split at he
      ·rename_i hsz
       cases he
       have hsz:=zB hsz;simp only[reduceCtorEq,Option.some.injEq,false_or]at hc;exact op_indexAddr_own H ht ho hti hd hei hsz (hhh _ _ hid) h1 hk hc hK
      ·cases he
     ·cases he
    ·cases he
   ·cases e1
  ·rename_i i' _ e2;obtain⟨k,hk⟩:∃k,a.eval Y = .int k i':=by
    unfold intD at e2;split at e2
    ·cases e2;exact ⟨_,h2.1⟩
    ·cases e2
   exact op_arr H ht hhh ho he hc h1 hk hK
  ·cases he
 case h_24 =>
  rename_i ty X Y s i ho;rw[ho]at hx
  cases hx with | cons h1 h2=>cases h2 with | cons h2 h3 =>
  split at he
  ·rename_i i' e1 e2
   cases he
   split at e1
   ·rename_i ti hti;obtain⟨k,hk⟩:∃k,a.eval Y = .int k i':=by
     unfold intD at e2;split at e2
     ·cases e2;exact ⟨_,h2.1⟩
     ·cases e2
    simp only[reduceCtorEq,Option.some.injEq,false_or]at hc;exact op_index H ht ho hti e1 h1.1 hk hc hK
   ·cases e1
  ·cases he
 case h_25 =>
  rename_i X k xs ho;rw[ho]at hx
  cases hx with | cons h1 h2 =>
  split at he
  ·rename_i d hd
   cases he
   exact op_extract H ho hd h1 hK
  ·cases he
 case h_26 =>
  rename_i call ho;rw[ho]at hx;obtain⟨callee,args,ats⟩:=call;dsimp only at he
  split at he
  ·exact evBuiltin_sound H ht hhh ho he hc (by simpa [Op.operands,Call.operands]using hx) hnew hK
  ·rename_i fo f caps xs'';have hx':All2 (RepX a.tmps w F h β) (.d (.one (.fn f caps))::xs'') (a.eval fo::args.toList.map a.eval):=by simpa [Op.operands,Call.operands]using hx
   cases hx' with | cons h1 h2 =>
   split at he
   ·rename_i con ds hcon hds hbx;exact op_call H hΓ hhh ho hcon hds hbx h1 h2 he hc hnew hK
   ·cases he
  ·cases he
 case h_27=>cases he
end
end Go.Proofs.YtkhhclpkljikkaaDoor.Ev
/-
 Typed lists: what an operation makes,told by lists.
-/
namespace Go.Proofs.YtkhhclpkljikkaaDoor.Ev
open Go
open List (length length_append length_cons length_singleton length_replicate length_set length_take length_drop mem_cons_of_mem mem_cons_self getD replicate mem_append_left mem_append_right all_eq_true drop_eq_getElem_cons drop_eq_nil_of_le append_assoc mem_singleton getElem?_append_left getElem?_append_right getElem?_eq_none getElem?_take mem_append)
def Le (r r':R):Prop:=∀w F u,Ro w F r u→Ro w F r' u
theorem Le.refl (r:R):Le r r:=fun _ _ _ h=>h
theorem Le.of_eq {r r':R} (h:r=r'):Le r r':=h ▸ Le.refl r
theorem castL_some {t e:Ty} {l:List (Den t)} {m:List (Den e)} (h:castL t e l=some m):∃g:t=e,m=g ▸ l:=by
 unfold castL at h
 split at h
 ·rename_i g _;cases h;exact ⟨g.down,rfl⟩
 ·cases h
theorem headR_some {α:Type} {f:R→Option α} {rs rest:List R} {x:α} (h:headR f rs=some (x,rest)):∃r,rs=r::rest∧f r=some x:=by
 cases rs with
 |nil=>cases h
 |cons r rs =>
  simp only[headR]at h
  split at h
  ·rename_i hf;cases h;exact ⟨r,rfl,hf⟩
  ·cases h
theorem intR_some {k:IntKind} {r:R} {n:Int} (h:intR k r=some n):r = .v (.int k n):=by
 unfold intR at h
 split at h
 ·split at h
  ·rename_i hk;cases h;have:=of_decide_eq_true hk;subst this;rfl
  ·cases h
 ·cases h
theorem strR_some {r:R} {n:List UInt8} (h:strR r=some n):r = .v (.string (mk n)):=by
 unfold strR at h
 split at h
 ·cases h;rfl
 ·cases h
theorem boolR_some {r:R} {n:Bool} (h:boolR r=some n):r = .v (.bool n):=by
 unfold boolR at h
 split at h
 ·cases h;rfl
 ·cases h
theorem nil_le (t:Ty):Le (.v (.slice none 0 0)) (.li t []):=fun w F u hu=>⟨none,0,by rw[hu.1];rfl,by simp,by simp[maxLen], .inl rfl⟩
theorem listR_some {t:Ty} {r:R} {l:List (Den t)} (h:listR t r=some l):Le r (.li t l):=by
 unfold listR at h
 split at h
 ·obtain ⟨g,rfl⟩:=castL_some h;subst g;exact Le.refl _
 ·cases h;exact nil_le t
 ·cases h
theorem castM_some {k e k' e':Ty} {m:List (Den k×Den e)} {m':List (Den k'×Den e')} (h:castM k e k' e' m=some m'):∃(g:k=k') (g':e=e'),m'=g ▸ g' ▸ m:=by
 unfold castM at h
 split at h
 ·rename_i g g' _ _;cases h;exact ⟨g.down,g'.down,rfl⟩
 ·cases h
theorem mapR_some {k e:Ty} {r:R} {m:List (Den k×Den e)} (h:mapR k e r=some m):r = .mp k e m:=by
 unfold mapR at h
 split at h
 ·obtain ⟨g,g',rfl⟩:=castM_some h;subst g;subst g';rfl
 ·cases h
theorem treeR_some {rs rest:List R} {x:GTree} (h:treeR rs=some (x,rest)):∃a b c,rs=a::b::c::rest∧a = .v (.string (mk (GTree.sign x)))∧b = .v (.int .i64 (GTree.rule x))∧Le c (.li .tree (GTree.kids x)):=by
 unfold treeR at h
 split at h
 ·rename_i a b c rs
  split at h
  ·rename_i s n l h1 h2 h3
   cases h
   exact⟨a,b,c,rfl,strR_some h1,intR_some h2,listR_some h3⟩
  ·cases h
 ·cases h
theorem refC_some {t t':Ty} {x:Den t} {y:Den t'} (h:refC t t' x=some y):∃g:t=t',y=g ▸ x:=by
 unfold refC at h
 split at h
 ·rename_i g _;cases h;exact ⟨g.down,rfl⟩
 ·cases h
theorem refR_some {t:Ty} {n:Nat} {f:List R→Option (Den t×List R)} {r:R} {x:Den t} (h:refR t n f r=some x):r = .rf t x∨∃get,r = .rop n get∧f ((List.range n).map get)=some (x,[]):=by
 unfold refR at h
 split at h
 ·obtain ⟨g,rfl⟩:=refC_some h;subst g;exact .inl rfl
 ·rename_i m get
  split at h
  ·rename_i hb;have:=zB hb;subst this
   split at h
   ·rename_i y h1;cases h;exact .inr ⟨get,rfl,h1⟩
   ·cases h
  ·cases h
 ·cases h
theorem rop_le {n:Nat} {get:Nat→R} {rs:List R} (h:All2 Le ((List.range n).map get) rs):Le (.rop n get) (.rop n fun j=>rs.getD j z0):=by
 rintro w F u ⟨b,o,e,hf,h3⟩;refine⟨b,o,e,hf,fun j hj => ?_⟩;obtain⟨y,g1,g2⟩:=h3 j hj;have hj':((List.range n).map get)[j]? = some (get j):=by simp[hj]
 obtain⟨r,g3,g4⟩:=h.get hj';exact⟨y,g1,by show Ro w F (rs.getD j z0) y;rw[zG,g3];exact g4 w F y g2⟩
theorem parseR_sound:∀ {t:Ty} {rs:List R} {x:Den t} {rest:List R},parseR t rs=some (x,rest)→∃rs1,rs=rs1++rest∧All2 Le rs1 (cellsR t x)
 | .int k,rs,x,rest,h=>by
  obtain⟨r,h1,h2⟩:=headR_some h;exact⟨[r],h1, .cons (Le.of_eq (intR_some h2)) .nil⟩
 | .str,rs,x,rest,h=>by
  obtain⟨r,h1,h2⟩:=headR_some h;exact⟨[r],h1, .cons (Le.of_eq (strR_some h2)) .nil⟩
 | .bool,rs,x,rest,h=>by
  obtain⟨r,h1,h2⟩:=headR_some h;exact⟨[r],h1, .cons (Le.of_eq (boolR_some h2)) .nil⟩
 | .list t,rs,x,rest,h=>by
  obtain⟨r,h1,h2⟩:=headR_some h;exact⟨[r],h1, .cons (listR_some h2) .nil⟩
 | .pair a b,rs,x,rest,h=>by
  simp only[parseR]at h
  split at h
  ·rename_i y rs2 h1
   split at h
   ·rename_i z rs3 h2
    cases h
    obtain⟨p,e1,q1⟩:=parseR_sound h1;obtain⟨p',e2,q2⟩:=parseR_sound h2;exact⟨p++p',by rw[e1,e2,append_assoc],q1.append q2⟩
   ·cases h
  ·cases h
 | .struct t,rs,x,rest,h=>parseR_sound (t:=t) h
 | .unit,rs,x,rest,h=>by cases h;exact ⟨[],rfl, .nil⟩
 | .tree,rs,x,rest,h=>by
  obtain⟨a,b,c,h1,h2,h3,h4⟩:=treeR_some h;exact⟨[a,b,c],h1, .cons (Le.of_eq h2) (.cons (Le.of_eq h3) (.cons h4 .nil))⟩
 | .map k e,rs,x,rest,h=>by
  obtain⟨r,h1,h2⟩:=headR_some h;exact⟨[r],h1, .cons (Le.of_eq (mapR_some h2)) .nil⟩
 | .ref t,rs,(x:Den t),rest,h=>by
  obtain⟨r,h1,h2⟩:=headR_some h;rcases refR_some h2 with rfl | ⟨get,rfl,h3⟩
  ·exact ⟨[_],h1, .cons (Le.refl _) .nil⟩
  ·obtain ⟨p,e1,q1⟩:=parseR_sound (t:=t) h3;rw[List.append_nil]at e1;subst e1;exact⟨[_],h1, .cons (fun w F u hu=>Ro_rf.2 (rop_le q1 w F u hu)) .nil⟩
theorem asR_sound {t:Ty} {rs:List R} {x:Den t} (h:asR t rs=some x):All2 Le rs (cellsR t x):=by
 unfold asR at h
 split at h
 ·rename_i h1
  cases h
  obtain⟨p,e,q⟩:=parseR_sound h1;rw[e,List.append_nil];exact q
 ·cases h
/-! ### the same memory, told otherwise -/
def Shp (h g:HF):Prop:=∀i,((∃q,h i=some q)↔∃q,g i=some q)∧((∃o,h i=some (some o))↔∃o,g i=some (some o))
theorem look_mem' {α:Type}:∀ {l:List (Nat×α)} {i:Nat} {x:α},look l i=some x→(i,x)∈l
 | [],i,x,h=>by simp[look]at h
 | (k,y)::l,i,x,h=>by
  simp only[look]at h
  cases hb:Nat.beq k i
  ·rw[hb]at h;exact mem_cons_of_mem _ (look_mem' h)
  ·rw[hb]at h;have e:=zB hb;simp only[cond_true,Option.some.injEq]at h;subst e;subst h;exact mem_cons_self ..
theorem Shp.symm {h g:HF} (s:Shp h g):Shp g h:=fun i=>⟨(s i).1.symm,(s i).2.symm⟩
theorem Shp.refl (h:HF):Shp h h:=fun _=>⟨Iff.rfl,Iff.rfl⟩
section
variable {w0 w w':World} {O0 F0 F F':Nat→Prop} {h g h' g':HF} {β β':Nat→Value}
theorem Shp.repC (s:Shp h g) {c:C} {u:Value} (hc:RepC w F h β c u):RepC w F g β c u:=by
 have p:∀ {i},(∃q,h i=some q)→∃q,g i=some q:=fun {i}=>(s i).1.1;have b:∀ {i o},g i=some (some o)→∃o,h i=some (some o):=fun {i o} hi=>(s i).2.2 ⟨o,hi⟩
 cases c with
 |r x=>exact hc
 |own i=>exact ⟨hc.1,p hc.2.1,fun o ho=>by obtain⟨o',ho'⟩:=b ho;exact hc.2.2 o' ho'⟩
 |ptr i off=>exact ⟨hc.1,p hc.2.1,fun o ho=>by obtain⟨o',ho'⟩:=b ho;exact hc.2.2 o' ho'⟩
 |eptr i sz k off=>exact ⟨hc.1,p hc.2.1,fun o ho=>by obtain⟨o',ho'⟩:=b ho;exact hc.2.2 o' ho'⟩
 |win i sz k=>exact ⟨hc.1,p hc.2.1,fun o ho=>by obtain⟨o',ho'⟩:=b ho;exact hc.2.2 o' ho'⟩
 |slf i=>exact ⟨hc.1,p hc.2.1,fun o ho=>by obtain⟨o',ho'⟩:=b ho;exact hc.2.2 o' ho'⟩
 |dsl i q=>exact ⟨hc.1,p hc.2.1,fun o ho=>by obtain⟨o',ho'⟩:=b ho;exact hc.2.2 o' ho'⟩
 |dptr i q sz k off=>exact ⟨hc.1,p hc.2.1,fun o ho=>by obtain⟨o',ho'⟩:=b ho;exact hc.2.2 o' ho'⟩
 |fn f l=>exact ⟨hc.1,fun i hi=>p (hc.2.1 i hi),fun hall=>hc.2.2 fun i hi=>by obtain⟨o,ho⟩:=hall i hi;exact b ho⟩
 |junk=>exact hc
theorem Shp.repD (s:Shp h g) {d:D} {u:Value} (hd:RepD w F h β d u):RepD w F g β d u:=by
 cases d with
 |one c=>exact s.repC hd
 |agg cs=>obtain ⟨us,e,hh⟩:=hd;exact ⟨us,e,hh.mono fun _ _=>s.repC⟩
theorem Shp.repX (s:Shp h g) {tm:Array Value} {x:T} {u:Value} (hx:RepX tm w F h β x u):RepX tm w F g β x u:=by
 cases x with
 |d x=>exact s.repD hx
 |tup xs=>obtain ⟨us,e,hh⟩:=hx;exact ⟨us,e,hh.mono fun _ _=>s.repD⟩
 |when t b x=>exact ⟨fun e=>s.repD (hx.1 e),hx.2⟩
 |nilq n=>exact hx
 |und=>exact hx
 |unk=>trivial
theorem Shp.repO (s:Shp h g) {i:Nat} {o:Obj} (ho:RepO w F h β i o):RepO w F g β i o:=by
 cases o with
 |box t cs=>obtain ⟨b,us,h1,h2,h3⟩:=ho;exact ⟨b,us,h1,h2,h3.mono fun _ _=>s.repC⟩
 |arr t sz n get=>exact ho
 |lis t e l=>exact ho
 |map k e m=>exact ho
 |deep ts e l=>exact ho
theorem Inv.told (H:Inv w0 O0 F0 w F h β) (s:Shp h g) (hg:∀i o o',h i=some (some o)→g i=some (some o')→RepO w F g β i o→RepO w F g β i o'):Inv w0 O0 F0 w F g β:=by
 have b:∀ {i o},g i=some (some o)→∃o,h i=some (some o):=fun {i o} hi=>(s i).2.2 ⟨o,hi⟩;refine⟨fun i o hi => ?_,fun i j o o' k hi hj => ?_,fun i o k hi => ?_,H.low,H.os,H.tape,H.output,H.size,H.kept,fun i o k hi => ?_,H.fromF,H.inF⟩
 ·obtain ⟨o',ho'⟩:=b hi;exact hg i o' o ho' hi (s.repO (H.obj i o' ho'))
 ·obtain ⟨o1,h1⟩:=b hi;obtain⟨o2,h2⟩:=b hj;exact H.apart i j o1 o2 k h1 h2
 ·obtain ⟨o1,h1⟩:=b hi;exact H.notF i o1 k h1
 ·obtain ⟨o1,h1⟩:=b hi;exact H.fromO i o1 k h1
theorem Shp.per (s:Shp h g) (s':Shp h' g') (p:Per w F h β w' F' h' β'):Per w F g β w' F' g' β':=by
 refine⟨p.blocks,p.sub,fun i q hi => ?_,fun i q o hi ho => ?_⟩
 ·obtain ⟨q',hq'⟩:=(s i).1.2 ⟨q,hi⟩;obtain⟨q2,hq2⟩:=p.pres i q' hq';exact(s' i).1.1 ⟨q2,hq2⟩
 ·obtain ⟨q',hq'⟩:=(s i).1.2 ⟨q,hi⟩;obtain⟨o2,ho2⟩:=(s' i).2.2 ⟨o,ho⟩;obtain⟨⟨o3,e3⟩,e4⟩:=p.back i q' o2 hq' ho2;subst e3;obtain⟨o4,ho4⟩:=(s i).2.1 ⟨o3,hq'⟩;rw[hi]at ho4
  cases ho4
  exact⟨⟨o4,rfl⟩,e4⟩
def erF (h:HF):HF:=fun i=>(h i).map fun q=>q.map Obj.er
theorem erF_shp (h:HF):Shp h (erF h):=fun i=>by
 unfold erF
 cases h i with
 |none=>simp
 |some q=>cases q<;>simp
theorem RepO_er {i:Nat} {o:Obj}:RepO w F h β i o.er↔RepO w F h β i o:=by
 cases o<;>exact Iff.rfl
theorem Inv.er (H:Inv w0 O0 F0 w F h β):Inv w0 O0 F0 w F (erF h) β :=
 H.told (erF_shp h) fun i o o' hi hi' hr=>by
  simp only[erF,hi,Option.map_some,Option.some.injEq]at hi';subst hi';exact RepO_er.2 hr
theorem er_sound {tm:Array Value} {x:T} {u:Value} (hx:RepX tm w F h β x u):RepX tm w F h β x.er u:=by
 unfold T.er
 split
 ·exact Ro_rf.1 hx
 ·exact Ro_li.1 hx
 ·exact hx
/-! ### what is made -/
structure PayOk (p:Pay) (sz n:Nat) (get:Nat→Nat→R):Prop where
 sz_eq:sz=width p.t
 n_eq:n=p.l.length
 get_le:∀k,k<n→∀j,j<sz→Le (get k j) (getL p.t p.l k j)
theorem PayOk.repO {p:Pay} {t:TypeId} {sz n:Nat} {get:Nat→Nat→R} (hp:PayOk p sz n get) {i:Nat} (ho:RepO w F h β i (.arr t sz n get)):RepO w F h β i (.lis t p.t p.l):=by
 obtain⟨rfl,rfl,hg⟩:=hp;rcases ho with h1 | ⟨b,cap,cur,h1,h2,h3,h4,h5,h6,h7⟩
 ·exact .inl h1
 ·refine .inr ⟨b,cap,cur,h1,h2,h3,h4,h5,h6,fun k hk j hj => ?_⟩;obtain⟨y,g1,g2⟩:=h7 k hk j hj;exact⟨y,g1,hg k hk j hj _ _ _ g2⟩
theorem PayOk.ro {p:Pay} {sz n:Nat} {get:Nat→Nat→R} (hp:PayOk p sz n get) {u:Value} (ho:Ro w F (.sl sz n get) u):Ro w F (.li p.t p.l) u:=by
 obtain⟨rfl,rfl,hg⟩:=hp;refine Ro_li.2 ?_;obtain⟨a,cap,h1,h2,h3,h4⟩:=ho;refine⟨a,cap,h1,h2,h3, ?_⟩;rcases h4 with h4 | ⟨b,off,g1,g2,g3⟩
 ·exact .inl h4
 ·refine .inr ⟨b,off,g1,g2,fun k hk j hj => ?_⟩;obtain⟨y,q1,q2⟩:=g3 k hk j hj;exact⟨y,q1,hg k hk j hj _ _ _ q2⟩
def UpsPay (p:Pay) (ups:Ups):Prop:=∀i t sz n get,(i,some (.arr t sz n get))∈ups→PayOk p sz n get
def XPay (p:Pay) (x:T):Prop:=∀sz n get,x = .d (.one (.r (.sl sz n get)))→PayOk p sz n get
theorem retX_sound {p:Pay} {x:T} (hp:XPay p x) {tm:Array Value} {u:Value} (hx:RepX tm w F h β x u):RepX tm w F h β (retX p x) u:=by
 unfold retX
 split
 ·exact (hp _ _ _ rfl).ro hx
 ·exact hx
theorem look_ret (p:Pay):∀(ups:Ups) (i:Nat),look (ups.map (retO p)) i=(look ups i).map fun q=>(retO p (i,q)).2
 | [],i=>rfl
 | (k,q)::l,i=>by
  have e:(retO p (k,q)).1=k:=by
   unfold retO
   split
   ·rename_i heq;cases heq;rfl
   ·rfl
  simp only[List.map_cons,look];rw[show retO p (k,q)=((retO p (k,q)).1,(retO p (k,q)).2)from rfl,e]
  cases hb:Nat.beq k i
  ·simp only[cond_false];exact look_ret p l i
  ·have:=zB hb;subst this;simp
def retUps:Option Pay→Ups→Ups
 |some q,ups=>ups.map (retO q)
 |none,ups=>ups
def retT:Option Pay→T→T
 |some q,x=>retX q x
 |none,x=>x
def ret1:Option Pay→Nat×Option Obj→Option Obj
 |some r,x=>(retO r x).2
 |none,x=>x.2
theorem Out.told {p:Option Pay} {h0:HF} (s:Shp h0 h) (hs:∀i o o',h0 i=some (some o)→h i=some (some o')→∀(w:World) (F:Nat→Prop) (h:HF) (β:Nat→Value),RepO w F h β i o→RepO w F h β i o') {tm:Array Value} {ups:Ups} {x:T} {v:Value}
  (hp:∀q,p=some q→UpsPay q ups∧XPay q x) (ho:Out w0 O0 F0 w F h0 β tm ups x v w') :
  Out w0 O0 F0 w F h β tm (retUps p ups) (retT p x) v w':=by
 obtain⟨F',β',h1,h2,h3⟩:=ho;have key:∀i,upd (retUps p ups) h i=match look ups i with | some q=>some (ret1 p (i,q)) | none=>h i:=fun i=>by
  cases p with
  |none=>rfl
  |some r =>
   simp only[upd,retUps,ret1,look_ret]
   cases look ups i<;>rfl
 have s':Shp (upd ups h0) (upd (retUps p ups) h):=fun i=>by
  rw[key];simp only[upd]
  cases look ups i with
  |none=>exact s i
  |some q =>
   cases p with
   |none=>exact ⟨Iff.rfl,Iff.rfl⟩
   |some r =>
    refine⟨by simp, ?_⟩;simp only[Option.some.injEq,ret1];unfold retO
    split
    ·rename_i heq;cases heq;simp
    ·rename_i heq;rfl
 refine⟨F',β',h1.told s' fun i o o' hi hi' hr => ?_,s.per s' h2, ?_⟩
 ·rw[key]at hi';simp only[upd]at hi
  cases hl:look ups i with
  |none =>
   rw[hl]at hi hi';exact hs i o o' hi hi' _ _ _ _ hr
  |some q =>
   rw[hl]at hi hi'
   cases p with
   |none=>cases hi;cases hi';exact hr
   |some r =>
    cases hi
    simp only[Option.some.injEq,ret1]at hi';unfold retO at hi'
    split at hi'
    ·rename_i heq
     cases heq
     cases hi'
     exact((hp r rfl).1 _ _ _ _ _ (look_mem' hl)).repO hr
    ·rename_i heq
     cases hi';exact hr
 ·cases p with
  |none=>exact s'.repX h3
  |some r=>exact s'.repX (retX_sound (hp r rfl).2 h3)
end
theorem getL_lt {t:Ty} {l:List (Den t)} {k:Nat} {x:Den t} (hk:l[k]? = some x) (j:Nat):getL t l k j=(cellsR t x).getD j z0:=by
 simp[getL,getD,hk]
theorem le_at {rs:List R} {t:Ty} {x:Den t} (h:All2 Le rs (cellsR t x)) {j:Nat} (hj:j<width t):Le (rs.getD j z0) ((cellsR t x).getD j z0):=by
 have hlt:j<rs.length:=by rw[h.len,cellsR_len];exact hj
 obtain⟨y,hy,hl⟩:=h.get (zE hlt);simp only[getD,zE hlt,hy,Option.getD_some];exact hl
theorem setR_get:∀ {cs:List R} {off:Nat} {xs:List R} {j:Nat},j<cs.length→(setR cs off xs).getD j z0=if off≤j∧j<off+xs.length then xs.getD (j-off) z0 else cs.getD j z0
 |cs,off,[],j,_=>by
  rw[if_neg (by simp only[List.length_nil];omega)];rfl
 |cs,off,x::xs,j,hj=>by
  rw[setR,setR_get (by rw[length_set];exact hj)]
  by_cases h1:off+1≤j∧j<off+1+xs.length
  ·rw[if_pos h1,if_pos (by simp only[length_cons];omega),show j-off=(j-(off+1))+1 by omega];simp[getD]
  ·rw[if_neg h1]
   by_cases h2:j=off
   ·subst h2;rw[if_pos (by simp only[length_cons];omega)];simp[getD,hj]
   ·rw[if_neg (by simp only[length_cons];omega)];simp only[getD,List.getElem?_set_ne (Ne.symm h2)]
end Go.Proofs.YtkhhclpkljikkaaDoor.Ev
/-
 Maps of the call's own,and read only ones.
-/
namespace Go.Proofs.YtkhhclpkljikkaaDoor.Ev
open Go
open List (length length_append length_cons length_singleton length_replicate length_set length_take length_drop mem_cons_of_mem mem_cons_self getD replicate mem_append_left mem_append_right all_eq_true drop_eq_getElem_cons drop_eq_nil_of_le append_assoc mem_singleton getElem?_append_left getElem?_append_right getElem?_eq_none getElem?_take mem_append)
def KV (w:World) (F:Nat→Prop) (t:Ty) (x:Den t) (u:Value):Prop:=RoL w F t x u.cells.toList∧formV t u
theorem KV.mono {w w':World} {F F':Nat→Prop} (hb:∀b,F b→w'.heap[b]? = w.heap[b]?) (hF:∀b,F b→F' b) {t:Ty} {x:Den t} {u:Value} (h:KV w F t x u):KV w' F' t x u:=⟨RoL.mono hb hF h.1,h.2⟩
theorem ofD_agg {t:Ty} (h:isStruct t=true) (x:Den t):ofD t x = .agg ((cellsR t x).map .r):=by
 cases t<;>first | rfl | cases h
theorem ofD_one {t:Ty} (h:isStruct t=false) (x:Den t):∃r,cellsR t x=[r]∧ofD t x = .one (.r r):=by
 cases t<;>first | exact⟨_,rfl,rfl⟩ | cases h
theorem KV_repD {w:World} {F:Nat→Prop} {h:HF} {β:Nat→Value} {t:Ty} {x:Den t} {u:Value}:KV w F t x u↔RepD w F h β (ofD t x) u:=by
 constructor
 ·rintro ⟨h1,h2⟩
  cases hs:isStruct t
  ·obtain ⟨r,e1,e2⟩:=ofD_one hs x;rw[e2];have:=RoL_cells.1 h1;rw[e1,cells_one (h2.2 hs)]at this
   cases this with | cons g _=>exact g
  ·obtain ⟨us,rfl⟩:=h2.1 hs;rw[ofD_agg hs];exact⟨us,rfl,All2.map_l.2 (RoL_cells.1 h1)⟩
 ·intro h1
  cases hs:isStruct t
  ·obtain ⟨r,e1,e2⟩:=ofD_one hs x;rw[e2]at h1;have h1:Ro w F r u:=h1;refine⟨RoL_cells.2 ?_,⟨fun e=>(by rw[hs]at e;cases e),fun _=>Ro.one h1⟩⟩;rw[e1,cells_one (Ro.one h1)];exact .cons h1 .nil
  ·rw[ofD_agg hs]at h1;obtain⟨us,rfl,h2⟩:=h1;exact⟨RoL_cells.2 (All2.map_l (f:=C.r).1 h2),fun _=>⟨us,rfl⟩,fun e=>(by rw[hs]at e;cases e)⟩
section
variable {P:Program} {TT:Types} {w:World} {F:Nat→Prop}
theorem eq_str (a b:ByteArray):(a==b)=decide (a.data.toList=b.data.toList) :=
 (beq_toListBytes a b).trans (run_seq_eq a b)
def ckFields (em:Bool) (d:Nat) (xs:Array Value):List Field→Sem Unit
 | []=>pure ()
 |f::fs =>
  if f.name ≠ "_" then do
   let a ← part f.type xs f.offset
   Instr.checkKey em d f.type a
   ckFields em d xs fs
  else ckFields em d xs fs
theorem run_check_struct (w:World) (em:Bool) (d:Nat) (t:TypeId) (xs:Array Value) {fs:Array Field} (ht:P.underlying t=some (.struct fs)) :
  (Instr.checkKey em (d+1) t (.agg xs)).run P w=(ckFields em d xs fs.toList).run P w:=by
 simp only[Instr.checkKey,Sem.run_bind,run_underlying ht,Result.andThen_ok];rw[← Array.forIn_toList]
 generalize fs.toList=fs
 clear ht
 induction fs generalizing w with
 |nil=>simp[ckFields]
 |cons f fs ih =>
  simp only[List.forIn_cons,ckFields,Sem.run_bind,Sem.run_ite]
  split
  ·generalize (part f.type xs f.offset).run P w=r1
   cases r1 with
   |ok a w1 =>
    simp only[Result.andThen_ok]
    generalize (Instr.checkKey em d f.type a).run P w1=r2
    cases r2 with
    |ok b w2 =>
     simp only[Result.andThen_ok,Sem.run_pure];exact ih w2
    |halt x w2=>simp[Result.andThen]
   |halt x w1=>simp[Result.andThen]
  ·simp only[Sem.run_pure,Result.andThen_ok];exact ih w
theorem part_KV (ht:TTok P TT) {f:TypeId} {ti:TI} (hti:TT f=some ti) {a:Ty} (hag:aggDesc ti.desc=isStruct a) (hsz:ti.info.size=width a) {x:Den a} {us:Array Value} {off:Nat} {us1:List Value} (h:RoL w F a x us1)
  (hc:us1=(us.toList.drop off).take (width a)):∃v,(part f us off).run P w = .ok v w∧KV w F a x v:=by
 have hl:us1.length=width a:=by rw[← (RoL_cells.1 h).len,cellsR_len]
 cases hs:isStruct a
 ·have h1:width a=1:=by cases a<;>first | rfl | cases hs
  rw[h1]at hl;obtain⟨y,rfl⟩:=List.length_eq_one_iff.1 hl;have hy:us[off]? = some y:=by
   have h0:((us.toList.drop off).take (width a))[0]? = some y:=by rw[← hc];rfl
   rw[getElem?_take]at h0
   split at h0
   ·rw[List.getElem?_drop]at h0;simpa using h0
   ·cases h0
  refine⟨y, ?_, ?_⟩
  ·simp only[part,Sem.run_bind,ht.run_agg hti,hag,hs,Result.andThen_ok,Bool.false_eq_true,if_false,hy,Sem.run_pure]
  ·obtain ⟨r,e1,e2⟩:=ofD_one hs x;have hr:=RoL_cells.1 h;rw[e1]at hr
   cases hr with | cons g _ =>
   exact(KV_repD (h:=fun _=>none) (β:=fun _=>default)).2 (by rw[e2];exact g)
 ·refine ⟨.agg (us.extract off (off+ti.info.size)), ?_, ?_,fun _=>⟨_,rfl⟩,fun e=>(by rw[hs]at e;cases e)⟩
  ·simp only[part,Sem.run_bind,ht.run_agg hti,hag,hs,Result.andThen_ok,if_true,ht.run_size hti,Sem.run_pure]
  ·show RoL w F a x (us.extract off (off+ti.info.size)).toList;have e:(us.extract off (off+ti.info.size)).toList=(us.toList.drop off).take ti.info.size:=by
    simp[Array.toList_extract,List.extract_eq_take_drop]
   rw[e,hsz,← hc];exact h
structure KeyAt (P:Program) (TT:Types) (n:Nat) (kt:TypeId) (k:Ty):Prop where
 ti:∃ti,TT kt=some ti∧aggDesc ti.desc=isStruct k
 check:∀(w:World) (F:Nat→Prop) em d (x:Den k) u,n≤d→KV w F k x u→(Instr.checkKey em d kt u).run P w = .ok () w
 eq:∀(w:World) (F:Nat→Prop) d (x y:Den k) u v,n≤d→KV w F k x u→KV w F k y v→(Op.equalIn d kt u v).run P w = .ok (eqDen k x y) w
 now:∀(w:World) (F:Nat→Prop) ti (x y:Den k) u v,TT kt=some ti→KV w F k x u→KV w F k y v→Instr.sameNow ti.desc u v=some (eqDen k x y)∨Instr.sameNow ti.desc u v=none
theorem one_cell {u y:Value} (h:u.oneCell'=true) (e:u.cells.toList=[y]):u=y:=by
 rw[cells_one h]at e;simpa using e
theorem KV_int {k:IntKind} {x:Den (.int k)} {u:Value} (h:KV w F (.int k) x u):u = .int k x:=one_cell (h.2.2 rfl) h.1.1
theorem KV_str {x:Den .str} {u:Value} (h:KV w F .str x u):u = .string (mk x):=one_cell (h.2.2 rfl) h.1.1
theorem KV_bool {x:Den .bool} {u:Value} (h:KV w F .bool x u):u = .bool x:=one_cell (h.2.2 rfl) h.1
theorem mk_toList (l:List UInt8):(mk l).data.toList=l:=by simp
theorem seq_mk (a b:List UInt8):((mk a)==(mk b))=eqS a b:=by
 rw[eq_str,mk_toList,mk_toList];rfl
theorem key_fs (ht:TTok P TT) {n:Nat} (hk:∀kt k,keyB TT n kt k=true→KeyAt P TT n kt k):∀(fs:List Field) (off:Nat) (t:Ty),keyFs TT (keyB TT n) fs off t=true →
  ∀(w:World) (F:Nat→Prop) (d:Nat),n≤d→∀(xs ys:Array Value) (x y:Den t),RoL w F t x (xs.toList.drop off)→RoL w F t y (ys.toList.drop off) →
   (Op.eqFields d xs ys fs).run P w = .ok (eqDen t x y) w∧∀em,(ckFields em d xs fs).run P w = .ok () w:=by
 have fld : ∀ {f : Field} {off : Nat} {a : Ty}, keyFs.keyF TT (keyB TT n) f off a = true → f.name ≠ "_" ∧ f.offset = off ∧ KeyAt P TT n f.type a ∧ ∃ ti, TT f.type = some ti ∧ ti.info.size = width a := by
  intro f off a h;simp only[keyFs.keyF,Bool.and_eq_true,bne_iff_ne]at h;obtain⟨⟨⟨h1,h2⟩,h3⟩,h4⟩:=h;refine⟨h3,zB h2,hk _ _ h1, ?_⟩
  split at h4
  ·rename_i ti hti;exact ⟨ti,hti,zB h4⟩
  ·cases h4
 have one:∀ {f:Field} {off:Nat} {a:Ty},keyFs.keyF TT (keyB TT n) f off a=true→∀(w:World) (F:Nat→Prop) (xs:Array Value) (x:Den a) (us1:List Value),RoL w F a x us1→us1=(xs.toList.drop off).take (width a)→∃v,(part f.type xs f.offset).run P w = .ok v w∧KV w F a x v:=by
  intro f off a h w F xs x us1 h1 h2;obtain⟨g1,g2,g3,ti,g4,g5⟩:=fld h;obtain⟨ti',g6,g7⟩:=g3.ti;rw[g4]at g6;cases g6;rw[g2];exact part_KV ht g4 g7 g5 h1 h2
 have step:∀ {f:Field} {fs:List Field} {off:Nat} {a:Ty},keyFs.keyF TT (keyB TT n) f off a=true→∀(w:World) (F:Nat→Prop) (d:Nat),n≤d→∀(xs ys:Array Value) (x y:Den a) (us1 vs1:List Value),RoL w F a x us1→RoL w F a y vs1 →
   us1=(xs.toList.drop off).take (width a)→vs1=(ys.toList.drop off).take (width a)→∀(b:Bool),(Op.eqFields d xs ys fs).run P w = .ok b w→(∀em,(ckFields em d xs fs).run P w = .ok () w) →
   (Op.eqFields d xs ys (f::fs)).run P w = .ok (eqDen a x y&&b) w∧∀em,(ckFields em d xs (f::fs)).run P w = .ok () w:=by
  intro f fs off a h w F d hd xs ys x y us1 vs1 h1 h2 e1 e2 b hb hc;obtain⟨g1,g2,g3,_⟩:=fld h;obtain⟨u,p1,p2⟩:=one h w F xs x us1 h1 e1;obtain⟨v,q1,q2⟩:=one h w F ys y vs1 h2 e2
  constructor
  ·simp only[Op.eqFields,g1,ne_eq,not_false_eq_true,if_true,Sem.run_bind,p1,q1,Result.andThen_ok,g3.eq w F d x y u v hd p2 q2,Sem.run_ite]
   cases eqDen a x y
   ·simp
   ·simpa using hb
  ·intro em;simp only[ckFields,g1,ne_eq,not_false_eq_true,if_true,Sem.run_bind,p1,Result.andThen_ok,g3.check w F em d x u hd p2];exact hc em
 intro fs
 induction fs with
 |nil =>
  intro off t h w F d hd xs ys x y h1 h2
  cases t<;>try (simp[keyFs]at h)
  exact⟨by simp[Op.eqFields,eqDen],fun em=>by simp[ckFields]⟩
 |cons f fs ih =>
  intro off t h w F d hd xs ys x y h1 h2
  cases fs with
  |nil =>
   have hf:keyFs.keyF TT (keyB TT n) f off t=true:=h;have key:=step hf w F d hd xs ys x y _ _ h1 h2 (by
    have hl:(xs.toList.drop off).length=width t:=by rw[← (RoL_cells.1 h1).len,cellsR_len]
    rw[List.take_of_length_le (by omega)]) (by
    have hl:(ys.toList.drop off).length=width t:=by rw[← (RoL_cells.1 h2).len,cellsR_len]
    rw[List.take_of_length_le (by omega)]) (fs:=[]) true (by simp[Op.eqFields]) (fun em=>by simp[ckFields])
   rw[Bool.and_true]at key;exact key
  |cons g gs =>
   cases t with
   |pair a b =>
    simp only[keyFs,Bool.and_eq_true]at h;obtain⟨u1,u2,e1,r1,r2⟩:=h1;obtain⟨v1,v2,e2,s1,s2⟩:=h2;have lu:u1.length=width a:=by rw[← (RoL_cells.1 r1).len,cellsR_len]
    have lv:v1.length=width a:=by rw[← (RoL_cells.1 s1).len,cellsR_len]
    have rest:=ih (off+width a) b h.2 w F d hd xs ys x.2 y.2 (by
     rw[← List.drop_drop,e1,List.drop_append_of_le_length (by omega),← lu,List.drop_length,List.nil_append];exact r2) (by
     rw[← List.drop_drop,e2,List.drop_append_of_le_length (by omega),← lv,List.drop_length,List.nil_append];exact s2)
    exact step h.1 w F d hd xs ys x.1 y.1 u1 v1 r1 s1 (by rw[e1,← lu,List.take_left]) (by rw[e2,← lv,List.take_left]) _ rest.1 rest.2
   |_=>simp[keyFs]at h
theorem keyB_ok (ht:TTok P TT):∀(n:Nat) (kt:TypeId) (k:Ty),keyB TT n kt k=true→KeyAt P TT n kt k
 |0,_,_,h=>by cases h
 |n+1,kt,k,h=>by
  have ih:=keyB_ok ht n;simp only[keyB]at h
  split at h
  ·cases h
  ·rename_i ti hti;have hu:=ht.under kt ti hti
   split at h
   ·rename_i a b hd;have:=of_decide_eq_true h;subst this;rw[hd]at hu;refine⟨⟨ti,hti,by rw[hd];rfl⟩,fun w F em d x u hn hx => ?_,fun w F d x y u v hn hx hy => ?_,fun w F ti' x y u v hti' hx hy => ?_⟩
    ·obtain ⟨d,rfl⟩:∃e,d=e+1:=⟨d-1,by omega⟩;rw[KV_int hx];simp[Instr.checkKey,run_underlying hu]
    ·obtain ⟨d,rfl⟩:∃e,d=e+1:=⟨d-1,by omega⟩;have e:=run_equalIn_int w d kt a a x y hu;rw[KV_int hx,KV_int hy];refine e.trans ?_;have:∀a b:Int,(a==b)=eqI a b:=fun a b=>by unfold eqI;rw[Bool.eq_iff_iff,beq_iff_eq,decide_eq_true_iff]
     exact congrArg (fun z=>Result.ok z w) (this _ _)
    ·rw[hti]at hti';cases hti';rw[hd,KV_int hx,KV_int hy];left;have:∀a b:Int,(a==b)=eqI a b:=fun a b=>by unfold eqI;rw[Bool.eq_iff_iff,beq_iff_eq,decide_eq_true_iff]
     simp only[Instr.sameNow,if_true];exact congrArg some (this _ _)
   ·rename_i hd;rw[hd]at hu;refine⟨⟨ti,hti,by rw[hd];rfl⟩,fun w F em d x u hn hx => ?_,fun w F d x y u v hn hx hy => ?_,fun w F ti' x y u v hti' hx hy => ?_⟩
    ·obtain ⟨d,rfl⟩:∃e,d=e+1:=⟨d-1,by omega⟩;rw[KV_str hx];simp[Instr.checkKey,run_underlying hu]
    ·obtain ⟨d,rfl⟩:∃e,d=e+1:=⟨d-1,by omega⟩;rw[KV_str hx,KV_str hy,run_equalIn_string w d kt _ _ hu,← beq_toListBytes];exact congrArg (fun z=>Result.ok z w) (seq_mk _ _)
    ·rw[hti]at hti';cases hti';rw[hd,KV_str hx,KV_str hy];left;simp only[Instr.sameNow];exact congrArg some (seq_mk _ _)
   ·rename_i hd;rw[hd]at hu;refine⟨⟨ti,hti,by rw[hd];rfl⟩,fun w F em d x u hn hx => ?_,fun w F d x y u v hn hx hy => ?_,fun w F ti' x y u v hti' hx hy => ?_⟩
    ·obtain ⟨d,rfl⟩:∃e,d=e+1:=⟨d-1,by omega⟩;rw[KV_bool hx];simp[Instr.checkKey,run_underlying hu]
    ·obtain ⟨d,rfl⟩:∃e,d=e+1:=⟨d-1,by omega⟩;have e:=run_equalIn_bool' w d kt x y hu;rw[KV_bool hx,KV_bool hy];exact e
    ·rw[hti]at hti';cases hti';rw[hd,KV_bool hx,KV_bool hy];left;rfl
   ·rename_i fs s hd;rw[hd]at hu;have hfo:P.fieldsOf kt=fs:=by unfold Program.fieldsOf;rw[hu]
    have hheld:=(ht.held kt ti fs hti hd).1;refine⟨⟨ti,hti,by rw[hd];rfl⟩,fun w F em d x u hn hx => ?_,fun w F d x y u v hn hx hy => ?_,fun w F ti' x y u v hti' hx hy => ?_⟩
    ·obtain ⟨d,rfl⟩:∃e,d=e+1:=⟨d-1,by omega⟩;obtain⟨us,rfl⟩:=hx.2.1 rfl;have:=(key_fs ht ih fs.toList 0 s h w F d (by omega) us us x x hx.1 hx.1).2 em;rw[run_check_struct w em d kt us hu];exact this
    ·obtain ⟨d,rfl⟩:∃e,d=e+1:=⟨d-1,by omega⟩;obtain⟨us,rfl⟩:=hx.2.1 rfl;obtain⟨vs,rfl⟩:=hy.2.1 rfl;rw[run_equalIn_struct w d kt us vs (by rw[hfo];exact hu) hheld,hfo];exact(key_fs ht ih fs.toList 0 s h w F d (by omega) us vs x y hx.1 hy.1).1
    ·rw[hti]at hti';cases hti';obtain⟨us,rfl⟩:=hx.2.1 rfl;rw[hd];right;rfl
   ·cases h
theorem All2_le {rs rs':List R} {us:List Value} (h1:All2 (Ro w F) rs us) (h2:All2 Le rs rs'):All2 (Ro w F) rs' us:=by
 induction h2 generalizing us with
 |nil=>exact h1
 |cons hl _ ih=>cases h1 with |cons g1 g2=>exact .cons (hl _ _ _ g1) (ih g2)
theorem eqI_eq {a b:Int} (h:eqI a b=true):a=b:=of_decide_eq_true h
theorem eqS_eq {a b:List UInt8} (h:eqS a b=true):a=b:=of_decide_eq_true h
theorem bits_int (n:Nat) (k:IntKind) (m:Int):Instr.sameBits n (.int k m) (.int k m)=true:=by cases n<;>simp[Instr.sameBits]
theorem bits_str (n:Nat) (s:ByteArray):Instr.sameBits n (.string s) (.string s)=true:=by cases n<;>simp[Instr.sameBits,eq_str]
theorem bits_bool (n:Nat) (b:Bool):Instr.sameBits n (.bool b) (.bool b)=true:=by cases n<;>simp[Instr.sameBits]
theorem flat_vals {w w':World} {F F':Nat→Prop}:∀ {t:Ty} {x y:Den t} {us vs:List Value},tyFlat t=true→RoL w F t x us→RoL w' F' t y vs→eqDen t x y=true→us=vs∧x=y
 | .int k,x,y,us,vs,_,h1,h2,h3=>by
  have e:x=y:=eqI_eq h3;subst e;exact ⟨h1.1.trans h2.1.symm,rfl⟩
 | .str,x,y,us,vs,_,h1,h2,h3=>by
  have e:x=y:=eqS_eq h3;subst e;exact ⟨h1.1.trans h2.1.symm,rfl⟩
 | .bool,x,y,us,vs,_,h1,h2,h3=>by
  have e:x=y:=eq_of_beq (α:=Bool) h3;subst e;have h1:us=_:=h1;have h2:vs=_:=h2;exact⟨h1.trans h2.symm,rfl⟩
 | .list t,_,_,_,_,hf,_,_,_=>by cases hf
 | .pair a b,x,y,us,vs,hf,⟨u1,u2,e1,p1,p2⟩,⟨v1,v2,e2,q1,q2⟩,h3=>by
  simp only[tyFlat,Bool.and_eq_true]at hf;simp only[eqDen,Bool.and_eq_true]at h3;obtain⟨g1,g2⟩:=flat_vals hf.1 p1 q1 h3.1;obtain⟨g3,g4⟩:=flat_vals hf.2 p2 q2 h3.2;exact⟨by rw[e1,e2,g1,g3],Prod.ext g2 g4⟩
 | .struct t,x,y,us,vs,hf,h1,h2,h3=>flat_vals (t:=t) hf h1 h2 h3
 | .unit,x,y,us,vs,_,h1,h2,_=>by
  have h1:us=[]:=h1;have h2:vs=[]:=h2;exact⟨h1.trans h2.symm,rfl⟩
 | .tree,_,_,_,_,hf,_,_,_=>by cases hf
 | .map _ _,_,_,_,_,hf,_,_,_=>by cases hf
 | .ref _,_,_,_,_,hf,_,_,_=>by cases hf
theorem flat_bits:∀ {t:Ty} {x:Den t} {us:List Value},tyFlat t=true→RoL w F t x us→∀u∈us,∀n,Instr.sameBits n u u=true
 | .int k,x,us,_,h,u,hu,n=>by
  obtain⟨rfl,_⟩:=h;simp only[mem_singleton]at hu;subst hu;exact bits_int n k _
 | .str,x,us,_,h,u,hu,n=>by
  obtain⟨rfl,_⟩:=h;simp only[mem_singleton]at hu;subst hu;exact bits_str n _
 | .bool,x,us,_,h,u,hu,n=>by
  have h:us=_:=h;subst h;simp only[mem_singleton]at hu;subst hu;exact bits_bool n _
 | .list t,_,_,hf,_,_,_,_=>by cases hf
 | .pair a b,x,us,hf,⟨u1,u2,e1,p1,p2⟩,u,hu,n=>by
  simp only[tyFlat,Bool.and_eq_true]at hf;subst e1;rcases mem_append.1 hu with hu | hu
  ·exact flat_bits hf.1 p1 u hu n
  ·exact flat_bits hf.2 p2 u hu n
 | .struct t,x,us,hf,h,u,hu,n=>flat_bits (t:=t) hf h u hu n
 | .unit,x,us,_,h,u,hu,n=>by
  have h:us=[]:=h;subst h;simp at hu
 | .tree,_,_,hf,_,_,_,_=>by cases hf
 | .map _ _,_,_,hf,_,_,_,_=>by cases hf
 | .ref _,_,_,hf,_,_,_,_=>by cases hf
theorem KV_bits {t:Ty} {x:Den t} {u:Value} (hf:tyFlat t=true) (h:KV w F t x u):Instr.sameBits 10000 u u=true:=by
 cases hs:isStruct t
 ·have e:=cells_one (h.2.2 hs);exact flat_bits hf h.1 u (by rw[e];simp) _
 ·obtain ⟨us,rfl⟩:=h.2.1 hs;have:=flat_bits hf h.1;simp only[Instr.sameBits,beq_self_eq_true,Bool.true_and,all_eq_true];rintro⟨x,y⟩ hxy;have hz:∀ {l:List Value} {x y:Value},(x,y)∈l.zip l→x=y∧x∈l:=by
   intro l
   induction l with
   |nil=>intro x y h;simp at h
   |cons a l ih =>
    intro x y h;simp only[List.zip_cons_cons,List.mem_cons,Prod.mk.injEq]at h;rcases h with⟨rfl,rfl⟩ | h
    ·exact ⟨rfl,mem_cons_self ..⟩
    ·exact ⟨(ih h).1,mem_cons_of_mem _ (ih h).2⟩
  obtain⟨rfl,hm⟩:=hz hxy;exact this x hm _
theorem KV_same {w':World} {F':Nat→Prop} {t:Ty} {x y:Den t} {u v:Value} (hf:tyFlat t=true) (h:KV w F t x u) (g:KV w' F' t y v) (he:eqDen t x y=true):u=v:=by
 obtain⟨e,_⟩:=flat_vals hf h.1 g.1 he
 cases hs:isStruct t
 ·rw[cells_one (h.2.2 hs),cells_one (g.2.2 hs)]at e
  simpa using e
 ·obtain ⟨us,rfl⟩:=h.2.1 hs;obtain⟨vs,rfl⟩:=g.2.1 hs;have e:us.toList=vs.toList:=e;rw[Array.toList_inj.1 e]
abbrev Ent (w:World) (F:Nat→Prop) (k e:Ty) (p:Den k×Den e) (en:MapEntry):Prop:=(RoL w F k p.1 en.key.cells.toList∧formV k en.key)∧RoL w F e p.2 en.val.cells.toList∧formV e en.val
theorem find_all {n:Nat} {kt:TypeId} {k e:Ty} {ti:TI} (K:KeyAt P TT n kt k) (hn:n≤10000) (hti:TT kt=some ti) {x:Den k} {u:Value} (hx:KV w F k x u):∀ {m:List (Den k×Den e)} {es:List MapEntry},All2 (Ent w F k e) m es→∀i,
  ∃r,(Instr.findAsking kt u es i).run P w = .ok r w∧(Instr.findNow ti.desc u es i=some r∨Instr.findNow ti.desc u es i=none) ∧
   ((r=none∧mget k e x m=none∧∀v,mset k e x v m=m++[(x,v)]) ∨
    ∃j en p,r=some (i+j,en.val)∧es[j]? = some en∧m[j]? = some p∧eqDen k x p.1=true∧mget k e x m=some p.2∧∀v,mset k e x v m=m.set j (x,v))
 | [],_, .nil,i=>⟨none,by simp[Instr.findAsking], .inl rfl, .inl ⟨rfl,rfl,fun _=>rfl⟩⟩
 |p::m,en::es, .cons h1 h2,i=>by
  obtain⟨a,v0⟩:=p;have hq:=K.eq w F 10000 x a u en.key hn hx h1.1;have hnow:=K.now w F ti x a u en.key hti hx h1.1;have hask:(Instr.findAsking kt u (en::es) i).run P w=(if eqDen k x a=true then(pure (some (i,en.val)):Sem _)else Instr.findAsking kt u es (i+1)).run P w:=by
   simp only[Instr.findAsking,Op.equal,Op.maxDepth,Sem.run_bind,hq,Result.andThen_ok]
  cases hb:eqDen k x a
  ·obtain ⟨r,g1,g2,g3⟩:=find_all K hn hti hx h2 (i+1);refine⟨r,by rw[hask,hb];simpa using g1, ?_, ?_⟩
   ·rcases hnow with hnow | hnow
    ·rw[hb]at hnow;simp only[Instr.findNow,hnow];exact g2
    ·simp[Instr.findNow,hnow]
   ·rcases g3 with⟨q1,q2,q3⟩ | ⟨j,en',p,q1,q2,q3,q4,q5,q6⟩
    ·exact .inl ⟨q1,by simp only[mget,hb,cond_false];exact q2,fun v=>by simp only[mset,hb,cond_false,q3];rfl⟩
    ·exact .inr ⟨j+1,en',p,by rw[q1];congr 2;omega,by simpa using q2,by simpa using q3,q4,by simp only[mget,hb,cond_false];exact q5,fun v=>by simp only[mset,hb,cond_false,q6];rfl⟩
  ·refine ⟨some (i,en.val),by rw[hask,hb];simp, ?_, .inr ⟨0,en,(a,v0),rfl,rfl,rfl,hb,by simp only[mget,hb,cond_true],fun v=>by simp only[mset,hb,cond_true];rfl⟩⟩;rcases hnow with hnow | hnow
   ·rw[hb]at hnow;simp[Instr.findNow,hnow]
   ·simp[Instr.findNow,hnow]
theorem find_run {n:Nat} {kt:TypeId} {k e:Ty} (ht:TTok P TT) (K:KeyAt P TT n kt k) (hn:n≤10000) {x:Den k} {u:Value} (hx:KV w F k x u) {m:List (Den k×Den e)} {es:List MapEntry} (hm:All2 (Ent w F k e) m es) :
  ∃r,(Instr.findKey kt u es).run P w = .ok r w ∧
   ((r=none∧mget k e x m=none∧∀v,mset k e x v m=m++[(x,v)]) ∨
    ∃j en p,r=some (j,en.val)∧es[j]? = some en∧m[j]? = some p∧eqDen k x p.1=true∧mget k e x m=some p.2∧∀v,mset k e x v m=m.set j (x,v)):=by
 obtain⟨ti,hti,_⟩:=K.ti;obtain⟨r,g1,g2,g3⟩:=find_all K hn hti hx hm 0;refine⟨r, ?_,by simpa using g3⟩;simp only[Instr.findKey,Sem.run_bind,run_underlying (ht.under kt ti hti),Result.andThen_ok];rcases g2 with g2 | g2
 ·rw[g2];simp
 ·rw[g2];exact g1
theorem mapTy_some {ty kt:TypeId} {k e:Ty} {ei:TI} (h:mapTy TT ty=some (kt,k,ei,e)):∃ti et z,TT ty=some ti∧ti.desc = .map kt et∧TT et=some ei∧keyB TT 4 kt k=true∧tyFlat k=true∧ei.info.zero=some z∧isAggV z=isStruct e:=by
 unfold mapTy at h
 split at h
 ·rename_i ti hti
  split at h
  ·rename_i kt' et hd
   split at h
   ·rename_i ki ei' hki hei
    split at h
    ·rename_i k' e' z h1 h2 h3
     cases hb:(keyB TT 4 kt' k'&&tyFlat k'&&(isAggV z==isStruct e'))with
     |false=>rw[hb]at h;cases h
     |true =>
      rw[hb]at h
      cases h
      simp only[Bool.and_eq_true,beq_iff_eq]at hb;exact⟨ti,et,z,hti,hd,hei,hb.1.1,hb.1.2,h3,hb.2⟩
    ·cases h
   ·cases h
  ·cases h
 ·cases h
theorem zeroDen_KV {ei:TI} {e:Ty} {x:Den e} {z:Value} (hz:zeroDen ei e=some x) (h1:ei.info.zero=some z) (h2:isAggV z=isStruct e):KV w F e x z:=by
 unfold zeroDen at hz
 split at hz
 ·rename_i cs hcs
  split at hz
  ·rename_i zr hzr;obtain⟨z',e1,hc⟩:=zeroCells_sound (w:=w) (F:=F) (h:=fun _=>none) (β:=fun _=>default) hcs;rw[h1]at e1;cases e1;have hro:All2 (Ro w F) zr z.cells.toList:=by
    have:∀ {cs:List C} {zr:List R} {us:List Value},All2 (RepC w F (fun _=>none) (fun _=>default)) cs us→allR (fun _=>none) cs=some zr→All2 (Ro w F) zr us:=by
     intro cs
     induction cs with
     |nil=>intro zr us h g;cases g;cases h;exact .nil
     |cons c cs ih =>
      intro zr us h g
      cases h with | cons q1 q2 =>
      simp only[allR]at g
      split at g
      ·rename_i r rs e1 e2
       cases g
       refine .cons ?_ (ih q2 e2)
       cases c
       case r y=>cases e1;exact q1
       case own i=>simp[toR]at e1
       case dsl i p=>cases p<;>simp[toR]at e1
       all_goals simp[toR]at e1
      ·cases g
    exact this hc hzr
   have hl:=All2_le hro (asR_sound hz);refine⟨RoL_cells.2 hl,⟨fun hs => ?_,fun hs => ?_⟩⟩
   ·rw[hs]at h2
    cases z<;>first | exact⟨_,rfl⟩ | cases h2
   ·obtain ⟨r,e2,_⟩:=ofD_one hs x;rw[e2]at hl;rw[hs]at h2;have hcz:z.cells=#[z]:=by cases z<;>first | rfl | cases h2
    rw[hcz]at hl
    cases hl with | cons g _=>exact Ro.one g
  ·cases hz
 ·cases hz
end
section
variable {P:Program} {TT:Types} {w0 w:World} {O0 F0 F:Nat→Prop} {h:HF} {β:Nat→Value} {a:Act} {o:Oper} {K:Act→World→Prop} {Q:Exit→Act→World→Prop} {x:T} {v:Value}
theorem run_getObj_m {r:Nat} {es:Array MapEntry} {clock:Nat} (hb:w.heap[r]? = some (.map es clock)):(getObj r).run P w = .ok (.map es clock) w:=by
 simp[getObj,Sem.run,hb]
theorem run_setObj_m {r:Nat} {es:Array MapEntry} {clock:Nat} (o:Go.Obj) (hb:w.heap[r]? = some (.map es clock)):(setObj r o).run P w = .ok () { w with heap:=w.heap.setIfInBounds r o }:=by
 simp[setObj,Sem.run,hb]
theorem denOf_sound (H:Inv w0 O0 F0 w F h β) {hh:Nat→Option Obj} (hhh:∀i ob,hh i=some ob→h i=some (some ob)) {F':Nat→Prop} (hF:∀b,F b→F' b) {t:Ty} {d:D} {x:Den t} (hd:denOf hh t d=some x) {u:Value} (hu:RepD w F h β d u)
  (hfr:∀i∈ownIds d.cells,∀o b,h i=some (some o)→Blk (β i) b→F' b):KV w F' t x u:=by
 unfold denOf at hd
 split at hd
 ·rename_i cs hs
  split at hd
  ·rename_i rs hrs;obtain⟨us,rfl,h2⟩:=hu;have h3:=allR_sound H hhh hF h2 hrs fun i hi=>hfr i (allR_refs hrs i hi);exact⟨RoL_cells.2 (All2_le h3 (asR_sound hd)),⟨fun _=>⟨us,rfl⟩,fun e=>(by rw[hs]at e;cases e)⟩⟩
  ·cases hd
 ·rename_i c hs
  split at hd
  ·rename_i rs hrs;have h1:=RepC.one hu;have h3:=allR_sound H hhh hF (.cons hu .nil) hrs fun i hi=>hfr i (allR_refs hrs i hi);refine⟨RoL_cells.2 ?_,⟨fun e=>(by rw[hs]at e;cases e),fun _=>h1⟩⟩;rw[cells_one h1];exact All2_le h3 (asR_sound hd)
  ·cases hd
 ·cases hd
theorem op_makeMap (H:Inv w0 O0 F0 w F h β) {ty:TypeId} (ho:o.op = .makeMap ty none) {k e:Ty} {s:Nat} (hs0:h s=none)
  (hK:∀v w',Out w0 O0 F0 w F h β a.tmps [(s,some (.map k e []))] (.d (.one (.own s))) v w'→K (a.put o.dst v) w'):o.wp P a w K Q:=by
 have T:=H.new hs0 (.map #[] 0) (.map k e []) (.map (some w.heap.size)) (fun b hb=>by have hb:=Blk_map.1 hb;simpa [blk]using hb.symm)
  (fun P=>⟨w.heap.size,#[],0,by simp[setB],heap_alloc_new w _, .nil⟩)
 refine wp_val (v := .map (some w.heap.size)) (w':=w.alloc (.map #[] 0)) ?_ (hK _ _ ⟨F,_,by rw[upd_cons];exact T.1,by rw[upd_cons];exact T.2,rfl,⟨some (.map k e []),by simp[upd,look]⟩,fun ob _=>by simp[setB]⟩);simp[execOp,ho,Instr.makeMap]
theorem castM_id {k e k' e':Ty} {m:List (Den k×Den e)} {m':List (Den k'×Den e')} (hc:castM k e k' e' m=some m') {p:(k e:Ty)→List (Den k×Den e)→Prop} (h:p k e m):p k' e' m':=by
 obtain⟨g,g',rfl⟩:=castM_some hc;subst g;subst g';exact h
theorem mapOf_sound (H:Inv w0 O0 F0 w F h β) {hh:Nat→Option Obj} (hhh:∀i ob,hh i=some ob→h i=some (some ob)) {k e:Ty} {c:C} {m:List (Den k×Den e)} (hm:mapOf hh k e c=some m) {u:Value} (hu:RepC w F h β c u) :
  ∃b es clock,u = .map (some b)∧w.heap[b]? = some (.map es clock)∧All2 (Ent w F k e) m es.toList:=by
 unfold mapOf at hm
 split at hm
 ·rename_i i
  split at hm
  ·rename_i k' e' m' hi;have hi':=hhh _ _ hi;have hob:=H.obj _ _ hi';rw[hu.2.2 _ hi'];refine castM_id (p:=fun k e m=>∃b es clock,β i = .map (some b)∧w.heap[b]? = some (.map es clock)∧All2 (Ent w F k e) m es.toList) hm hob
  ·cases hm
 ·rename_i k' e' m';refine castM_id (p:=fun k e m=>∃b es clock,u = .map (some b)∧w.heap[b]? = some (.map es clock)∧All2 (Ent w F k e) m es.toList) hm ?_;obtain⟨b,es,clock,e1,_,e2,e3⟩:=hu;exact⟨b,es,clock,by simpa using e1,e2,e3⟩
 ·cases hm
theorem op_lookup (H:Inv w0 O0 F0 w F h β) (ht:TTok P TT) {hh:Nat→Option Obj} (hhh:∀i ob,hh i=some ob→h i=some (some ob)) {ty kt:TypeId} {k e:Ty} {ei:TI} {X Y:Operand} {ok:Bool} (ho:o.op = .lookup ty X Y ok)
  (hty:mapTy TT ty=some (kt,k,ei,e)) {c:C} {d:D} {m:List (Den k×Den e)} {x:Den k} {z:Den e} (hm:mapOf hh k e c=some m) (hd:denOf hh k d=some x) (hz:zeroDen ei e=some z) (hn:ownIds d.cells=[])
  (hc:RepC w F h β c (a.eval X)) (hy:RepD w F h β d (a.eval Y))
  (hK:∀v w',Out w0 O0 F0 w F h β a.tmps [] (bif ok then .tup [ofD e ((mget k e x m).getD z), .one (.r (.v (.bool (mget k e x m).isSome)))] else .d (ofD e ((mget k e x m).getD z))) v w'→K (a.put o.dst v) w'):o.wp P a w K Q:=by
 obtain⟨ti,et,zv,h1,h2,h3,h4,h5,h6,h7⟩:=mapTy_some hty;have K4:=keyB_ok ht 4 kt k h4;obtain⟨b,es,clock,e1,e2,e3⟩:=mapOf_sound H hhh hm hc;have hx:KV w F k x (a.eval Y):=denOf_sound H hhh (fun _ h=>h) hd hy (fun i hi=>by rw[hn]at hi;simp at hi);obtain⟨r,f1,f2⟩:=find_run ht K4 (by omega) hx e3;have hcheck:=K4.check w F es.isEmpty 10000 x _ (by omega) hx;have hund:(underlying ty).run P w = .ok (.map kt et) w:=by rw[ht.run_under h1,h2]
 have hzero:(zeroValue et).run P w = .ok zv w:=ht.run_zero h3 h6 w;have main:∀(val:Value) (y:Den e) (fd:Bool),(execOp a.eval o).run P w = .ok (.value (if ok then .tuple #[val, .bool fd] else val)) w→KV w F e y val→(mget k e x m).getD z=y→(mget k e x m).isSome=fd→o.wp P a w K Q:=by
  intro val y fd hr hy he hs;have hD:RepD w F h β (ofD e y) val:=KV_repD.1 hy;refine op_quiet H (v:=if ok then .tuple #[val, .bool fd] else val) hr ?_ hK
  cases ok
  ·simp only[cond_false,Bool.false_eq_true,if_false,he];exact hD
  ·simp only[cond_true,if_true,he,hs];exact⟨_,rfl, .cons hD (.cons ⟨rfl,rfl⟩ .nil)⟩
 rcases f2 with⟨rfl,q1,q2⟩ | ⟨j,en,p,rfl,q1,q2,q3,q4,q5⟩
 ·refine main zv z false ?_ (zeroDen_KV hz h6 h7) (by rw[q1];rfl) (by rw[q1];rfl);simp[execOp,ho,Instr.lookup,e1,hund,run_getObj_m e2,hcheck,f1,hzero]
 ·obtain ⟨en',g1,g2⟩:=e3.get q2;rw[q1]at g1;cases g1;refine main en.val p.2 true ?_ ⟨g2.2.1,g2.2.2⟩ (by rw[q4];rfl) (by rw[q4];rfl);simp[execOp,ho,Instr.lookup,e1,hund,run_getObj_m e2,hcheck,f1]
theorem heap_setm {r:Nat} {o o':Go.Obj} (hb:w.heap[r]? = some o):(w.heap.setIfInBounds r o')[r]? = some o'∧∀r',r'≠r→(w.heap.setIfInBounds r o')[r']? = w.heap[r']? := by
 have hlt:r<w.heap.size:=(Array.getElem?_eq_some_iff.1 hb).1;exact⟨by simp[hlt],fun r' hne=>by simp[Ne.symm hne]⟩
theorem ent_set {k e:Ty} {m:List (Den k×Den e)} {es:Array MapEntry} (h:All2 (Ent w F k e) m es.toList) {j:Nat} {en:MapEntry} {q:Den k×Den e} {f:MapEntry→MapEntry} (hj:es[j]? = some en) (hq:Ent w F k e q (f en)) :
  All2 (Ent w F k e) (m.set j q) (es.modify j f).toList:=by
 refine All2.of_get (by simp[h.len]) fun i p hp => ?_;have hget:(es.modify j f).toList[i]? = if j=i then es[i]?.map f else es[i]? := by
  rw[Array.getElem?_toList,Array.getElem?_modify]
 rw[hget];rw[List.getElem?_set]at hp
 by_cases hji:j=i
 ·subst hji;rw[if_pos rfl]at hp ⊢
  split at hp
  ·cases hp
   exact⟨f en,by rw[hj];rfl,hq⟩
  ·cases hp
 ·rw[if_neg hji]at hp ⊢;obtain⟨y,hy,hr⟩:=h.get hp;exact⟨y,by simpa using hy,hr⟩
theorem op_mapUpdate (H:Inv w0 O0 F0 w F h β) (ht:TTok P TT) {hh:Nat→Option Obj} (hhh:∀i ob,hh i=some ob→h i=some (some ob)) {ty kt:TypeId} {k e:Ty} {ei:TI} {X Y Z:Operand} (ho:o.op = .mapUpdate ty X Y Z∨o.op = .insert ty X Y Z)
  (hty:mapTy TT ty=some (kt,k,ei,e)) {i:Nat} {d dv:D} {m:List (Den k×Den e)} {x:Den k} {z:Den e} (hm:mapOf hh k e (.own i)=some m) (hd:denOf hh k d=some x) (hz:denOf hh e dv=some z) (hn:ownIds d.cells=[]) (hni:elemNat i (ownIds dv.cells)=false)
  (hc:RepC w F h β (.own i) (a.eval X)) (hy:RepD w F h β d (a.eval Y)) (hv:RepD w F h β dv (a.eval Z))
  (hK:∀v w',Out w0 O0 F0 w F h β a.tmps ((i,some (.map k e (mset k e x z m)))::dropIds (ownIds dv.cells)) .und v w'→K (a.put o.dst v) w'):o.wp P a w K Q:=by
 obtain⟨ti,et,zv,h1,h2,h3,h4,h5,h6,h7⟩:=mapTy_some hty;have K4:=keyB_ok ht 4 kt k h4;obtain⟨b,es,clock,e1,e2,e3⟩:=mapOf_sound H hhh hm hc;have hobj:∃ob,h i=some (some ob)∧β i = .map (some b):=by
  simp only[mapOf]at hm
  split at hm
  ·rename_i hi;have hi':=hhh _ _ hi;exact⟨_,hi',by rw[← hc.2.2 _ hi',e1]⟩
  ·cases hm
 obtain⟨ob,hi,hb⟩:=hobj;have hx:KV w F k x (a.eval Y):=denOf_sound H hhh (fun _ h=>h) hd hy (fun i hi=>by rw[hn]at hi;simp at hi);obtain⟨F1,H1,P1,hb1⟩:=H.freezes (ownIds dv.cells) fun j hj=>RepD.pres hv j (ownIds_refs j hj);have hz1:KV w F1 e z (a.eval Z):=denOf_sound H hhh P1.sub hz hv hb1;have hx1:KV w F1 k x (a.eval Y):=hx.mono (fun _ _=>rfl) P1.sub;have e4:All2 (Ent w F1 k e) m es.toList:=e3.mono fun p en h=>⟨KV.mono (fun _ _=>rfl) P1.sub h.1,KV.mono (fun _ _=>rfl) P1.sub h.2⟩;have hni':i∉ownIds dv.cells:=fun hm=>by rw[elemNat_iff.2 hm]at hni;cases hni
 have hi1:upd (dropIds (ownIds dv.cells)) h i=some (some ob):=by rw[upd_drop_ne hni'];exact hi
 obtain⟨r,f1,f2⟩:=find_run ht K4 (by omega) hx1 e4;have hcheck:=K4.check w F false 10000 x _ (by omega) hx;have hund:(underlying ty).run P w = .ok (.map kt et) w:=by rw[ht.run_under h1,h2]
 have hblk:Blk (β i) b:=by rw[hb];exact Blk_map.2 rfl
 have main:∀(es':Array MapEntry) (clock':Nat),(execOp a.eval o).run P w = .ok .skip { w with heap:=w.heap.setIfInBounds b (.map es' clock') }→All2 (Ent w F1 k e) (mset k e x z m) es'.toList→o.wp P a w K Q:=by
  intro es' clock' hr he;obtain⟨s1,s2⟩:=heap_setm (o' := .map es' clock') e2;have T:=H1.turn (w':={ w with heap:=w.heap.setIfInBounds b (.map es' clock') }) (F':=F1) i (some (.map k e (mset k e x z m))) (β i) rfl rfl rfl (by simp) (fun k=>k=b)
   (fun k hk=>by
    subst hk;exact⟨H1.notF i _ k hi1 hblk,fun j o' hj hj' hb'=>hj (H1.apart j i o' _ k hj' hi1 hb' hblk),H1.fromO i _ k hi1 hblk⟩)
   (fun k _ hk=>s2 k hk) (fun _ hf=>hf) (fun _ hf => .inl hf) (fun q0 _ h0 _=>⟨⟨_,by rw[hi1]at h0;exact (Option.some.inj h0).symm⟩,rfl⟩)
   (fun P ob' hob=>by
    cases hob
    refine⟨⟨b,es',clock',by simp[setB,hb],s1,he.mono fun p en h=>⟨KV.mono P.blocks P.sub h.1,KV.mono P.blocks P.sub h.2⟩⟩,fun k hk => ?_⟩;rw[hb]at hk;have hk:=Blk_map.1 hk;exact .inl (by simpa [blk]using hk.symm))
  rw[setB_self]at T;exact wp_skp hr (hK _ _ ⟨F1,β,by rw[upd_cons];exact T.1,by rw[upd_cons];exact P1.trans T.2,rfl⟩)
 have hop:∀w',(Instr.mapUpdate ty (a.eval X) (a.eval Y) (a.eval Z)).run P w = .ok () w'→(execOp a.eval o).run P w = .ok .skip w':=fun w' hr=>by
  rcases ho with ho | ho<;>simp[execOp,ho,hr]
 rcases f2 with⟨rfl,q1,q2⟩ | ⟨j,en,p,rfl,q1,q2,q3,q4,q5⟩
 ·refine main (es.push { key:=a.eval Y,val:=a.eval Z,born:=clock }) (clock+1) ?_ ?_
  ·apply hop
   simp[Instr.mapUpdate,e1,hund,run_getObj_m e2,hcheck,f1,run_setObj_m _ e2]
  ·rw[q2,Array.toList_push];exact e4.append (.cons ⟨hx1,hz1⟩ .nil)
 ·have hj:es[j]? = some en:=by simpa using q1
  obtain⟨en',g1,g2⟩:=e4.get q2;rw[q1]at g1;cases g1;have hkey:en.key=a.eval Y:=(KV_same h5 hx1 g2.1 q3).symm;have hstay:(Instr.keyThatStays en.key (a.eval Y)).run P w = .ok (a.eval Y) w:=by
   simp[Instr.keyThatStays,hkey,KV_bits h5 hx]
  refine main (es.modify j fun e=>{ e with key:=a.eval Y,val:=a.eval Z }) clock ?_ ?_
  ·apply hop
   simp[Instr.mapUpdate,e1,hund,run_getObj_m e2,hcheck,f1,hj,hstay,run_setObj_m _ e2]
  ·rw[q5];exact ent_set e4 hj ⟨hx1,hz1⟩
end
end Go.Proofs.YtkhhclpkljikkaaDoor.Ev
/-
 Slices of slices of the call's own.
-/
namespace Go.Proofs.YtkhhclpkljikkaaDoor.Ev
open Go
open List (length length_append length_cons length_singleton length_replicate length_set length_take length_drop mem_cons_of_mem mem_cons_self getD replicate mem_append_left mem_append_right all_eq_true drop_eq_getElem_cons drop_eq_nil_of_le append_assoc mem_singleton getElem?_append_left getElem?_append_right getElem?_eq_none getElem?_take mem_append)
/-! ### skeletons -/
def tupOf (v:Value) (S:List Value):Value := .tuple (v::S).toArray
theorem sk_nil (v:Value) (S:List Value):skAt [] (tupOf v S)=some v:=skAt_hd (by simp)
theorem sk_cons (v:Value) (S:List Value) (k:Nat) (p:List Nat):skAt (k::p) (tupOf v S)=(S[k]?).bind (skAt p):=by
 simp only[skAt,tupOf,List.getElem?_toArray,List.getElem?_cons_succ]
 cases S[k]? <;> rfl
theorem hd_tup (v:Value) (S:List Value):hd (tupOf v S)=v:=by
 have:=sk_nil v S
 simpa only[skAt,Option.some.injEq]using this
theorem Blk_tup {v:Value} {S:List Value} {b:Nat}:Blk (tupOf v S) b↔blk v=some b∨∃(k:Nat) (s:Value),S[k]? = some s∧Blk s b:=by
 constructor
 ·rintro ⟨p,u,h1,h2⟩
  cases p with
  |nil=>rw[sk_nil]at h1;cases h1;exact .inl h2
  |cons k p =>
   rw[sk_cons,Option.bind_eq_some_iff]at h1;obtain⟨s,g1,g2⟩:=h1;exact .inr ⟨k,s,g1,p,u,g2,h2⟩
 ·rintro (h | ⟨k,s,h1,p,u,h2,h3⟩)
  ·exact ⟨[],v,sk_nil v S,h⟩
  ·exact ⟨k::p,u,by rw[sk_cons,h1];exact h2,h3⟩
theorem Inj_mk {v:Value} {S:List Value} (h1:∀(k:Nat) s b,S[k]? = some s→blk v=some b→¬Blk s b) (h2:∀(k j:Nat) s s' b,S[k]? = some s→S[j]? = some s'→Blk s b→Blk s' b→k=j) (h3:∀(k:Nat) s,S[k]? = some s→Inj s):Inj (tupOf v S):=by
 intro p q u u' b hp hq hu hu'
 cases p with
 |nil =>
  rw[sk_nil]at hp;cases hp
  cases q with
  |nil=>rfl
  |cons k q =>
   rw[sk_cons,Option.bind_eq_some_iff]at hq;obtain⟨s,g1,g2⟩:=hq;exact absurd ⟨q,u',g2,hu'⟩ (h1 k s b g1 hu)
 |cons k p =>
  rw[sk_cons,Option.bind_eq_some_iff]at hp;obtain⟨s,g1,g2⟩:=hp
  cases q with
  |nil =>
   rw[sk_nil]at hq;cases hq;exact absurd ⟨p,u,g2,hu⟩ (h1 k s b g1 hu')
  |cons j q =>
   rw[sk_cons,Option.bind_eq_some_iff]at hq;obtain⟨s',g3,g4⟩:=hq;have e:=h2 k j s s' b g1 g3 ⟨p,u,g2,hu⟩ ⟨q,u',g4,hu'⟩;subst e;rw[g1]at g3;cases g3;rw[h3 k s g1 p q u u' b g2 g4 hu hu']
theorem Inj_top {v:Value} {S:List Value} (h:Inj (tupOf v S)) {k:Nat} {s:Value} {b:Nat} (hk:S[k]? = some s) (hb:blk v=some b):¬Blk s b:=fun ⟨p,u,g1,g2⟩=>by
 have:=h [] (k::p) v u b (sk_nil v S) (by rw[sk_cons,hk];exact g1) hb g2
 cases this
theorem Inj_apart {v:Value} {S:List Value} (h:Inj (tupOf v S)) {k j:Nat} {s s':Value} {b:Nat} (hk:S[k]? = some s) (hj:S[j]? = some s') (hb:Blk s b) (hb':Blk s' b):k=j:=by
 obtain⟨p,u,g1,g2⟩:=hb;obtain⟨q,u',g3,g4⟩:=hb';have:=h (k::p) (j::q) u u' b (by rw[sk_cons,hk];exact g1) (by rw[sk_cons,hj];exact g3) g2 g4
 cases this;rfl
theorem Inj_sub {v:Value} {S:List Value} (h:Inj (tupOf v S)) {k:Nat} {s:Value} (hk:S[k]? = some s):Inj s:=fun p q u u' b hp hq hu hu'=>by
 have:=h (k::p) (k::q) u u' b (by rw[sk_cons,hk];exact hp) (by rw[sk_cons,hk];exact hq) hu hu'
 cases this;rfl
theorem tup_of {us:Array Value} {n:Nat} {v:Value} (hs:us.size=n+1) (h0:us[0]? = some v):∃S,S.length=n ∧ .tuple us=tupOf v S∧∀k,us[k+1]? = S[k]? := by
 obtain⟨l⟩:=us
 cases l with
 |nil=>simp at hs
 |cons a S =>
  simp only[List.getElem?_toArray,List.getElem?_cons_zero,Option.some.injEq]at h0;subst h0;exact⟨S,by simpa using hs,rfl,fun k=>by simp⟩
theorem deep_list {w : World} {F : Nat → Prop} {e : Ty} {ts : List TypeId} {l : List (Den (.list e))} {sk : Value} : DeepAt w F (.list e) ts l sk ↔ ∃ t ts' ad cap S, ts = t :: ts' ∧ sk = tupOf (.slice ad (List.length l) cap) S ∧ S.length = List.length l ∧ List.length l ≤ cap ∧ cap ≤ maxLen ∧
      ((cap = 0) ∨ ∃ b cur, ad = some ⟨b, 0, none⟩ ∧ 0 < cap ∧ RowAt w b cur t ∧ cur.size = cap ∧ ∀ k, k < List.length l → ∃ s, S[k]? = some s ∧ cur[k]? = some (hd s)) ∧
      ∀ k, k < List.length l → ∃ s, S[k]? = some s ∧ DeepAt w F e ts' (List.getD l k ([] : List (Den e))) s := by
 constructor
 ·rintro ⟨t,ts',us,ad,cap,rfl,rfl,h1,h2,h3,h4,h5,h6⟩;obtain⟨S,g1,g2,g3⟩:=tup_of h1 h2;refine⟨t,ts',ad,cap,S,rfl,g2,g1,h3,h4, ?_,fun k hk => ?_⟩
  ·rcases h5 with h5 | ⟨b,cur,q1,q2,q3,q4,q5⟩
   ·exact .inl h5
   ·exact .inr ⟨b,cur,q1,q2,q3,q4,fun k hk=>by obtain⟨s,r1,r2⟩:=q5 k hk;exact ⟨s,by rw[← g3];exact r1,r2⟩⟩
  ·obtain ⟨s,r1,r2⟩:=h6 k hk;exact⟨s,by rw[← g3];exact r1,r2⟩
 ·rintro ⟨t,ts',ad,cap,S,rfl,rfl,h1,h3,h4,h5,h6⟩;refine⟨t,ts',(.slice ad (length l) cap::S).toArray,ad,cap,rfl,rfl,by simp[h1],by simp,h3,h4, ?_,fun k hk => ?_⟩
  ·rcases h5 with h5 | ⟨b,cur,q1,q2,q3,q4,q5⟩
   ·exact .inl h5
   ·exact .inr ⟨b,cur,q1,q2,q3,q4,fun k hk=>by obtain⟨s,r1,r2⟩:=q5 k hk;exact ⟨s,by simpa using r1,r2⟩⟩
  ·obtain ⟨s,r1,r2⟩:=h6 k hk;exact⟨s,by simpa using r1,r2⟩
theorem deep_leaf {w:World} {F:Nat→Prop} {e:Ty} (hf:tyFlat e=true) {ts:List TypeId} {l:List (Den e)} {sk:Value} (h:DeepAt w F e ts l sk):∃t u,ts=[t]∧sk=tupOf u []∧LeafAt w F t e l u:=by
 cases e with
 |list e=>cases hf
 |int k=>exact h
 |str=>exact h
 |bool=>exact h
 |pair a b=>exact h
 |struct a=>exact h
 |unit=>exact h.elim
 |tree=>cases hf
 |map k e=>cases hf
 |ref t=>cases hf
theorem leaf_deep {w:World} {F:Nat→Prop} {e:Ty} (hf:isDeepLeaf e=true) {t:TypeId} {l:List (Den e)} {u:Value} (h:LeafAt w F t e l u):DeepAt w F e [t] l (tupOf u []):=by
 cases e with
 |int k=>exact ⟨t,u,rfl,rfl,h⟩
 |str=>exact ⟨t,u,rfl,rfl,h⟩
 |bool=>exact ⟨t,u,rfl,rfl,h⟩
 |pair a b=>exact ⟨t,u,rfl,rfl,h⟩
 |struct a=>exact ⟨t,u,rfl,rfl,h⟩
 |_=>cases hf
theorem leaf_head {w:World} {F:Nat→Prop} {t:TypeId} {e:Ty} {l:List (Den e)} {v:Value} (h:LeafAt w F t e l v):∃ad cap,v = .slice ad (length l) cap∧length l≤cap∧cap≤maxLen∧(length l=0∨∃b,ad=some ⟨b,0,none⟩):=by
 rcases h with⟨a,h1,h2⟩ | ⟨b,cap,cur,h1,h2,h3,h4,h5,h6⟩
 ·exact ⟨a,0,by rw[h1,h2],by omega,by simp[maxLen], .inl h2⟩
 ·exact ⟨_,cap,h1,h4,h5, .inr ⟨b,rfl⟩⟩
theorem deep_head {w:World} {F:Nat→Prop} {e:Ty} {ts:List TypeId} {l:List (Den e)} {sk:Value} (h:DeepAt w F e ts l sk):∃ad cap,hd sk = .slice ad (length l) cap∧length l≤cap∧cap≤maxLen∧(length l=0∨∃b,ad=some ⟨b,0,none⟩):=by
 cases e with
 |list e =>
  obtain⟨t,ts',ad,cap,S,rfl,rfl,h1,h3,h4,h5,h6⟩:=deep_list.1 h;refine⟨ad,cap,hd_tup _ _,h3,h4, ?_⟩;rcases h5 with h5 | ⟨b,cur,q1,_⟩
  ·exact .inl (by omega)
  ·exact .inr ⟨b,q1⟩
 |int k=>obtain ⟨t,u,rfl,rfl,h⟩:=h;obtain ⟨ad,cap,g⟩:=leaf_head h;exact ⟨ad,cap,(hd_tup u []).trans g.1,g.2⟩
 |str=>obtain ⟨t,u,rfl,rfl,h⟩:=h;obtain ⟨ad,cap,g⟩:=leaf_head h;exact ⟨ad,cap,(hd_tup u []).trans g.1,g.2⟩
 |bool=>obtain ⟨t,u,rfl,rfl,h⟩:=h;obtain ⟨ad,cap,g⟩:=leaf_head h;exact ⟨ad,cap,(hd_tup u []).trans g.1,g.2⟩
 |pair a b=>obtain ⟨t,u,rfl,rfl,h⟩:=h;obtain ⟨ad,cap,g⟩:=leaf_head h;exact ⟨ad,cap,(hd_tup u []).trans g.1,g.2⟩
 |struct a=>obtain ⟨t,u,rfl,rfl,h⟩:=h;obtain ⟨ad,cap,g⟩:=leaf_head h;exact ⟨ad,cap,(hd_tup u []).trans g.1,g.2⟩
 |unit=>exact h.elim
 |tree=>exact h.elim
 |map k e=>exact h.elim
 |ref t=>exact h.elim
theorem deep_sub {w:World} {F:Nat→Prop}:∀(p:List Nat) {e:Ty} {ts:List TypeId} {l:List (Den e)} {sk u:Value} {q:Pay},DeepAt w F e ts l sk→skAt p sk=some u→subPay p ⟨e,l⟩=some q →
  ∃ts' sk',DeepAt w F q.t ts' q.l sk'∧hd sk'=u∧∀p',skAt (p++p') sk=skAt p' sk'
 | [],e,ts,l,sk,u,q,h,hp,hq=>by
  cases hq
  exact⟨ts,sk,h,by simpa only[skAt,Option.some.injEq]using hp,fun p'=>rfl⟩
 |k::p, .list e,ts,l,sk,u,q,h,hp,hq=>by
  obtain⟨t,ts',ad,cap,S,rfl,rfl,h1,h3,h4,h5,h6⟩:=deep_list.1 h;rw[sk_cons,Option.bind_eq_some_iff]at hp;obtain⟨s,g1,g2⟩:=hp;have hk:k<length l:=by rw[← h1];exact (List.getElem?_eq_some_iff.1 g1).1
  obtain⟨s',g3,g4⟩:=h6 k hk;rw[g1]at g3;cases g3;obtain⟨ts2,sk2,r1,r2,r3⟩:=deep_sub p g4 g2 hq;exact⟨ts2,sk2,r1,r2,fun p'=>by rw[List.cons_append,sk_cons,g1];exact r3 p'⟩
 |k::p, .int _,_,_,_,_,_,_,_,hq=>by cases hq
 |k::p, .str,_,_,_,_,_,_,_,hq=>by cases hq
 |k::p, .bool,_,_,_,_,_,_,_,hq=>by cases hq
 |k::p, .pair _ _,_,_,_,_,_,_,_,hq=>by cases hq
 |k::p, .struct _,_,_,_,_,_,_,_,hq=>by cases hq
 |k::p, .unit,_,_,_,_,_,_,_,hq=>by cases hq
 |k::p, .tree,_,_,_,_,_,_,_,hq=>by cases hq
 |k::p, .map _ _,_,_,_,_,_,_,_,hq=>by cases hq
 |k::p, .ref _,_,_,_,_,_,_,_,hq=>by cases hq
section
variable {P:Program} {TT:Types} {w0 w:World} {O0 F0 F:Nat→Prop} {h:HF} {β:Nat→Value} {a:Act} {o:Oper} {K:Act→World→Prop} {Q:Exit→Act→World→Prop} {x:T} {v:Value}
theorem sliceOf_some {ty et:TypeId} {ei:TI} (hs:sliceOf TT ty=some (et,ei)):∃ti,TT ty=some ti∧ti.desc = .slice et∧TT et=some ei:=by
 unfold sliceOf at hs
 split at hs
 ·rename_i ti hti
  split at hs
  ·rename_i e hd
   split at hs
   ·rename_i ei' hei;cases hs;exact ⟨ti,hti,hd,hei⟩
   ·cases hs
  ·cases hs
 ·cases hs
theorem op_indexDeep (H:Inv w0 O0 F0 w F h β) (ht:TTok P TT) {ty et:TypeId} {ei:TI} {X Y:Operand} (ho:o.op = .indexAddr ty X Y) (hty:sliceOf TT ty=some (et,ei)) {i:Nat} {p:List Nat} {ts:List TypeId} {e:Ty} {l:List (Den e)} {q:Pay}
  (hi:h i=some (some (.deep ts e l))) (hq:subPay p ⟨e,l⟩=some q) (_hw:ei.info.size=width q.t) (hx:RepC w F h β (.dsl i p) (a.eval X)) {k:IntKind} {n:Int} (hY:a.eval Y = .int k n) (hb:inb n q.l.length=true)
  (hK:∀v w',Out w0 O0 F0 w F h β a.tmps [] (.d (.one (.dptr i p ei.info.size n.toNat 0))) v w'→K (a.put o.dst v) w'):o.wp P a w K Q:=by
 obtain⟨ti,hti,hd,hei⟩:=sliceOf_some hty;obtain⟨h0,h1⟩:=inb_iff.1 hb;have hsk:=hx.2.2 _ hi;obtain⟨ts',sk',g1,g2,g3⟩:=deep_sub p (H.obj _ _ hi).2.1 hsk hq;obtain⟨ad,cap,e1,e2,e3,e4⟩:=deep_head g1;rcases e4 with e4 | ⟨b,rfl⟩
 ·have:q.l.length=0:=e4;omega
 ·have hu:a.eval X = .slice (some ⟨b,0,none⟩) (length q.l) cap:=by rw[← g2,e1]
  refine op_quiet H (x := .d (.one (.dptr i p ei.info.size n.toNat 0))) (v := .pointer (some ⟨b, 0 + n.toNat * ei.info.size, none⟩)) ?_ ⟨rfl, ⟨_, hi⟩, fun ob _ => ⟨b, List.length q.l, cap, by rw [hsk, hu], by have : n.toNat < q.l.length := by omega
                                                                                                                                                                                                                 exact this, by simp⟩⟩ hK
  simp only[execOp,ho,hu,hY,Sem.run_bind,run_indexAt_in ht hti hd hei h0 h1 w,Result.andThen_ok,Sem.run_pure]
theorem deep_elem {e:Ty} (_hf:tyFlat e=true) {t:TypeId} {l:List (Den e)} {b cap:Nat} (hl:LeafAt w F t e l (.slice (some ⟨b,0,none⟩) (length l) cap)) {k:Nat} (hk:k<length l):∃us,us.length=width e∧CellsAt w b (k*width e) us∧All2 (Ro w F) (cellsR e (l.getD k (dflt e))) us:=by
 rcases hl with⟨ad,h1,h2⟩ | ⟨b',cap',cur,h1,h2,h3,h4,h5,h6,h7⟩
 ·omega
 ·cases h1
  obtain⟨us,g1,g2⟩:=list_of (h7 k hk);refine⟨us,g1,fun j u hu => ?_,All2.of_get (by rw[cellsR_len,g1]) fun j x hx => ?_⟩
  ·rw[h3.cell];have:=(g2 j u hu).1
   simpa using this
  ·have hj:j<width e:=by
    rcases Nat.lt_or_ge j (width e)with h | h
    ·exact h
    ·rw[getElem?_eq_none (by rw[cellsR_len];exact h)]at hx;cases hx
   refine⟨us[j]'(by omega),zE (by omega), ?_⟩;have h8:=(g2 j _ (zE (by omega))).2;unfold getL at h8;rw[zG,hx]at h8;exact h8
theorem op_loadDeep1 (H:Inv w0 O0 F0 w F h β) (ht:TTok P TT) {ty:TypeId} {ti:TI} {X:Operand} (ho:o.op = .load ty X) (hti:TT ty=some ti) (hag:aggDesc ti.desc=false) {i:Nat} {p:List Nat} {k:Nat} {ts:List TypeId} {e e':Ty} {l:List (Den e)} {m:List (Den (.list e'))}
  (hi:h i=some (some (.deep ts e l))) (hq:subPay p ⟨e,l⟩=some ⟨.list e',m⟩) (hx:RepC w F h β (.dptr i p 1 k 0) (a.eval X))
  (hK:∀v w',Out w0 O0 F0 w F h β a.tmps [] (.d (.one (.dsl i (p++[k])))) v w'→K (a.put o.dst v) w'):o.wp P a w K Q:=by
 obtain⟨_,_,hsk⟩:=hx;obtain⟨b,n,cap,g1,g2,g3⟩:=hsk _ hi;obtain⟨ts',sk',d1,d2,d3⟩:=deep_sub p (H.obj _ _ hi).2.1 g1 hq;obtain⟨t,ts2,ad,cap',S,rfl,rfl,q1,q2,q3,q4,q5⟩:=deep_list.1 d1;rw[hd_tup]at d2
 cases d2
 rcases q4 with q4 | ⟨b',cur,q6,q7,q8,q9,q10⟩
 ·exfalso;have:length m≤cap:=q2;have:k<length m:=g2;omega
 ·cases q6
  obtain⟨s,r1,r2⟩:=q10 k g2;obtain⟨s',r3,r4⟩:=q5 k g2;rw[r1]at r3;cases r3;obtain⟨ad2,cap2,z1,_⟩:=deep_head r4;have hcell:w.cell? ⟨b,k*1+0,none⟩=some (hd s):=by
   rw[q8.cell];rw[show k*1+0=k by omega];exact r2
  refine op_quiet H (x := .d (.one (.dsl i (p++[k])))) (v:=hd s) ?_ ⟨by rw[z1];rfl,⟨_,hi⟩,fun ob _ => ?_⟩ hK
  ·simp only[execOp,ho,g3,Instr.loadAt,Instr.sureAddr,Sem.run_bind,Sem.run_pure,Result.andThen_ok,loadVar,ht.run_agg hti,hag,Bool.false_eq_true,if_false,run_load,hcell]
  ·rw[d3,sk_cons,r1];rfl
theorem op_loadDeep2 (H:Inv w0 O0 F0 w F h β) (ht:TTok P TT) {ty:TypeId} {ti:TI} {X:Operand} (ho:o.op = .load ty X) (hti:TT ty=some ti) {i:Nat} {p:List Nat} {sz k off:Nat} {ts:List TypeId} {e:Ty} {l:List (Den e)} {q:Pay} {d:D}
  (hi:h i=some (some (.deep ts e l))) (hq:subPay p ⟨e,l⟩=some q) (hf:tyFlat q.t=true) (hsz:sz=width q.t) (hfit:off+ti.info.size≤width q.t) (hd:D.mkOf ti ((((cellsR q.t (q.l.getD k (dflt q.t))).drop off).take ti.info.size).map .r)=some d)
  (hx:RepC w F h β (.dptr i p sz k off) (a.eval X))
  (hK:∀v w',Out w0 O0 F0 w F h β a.tmps [] (.d d) v w'→K (a.put o.dst v) w'):o.wp P a w K Q:=by
 obtain⟨_,_,hsk⟩:=hx;obtain⟨b,n,cap,g1,g2,g3⟩:=hsk _ hi;obtain⟨ts',sk',d1,d2,d3⟩:=deep_sub p (H.obj _ _ hi).2.1 g1 hq;obtain⟨t,u,rfl,rfl,hl⟩:=deep_leaf hf d1;rw[hd_tup]at d2;subst d2;obtain⟨ad,cap',z1,_⟩:=leaf_head hl
 cases z1
 obtain⟨us,e1,e2,e3⟩:=deep_elem hf hl g2;obtain⟨v,r1,r2⟩:=load_sound (β:=β) (h:=h) ht hti (us:=(us.drop off).take ti.info.size) (b:=b) (off:=k*width q.t+off) (All2.map_l.2 ((e3.drop off).take ti.info.size)) (by simp;omega) ((e2.drop off).take _) hd;refine op_quiet H (x := .d d) (v:=v) ?_ r2 hK;rw[hsz]at g3;simp only[execOp,ho,g3,Instr.loadAt,Instr.sureAddr,Sem.run_bind,Sem.run_pure,Result.andThen_ok,r1]
theorem op_lenDeep (H:Inv w0 O0 F0 w F h β) (ht:TTok P TT) {X:Operand} {t et:TypeId} {ei:TI} {ts':List TypeId} (ho:o.op = .call { callee := .builtin .len,args:=#[X],argTypes:=(t::ts').toArray }) (hty:sliceOf TT t=some (et,ei)) {i:Nat} {p:List Nat} {ts:List TypeId} {e:Ty} {l:List (Den e)} {q:Pay}
  (hi:h i=some (some (.deep ts e l))) (hq:subPay p ⟨e,l⟩=some q) (hx:RepC w F h β (.dsl i p) (a.eval X))
  (hK:∀v w',Out w0 O0 F0 w F h β a.tmps [] (.d (.one (.r (.v (.int .i64 (q.l.length:Int)))))) v w'→K (a.put o.dst v) w'):o.wp P a w K Q:=by
 obtain⟨ti,hti,hd,hei⟩:=sliceOf_some hty;have hsk:=hx.2.2 _ hi;obtain⟨ts2,sk',g1,g2,g3⟩:=deep_sub p (H.obj _ _ hi).2.1 hsk hq;obtain⟨ad,cap,e1,e2,e3,e4⟩:=deep_head g1;have hu:a.eval X = .slice ad (length q.l) cap:=by rw[← g2,e1]
 have hle:length q.l≤9223372036854775807:=by simp only[maxLen]at e3;omega
 refine op_quiet H (v := .int .i64 (q.l.length:Int)) ?_ (rep_v (plain_i64 (by omega) (by have:q.l.length=length q.l:=rfl;omega))) hK;refine op_builtin ho (f:=Builtin.len_ (t::ts').toArray o.type #[a.eval X]) (by simp[builtin]) ?_;simp[Builtin.len_,hu,ht.run_under hti,hd,goInt]
theorem row_set {cur:Array Value} {n cap sz k off:Nat} {get:Nat→Nat→R} {rs:List R} {us:List Value} (hk:k<n) (h4:n≤cap) (h6:cur.size=cap*sz) (hx:All2 (Ro w F) rs us) (hfit:off+rs.length≤sz)
  (h7:∀k',k'<n→∀j,j<sz→∃y,cur[k'*sz+j]? = some y∧Ro w F (get k' j) y) :
  (cur.toList.take (k*sz+off)++us++cur.toList.drop (k*sz+off+us.length)).toArray.size=cap*sz ∧
  ∀k',k'<n→∀j,j<sz→∃y,(cur.toList.take (k*sz+off)++us++cur.toList.drop (k*sz+off+us.length)).toArray[k'*sz+j]? = some y∧Ro w F (arrSetAll get k off rs k' j) y:=by
 have hl:=hx.len;have hmul:k*sz+sz≤cap*sz:=by have:=Nat.mul_le_mul_right sz (show k+1≤cap by omega);rw[Nat.add_mul]at this;omega
 have hsz:k*sz+off+us.length≤cur.size:=by rw[h6];omega
 refine⟨?_,fun k' hk' j' hj' => ?_⟩
 ·simp only[List.size_toArray,length_append,length_take,length_drop,Array.length_toList];omega
 ·have hmul':k'*sz+sz≤cap*sz:=by have:=Nat.mul_le_mul_right sz (show k'+1≤cap by omega);rw[Nat.add_mul]at this;omega
  simp only[List.getElem?_toArray]
  by_cases hin:k'=k∧off≤j'∧j'<off+rs.length
  ·obtain ⟨rfl,h8,h9⟩:=hin;obtain⟨y,hy,hr⟩:=hx.get (j:=j'-off) (x:=rs.getD (j'-off) z0) (by
    have:j'-off<rs.length:=by omega
    simp[getD,List.getElem?_eq_getElem this])
   refine⟨y, ?_, ?_⟩
   ·rw[append_assoc,getElem?_append_right (by simp;omega),getElem?_append_left (by simp;omega)];rw[← hy];congr 1;simp;omega
   ·simp only[arrSetAll,h8,h9,and_self,if_true];exact hr
  ·obtain ⟨y,hy,hr⟩:=h7 k' hk' j' hj';refine⟨y, ?_, ?_⟩
   ·have hout:k'*sz+j'<k*sz+off∨k*sz+off+us.length≤k'*sz+j':=by
     rcases Nat.lt_or_ge (k'*sz+j') (k*sz+off)with h8 | h8
     ·exact .inl h8
     ·rcases Nat.lt_or_ge (k'*sz+j') (k*sz+off+us.length)with h9 | h9
      ·exfalso;have:=lin_inj (k:=k') (k':=k) (j:=j') (j':=k'*sz+j'-k*sz) (sz:=sz) hj' (by omega) (by omega);exact hin ⟨this.1,by rw[this.1]at h8 h9;omega,by rw[this.1]at h8 h9;omega⟩
      ·exact .inr h9
    rcases hout with h8 | h8
    ·rw[append_assoc,getElem?_append_left (by simp;omega),getElem?_take,if_pos h8]
     simpa using hy
    ·rw[getElem?_append_right (by simp;omega),List.getElem?_drop];have hy':cur.toList[k'*sz+j']? = some y:=by simpa using hy
     rw[← hy'];congr 1;simp;omega
   ·simp only[arrSetAll,hin,if_false];exact hr
theorem setAll_le {t:Ty} {l:List (Den t)} {k off:Nat} {rs:List R} {y:Den t} (hy:asR t (setR (cellsR t (l.getD k (dflt t))) off rs)=some y) {k' j:Nat} (hk':k'<l.length) (hj:j<width t):Le (arrSetAll (getL t l) k off rs k' j) (getL t (l.set k y) k' j):=by
 have hcell:∀j,j<width t→Le ((setR (cellsR t (l.getD k (dflt t))) off rs).getD j z0) ((cellsR t y).getD j z0):=fun j hj=>le_at (asR_sound hy) hj
 by_cases hk:k'=k
 ·subst hk;rw[getL_lt (l:=l.set k' y) (x:=y) (by simp[hk'])];refine fun w F u hu=>hcell j hj w F u ?_;rw[setR_get (by rw[cellsR_len];exact hj)];simp only[arrSetAll,true_and]at hu
  by_cases h2:off≤j∧j<off+rs.length
  ·rw[if_pos h2]at hu ⊢;exact hu
  ·rw[if_neg h2]at hu ⊢;exact hu
 ·refine Le.of_eq ?_;simp only[arrSetAll,hk,false_and,if_false,getL,getD,List.getElem?_set_ne (Ne.symm hk)]
theorem set_facts {α:Type} (l:List α) (k:Nat) (m d:α):(l.set k m).length=l.length∧(k<l.length→(l.set k m).getD k d=m)∧∀j,j≠k→(l.set k m).getD j d=l.getD j d:=by
 refine⟨length_set ..,fun hk => ?_,fun j hj => ?_⟩
 ·rw[zG,List.getElem?_set_self hk];rfl
 ·rw[zG,zG,List.getElem?_set_ne (Ne.symm hj)]
theorem deep_set {b n cap k off:Nat} {rs:List R} {us:List Value} (hx:All2 (Ro w F) rs us) (hk:k<n):∀(p:List Nat) {e:Ty} {ts:List TypeId} {l l':List (Den e)} {sk:Value} {q:Pay},DeepAt w F e ts l sk→Inj sk →
  skAt p sk=some (.slice (some ⟨b,0,none⟩) n cap)→subPay p ⟨e,l⟩=some q→tyFlat q.t=true→off+rs.length≤width q.t→setSub p e l k off rs=some l' →
  ∃t cur,RowAt w b cur t∧k*width q.t+off+us.length≤cur.size∧blk (.slice (some ⟨b,0,none⟩) n cap)=some b ∧
   ∀w',w'=w.setRow b (cur.toList.take (k*width q.t+off)++us++cur.toList.drop (k*width q.t+off+us.length)).toArray→length l'=length l∧DeepAt w' F e ts l' sk
 | [],e,ts,l,l',sk,q,h,hinj,hp,hq,hf,hfit,hs=>by
  cases hq
  obtain⟨t,u,rfl,rfl,hl⟩:=deep_leaf hf h;rw[sk_nil]at hp;cases hp;have hs:(match asR e (setR (cellsR e (l.getD k (dflt e))) off rs)with | some y=>some (l.set k y) | none=>none)=some l':=by
   cases e<;>exact hs
  split at hs
  ·rename_i y hy
   cases hs
   rcases hl with⟨ad,h1,h2⟩ | ⟨b',cap',cur,h1,h2,h3,h4,h5,h6,h7⟩
   ·cases h1;omega
   ·cases h1
    obtain⟨r1,r2⟩:=row_set hk h4 h6 hx hfit h7;have hmul:k*width e+width e≤cap*width e:=by have:=Nat.mul_le_mul_right (width e) (show k+1≤cap by omega);rw[Nat.add_mul]at this;omega
    have hlen:=hx.len;have hfit':off+rs.length≤width e:=hfit;have hcur:k*width e+off+us.length≤cur.size:=by
     have:k*width e+off+us.length≤cap*width e:=by omega
     rw[← h6]at this;exact this
    refine⟨t,cur,h3,hcur,by simp[blk];omega,fun w' hw=>⟨by simp, ?_⟩⟩;have hdl:isDeepLeaf e=true:=by
     cases e<;>first | rfl | exact h.elim | cases hf
    refine leaf_deep hdl (.inr ⟨b,cap,_,by rw[length_set],h2,by rw[hw];exact h3.set (r1.trans h6.symm),by rw[length_set];exact h4,h5,r1,fun k' hk' j hj => ?_⟩);rw[length_set]at hk';obtain⟨y',e1,e2⟩:=r2 k' hk' j hj;refine⟨y',e1, ?_⟩;have hle:=setAll_le hy hk' hj w F y' e2;have:∀ {t:Ty} {x:Den t},tyFlat t=true→∀r∈cellsR t x,∀u,Ro w F r u→Ro w' F r u:=fun hf=>flat_ty hf;unfold getL at hle ⊢;have hjl:j<(cellsR e ((l.set k y).getD k' (dflt e))).length:=by rw[cellsR_len];exact hj
    rw[zG,zE hjl]at hle ⊢;exact this hf _ (List.getElem_mem hjl) _ hle
  ·cases hs
 |k0::p, .list e,ts,l,l',sk,q,h,hinj,hp,hq,hf,hfit,hs=>by
  simp only[setSub]at hs
  split at hs
  ·rename_i m hm
   cases hs
   obtain⟨t,ts',ad,cap0,S,rfl,rfl,h1,h3,h4,h5,h6⟩:=deep_list.1 h;rw[sk_cons,Option.bind_eq_some_iff]at hp;obtain⟨s,g1,g2⟩:=hp;have hk0:k0<length l:=by rw[← h1];exact (List.getElem?_eq_some_iff.1 g1).1
   obtain⟨s',g3,g4⟩:=h6 k0 hk0;rw[g1]at g3;cases g3;obtain⟨t2,cur,r1,r2,r3,r4⟩:=deep_set hx hk p g4 (Inj_sub hinj g1) g2 hq hf hfit hm;have hbs:Blk s b:=⟨p,_,g2,r3⟩;refine⟨t2,cur,r1,r2,r3,fun w' hw => ?_⟩;obtain⟨q1,q2⟩:=r4 w' hw;have hother:∀b',b'≠b→w'.heap[b']? = w.heap[b']? := fun b' hne=>by rw[hw];exact setRow_other w b b' _ hne
   have hL:=set_facts (α:=Den (.list e)) l k0 m ([]:List (Den e))
   generalize List.set l k0 m=L at hL ⊢
   obtain⟨L1,L2,L3⟩:=hL;refine⟨L1,deep_list.2 ⟨t,ts',ad,cap0,S,rfl,by rw[L1],by rw[L1];exact h1,by rw[L1];exact h3,h4, ?_,fun k1 hk1 => ?_⟩⟩
   ·rcases h5 with h5 | ⟨b1,cur1,z1,z2,z3,z4,z5⟩
    ·exact .inl h5
    ·refine .inr ⟨b1,cur1,z1,z2, ?_,z4,fun k1 hk1=>z5 k1 (by rw[L1]at hk1;exact hk1)⟩;exact z3.mono (hother b1 fun e1=>Inj_top hinj g1 (b:=b) (by rw[z1,e1];simp[blk];omega) hbs)
   ·rw[L1]at hk1
    by_cases e1:k1=k0
    ·subst e1;refine⟨s,g1, ?_⟩;have e2:getD L k1 ([]:List (Den e))=m:=L2 hk1;exact Eq.mpr (congrArg (fun z:List (Den e)=>DeepAt w' F e ts' z s) e2) q2
    ·obtain ⟨s1,z1,z2⟩:=h6 k1 hk1;refine⟨s1,z1, ?_⟩;have e2:getD L k1 ([]:List (Den e))=getD l k1 ([]:List (Den e)):=L3 k1 e1;refine Eq.mpr (congrArg (fun z:List (Den e)=>DeepAt w' F e ts' z s1) e2) ?_;have hnest:tyNest e=true:=by
      have:∀(p:List Nat) {e:Ty} {l:List (Den e)} {q:Pay},subPay p ⟨e,l⟩=some q→tyFlat q.t=true→tyNest e=true:=by
       intro p
       induction p with
       |nil=>intro e l q h1 h2;cases h1;cases e<;>first | exact h2 | cases h2
       |cons k p ih =>
        intro e l q h1 h2
        cases e with
        |list e1=>exact ih (e:=e1) (l:=(getD l k ([]:List (Den e1)):List (Den e1))) h1 h2
        |_=>cases h1
      exact this p hq hf
     refine thin_deep (F':=fun _=>False) hnest ((thin_deep (w:=w) (F:=fun _=>False) hnest z2).mono (fun _ hb=>hb.elim) (fun _ hb=>hb) fun b' hb'=>hother b' fun e3 => ?_);subst e3;exact e1 (Inj_apart hinj z1 g1 hb' hbs)
  ·cases hs
 |k::p, .int _,_,_,_,_,_,_,_,_,hq,_,_,_=>by cases hq
 |k::p, .str,_,_,_,_,_,_,_,_,hq,_,_,_=>by cases hq
 |k::p, .bool,_,_,_,_,_,_,_,_,hq,_,_,_=>by cases hq
 |k::p, .pair _ _,_,_,_,_,_,_,_,_,hq,_,_,_=>by cases hq
 |k::p, .struct _,_,_,_,_,_,_,_,_,hq,_,_,_=>by cases hq
 |k::p, .unit,_,_,_,_,_,_,_,_,hq,_,_,_=>by cases hq
 |k::p, .tree,_,_,_,_,_,_,_,_,hq,_,_,_=>by cases hq
 |k::p, .map _ _,_,_,_,_,_,_,_,_,hq,_,_,_=>by cases hq
 |k::p, .ref _,_,_,_,_,_,_,_,_,hq,_,_,_=>by cases hq
theorem op_storeDeep (H:Inv w0 O0 F0 w F h β) (ht:TTok P TT) {ty:TypeId} {ti:TI} {X Y:Operand} (ho:o.op = .store ty X Y) (hti:TT ty=some ti) {i:Nat} {p:List Nat} {sz k off:Nat} {ts:List TypeId} {e:Ty} {l l':List (Den e)} {q:Pay} {d:D} {rs:List R}
  (hi:h i=some (some (.deep ts e l))) (hq:subPay p ⟨e,l⟩=some q) (hf:tyFlat q.t=true) (hsz:sz=width q.t) (hn:rs.length=ti.info.size) (hfit:off+rs.length≤width q.t) (hrs:allR (fun _=>none) d.cells=some rs) (hs:setSub p e l k off rs=some l')
  (hx:RepC w F h β (.dptr i p sz k off) (a.eval X)) (hy:RepD w F h β d (a.eval Y))
  (hK:∀v w',Out w0 O0 F0 w F h β a.tmps [(i,some (.deep ts e l'))] .und v w'→K (a.put o.dst v) w'):o.wp P a w K Q:=by
 obtain⟨_,_,hsk⟩:=hx;obtain⟨b,n,cap,g1,g2,g3⟩:=hsk _ hi;have hyc:=RepD.cells hy;have hus:All2 (Ro w F) rs (a.eval Y).cells.toList:=allR_sound H (hh:=fun _=>none) (fun _ _ hq=>by cases hq) (fun _ hf=>hf) hyc hrs (fun j hj=>by
  have:=allR_refs hrs j hj;rw[allR_none_own hrs]at this;simp at this)
 have hob:=H.obj _ _ hi;obtain⟨t,cur,r1,r2,r3,r4⟩:=deep_set hus g2 p hob.2.1 hob.2.2 g1 hq hf hfit hs;have hblk:Blk (β i) b:=⟨p,_,g1,r3⟩;obtain⟨s1,s2,s3,s4⟩:=setRow_same w b (cur.toList.take (k*width q.t+off)++(a.eval Y).cells.toList++cur.toList.drop (k*width q.t+off+(a.eval Y).cells.toList.length)).toArray;have T:=H.turn (w':=w.setRow b (cur.toList.take (k*width q.t+off)++(a.eval Y).cells.toList++cur.toList.drop (k*width q.t+off+(a.eval Y).cells.toList.length)).toArray) (F':=F) i (some (.deep ts e l')) (β i) s1 s2 s3 (Nat.le_of_eq s4.symm) (fun k=>Blk (β i) k)
  (fun k hk=>⟨H.notF i _ k hi hk,fun j o' hj hj' hb'=>hj (H.apart j i o' _ k hj' hi hb' hk),H.fromO i _ k hi hk⟩)
  (fun k _ hk=>setRow_other w b k _ fun e=>hk (by rw[e];exact hblk)) (fun _ hf=>hf) (fun _ hf => .inl hf) (fun q0 _ h0 _=>⟨⟨_,by rw[hi]at h0;exact (Option.some.inj h0).symm⟩,rfl⟩)
  (fun P ob hob'=>by
   cases hob'
   refine⟨⟨hob.1, ?_, ?_⟩,fun k hk => .inl hk⟩
   ·simp only[setB,if_true];exact (r4 _ rfl).2
   ·simp only[setB,if_true];exact hob.2.2)
 rw[setB_self]at T;have hl:=hyc.len;have hl2:=allR_len hrs;simp only[Array.length_toList]at hl r2 T;refine wp_skp (w':=w.setRow b (cur.toList.take (k*width q.t+off)++(a.eval Y).cells.toList++cur.toList.drop (k*width q.t+off+(a.eval Y).cells.size)).toArray) ?_ (hK _ _ ⟨F,β,by rw[upd_cons,upd_nil];exact T.1,by rw[upd_cons,upd_nil];exact T.2,rfl⟩);have hst:=run_storeVar_at (P:=P) (w:=w) ht hti (u:=a.eval Y) (off:=k*width q.t+off) r1 (by omega) (by omega) (all_one hyc);rw[hsz]at g3;simp only[execOp,ho,g3,Instr.storeAt,Instr.sureAddr,Sem.run_bind,Sem.run_pure,Result.andThen_ok,hst]
theorem getD_app_l {α:Type} (l m:List α) (d:α) {k:Nat} (h:k<l.length):(l++m).getD k d=l.getD k d:=by
 rw[zG,zG,getElem?_append_left h]
theorem getD_app_r {α:Type} (l m:List α) (d:α) {k:Nat} (h:l.length≤k):(l++m).getD k d=m.getD (k-l.length) d:=by
 rw[zG,zG,getElem?_append_right h]
theorem deep_mono {w':World} {F':Nat→Prop} (hP:∀b,F b→w'.heap[b]? = w.heap[b]?) (hF:∀b,F b→F' b) {e:Ty} {ts:List TypeId} {l:List (Den e)} {s:Value} (hs:∀b,Blk s b→w'.heap[b]? = w.heap[b]?) (h:DeepAt w F e ts l s):DeepAt w' F' e ts l s:=h.mono hP hF hs
theorem append_deep (ht:TTok P TT) {X Y:Operand} {t et:TypeId} {ti ei:TI} (ho:o.op = .call { callee := .builtin .append,args:=#[X,Y],argTypes:=#[t,t] }) (hti:TT t=some ti) (hd0:ti.desc = .slice et) (hei:TT et=some ei) {zs:List C} (hz:zeroCells ei=some zs) (hzl:zs.length=1) (hsz:ei.info.size=1) (hby:0<ei.info.bytes)
  {h1:HF} (H1:Inv w0 O0 F0 w F h1 β) {s:Nat} (hs1:h1 s=none) {e:Ty} {ts:List TypeId} {l m:List (Den (.list e))} {base adj:Option Addr} {cap cj:Nat} {Si Sj:List Value}
  (hX:a.eval X = .slice base (length l) cap) (hY:a.eval Y = .slice adj (length m) cj) (hSi:Si.length=length l) (hSj:Sj.length=length m)
  (hxb:(length l=0∧cap=0)∨∃g cur,base=some ⟨g,0,none⟩∧0<cap∧RowAt w g cur et∧length l≤cap∧cap≤maxLen∧cur.size=cap∧cur.toList.take (length l)=Si.map hd)
  (hyb:length m=0∨∃b,adj=some ⟨b,0,none⟩∧CellsAt w b 0 (Sj.map hd))
  (hdi:∀k,k<length l→∃s,Si[k]? = some s∧DeepAt w F e ts (getD l k ([]:List (Den e))) s) (hdj:∀k,k<length m→∃s,Sj[k]? = some s∧DeepAt w F e ts (getD m k ([]:List (Den e))) s)
  (XB:Nat→Prop) (hXB:∀b,XB b→¬F b∧(∀j o,h1 j=some (some o)→¬Blk (β j) b)∧(O0 b∨w0.heap.size≤b)) (hbase:∀b,0<cap→base.map (·.block)=some b→XB b)
  (hsub:∀(k:Nat) s b,(Si++Sj)[k]? = some s→Blk s b→XB b∧(0<cap→base.map (·.block)≠some b)∧b<w.heap.size)
  (hap:∀(k j:Nat) s s' b,(Si++Sj)[k]? = some s→(Si++Sj)[j]? = some s'→Blk s b→Blk s' b→k=j) (hinj:∀(k:Nat) s,(Si++Sj)[k]? = some s→Inj s) (hfit:fits (length l+length m) ei.info.bytes=true)
  (hK:∀v w' β',Inv w0 O0 F0 w' F (setH h1 s (some (.deep (et::ts) (.list e) (l++m)))) β'→Per w F h1 β w' F (setH h1 s (some (.deep (et::ts) (.list e) (l++m)))) β'→v.oneCell'=true→skAt [] (β' s)=some v→K (a.put o.dst v) w'):o.wp P a w K Q:=by
 obtain⟨zv,hz1,hz2⟩:=zeroCells_sound (w:=w) (F:=F) (h:=h1) (β:=β) hz;have hzs:zv.cells.size=ei.info.size:=by have:=hz2.len;simp at this;omega
 have hone:∀u∈Sj.map hd,u.oneCell'=true:=by
  intro u hu;obtain⟨s',hs',rfl⟩:=List.mem_map.1 hu;obtain⟨k,hk⟩:=List.getElem?_of_mem hs';have hkl:k<length m:=by rw[← hSj];exact (List.getElem?_eq_some_iff.1 hk).1
  obtain⟨s2,g1,g2⟩:=hdj k hkl;rw[hk]at g1;cases g1;obtain⟨ad,c,e1,_⟩:=deep_head g2;rw[e1];rfl
 have hmax:length l+length m≤maxLen:=by
  have h3:(length l+length m)*ei.info.bytes≤140737488355328:=by simpa [fits]using hfit
  have h4:length l+length m≤(length l+length m)*ei.info.bytes:=Nat.le_mul_of_pos_right _ hby;simp only[maxLen];omega
 obtain⟨v',w',hrun,q1,q2,q3,q4,q5,q6⟩:=append_core (P:=P) (c:=cj) (olds:=Si.map hd) (news:=Sj.map hd) ht hti hd0 hei hz1 hzs (by omega) o.type (base:=base) (n:=length l) (cap:=cap) (by rw[hsz,List.length_map,hSi,Nat.mul_one])
  (hxb.imp id fun⟨g,cur,r1,r2,r3,r4,r5,r6,r7⟩=>⟨g,cur,r1,r2,r3,r4,r5,by rw[hsz,r6,Nat.mul_one],by rw[hsz,Nat.mul_one];exact r7⟩) (ad:=adj) (m:=length m) (by rw[hsz,List.length_map,hSj,Nat.mul_one]) hone
  (hyb.imp id fun⟨b,r1,r2⟩=>⟨b,0,r1,r2⟩) hmax hfit
 have hkeep:∀(k:Nat) s',(Si++Sj)[k]? = some s'→∀b,Blk s' b→w'.heap[b]? = w.heap[b]? := fun k s' hk b hb=>by
  obtain⟨r1,r2,r3⟩:=hsub k s' b hk hb;exact q5 b r3 r2
 have hv1:v'.oneCell'=true:=by
  rcases q6 with⟨a',rfl,_⟩ | ⟨g',cap',cur,rfl,_⟩<;>rfl
 have T:=H1.turn (w':=w') (F':=F) s (some (.deep (et::ts) (.list e) (l++m))) (tupOf v' (Si++Sj)) q1 q2 q3 q4 XB
  (fun b hb=>by obtain⟨g1,g2,g3⟩:=hXB b hb;exact ⟨g1,fun j o' _ hj hb'=>g2 j o' hj hb',g3⟩)
  (fun b hb hx=>q5 b hb fun h0 e=>hx (hbase b h0 e)) (fun _ hf=>hf) (fun _ hf => .inl hf) (fun q0 _ h0=>by rw[hs1]at h0;cases h0)
  (fun P2 ob hob=>by
   cases hob
   refine⟨⟨rfl, ?_, ?_⟩,fun b hb => ?_⟩
   ·simp only[setB,if_true];have hlen:length (l++m)=length l+length m:=length_append;have hel:∀k,k<length l+length m→∃s,(Si++Sj)[k]? = some s∧DeepAt w' F e ts (getD (l++m) k ([]:List (Den e))) s:=fun k hk=>by
     rcases Nat.lt_or_ge k (length l)with hkl | hkl
     ·obtain ⟨s',g1,g2⟩:=hdi k hkl;have g3:(Si++Sj)[k]? = some s':=by rw[getElem?_append_left (by omega)];exact g1
      refine⟨s',g3,Eq.mpr (congrArg (fun z:List (Den e)=>DeepAt w' F e ts z s') (getD_app_l (α:=Den (.list e)) l m ([]:List (Den e)) hkl)) (deep_mono P2.blocks P2.sub (hkeep k s' g3) g2)⟩
     ·obtain ⟨s',g1,g2⟩:=hdj (k-length l) (by omega);have g3:(Si++Sj)[k]? = some s':=by rw[getElem?_append_right (by omega),hSi];exact g1
      refine⟨s',g3,Eq.mpr (congrArg (fun z:List (Den e)=>DeepAt w' F e ts z s') (getD_app_r (α:=Den (.list e)) l m ([]:List (Den e)) hkl)) (deep_mono P2.blocks P2.sub (hkeep k s' g3) g2)⟩
    rcases q6 with⟨a',rfl,hnm⟩ | ⟨g',cap',cur,rfl,r1,r2,r3,r4,r5,r6,r7⟩
    ·refine deep_list.2 ⟨et,ts,a',0,Si++Sj,rfl,by rw[hlen,hnm],by rw[length_append,hlen,hSi,hSj],by rw[hlen];omega,by simp[maxLen], .inl rfl,fun k hk => ?_⟩;rw[hlen]at hk;exact hel k hk
    ·refine deep_list.2 ⟨et,ts,_,cap',Si++Sj,rfl,by rw[hlen],by rw[length_append,hlen,hSi,hSj],by rw[hlen];exact r3,r4, .inr ⟨g',cur,rfl,r1,r2,by rw[r5,hsz,Nat.mul_one],fun k hk => ?_⟩,fun k hk => ?_⟩
     ·rw[hlen]at hk;obtain⟨s',g1,g2⟩:=hel k hk;refine⟨s',g1, ?_⟩;have e0:cur.toList[k]? = (Si.map hd++Sj.map hd)[k]? := by
       rw[← r6,getElem?_take,if_pos (by rw[hsz];omega)]
      rw[← List.map_append,List.getElem?_map,g1]at e0
      simpa using e0
     ·rw[hlen]at hk;exact hel k hk
   ·simp only[setB,if_true];refine Inj_mk (fun k s' b hk hb hbs => ?_) hap hinj;obtain⟨r1,r2,r3⟩:=hsub k s' b hk hbs;rcases q6 with⟨a',rfl,_⟩ | ⟨g',cap',cur,rfl,p1,p2,p3,p4,p5,p6,p7⟩
    ·cases a'<;>simp[blk]at hb
    ·have:b=g':=by simp[blk]at hb;exact hb.2.symm
     subst this;rcases p7 with p7 | ⟨p7,p8⟩
     ·omega
     ·exact r2 p8 (by rw[p7];rfl)
   ·rcases Blk_tup.1 hb with hb | ⟨k,s',hk,hb⟩
    ·rcases q6 with⟨a',rfl,_⟩ | ⟨g',cap',cur,rfl,p1,p2,p3,p4,p5,p6,p7⟩
     ·cases a'<;>simp[blk]at hb
     ·have:b=g':=by simp[blk]at hb;exact hb.2.symm
      subst this;rcases p7 with p7 | ⟨p7,p8⟩
      ·exact .inr (by omega)
      ·exact .inl (hbase b p8 (by rw[p7];rfl))
    ·exact .inl (hsub k s' b hk hb).1)
 refine wp_val (v:=v') (w':=w') (op_builtin ho (f:=Builtin.append_ #[t,t] o.type #[a.eval X,a.eval Y]) (by simp[builtin]) (by rw[hX,hY];exact hrun)) (hK v' w' _ T.1 T.2 hv1 ?_);simp only[setB,if_true];exact sk_nil _ _
end
end Go.Proofs.YtkhhclpkljikkaaDoor.Ev
/-
 Parts of the call's own slices,from an element on to the end.
-/
namespace Go.Proofs.YtkhhclpkljikkaaDoor.Ev
open Go
open List (length length_append length_cons length_singleton length_replicate length_set length_take length_drop mem_cons_of_mem mem_cons_self getD replicate mem_append_left mem_append_right all_eq_true drop_eq_getElem_cons drop_eq_nil_of_le append_assoc mem_singleton getElem?_append_left getElem?_append_right getElem?_eq_none getElem?_take mem_append)
section
variable {P:Program} {TT:Types} {w0 w:World} {O0 F0 F:Nat→Prop} {h:HF} {β:Nat→Value} {a:Act} {o:Oper} {K:Act→World→Prop} {Q:Exit→Act→World→Prop} {x:T} {v:Value}
theorem WinAt.pos {v u:Value} {sz k:Nat} {t:TypeId} {e:Ty} {l:List (Den e)} (hw:WinAt v sz k u) (hl:LeafAt w F t e l v) (h0:0<length l):∃b n cap,v = .slice (some ⟨b,0,none⟩) n cap∧k≤n∧0<cap∧u = .slice (if cap=k then some ⟨b,0,none⟩else some ⟨b,k*sz,none⟩) (n-k) (cap-k):=by
 rcases hw with⟨a,h1,_⟩ | h
 ·rcases hl with⟨ad,r1,r2⟩ | ⟨b',cap',cur,r1,r2,_⟩
  ·have:length l=0:=r2;omega
  ·injection h1.symm.trans r1 with _ _ e
   omega
 ·exact h
theorem op_sliceWin (H:Inv w0 O0 F0 w F h β) (ht:TTok P TT) {ty e:TypeId} {ei:TI} {X Y:Operand} (ho:o.op = .slice ty X (some Y) none none) (hty:sliceOf TT ty=some (e,ei)) {i:Nat} {t:TypeId} {et:Ty} {l:List (Den et)}
  (hi:h i=some (some (.lis t et l))) (hw:ei.info.size=width et) (hx:RepC w F h β (.own i) (a.eval X)) {kk:IntKind} {k:Int} (hY:a.eval Y = .int kk k) (hr:inr k (length l:Int) (length l)=true)
  (hK:∀v w',Out w0 O0 F0 w F h β a.tmps [] (.d (.one (.win i (width et) k.toNat))) v w'→K (a.put o.dst v) w'):o.wp P a w K Q:=by
 obtain⟨ti,hti,hd,hei⟩:=sliceOf_some hty;have hxv:=hx.2.2 _ hi;obtain⟨i0,i1,i2⟩:=inr_iff.1 hr;rcases RepO.leaf.1 (H.obj _ _ hi)with⟨ad,r1,r2⟩ | ⟨b,cap,cur,r1,r2,r3,r4,r5,r6,r7⟩
 ·have hn:length l=0:=r2;have hk0:k=0:=by omega
  subst hk0;refine op_quiet H (x := .d (.one (.win i (width et) ((0:Int)).toNat))) (v := .slice ad 0 0) ?_ ⟨rfl,⟨_,hi⟩,fun ob _ => .inl ⟨ad,r1,rfl,rfl⟩⟩ hK;have:=run_slice_sl (P:=P) (w:=w) ht hti hd hei (lo:=some (.int kk 0)) (hi:=none) (li:=some 0) (hi':=none) (ad:=ad) (n:=0) (cap:=0) rfl trivial (inr_iff.2 ⟨Int.le_refl _,Int.le_refl _,Int.le_refl _⟩) (Nat.le_refl _);simp only[execOp,ho,hxv,r1,hY,Option.map_some,Option.map_none,Sem.run_bind,this,Result.andThen_ok,Sem.run_pure];rfl
 ·refine op_quiet H (x := .d (.one (.win i (width et) k.toNat))) (v:=sliced (some ⟨b,0,none⟩) k.toNat (length l) cap (width et)) ?_ ⟨rfl,⟨_,hi⟩,fun ob _ => .inr ⟨b,length l,cap,r1,by omega,r2,by unfold sliced;simp[Addr.add_lit]⟩⟩ hK;have:=run_slice_sl (P:=P) (w:=w) ht hti hd hei (lo:=some (.int kk k)) (hi:=none) (li:=some k) (hi':=none) (ad:=some ⟨b,0,none⟩) (n:=length l) (cap:=cap) rfl trivial hr r4;simp only[execOp,ho,hxv,r1,hY,Option.map_some,Option.map_none,Sem.run_bind,this,Result.andThen_ok,Sem.run_pure];rw[hw];rfl
theorem op_lenWin (H:Inv w0 O0 F0 w F h β) (ht:TTok P TT) {X:Operand} {t et:TypeId} {ei:TI} {ts':List TypeId} (ho:o.op = .call { callee := .builtin .len,args:=#[X],argTypes:=(t::ts').toArray }) (hty:sliceOf TT t=some (et,ei)) {i s k:Nat}
  {tt:TypeId} {e:Ty} {l:List (Den e)} (hi:h i=some (some (.lis tt e l))) (hx:RepC w F h β (.win i s k) (a.eval X))
  (hK:∀v w',Out w0 O0 F0 w F h β a.tmps [] (.d (.one (.r (.v (.int .i64 ((length l-k:Nat):Int)))))) v w'→K (a.put o.dst v) w'):o.wp P a w K Q:=by
 obtain⟨ti,hti,hd,hei⟩:=sliceOf_some hty;have run:∀(u:Option Addr) (n c:Nat),a.eval X = .slice u n c→n≤9223372036854775807→length l-k=n→o.wp P a w K Q:=fun u n c h4 hle hn=>by
  rw[hn]at hK;refine op_quiet H (v := .int .i64 ((n:Nat):Int)) ?_ (rep_v (plain_i64 (by omega) (by omega))) hK;refine op_builtin ho (f:=Builtin.len_ (t::ts').toArray o.type #[a.eval X]) (by simp[builtin]) ?_;simp[Builtin.len_,h4,ht.run_under hti,hd,goInt]
 rcases hx.2.2 _ hi with⟨ad,h1,h2,h3⟩ | ⟨b,n,cap,h1,h2,h3,h4⟩
 ·rcases RepO.leaf.1 (H.obj _ _ hi)with⟨ad',r1,r2⟩ | ⟨b',cap',cur,r1,r2,r3,r4,r5,r6,r7⟩
  ·exact run ad 0 0 h3 (by omega) (by have:length l=0:=r2;omega)
  ·injection h1.symm.trans r1 with _ _ e
   omega
 ·rcases RepO.leaf.1 (H.obj _ _ hi)with⟨ad,r1,r2⟩ | ⟨b',cap',cur,r1,r2,r3,r4,r5,r6,r7⟩
  ·rw[h1]at r1;cases r1;omega
  ·rw[h1]at r1;cases r1;exact run _ _ _ h4 (by simp only[maxLen]at r5;omega) rfl
theorem op_indexWin (H:Inv w0 O0 F0 w F h β) (ht:TTok P TT) {ty et:TypeId} {ei:TI} {X Y:Operand} (ho:o.op = .indexAddr ty X Y) (hty:sliceOf TT ty=some (et,ei)) {i s k:Nat} {tt:TypeId} {e:Ty} {l:List (Den e)}
  (hi:h i=some (some (.lis tt e l))) (hs:ei.info.size=s) (hx:RepC w F h β (.win i s k) (a.eval X)) {kk:IntKind} {n:Int} (hY:a.eval Y = .int kk n) (hb:inb n (length l-k)=true)
  (hK:∀v w',Out w0 O0 F0 w F h β a.tmps [] (.d (.one (.eptr i s (k+n.toNat) 0))) v w'→K (a.put o.dst v) w'):o.wp P a w K Q:=by
 obtain⟨ti,hti,hd,hei⟩:=sliceOf_some hty;obtain⟨h0,h1⟩:=inb_iff.1 hb;obtain⟨b,m,cap,g1,g2,g3,g4⟩:=WinAt.pos (hx.2.2 _ hi) (RepO.leaf.1 (H.obj _ _ hi)) (by omega);rcases RepO.leaf.1 (H.obj _ _ hi)with⟨ad,r1,r2⟩ | ⟨b',cap',cur,r1,r2,r3,r4,r5,r6,r7⟩
 ·have:length l=0:=r2;omega
 ·rw[g1]at r1;cases r1;have hu:a.eval X = .slice (some ⟨b,k*s,none⟩) (length l-k) (cap-k):=by
   rw[g4,if_neg (by omega)]
  refine op_quiet H (x := .d (.one (.eptr i s (k+n.toNat) 0))) (v := .pointer (some ⟨b,k*s+n.toNat*ei.info.size,none⟩)) ?_ ⟨rfl,⟨_,hi⟩,fun ob _=>⟨b,length l,cap,g1,by omega,by rw[hs,Nat.add_mul];simp⟩⟩ hK;simp only[execOp,ho,hu,hY,Sem.run_bind,run_indexAt_in ht hti hd hei h0 h1 w,Result.andThen_ok,Sem.run_pure]
theorem op_strBytes (H:Inv w0 O0 F0 w F h β) (ht:TTok P TT) {s d et:TypeId} {si ei:TI} {X:Operand} (ho:o.op = .convert s d X) (hsi:TT s=some si) (hty:sliceOf TT d=some (et,ei)) (he:ei.desc = .int .u8) {x:ByteArray}
  (hx:RepC w F h β (.r (.v (.string x))) (a.eval X)) {q:Nat} (hs0:h q=none)
  (hK:∀v w',Out w0 O0 F0 w F h β a.tmps [(q,some (.lis et (.int .u8) (intL x.data.toList)))] (.d (.one (.own q))) v w'→K (a.put o.dst v) w'):o.wp P a w K Q:=by
 obtain⟨ti,hti,hd,hei⟩:=sliceOf_some hty;obtain⟨hu,hpl⟩:=hx;have hrun:=Lib.run_convert_string_bytes (P:=P) w s d et x (ht.under s si hsi) (by rw[ht.under d ti hti,hd]) (by rw[ht.under et ei hei,he]);have hmax:x.size≤maxLen:=by
  have h1:x.data.toList.length≤9223372036854775807:=by simpa [plain]using hpl
  rw[Array.length_toList]at h1
  simpa [maxLen]using h1
 have hge:=grownCap_ge w x.size 0 et;have hle:=grownCap_le_maxLen w x.size 0 et hmax;have hlen:@List.length (Den (.int .u8)) (intL x.data.toList)=x.size:=by
  show @List.length Int (intL x.data.toList)=_;unfold intL;rw[List.length_map,Array.length_toList];rfl
 have hcs:(Lib.bytesCells w et x).size=grownCap w x.size 0 et:=by
  unfold Lib.bytesCells;rw[Array.size_append,Array.size_map,Array.size_replicate];show x.size+_=_;omega
 have T:=H.turn (w':=Lib.bytesWorld w et x) (F':=F) q (some (.lis et (.int .u8) (intL x.data.toList))) (.slice (some ⟨w.heap.size,0,none⟩) x.size (grownCap w x.size 0 et)) rfl rfl rfl (by rw[Lib.bytesWorld_size];omega) (fun _=>False) (fun _ h=>h.elim)
  (fun b hb _=>Lib.bytesWorld_at_old w et x b hb) (fun _ h=>h) (fun _ h => .inl h) (fun q0 _ h0=>by rw[hs0]at h0;cases h0)
  (fun P ob hob=>by
   cases hob
   refine⟨RepO.leaf.2 ?_,fun b hb => .inr ?_⟩
   ·by_cases hc:grownCap w x.size 0 et=0
    ·exact .inl ⟨some ⟨w.heap.size,0,none⟩,by simp only[setB,if_pos];rw[hc,show x.size=0 by omega],by rw[hlen];omega⟩
    ·refine .inr ⟨w.heap.size,grownCap w x.size 0 et,Lib.bytesCells w et x,by simp only[setB,if_pos,hlen],by omega,⟨_,Lib.bytesWorld_at_new w et x, .inr rfl⟩,by rw[hlen];exact hge,hle,by rw[hcs];exact (Nat.mul_one _).symm,fun k hk j hj => ?_⟩;have hj0:j=0:=by have:j<1:=hj;omega
     subst hj0;have hk':k<x.data.size:=by rw[hlen]at hk;exact hk
     have hg:getL (.int .u8) (intL x.data.toList) k 0 = .v (.int .u8 (x.data[k].toNat:Int)):=by
      rw[getL_lt (t := .int .u8) (l:=intL x.data.toList) (x:=(x.data[k].toNat:Int)) (by
       show(intL x.data.toList:List Int)[k]? = _;unfold intL;rw[List.getElem?_map,Array.getElem?_toList,Array.getElem?_eq_getElem hk'];rfl)];rfl
     rw[hg];refine⟨.int .u8 (x.data[k].toNat:Int), ?_,rfl,plain_u8 _⟩;show(Lib.bytesCells w et x)[k*1+0]? = _;unfold Lib.bytesCells;rw[Nat.mul_one,Nat.add_zero,Array.getElem?_append_left (by rw[Array.size_map];exact hk'),Array.getElem?_map,Array.getElem?_eq_getElem hk'];rfl
   ·have hb:=Blk_slice.1 hb;simp only[blk]at hb;split at hb
    ·cases hb
    ·exact Nat.le_of_eq (Option.some.inj hb))
 refine wp_val (v := .slice (some ⟨w.heap.size,0,none⟩) x.size (grownCap w x.size 0 et)) (w':=Lib.bytesWorld w et x) ?_ (hK _ _ ⟨F,_,by rw[upd_cons];exact T.1,by rw[upd_cons];exact T.2,rfl,⟨some (.lis et (.int .u8) (intL x.data.toList)),by rw[upd_cons];simp[setH]⟩,fun ob _=>by simp[setB]⟩);simp only[execOp,ho,hu,Sem.run_bind,hrun,Result.andThen_ok,Sem.run_pure]
theorem zeroCells_one (z:Value) (n:Nat):(Builtin.zeroCells #[z] n).toList=replicate n z:=by
 unfold Builtin.zeroCells
 apply List.ext_getElem
 ·simp
 ·intro i h1 h2;simp[Nat.mod_one]
theorem op_clearWin (H:Inv w0 O0 F0 w F h β) (ht:TTok P TT) {X:Operand} {t et:TypeId} {ei:TI} {ts':List TypeId} (ho:o.op = .call { callee := .builtin .clear,args:=#[X],argTypes:=(t::ts').toArray }) (hty:sliceOf TT t=some (et,ei)) {i k:Nat}
  {tt:TypeId} {ik:IntKind} {l:List (Den (.int ik))} (hi:h i=some (some (.lis tt (.int ik) l))) (hz:ei.info.zero=some (.int ik 0)) (hk:k<length l) (hx:RepC w F h β (.win i 1 k) (a.eval X))
  (hK:∀v w',Out w0 O0 F0 w F h β a.tmps [(i,some (.lis tt (.int ik) (clrL l k)))] (.tup []) v w'→K (a.put o.dst v) w'):o.wp P a w K Q:=by
 obtain⟨ti,hti,hd,hei⟩:=sliceOf_some hty;obtain⟨b,m,cap,g1,g2,g3,g4⟩:=WinAt.pos (hx.2.2 _ hi) (RepO.leaf.1 (H.obj _ _ hi)) (by omega);rcases RepO.leaf.1 (H.obj _ _ hi)with⟨ad,r1,r2⟩ | ⟨b',cap',cur,r1,r2,r3,r4,r5,r6,r7⟩
 ·have:length l=0:=r2;omega
 rw[g1]at r1;cases r1;have hu:a.eval X = .slice (some ⟨b,k,none⟩) (length l-k) (cap-k):=by
  rw[g4,if_neg (by omega),Nat.mul_one]
 have hw:width (.int ik)=1:=rfl;have hsz:cur.size=cap:=by rw[r6,hw,Nat.mul_one]
 obtain⟨s1,s2,s3,s4⟩:=setRow_same w b (cur.toList.take k++replicate (length l-k) (Value.int ik 0)++cur.toList.drop (k+(length l-k))).toArray;have hblk:Blk (β i) b:=by rw[g1];simp[blk];omega
 have T:=H.turn (w':=w.setRow b (cur.toList.take k++replicate (length l-k) (Value.int ik 0)++cur.toList.drop (k+(length l-k))).toArray) (F':=F) i (some (.lis tt (.int ik) (clrL l k))) (β i) s1 s2 s3 (Nat.le_of_eq s4.symm) (fun k=>k=b)
  (fun k hk=>by
   subst hk;exact⟨H.notF i _ k hi hblk,fun j o' hj hj' hb'=>hj (H.apart j i o' _ k hj' hi hb' hblk),H.fromO i _ k hi hblk⟩)
  (fun k _ hk=>setRow_other w b k _ hk) (fun _ hf=>hf) (fun _ hf => .inl hf) (fun q0 _ h0 _=>⟨⟨_,by rw[hi]at h0;exact (Option.some.inj h0).symm⟩,rfl⟩)
  (fun P ob hob=>by
   cases hob
   have hlen:length (clrL l k)=length l:=by unfold clrL;rw[length_append,length_take,length_replicate];omega
   refine⟨RepO.leaf.2 (.inr ⟨b,cap,_,by rw[hlen];simp[setB,g1],r2,r3.set (by simp only[List.size_toArray,length_append,length_take,length_drop,length_replicate,Array.length_toList];omega),by rw[hlen];exact r4,r5, ?_,fun k' hk' j' hj' => ?_⟩),fun k hk => ?_⟩
   ·simp only[List.size_toArray,length_append,length_take,length_drop,length_replicate,Array.length_toList,hw];omega
   ·rw[hlen]at hk';rw[hw]at hj';have hj0:j'=0:=by omega
    subst hj0;rw[hw,Nat.mul_one,Nat.add_zero];simp only[List.getElem?_toArray];obtain⟨y,hy,hr⟩:=r7 k' hk' 0 (by rw[hw];omega);rw[hw,Nat.mul_one,Nat.add_zero]at hy
    by_cases hin:k'<k
    ·refine ⟨y, ?_, ?_⟩
     ·rw[append_assoc,getElem?_append_left (by simp;omega),getElem?_take,if_pos hin]
      simpa using hy
     ·have e:getL (.int ik) (clrL l k) k' 0=getL (.int ik) l k' 0:=by
       unfold getL;have:getD (clrL l k) k' (dflt (.int ik))=getD l k' (dflt (.int ik)):=by
        unfold clrL;rw[zG,zG,getElem?_append_left (by simp;omega),getElem?_take,if_pos hin]
       rw[this]
      rw[e];exact Ro.mono P.blocks P.sub hr
    ·refine ⟨.int ik 0, ?_, ?_⟩
     ·rw[append_assoc,getElem?_append_right (by simp;omega),getElem?_append_left (by simp;omega),List.getElem?_replicate,if_pos (by simp;omega)]
     ·have e:getL (.int ik) (clrL l k) k' 0 = .v (.int ik 0):=by
       unfold getL;have:getD (clrL l k) k' (dflt (.int ik))=dflt (.int ik):=by
        unfold clrL;rw[zG,getElem?_append_right (by simp;omega),List.getElem?_replicate,if_pos (by simp;omega)];rfl
       rw[this];rfl
      rw[e];exact⟨rfl,by simp[plain];cases ik<;>rfl⟩
   ·rw[g1]at hk;have hk:=Blk_slice.1 hk;simp only[blk]at hk;split at hk
    ·cases hk
    ·exact .inl (Option.some.inj hk).symm)
 rw[setB_self]at T;refine wp_val (v := .tuple #[]) (w':=w.setRow b (cur.toList.take k++replicate (length l-k) (Value.int ik 0)++cur.toList.drop (k+(length l-k))).toArray) ?_ (hK _ _ ⟨F,β,by rw[upd_cons,upd_nil];exact T.1,by rw[upd_cons,upd_nil];exact T.2, ?_⟩)
 ·refine op_builtin ho (f:=Builtin.clear_ (t::ts').toArray o.type #[a.eval X]) (by simp[builtin]) ?_;have hst:=run_storeCells_M (P:=P) (o:=k) (replicate (length l-k) (Value.int ik 0)) 0 cur w r3 (by rw[length_replicate];omega) (fun v hv=>by rw[List.eq_of_mem_replicate hv];rfl);simp only[Nat.add_zero,length_replicate]at hst;obtain⟨q,hq⟩:∃q,length l-k=q+1:=⟨length l-k-1,by omega⟩;have hzc:(Builtin.zeroCells (Value.int ik 0).cells (length l-k)).toList=replicate (length l-k) (Value.int ik 0):=zeroCells_one _ _;rw[hq]at hu hzc hst;simp only[Builtin.clear_,hu,ht.run_under hti,hd,Sem.run_bind,Result.andThen_ok,ht.run_zero hei hz,hzc,hst,Sem.run_pure,List.getElem?_toArray,List.getElem?_cons_zero];rw[hq]
 ·exact ⟨_,rfl, .nil⟩
end
end Go.Proofs.YtkhhclpkljikkaaDoor.Ev
/-
 Slices of slices: append and literals;all new operations together.
-/
namespace Go.Proofs.YtkhhclpkljikkaaDoor.Ev
open Go
open List (length length_append length_cons length_singleton length_replicate length_set length_take length_drop mem_cons_of_mem mem_cons_self getD replicate mem_append_left mem_append_right all_eq_true drop_eq_getElem_cons drop_eq_nil_of_le append_assoc mem_singleton getElem?_append_left getElem?_append_right getElem?_eq_none getElem?_take mem_append)
section
variable {P:Program} {TT:Types} {w0 w:World} {O0 F0 F:Nat→Prop} {h:HF} {β:Nat→Value} {a:Act} {o:Oper} {K:Act→World→Prop} {Q:Exit→Act→World→Prop} {x:T} {v:Value}
theorem deep_open {i:Nat} {t0:TypeId} {ts:List TypeId} {e:Ty} {l:List (Den (.list e))} (ho:RepO w F h β i (.deep (t0::ts) (.list e) l)):∃ad cap S,β i=tupOf (.slice ad (length l) cap) S∧S.length=length l∧length l≤cap∧cap≤maxLen ∧
  ((length l=0∧cap=0)∨∃b cur,ad=some ⟨b,0,none⟩∧0<cap∧RowAt w b cur t0∧length l≤cap∧cap≤maxLen∧cur.size=cap∧cur.toList.take (length l)=S.map hd) ∧
  (∀k,k<length l→∃s,S[k]? = some s∧DeepAt w F e ts (getD l k ([]:List (Den e))) s)∧Inj (β i):=by
 obtain⟨_,h1,h2⟩:=ho;obtain⟨t,ts',ad,cap,S,e1,e2,g1,g3,g4,g5,g6⟩:=deep_list.1 h1
 cases e1
 refine⟨ad,cap,S,e2,g1,g3,g4, ?_,g6,h2⟩;rcases g5 with g5 | ⟨b,cur,q1,q2,q3,q4,q5⟩
 ·exact .inl ⟨by omega,g5⟩
 ·refine .inr ⟨b,cur,q1,q2,q3,g3,g4,q4, ?_⟩
  apply List.ext_getElem?
  intro k;rw[getElem?_take,List.getElem?_map]
  split
  ·rename_i hk;obtain⟨s,r1,r2⟩:=q5 k hk;rw[r1]
   simpa using r2
  ·rename_i hk;rw[getElem?_eq_none (by omega)];rfl
theorem app_at {α:Type} {l m:List α} {k:Nat} {x:α} (h:(l++m)[k]? = some x):(k<l.length∧l[k]? = some x)∨(l.length≤k∧m[k-l.length]? = some x):=by
 rcases Nat.lt_or_ge k l.length with hk | hk
 ·rw[getElem?_append_left hk]at h;exact .inl ⟨hk,h⟩
 ·rw[getElem?_append_right hk]at h;exact .inr ⟨hk,h⟩
theorem op_appendDeep0 (H:Inv w0 O0 F0 w F h β) (ht:TTok P TT) {X Y:Operand} {t et:TypeId} {ti ei:TI} (ho:o.op = .call { callee := .builtin .append,args:=#[X,Y],argTypes:=#[t,t] }) (hti:TT t=some ti) (hd0:ti.desc = .slice et) (hei:TT et=some ei) {zs:List C} (hz:zeroCells ei=some zs) (hzl:zs.length=1) (hsz:ei.info.size=1) (hby:0<ei.info.bytes)
  {j s:Nat} {e:Ty} {ts:List TypeId} {m:List (Den (.list e))} (hj:h j=some (some (.deep (et::ts) (.list e) m))) (hs0:h s=none) (hX:a.eval X = .slice none 0 0) (hy:RepC w F h β (.dsl j []) (a.eval Y)) (hfit:fits (length m) ei.info.bytes=true)
  (hK:∀v w',Out w0 O0 F0 w F h β a.tmps [(j,none),(s,some (.deep (et::ts) (.list e) m))] (.d (.one (.dsl s []))) v w'→K (a.put o.dst v) w'):o.wp P a w K Q:=by
 obtain⟨adj,cj,Sj,b1,b2,b3,b4,b5,b6,b7⟩:=deep_open (H.obj _ _ hj);have hyv:=hy.2.2 _ hj;rw[b1,sk_nil]at hyv;have hyv:=(Option.some.inj hyv).symm;obtain⟨H1,P1⟩:=H.kill j;rw[setB_self]at H1 P1;have hjs:j≠s:=fun e=>by subst e;rw[hs0]at hj;cases hj
 have hs1:setH h j none s=none:=by simp only[setH,if_neg (Ne.symm hjs)];exact hs0
 have hblk:∀(k:Nat) s' b,Sj[k]? = some s'→Blk s' b→Blk (β j) b:=fun k s' b hk hb=>by rw[b1];exact Blk_tup.2 (.inr ⟨k,s',hk,hb⟩)
 have hcomm:∀q,upd [(j,none),(s,some q)] h=setH (setH h j none) s (some q):=fun q=>by
  rw[upd_cons,upd_cons,upd_nil];exact setH_comm h (Ne.symm hjs) _ _
 refine append_deep ht ho hti hd0 hei hz hzl hsz hby H1 hs1 (e:=e) (ts:=ts) (l:=([]:List (Den (.list e)))) (m:=m) (base:=none) (adj:=adj) (cap:=0) (cj:=cj) (Si:=[]) (Sj:=Sj) hX hyv rfl b2 (.inl ⟨rfl,rfl⟩) ?_ (fun k hk=>absurd hk (Nat.not_lt_zero k)) b6
  (fun b=>Blk (β j) b) (fun b hb=>⟨H.notF j _ b hj hb,fun j' o' hj' hb' => ?_,H.fromO j _ b hj hb⟩) (fun b h0=>absurd h0 (by omega)) (fun k s' b hk hb=>⟨hblk k s' b hk hb,fun h0=>absurd h0 (by omega),blk_lt (H.obj _ _ hj) (hblk k s' b hk hb)⟩)
  (fun k k' s1 s2 b h1 h2 g1 g2=>by rw[b1]at b7;exact Inj_apart b7 h1 h2 g1 g2) (fun k s' hk=>by rw[b1]at b7;exact Inj_sub b7 hk) (by
   have:length ([]:List (Den (.list e)))+length m=length m:=by simp
   rw[this];exact hfit) fun v w' β' h1 h2 h3 h4=>hK v w' ⟨F,β', ?_, ?_, ?_⟩
 ·rcases b5 with⟨b5,_⟩ | ⟨b,cur,q1,q2,q3,q4,q5,q6,q7⟩
  ·exact .inl b5
  ·refine .inr ⟨b,q1,fun k u hk => ?_⟩;rw[← q7,getElem?_take]at hk
   split at hk
   ·rw[q3.cell]
    simpa using hk
   ·cases hk
 ·simp only[setH]at hj'
  split at hj'
  ·cases hj'
  ·rename_i hne;exact hne (H.apart j' j o' _ b hj' hj hb' hb)
 ·rw[hcomm];exact h1
 ·rw[hcomm];exact P1.trans h2
 ·refine ⟨h3,⟨some (.deep (et::ts) (.list e) m),by rw[hcomm];simp[setH]⟩,fun _ _=>h4⟩
theorem op_appendDeep (H:Inv w0 O0 F0 w F h β) (ht:TTok P TT) {X Y:Operand} {t et:TypeId} {ti ei:TI} (ho:o.op = .call { callee := .builtin .append,args:=#[X,Y],argTypes:=#[t,t] }) (hti:TT t=some ti) (hd0:ti.desc = .slice et) (hei:TT et=some ei) {zs:List C} (hz:zeroCells ei=some zs) (hzl:zs.length=1) (hsz:ei.info.size=1) (hby:0<ei.info.bytes)
  {i j s:Nat} {e:Ty} {ts:List TypeId} {l m:List (Den (.list e))} (hi:h i=some (some (.deep (et::ts) (.list e) l))) (hj:h j=some (some (.deep (et::ts) (.list e) m))) (hij:i≠j) (hs0:h s=none) (hx:RepC w F h β (.dsl i []) (a.eval X)) (hy:RepC w F h β (.dsl j []) (a.eval Y))
  (hfit:fits (length l+length m) ei.info.bytes=true)
  (hK:∀v w',Out w0 O0 F0 w F h β a.tmps [(i,none),(j,none),(s,some (.deep (et::ts) (.list e) (l++m)))] (.d (.one (.dsl s []))) v w'→K (a.put o.dst v) w'):o.wp P a w K Q:=by
 obtain⟨adi,ci,Si,a1,a2,a3,a4,a5,a6,a7⟩:=deep_open (H.obj _ _ hi);obtain⟨adj,cj,Sj,b1,b2,b3,b4,b5,b6,b7⟩:=deep_open (H.obj _ _ hj);have hxv:=hx.2.2 _ hi;rw[a1,sk_nil]at hxv;have hxv:=(Option.some.inj hxv).symm;have hyv:=hy.2.2 _ hj;rw[b1,sk_nil]at hyv;have hyv:=(Option.some.inj hyv).symm;obtain⟨H1,P1⟩:=H.kill i;rw[setB_self]at H1 P1;obtain⟨H2,P2⟩:=H1.kill j;rw[setB_self]at H2 P2;have hjs:j≠s:=fun e=>by subst e;rw[hs0]at hj;cases hj
 have his:i≠s:=fun e=>by subst e;rw[hs0]at hi;cases hi
 have hs1:setH (setH h i none) j none s=none:=by simp only[setH,if_neg (Ne.symm hjs),if_neg (Ne.symm his)];exact hs0
 have hbi:∀(k:Nat) s' b,Si[k]? = some s'→Blk s' b→Blk (β i) b:=fun k s' b hk hb=>by rw[a1];exact Blk_tup.2 (.inr ⟨k,s',hk,hb⟩)
 have hbj:∀(k:Nat) s' b,Sj[k]? = some s'→Blk s' b→Blk (β j) b:=fun k s' b hk hb=>by rw[b1];exact Blk_tup.2 (.inr ⟨k,s',hk,hb⟩)
 have hapart:∀b,Blk (β i) b→¬Blk (β j) b:=fun b h1 h2=>hij (H.apart i j _ _ b hi hj h1 h2);have hbase:∀b,0<ci→adi.map (·.block)=some b→blk (.slice adi (length l) ci)=some b:=fun b h0 hb=>by
  cases adi with
  |none=>simp at hb
  |some ad=>simp only[Option.map_some,Option.some.injEq]at hb;simp[blk,hb];omega
 have hcomm:∀q,upd [(i,none),(j,none),(s,some q)] h=setH (setH (setH h i none) j none) s (some q):=fun q=>by
  rw[upd_cons,upd_cons,upd_cons,upd_nil,setH_comm h (Ne.symm hjs),setH_comm _ (Ne.symm his)]
  congr 1
  exact setH_comm h (Ne.symm hij) _ _
 refine append_deep ht ho hti hd0 hei hz hzl hsz hby H2 hs1 (e:=e) (ts:=ts) (l:=l) (m:=m) (base:=adi) (adj:=adj) (cap:=ci) (cj:=cj) (Si:=Si) (Sj:=Sj) hxv hyv a2 b2 a5 ?_ a6 b6
  (fun b=>Blk (β i) b∨Blk (β j) b) (fun b hb => ?_) (fun b h0 hb => .inl (by rw[a1];exact Blk_tup.2 (.inl (hbase b h0 hb)))) (fun k s' b hk hb => ?_) (fun k k' s1 s2 b h1 h2 g1 g2 => ?_) (fun k s' hk => ?_) hfit fun v w' β' h1 h2 h3 h4=>hK v w' ⟨F,β', ?_, ?_, ?_⟩
 ·rcases b5 with⟨b5,_⟩ | ⟨b,cur,q1,q2,q3,q4,q5,q6,q7⟩
  ·exact .inl b5
  ·refine .inr ⟨b,q1,fun k u hk => ?_⟩;rw[← q7,getElem?_take]at hk
   split at hk
   ·rw[q3.cell]
    simpa using hk
   ·cases hk
 ·refine ⟨?_,fun j' o' hj' hb' => ?_, ?_⟩
  ·rcases hb with hb | hb
   ·exact H.notF i _ b hi hb
   ·exact H.notF j _ b hj hb
  ·simp only[setH]at hj'
   split at hj'
   ·cases hj'
   ·rename_i hne
    split at hj'
    ·cases hj'
    ·rename_i hne2;rcases hb with hb | hb
     ·exact hne2 (H.apart j' i o' _ b hj' hi hb' hb)
     ·exact hne (H.apart j' j o' _ b hj' hj hb' hb)
  ·rcases hb with hb | hb
   ·exact H.fromO i _ b hi hb
   ·exact H.fromO j _ b hj hb
 ·rcases app_at hk with⟨_,hk⟩ | ⟨_,hk⟩
  ·refine ⟨.inl (hbi _ s' b hk hb),fun h0 e1 => ?_,blk_lt (H.obj _ _ hi) (hbi _ s' b hk hb)⟩;rw[a1]at a7;exact Inj_top a7 hk (hbase b h0 e1) hb
  ·refine ⟨.inr (hbj _ s' b hk hb),fun h0 e1 => ?_,blk_lt (H.obj _ _ hj) (hbj _ s' b hk hb)⟩;exact hapart b (by rw[a1];exact Blk_tup.2 (.inl (hbase b h0 e1))) (hbj _ s' b hk hb)
 ·rcases app_at h1 with⟨l1,h1⟩ | ⟨l1,h1⟩<;>rcases app_at h2 with⟨l2,h2⟩ | ⟨l2,h2⟩
  ·rw[a1]at a7;exact Inj_apart a7 h1 h2 g1 g2
  ·exact absurd (hbj _ _ b h2 g2) (hapart b (hbi _ _ b h1 g1))
  ·exact absurd (hbj _ _ b h1 g1) (hapart b (hbi _ _ b h2 g2))
  ·rw[b1]at b7;have:=Inj_apart b7 h1 h2 g1 g2;omega
 ·rcases app_at hk with⟨_,hk⟩ | ⟨_,hk⟩
  ·rw[a1]at a7;exact Inj_sub a7 hk
  ·rw[b1]at b7;exact Inj_sub b7 hk
 ·rw[hcomm];exact h1
 ·rw[hcomm];exact P1.trans (P2.trans h2)
 ·refine ⟨h3,⟨some (.deep (et::ts) (.list e) (l++m)),by rw[hcomm];simp[setH]⟩,fun _ _=>h4⟩
theorem rowOf_sound (H:Inv w0 O0 F0 w F h β) {hh:Nat→Option Obj} (hhh:∀i ob,hh i=some ob→h i=some (some ob)) {c:C} {i:Nat} {ts:List TypeId} {q:Pay} (hr:rowOf hh c=some (i,ts,q)) {u:Value} (hu:RepC w F h β c u) :
  ∃ob s,h i=some (some ob)∧DeepAt w F q.t ts q.l s∧Inj s∧hd s=u∧∀b,Blk s b↔Blk (β i) b:=by
 unfold rowOf at hr
 split at hr
 ·rename_i i'
  split at hr
  ·rename_i t e l hi
   cases hb:(tyFlat e&&isDeepLeaf e)with
   |false=>rw[hb]at hr;cases hr
   |true =>
    rw[hb]at hr
    cases hr
    simp only[Bool.and_eq_true]at hb;have hi':=hhh _ _ hi;have hl:=RepO.leaf.1 (H.obj _ _ hi');obtain⟨ad,cap,e1,_⟩:=leaf_head hl;have hblk:∀b,Blk (tupOf (β i) []) b↔Blk (β i) b:=fun b=>by
     rw[Blk_tup,e1,Blk_slice];simp
    refine⟨_,tupOf (β i) [],hi',leaf_deep hb.2 hl,Inj_mk (fun k s b hk=>by simp at hk) (fun k j s s' b hk=>by simp at hk) (fun k s hk=>by simp at hk), ?_,hblk⟩;rw[hd_tup];exact (hu.2.2 _ hi').symm
  ·cases hr
 ·rename_i i'
  split at hr
  ·rename_i ts' e l hi
   cases hr
   have hi':=hhh _ _ hi;have hob:=H.obj _ _ hi';have hsk:=hu.2.2 _ hi';refine⟨_,β i,hi',hob.2.1,hob.2.2,by simpa only[skAt,Option.some.injEq]using hsk,fun b=>Iff.rfl⟩
  ·cases hr
 ·cases hr
theorem op_buildDeep0 (H:Inv w0 O0 F0 w F h β) (ht:TTok P TT) {ty et:TypeId} {ti ei:TI} (ho:o.op = .buildSlice ty 0 #[]) (hti:TT ty=some ti) (hd0:ti.desc = .slice et) (hei:TT et=some ei) {e:Ty} {ts:List TypeId} {s:Nat} (hs0:h s=none)
  (hK:∀v w',Out w0 O0 F0 w F h β a.tmps [(s,some (.deep (et::ts) (.list e) []))] (.d (.one (.dsl s []))) v w'→K (a.put o.dst v) w'):o.wp P a w K Q:=by
 have T:=H.new hs0 (.cells #[] et) (.deep (et::ts) (.list e) ([]:List (Den (.list e)))) (tupOf (.slice (some ⟨w.heap.size,0,none⟩) 0 0) []) (fun b hb=>by
  rcases Blk_tup.1 hb with hb | ⟨k,s,hk,_⟩
  ·simp[blk]at hb
  ·simp at hk) (fun P=>⟨rfl,by
   simp only[setB,if_true];exact deep_list.2 ⟨et,ts,_,0,[],rfl,rfl,rfl,Nat.zero_le _,by simp[maxLen], .inl rfl,fun k hk=>absurd hk (Nat.not_lt_zero k)⟩,by
   simp only[setB,if_true];exact Inj_mk (fun k s b hk=>by simp at hk) (fun k j s s' b hk=>by simp at hk) (fun k s hk=>by simp at hk)⟩)
 refine wp_val (v := .slice (some ⟨w.heap.size,0,none⟩) 0 0) (w':=w.alloc (.cells #[] et)) ?_ (hK _ _ ⟨F,_,by rw[upd_cons];exact T.1,by rw[upd_cons];exact T.2,rfl,⟨some (.deep (et::ts) (.list e) []),by simp[upd,look]⟩,fun ob _=>by simp only[setB,if_true];exact sk_nil _ _⟩);have hr0:Array.range 0=#[]:=rfl;simp[execOp,ho,Instr.buildSlice,ht.run_under hti,hd0,ht.run_size hei,Instr.fill,newRow,newObj,hr0];rfl
theorem op_buildDeep1 (H:Inv w0 O0 F0 w F h β) (ht:TTok P TT) {hh:Nat→Option Obj} (hhh:∀i ob,hh i=some ob→h i=some (some ob)) {ty et:TypeId} {ti ei:TI} {X:Operand} (ho:o.op = .buildSlice ty 1 #[(0,X)]) (hti:TT ty=some ti) (hd0:ti.desc = .slice et) (hei:TT et=some ei) {zs:List C} (hz:zeroCells ei=some zs) (hzl:zs.length=1) (hsz:ei.info.size=1)
  {c:C} {i:Nat} {ts:List TypeId} {e:Ty} {l:List (Den e)} (hr:rowOf hh c=some (i,ts,⟨e,l⟩)) (hx:RepC w F h β c (a.eval X)) {s:Nat} (hs0:h s=none)
  (hK:∀v w',Out w0 O0 F0 w F h β a.tmps [(i,none),(s,some (.deep (et::ts) (.list e) [l]))] (.d (.one (.dsl s []))) v w'→K (a.put o.dst v) w'):o.wp P a w K Q:=by
 obtain⟨ob,sk,hi,r1,r2,r3,r4⟩:=rowOf_sound H hhh hr hx;obtain⟨zv,hz1,hz2⟩:=zeroCells_sound (w:=w) (F:=F) (h:=h) (β:=β) hz;have hzs:zv.cells.size=1:=by have:=hz2.len;simp at this;omega
 obtain⟨H1,P1⟩:=H.kill i;rw[setB_self]at H1 P1;have his:i≠s:=fun e=>by subst e;rw[hs0]at hi;cases hi
 have hs1:setH h i none s=none:=by simp only[setH,if_neg (Ne.symm his)];exact hs0
 have hcomm:∀q,upd [(i,none),(s,some q)] h=setH (setH h i none) s (some q):=fun q=>by
  rw[upd_cons,upd_cons,upd_nil];exact setH_comm h (Ne.symm his) _ _
 obtain⟨ad,cap,e1,_⟩:=deep_head r1;have hu:a.eval X = .slice ad (length l) cap:=by rw[← r3,e1]
 have hold:∀b,Blk sk b→(w.alloc (.cells #[a.eval X] et)).heap[b]? = w.heap[b]? := fun b hb=>heap_alloc_old w _ b (blk_lt (H.obj _ _ hi) ((r4 b).1 hb));have T:=H1.turn (w':=w.alloc (.cells #[a.eval X] et)) (F':=F) s (some (.deep (et::ts) (.list e) ([l]:List (Den (.list e))))) (tupOf (.slice (some ⟨w.heap.size,0,none⟩) 1 1) [sk]) rfl rfl rfl (by simp) (fun b=>Blk (β i) b)
  (fun b hb=>⟨H.notF i _ b hi hb,fun j o' _ hj hb'=>by
   simp only[setH]at hj
   split at hj
   ·cases hj
   ·rename_i hne;exact hne (H.apart j i o' _ b hj hi hb' hb),H.fromO i _ b hi hb⟩)
  (fun b hb _=>heap_alloc_old w _ b hb) (fun _ hf=>hf) (fun _ hf => .inl hf) (fun q0 _ h0=>by rw[hs1]at h0;cases h0)
  (fun P2 ob2 hob=>by
   cases hob
   refine⟨⟨rfl, ?_, ?_⟩,fun b hb => ?_⟩
   ·simp only[setB,if_true];refine deep_list.2 ⟨et,ts,_,1,[sk],rfl,rfl,rfl,Nat.le_refl _,by simp[maxLen], .inr ⟨w.heap.size,_,rfl,by omega, .new (heap_alloc_new w _),rfl,fun k hk => ?_⟩,fun k hk => ?_⟩
    ·have hk0:k=0:=by have:k<1:=hk;omega
     subst hk0;exact⟨sk,rfl,by rw[r3];rfl⟩
    ·have hk0:k=0:=by have:k<1:=hk;omega
     subst hk0;exact⟨sk,rfl,deep_mono P2.blocks P2.sub hold r1⟩
   ·simp only[setB,if_true];refine Inj_mk (fun k s' b hk hb hbs => ?_) (fun k j s1 s2 b hk hj _ _ => ?_) (fun k s' hk => ?_)
    ·have hk0:k=0:=by
      have:=(List.getElem?_eq_some_iff.1 hk).1;simp at this;exact this
     subst hk0;simp at hk;subst hk;simp[blk]at hb;have:=blk_lt (H.obj _ _ hi) ((r4 b).1 hbs);omega
    ·have h1:=(List.getElem?_eq_some_iff.1 hk).1;have h2:=(List.getElem?_eq_some_iff.1 hj).1;simp at h1 h2;omega
    ·have hk0:k=0:=by
      have:=(List.getElem?_eq_some_iff.1 hk).1;simp at this;exact this
     subst hk0;simp at hk;subst hk;exact r2
   ·rcases Blk_tup.1 hb with hb | ⟨k,s',hk,hb⟩
    ·simp[blk]at hb;exact .inr (by omega)
    ·have hk0:k=0:=by
      have:=(List.getElem?_eq_some_iff.1 hk).1;simp at this;exact this
     subst hk0;simp at hk;subst hk;exact .inl ((r4 b).1 hb))
 refine wp_val (v := .slice (some ⟨w.heap.size,0,none⟩) 1 1) (w':=w.alloc (.cells #[a.eval X] et)) ?_ (hK _ _ ⟨F,_,by rw[hcomm];exact T.1,by rw[hcomm];exact P1.trans T.2,rfl,⟨some (.deep (et::ts) (.list e) [l]),by rw[hcomm];simp[setH]⟩,fun ob _=>by simp only[setB,if_true];exact sk_nil _ _⟩);have hcell:(a.eval X).cells=#[a.eval X]:=by rw[hu];rfl
 have hr1:(Array.range 1)=#[0]:=rfl;simp only[execOp,ho,Instr.buildSlice,Sem.run_bind,ht.run_under hti,hd0,ht.run_size hei,hsz,Result.andThen_ok,Sem.run_pure];simp[Instr.fill,hcell,hr1,newRow,newObj,ht.run_zero hei hz1];rfl
theorem eqNats_iff:∀ {l m:List Nat},eqNats l m=true→l=m
 | [],[],_=>rfl
 | [],_::_,h=>by cases h
 |_::_,[],h=>by cases h
 |a::l,b::m,h=>by
  simp only[eqNats,Bool.and_eq_true]at h;rw[zB h.1,eqNats_iff h.2]
theorem tsOf_list {e:Ty} {t:TypeId} {ts:List TypeId} (h:tsOf TT (.list e) t=some ts):∃l ti,ts=t::l∧TT t=some ti∧ti.info.size=1:=by
 simp only[tsOf]at h
 split at h
 ·rename_i ti hti
  split at h
  ·split at h
   ·rename_i l hl
    cases hb:Nat.beq ti.info.size 1 with
    |false=>rw[hb]at h;cases h
    |true=>rw[hb]at h;cases h;exact ⟨l,ti,rfl,hti,zB hb⟩
   ·cases h
  ·cases h
 ·cases h
theorem xOp_sound (H:Inv w0 O0 F0 w F h β) (ht:TTok P TT) {hh:Nat→Option Obj} (hhh:∀i ob,hh i=some ob→h i=some (some ob)) {xs:List T} {c:Option Bool} {ups:Ups}
  (he:xOp TT o xs hh=some (c,x,ups)) (hc:c=none∨c=some true) (hx:All2 (RepX a.tmps w F h β) xs (o.op.operands.toList.map a.eval)) (hnew:∀j q,(j,q)∈ups→isNew (o.dst.getD 0) j=true→h j=none)
  (hK:∀v w',Out w0 O0 F0 w F h β a.tmps ups x v w'→K (a.put o.dst v) w'):o.wp P a w K Q:=by
 unfold xOp at he;dsimp only at he
 split at he
 ·rename_i ty ho
  split at he
  ·cases he
   exact op_makeMap H ho (new_of hnew (by omega) (List.mem_singleton_self _)) hK
  ·cases he
 ·rename_i ty X Y ok cc key ho;rw[ho]at hx
  cases hx with | cons h1 h2=>cases h2 with | cons h2 h3 =>
  split at he
  ·rename_i kt k ei e hty
   split at he
   ·rename_i m kx z e1 e2 e3 e4
    split at he
    ·cases he
     exact op_lookup H ht hhh ho hty e1 e2 e3 e4 h1 h2 hK
    ·cases he
     exact op_lookup H ht hhh ho hty e1 e2 e3 e4 h1 h2 hK
   ·cases he
  ·cases he
 ·rename_i ty X Y Z i key val ho;rw[ho]at hx
  cases hx with | cons h1 h2=>cases h2 with | cons h2 h3=>cases h3 with | cons h3 h4 =>
  split at he
  ·rename_i kt k ei e hty
   split at he
   ·rename_i m kx z e1 e2 e3 e4 e5
    cases he
    exact op_mapUpdate H ht hhh (.inl ho) hty e1 e2 e3 e5 e4 h1 h2 h3 hK
   ·cases he
  ·cases he
 ·rename_i ty X Y Z i key val ho;rw[ho]at hx
  cases hx with | cons h1 h2=>cases h2 with | cons h2 h3=>cases h3 with | cons h3 h4 =>
  split at he
  ·rename_i kt k ei e hty
   split at he
   ·rename_i m kx z e1 e2 e3 e4 e5
    cases he
    exact op_mapUpdate H ht hhh (.inr ho) hty e1 e2 e3 e5 e4 h1 h2 h3 hK
   ·cases he
  ·cases he
 ·rename_i s d X x ho;rw[ho]at hx
  cases hx with | cons h1 h2 =>
  split at he
  ·rename_i si et ei e1 e2
   split at he
   ·rename_i e3
    cases he
    exact op_strBytes H ht ho e1 e2 e3 h1 (new_of hnew (by omega) (List.mem_singleton_self _)) hK
   ·cases he
  ·cases he
 ·rename_i ty X Y i p n ho;rw[ho]at hx
  cases hx with | cons h1 h2=>cases h2 with | cons h2 h3 =>
  split at he
  ·rename_i ts e l et ei n' e1 e2 e3
   split at he
   ·rename_i q e4
    cases hb:Nat.beq ei.info.size (width q.t)with
    |false=>rw[hb]at he;cases he
    |true =>
     rw[hb]at he
     cases he
     simp only[reduceCtorEq,Option.some.injEq,false_or]at hc;obtain⟨k,hk⟩:=intD_sound e3 h2;exact op_indexDeep H ht ho e2 (hhh _ _ e1) e4 (zB hb) h1 hk hc hK
   ·cases he
  ·cases he
 ·rename_i ty X Y i lo ho;rw[ho]at hx
  cases hx with | cons h1 h2=>cases h2 with | cons h2 h3 =>
  split at he
  ·rename_i t e l et ei k e1 e2 e3
   cases hb:(Nat.beq t et&&Nat.beq ei.info.size (width e))with
   |false=>rw[hb]at he;cases he
   |true =>
    rw[hb]at he
    cases he
    simp only[Bool.and_eq_true]at hb;simp only[reduceCtorEq,Option.some.injEq,false_or]at hc;obtain⟨kk,hk⟩:=intD_sound e3 h2;exact op_sliceWin H ht ho e2 (hhh _ _ e1) (zB hb.2) h1 hk hc hK
  ·cases he
 ·rename_i ty X Y i s k n ho;rw[ho]at hx
  cases hx with | cons h1 h2=>cases h2 with | cons h2 h3 =>
  split at he
  ·rename_i t e l et ei n' e1 e2 e3
   cases hb:(Nat.beq ei.info.size s&&Nat.beq s (width e))with
   |false=>rw[hb]at he;cases he
   |true =>
    rw[hb]at he
    cases he
    simp only[Bool.and_eq_true]at hb;simp only[reduceCtorEq,Option.some.injEq,false_or]at hc;obtain⟨kk,hk⟩:=intD_sound e3 h2;exact op_indexWin H ht ho e2 (hhh _ _ e1) (zB hb.1) h1 hk hc hK
  ·cases he
 ·rename_i ty X i p sz k off ho;rw[ho]at hx
  cases hx with | cons h1 h2 =>
  split at he
  ·rename_i ts e l ti e1 e2
   split at he
   ·rename_i e' m e3
    cases hb:(Nat.beq off 0&&Nat.beq sz 1&&Nat.beq ti.info.size 1&&isSliceD ti.desc)with
    |false=>rw[hb]at he;cases he
    |true =>
     rw[hb]at he
     cases he
     simp only[Bool.and_eq_true]at hb;obtain⟨⟨⟨b1,b2⟩,b3⟩,b4⟩:=hb;have b1:=zB b1;have b2:=zB b2;subst b1;subst b2;have hag:aggDesc ti.desc=false:=by
      cases hdd:ti.desc<;>first | rfl | (rw[hdd]at b4;cases b4)
     exact op_loadDeep1 H ht ho e2 hag (hhh _ _ e1) e3 h1 hK
   ·rename_i q _ e3
    cases hb:(Nat.ble (off+ti.info.size) (width q.t)&&Nat.beq sz (width q.t)&&tyFlat q.t)with
    |false=>rw[hb]at he;cases he
    |true =>
     rw[hb]at he;simp only[cond_true,Option.map_eq_some_iff,Prod.mk.injEq]at he;obtain⟨d,hd,rfl,rfl,rfl⟩:=he;simp only[Bool.and_eq_true]at hb;exact op_loadDeep2 H ht ho e2 (hhh _ _ e1) e3 hb.2 (zB hb.1.2) (Nat.le_of_ble_eq_true hb.1.1) hd h1 hK
   ·cases he
  ·cases he
 ·rename_i ty X Y i p sz k off d ho;rw[ho]at hx
  cases hx with | cons h1 h2=>cases h2 with | cons h2 h3 =>
  split at he
  ·rename_i ts e l ti e1 e2
   split at he
   ·rename_i q rs e3 e4
    split at he
    ·rename_i l' hb e5
     cases he
     simp only[Bool.and_eq_true]at hb;obtain⟨⟨⟨b1,b2⟩,b3⟩,b4⟩:=hb;exact op_storeDeep H ht ho e2 (hhh _ _ e1) e3 b4 (zB b3) (zB b1) (Nat.le_of_ble_eq_true b2) e4 e5 h1 h2 hK
    ·cases he
   ·cases he
  ·cases he
 ·rename_i cl ho;obtain⟨callee,args,ats⟩:=cl;rw[ho]at hx;dsimp only at he
  split at he
  ·rename_i i p;replace hx:All2 (RepX a.tmps w F h β) [.d (.one (.dsl i p))] (args.toList.map a.eval):=by simpa [Op.operands,Call.operands]using hx
   split at he
   ·rename_i ts e l z e1 e2;obtain⟨et,ei⟩:=z;simp only[Option.bind_eq_some_iff]at e2;obtain⟨t,h2,hty⟩:=e2
    split at he
    ·rename_i q e3
     cases he
     obtain⟨args⟩:=args
     cases args with
     |nil=>cases hx
     |cons X l =>
      cases l with
      |cons Y l=>cases hx with |cons g1 g2=>cases g2
      |nil =>
       cases hx with
       |cons g1 g2 =>
        obtain⟨ats⟩:=ats
        cases ats with
        |nil=>simp at h2
        |cons t' l' =>
         simp at h2;subst h2;exact op_lenDeep H ht ho hty (hhh _ _ e1) e3 g1 hK
    ·cases he
   ·cases he
  ·rename_i i s k;replace hx:All2 (RepX a.tmps w F h β) [.d (.one (.win i s k))] (args.toList.map a.eval):=by simpa [Op.operands,Call.operands]using hx
   split at he
   ·rename_i tt e l z e1 e2;obtain⟨et,ei⟩:=z;simp only[Option.bind_eq_some_iff]at e2;obtain⟨t,h2,hty⟩:=e2
    cases he
    obtain⟨args⟩:=args
    cases args with
    |nil=>cases hx
    |cons X l =>
     cases l with
     |cons Y l=>cases hx with |cons g1 g2=>cases g2
     |nil =>
      cases hx with
      |cons g1 g2 =>
       obtain⟨ats⟩:=ats
       cases ats with
       |nil=>simp at h2
       |cons t' l' =>
        simp at h2;subst h2;exact op_lenWin H ht ho hty (hhh _ _ e1) g1 hK
   ·cases he
  ·rename_i i s k;replace hx:All2 (RepX a.tmps w F h β) [.d (.one (.win i s k))] (args.toList.map a.eval):=by simpa [Op.operands,Call.operands]using hx
   split at he
   ·rename_i tt ik l et ei e1 e2;simp only[Option.bind_eq_some_iff]at e2;obtain⟨t,h2,hty⟩:=e2
    split at he
    ·rename_i k' m hz
     cases hb:(decide (k'=ik)&&decide (m=0)&&Nat.beq s 1)with
     |false=>rw[hb]at he;cases he
     |true =>
      rw[hb]at he
      cases he
      simp only[Bool.and_eq_true,decide_eq_true_eq]at hb;obtain⟨⟨rfl,rfl⟩,b3⟩:=hb;have b3:=zB b3;subst b3;simp only[reduceCtorEq,Option.some.injEq,false_or]at hc;obtain⟨args⟩:=args
      cases args with
      |nil=>cases hx
      |cons X l =>
       cases l with
       |cons Y l=>cases hx with |cons g1 g2=>cases g2
       |nil =>
        cases hx with
        |cons g1 g2 =>
         obtain⟨ats⟩:=ats
         cases ats with
         |nil=>simp at h2
         |cons t' l' =>
          simp at h2;subst h2;exact op_clearWin H ht ho hty (hhh _ _ e1) hz (Nat.le_of_ble_eq_true hc) g1 hK
    ·cases he
   ·cases he
  ·rename_i a0 j;replace hx:All2 (RepX a.tmps w F h β) [.d (.one a0), .d (.one (.dsl j []))] (args.toList.map a.eval):=by simpa [Op.operands,Call.operands]using hx
   split at he
   ·rename_i t1 t2 et ts e m e1 e2
    split at he
    ·rename_i et' ei hty;obtain⟨ti,hti,hd0,hei⟩:=sliceOf_some hty
     split at he
     ·rename_i zs hz
      cases hb:(Nat.beq t1 t2&&Nat.beq et et'&&Nat.beq ei.info.size 1&&Nat.beq zs.length 1&&Nat.blt 0 ei.info.bytes&&isListTy e)with
      |false=>rw[hb]at he;cases a0<;>cases he
      |true =>
       rw[hb]at he;simp only[Bool.and_eq_true]at hb;obtain⟨⟨⟨⟨⟨b1,b2⟩,b3⟩,b4⟩,b5⟩,b6⟩:=hb;have b1:=zB b1;have b2:=zB b2;have b3:=zB b3;have b4:=zB b4;have b5:0<ei.info.bytes:=by simpa using b5
       subst b1;subst b2
       cases e with
       |list e =>
        have hats':ats=#[t1,t1]:=by apply Array.ext';rw[e1]
        subst hats';obtain⟨args⟩:=args
        cases args with
        |nil=>cases hx
        |cons X l0 =>
         cases l0 with
         |nil=>cases hx with |cons g1 g2=>cases g2
         |cons Y l0 =>
          cases l0 with
          |cons Z l0=>cases hx with |cons g1 g2=>cases g2 with |cons g2 g3=>cases g3
          |nil =>
           cases hx with
           |cons g1 g2 =>
            cases g2 with
            |cons g2 g3 =>
             split at he
             ·cases he
              simp only[reduceCtorEq,Option.some.injEq,false_or]at hc;exact op_appendDeep0 H ht ho hti hd0 hei hz b4 b3 b5 (hhh _ _ e2) (new_of hnew (by omega) (mem_cons_of_mem _ (List.mem_singleton_self _))) g1.1 g2 hc hK
             ·rename_i i _
              split at he
              ·rename_i ts' e' l hi
               split at he
               ·rename_i l2 e3 e4
                cases he
                simp only[reduceCtorEq,Option.some.injEq,false_or]at hc;simp only[Bool.and_eq_true,Bool.not_eq_true']at e4;obtain⟨g,rfl⟩:=castL_some e3;subst g;have e5:=eqNats_iff e4.1;subst e5;have hij:i≠j:=fun e=>by rw[e,Nat.beq_refl]at e4;cases e4.2
                exact op_appendDeep H ht ho hti hd0 hei hz b4 b3 b5 (hhh _ _ hi) (hhh _ _ e2) hij (new_of hnew (by omega) (mem_cons_of_mem _ (mem_cons_of_mem _ (List.mem_singleton_self _)))) g1 g2 hc hK
               ·cases he
              ·cases he
             ·cases he
       |_=>cases b6
     ·cases he
    ·cases he
   ·cases he
  ·cases he
 ·rename_i ty n ps ho;rw[ho]at hx
  split at he
  ·rename_i et ei t2 e e1 e2;obtain⟨ti,hti,hd0,hei⟩:=sliceOf_some e1
   split at he
   ·rename_i ts zs e3 e4;obtain⟨ts0,ti2,rfl,hti2,hsz⟩:=tsOf_list e3;rw[hei]at hti2
    cases hti2
    split at he
    ·rename_i hps hb
     cases he
     have hps':ps=#[]:=by apply Array.ext';rw[hps]
     subst hps';exact op_buildDeep0 H ht ho hti hd0 hei (new_of hnew (by omega) (List.mem_singleton_self _)) hK
    ·rename_i X c hps hb;have hps':ps=#[(0,X)]:=by apply Array.ext';rw[hps]
     subst hps'
     cases hx with | cons h1 h2 =>
     split at he
     ·rename_i i ts' q e5
      split at he
      ·rename_i l e6 e7
       cases he
       obtain⟨g,rfl⟩:=castL_some e6;obtain⟨qt,ql⟩:=q;dsimp only at g;subst g;have e8:=eqNats_iff e7
       cases e8
       exact op_buildDeep1 H ht hhh ho hti hd0 hei e4 (zB hb) hsz e5 h1 (new_of hnew (by omega) (mem_cons_of_mem _ (List.mem_singleton_self _))) hK
      ·cases he
     ·cases he
    ·cases he
   ·cases he
  ·cases he
 ·cases he
end
end Go.Proofs.YtkhhclpkljikkaaDoor.Ev
