/-
  Distances: what both tables tell.
-/
import Derived.Test.YtmeiebnfmhddnaaGreatDoorHn
namespace Go.Proofs.YtmeiebnfmhddnaaGreatDoor.Ev
open Go
open List (length length_append length_cons length_singleton length_replicate length_set length_take length_drop mem_cons_of_mem mem_cons_self getD replicate mem_append_left mem_append_right all_eq_true drop_eq_getElem_cons drop_eq_nil_of_le append_assoc mem_singleton getElem?_append_left getElem?_append_right getElem?_eq_none getElem?_take mem_append)
noncomputable section
inductive Ed:Str→Str→Nat→Prop
 | nil:Ed [] [] 0
 | keep {c:UInt8} {u w:Str} {n:Nat} (h:Ed u w n):Ed (c::u) (c::w) n
 | turn {c d:UInt8} {u w:Str} {n:Nat} (hne:c≠d) (h:Ed u w n):Ed (c::u) (d::w) (n+1)
 | out {c:UInt8} {u w:Str} {n:Nat} (h:Ed u w n):Ed (c::u) w (n+1)
 | ins {c:UInt8} {u w:Str} {n:Nat} (h:Ed u w n):Ed u (c::w) (n+1)
theorem Ed.refl:∀ {u:Str},Ed u u 0
 | [] => .nil
 |_::_ => .keep Ed.refl
theorem Ed.zero {u w:Str} (h:Ed u w 0):u=w:=by
 generalize hn:0=n at h
 induction h with
 |nil=>rfl
 |keep _ ih=>rw[ih hn]
 |turn=>omega
 |out=>omega
 |ins=>omega
theorem Ed.app {u w u' w':Str} {n m:Nat} (h:Ed u w n) (h':Ed u' w' m):Ed (u++u') (w++w') (n+m):=by
 induction h with
 |nil=>rw[Nat.zero_add];exact h'
 |keep _ ih=>exact .keep ih
 |turn hne _ ih=>rw[Nat.add_right_comm];exact .turn hne ih
 |out _ ih=>rw[Nat.add_right_comm];exact .out ih
 |ins _ ih=>rw[Nat.add_right_comm];exact .ins ih
theorem Ed.outs:∀ {u:Str},Ed u [] u.length
 | [] => .nil
 |_::_ => .out Ed.outs
theorem Ed.to_nil {u w:Str} {n:Nat} (h:Ed u w n) (hw:w=[]):n=u.length:=by
 induction h with
 |nil=>rfl
 |keep=>cases hw
 |turn=>cases hw
 |out _ ih=>rw[ih hw];rfl
 |ins=>cases hw
theorem Ed.split {u w:Str} {n:Nat} (h:Ed u w n):∀ {w1 w2:Str},w=w1++w2→∃u1 u2 n1 n2,u=u1++u2∧n=n1+n2∧Ed u1 w1 n1∧Ed u2 w2 n2:=by
 induction h with
 |nil =>
  intro w1 w2 e;obtain⟨rfl,rfl⟩:=List.append_eq_nil_iff.1 e.symm;exact⟨[],[],0,0,rfl,rfl, .nil, .nil⟩
 | @keep c u w n h ih =>
  intro w1 w2 e
  cases w1 with
  |nil =>
   have e:c::w=w2:=e;exact⟨[],c::u,0,n,rfl,by omega, .nil,by rw[← e];exact .keep h⟩
  |cons d w1 =>
   have e:c::w=d::(w1++w2):=e
   cases e
   obtain⟨u1,u2,n1,n2,rfl,rfl,h1,h2⟩:=ih rfl;exact⟨c::u1,u2,n1,n2,rfl,rfl, .keep h1,h2⟩
 | @turn c d u w n hne h ih =>
  intro w1 w2 e
  cases w1 with
  |nil =>
   have e:d::w=w2:=e;exact⟨[],c::u,0,n+1,rfl,by omega, .nil,by rw[← e];exact .turn hne h⟩
  |cons d' w1 =>
   have e:d::w=d'::(w1++w2):=e
   cases e
   obtain⟨u1,u2,n1,n2,rfl,rfl,h1,h2⟩:=ih rfl;exact⟨c::u1,u2,n1+1,n2,rfl,by omega, .turn hne h1,h2⟩
 | @out c u w n h ih =>
  intro w1 w2 e;obtain⟨u1,u2,n1,n2,rfl,rfl,h1,h2⟩:=ih e;exact⟨c::u1,u2,n1+1,n2,rfl,by omega, .out h1,h2⟩
 | @ins c u w n h ih =>
  intro w1 w2 e
  cases w1 with
  |nil =>
   have e:c::w=w2:=e;exact⟨[],u,0,n+1,rfl,by omega, .nil,by rw[← e];exact .ins h⟩
  |cons d w1 =>
   have e:c::w=d::(w1++w2):=e
   cases e
   obtain⟨u1,u2,n1,n2,rfl,rfl,h1,h2⟩:=ih rfl;exact⟨u1,u2,n1+1,n2,rfl,by omega, .ins h1,h2⟩
theorem Ed.tri {b c:Str} {n:Nat} (h:Ed b c n):∀ {a:Str} {m:Nat},Ed a b m→∃k,k≤m+n∧Ed a c k:=by
 induction h with
 |nil=>intro a m h;exact ⟨m,by omega,h⟩
 | @keep x u w n h ih =>
  intro a m h'
  generalize hb:x::u=b at h'
  induction h' with
  |nil=>cases hb
  |keep g _=>cases hb;obtain ⟨k,k1,k2⟩:=ih g;exact ⟨k,k1, .keep k2⟩
  |turn hne g _=>cases hb;obtain ⟨k,k1,k2⟩:=ih g;exact ⟨k+1,by omega, .turn hne k2⟩
  |out _ ih2=>obtain ⟨k,k1,k2⟩:=ih2 hb;exact ⟨k+1,by omega, .out k2⟩
  |ins g _=>cases hb;obtain ⟨k,k1,k2⟩:=ih g;exact ⟨k+1,by omega, .ins k2⟩
 | @turn x y u w n hne h ih =>
  intro a m h'
  generalize hb:x::u=b at h'
  induction h' with
  |nil=>cases hb
  |keep g _=>cases hb;obtain ⟨k,k1,k2⟩:=ih g;exact ⟨k+1,by omega, .turn hne k2⟩
  | @turn z d u' w' n' hne' g _ =>
   cases hb;obtain ⟨k,k1,k2⟩:=ih g
   by_cases e:z=y
   ·subst e;exact ⟨k,by omega, .keep k2⟩
   ·exact ⟨k+1,by omega, .turn e k2⟩
  |out _ ih2=>obtain ⟨k,k1,k2⟩:=ih2 hb;exact ⟨k+1,by omega, .out k2⟩
  |ins g _=>cases hb;obtain ⟨k,k1,k2⟩:=ih g;exact ⟨k+1,by omega, .ins k2⟩
 | @out x u w n h ih =>
  intro a m h'
  generalize hb:x::u=b at h'
  induction h' with
  |nil=>cases hb
  |keep g _=>cases hb;obtain ⟨k,k1,k2⟩:=ih g;exact ⟨k+1,by omega, .out k2⟩
  |turn _ g _=>cases hb;obtain ⟨k,k1,k2⟩:=ih g;exact ⟨k+1,by omega, .out k2⟩
  |out _ ih2=>obtain ⟨k,k1,k2⟩:=ih2 hb;exact ⟨k+1,by omega, .out k2⟩
  |ins g _=>cases hb;obtain ⟨k,k1,k2⟩:=ih g;exact ⟨k,by omega,k2⟩
 |ins _ ih =>
  intro a m h';obtain⟨k,k1,k2⟩:=ih h';exact⟨k+1,by omega, .ins k2⟩
inductive OneEd:Str→Str→Prop
 | out {u v:Str} {c:UInt8}:OneEd (u++c::v) (u++v)
 | turn {u v:Str} {c d:UInt8} (hne:c≠d):OneEd (u++c::v) (u++d::v)
 | ins {u v:Str} {c:UInt8}:OneEd (u++v) (u++c::v)
inductive OneIn (w:Str):Str→Str→Prop
 | out {u v:Str} {c:UInt8}:OneIn w (u++c::v) (u++v)
 | turn {u v:Str} {c d:UInt8} (hne:c≠d) (hd:d∈w):OneIn w (u++c::v) (u++d::v)
 | ins {u v:Str} {c:UInt8} (hc:c∈w):OneIn w (u++v) (u++c::v)
theorem OneIn.cons {w s x:Str} {c d:UInt8} (h:OneIn w s x):OneIn (d::w) (c::s) (c::x):=by
 cases h with
 | @out u v e=>exact .out (u:=c::u) (v:=v) (c:=e)
 | @turn u v e f hne hd=>exact .turn (u:=c::u) (v:=v) hne (mem_cons_of_mem _ hd)
 | @ins u v e hc=>exact .ins (u:=c::u) (v:=v) (mem_cons_of_mem _ hc)
theorem Ed.first {s w:Str} {n:Nat} (h:Ed s w n):∀ {m:Nat},n=m+1→∃x,OneIn w s x∧Ed x w m:=by
 induction h with
 |nil=>intro m e;cases e
 | @keep c u w n h ih =>
  intro m e;obtain⟨x,h1,h2⟩:=ih e;exact⟨c::x,h1.cons, .keep h2⟩
 | @turn c d u w n hne h ih =>
  intro m e
  cases e
  exact⟨d::u, .turn (u:=[]) hne mem_cons_self, .keep h⟩
 | @out c u w n h ih =>
  intro m e
  cases e
  exact⟨u, .out (u:=[]),h⟩
 | @ins c u w n h ih =>
  intro m e
  cases e
  exact⟨c::u, .ins (u:=[]) mem_cons_self, .keep h⟩
theorem Ed.len {s w:Str} {n:Nat} (h:Ed s w n):w.length≤s.length+n∧s.length≤w.length+n:=by
 induction h with
 |nil=>exact ⟨Nat.le_refl _,Nat.le_refl _⟩
 |keep _ ih=>simp only[length_cons];omega
 |turn _ _ ih=>simp only[length_cons];omega
 |out _ ih=>simp only[length_cons];omega
 |ins _ ih=>simp only[length_cons];omega
def costN (u:Str) (c:UInt8):Nat:=if u=[] then 1 else if c∈u then u.length-1 else u.length
theorem costN_ed {u:Str} {c:UInt8}:Ed u [c] (costN u c):=by
 unfold costN
 split
 ·rename_i h;rw[h];exact .ins .nil
 ·split
  ·rename_i h;obtain⟨a,b,rfl⟩:=List.append_of_mem h;have:=(Ed.outs (u:=a)).app (Ed.keep (c:=c) (Ed.outs (u:=b)));rw[show (a++c::b).length-1=a.length+b.length by rw[length_append,length_cons];omega];exact this
  ·rename_i h0 h
   cases u with
   |nil=>exact absurd rfl h0
   |cons d u =>
    have hne:d≠c:=fun e=>h (by rw[e];exact mem_cons_self);exact .turn hne Ed.outs
theorem costN_le {u w:Str} {n:Nat} (h:Ed u w n):∀ {c:UInt8},w=[c]→costN u c≤n:=by
 induction h with
 |nil=>intro c e;cases e
 | @keep x u w n h ih =>
  intro c e
  cases e
  have:=h.to_nil rfl;unfold costN;rw[if_neg (by simp),if_pos mem_cons_self,length_cons];omega
 | @turn x d u w n hne h ih =>
  intro c e
  cases e
  have:=h.to_nil rfl;unfold costN;rw[if_neg (by simp)]
  split<;>(rw[length_cons];omega)
 | @out x u w n h ih =>
  intro c e;have:=ih e;unfold costN at *;rw[if_neg (by simp)]
  by_cases h0:u=[]
  ·subst h0;rw[if_pos rfl]at this
   split<;>(simp only[length_cons,List.length_nil];omega)
  ·rw[if_neg h0]at this;have hl:0<u.length:=List.length_pos_iff.2 h0
   by_cases hc:c∈u
   ·rw[if_pos hc]at this;rw[if_pos (mem_cons_of_mem _ hc),length_cons];omega
   ·rw[if_neg hc]at this
    split<;>(rw[length_cons];omega)
 | @ins x u w n h ih =>
  intro c e
  cases e
  have:=h.to_nil rfl;unfold costN
  split
  ·omega
  ·split<;>omega
def dstP (s:Str) (P:Str→Int→Int→Nat→Prop) (a:Str) (i j:Int) (n:Nat):Prop:=if smallS a then n=costN (subS s i j) (a.headD 0)else P a i j n
def splD (s:Str) (P:Str→Int→Int→Nat→Prop):Str→Int→Int→Nat→Prop
 | [],i,j,n=>i=j∧n=0
 |c::r,i,j,n=>∃k n1 n2,i≤k∧k≤j∧n=n1+n2∧dstP s P [c] i k n1∧splD s P r k j n2
def rhsD (s:Str) (P:Str→Int→Int→Nat→Prop) (r:Str) (i j:Int) (n:Nat):Prop:=if r=[] then n=(j-i).toNat else splD s P r i j n
def ClosedD (s:Str) (l:List Rule) (P:Str→Int→Int→Nat→Prop):Prop:=∀r∈l,∀i j n,0≤i→i≤j→j≤(s.length:Int)→rhsD s P r.2 i j n→P r.1 i j n
def DistG (s:Str) (l:List Rule) (a:Str) (i j:Int) (n:Nat):Prop:=∀P,ClosedD s l P→P a i j n
def wdP (Q:Str→Str→Prop) (a w:Str):Prop:=if smallS a then w=a else Q a w
def spW (Q:Str→Str→Prop):Str→Str→Prop
 | [],w=>w=[]
 |c::r,w=>∃w1 w2,w=w1++w2∧wdP Q [c] w1∧spW Q r w2
def ClosedW (l:List Rule) (Q:Str→Str→Prop):Prop:=∀r∈l,∀w,spW Q r.2 w→Q r.1 w
def WordG (l:List Rule) (a w:Str):Prop:=∀Q,ClosedW l Q→Q a w
theorem spW_mono {Q R:Str→Str→Prop} (h:∀a w,Q a w→R a w):∀ {r w:Str},spW Q r w→spW R r w
 | [],_,g=>g
 |c::r,w,⟨w1,w2,e,g1,g2⟩=>by
  refine⟨w1,w2,e, ?_,spW_mono h g2⟩;unfold wdP at g1 ⊢
  split
  ·rename_i hs;rw[if_pos hs]at g1;exact g1
  ·rename_i hs;rw[if_neg hs]at g1;exact h _ _ g1
theorem Word_closed {l:List Rule}:ClosedW l (WordG l):=fun r hr w h Q hQ=>hQ r hr w (spW_mono (fun _ _ g=>g Q hQ) h)
theorem splD_mono {s:Str} {P Q:Str→Int→Int→Nat→Prop} (h:∀a i j n,0≤i→i≤j→j≤(s.length:Int)→P a i j n→Q a i j n):∀ {r:Str} {i j:Int} {n:Nat},0≤i→j≤(s.length:Int)→splD s P r i j n→splD s Q r i j n
 | [],_,_,_,_,_,g=>g
 |c::r,i,j,n,h0,h1,⟨k,n1,n2,k1,k2,e,g1,g2⟩=>by
  refine⟨k,n1,n2,k1,k2,e, ?_,splD_mono h (by omega) h1 g2⟩;unfold dstP at g1 ⊢
  split
  ·rename_i hs;rw[if_pos hs]at g1;exact g1
  ·rename_i hs;rw[if_neg hs]at g1;exact h _ _ _ _ h0 k1 (by omega) g1
theorem rhsD_mono {s:Str} {P Q:Str→Int→Int→Nat→Prop} (h:∀a i j n,0≤i→i≤j→j≤(s.length:Int)→P a i j n→Q a i j n) {r:Str} {i j:Int} {n:Nat} (h0:0≤i) (h1:j≤(s.length:Int)) (g:rhsD s P r i j n):rhsD s Q r i j n:=by
 unfold rhsD at g ⊢
 split
 ·rename_i hs;rw[if_pos hs]at g;exact g
 ·rename_i hs;rw[if_neg hs]at g;exact splD_mono h h0 h1 g
theorem Dist_closed {s:Str} {l:List Rule}:ClosedD s l (DistG s l):=fun r hr i j n h0 h1 h2 h P hP=>hP r hr i j n h0 h1 h2 (rhsD_mono (fun _ _ _ _ _ _ _ g=>g P hP) h0 h2 h)
theorem sub_app {s:Str} {i k j:Int} (_h0:0≤i) (h1:i≤k) (h2:k≤j) (_h3:j≤(s.length:Int)):subS s i j=subS s i k++subS s k j:=by
 unfold subS;rw[show j.toNat-i.toNat=(k.toNat-i.toNat)+(j.toNat-k.toNat)by omega,List.take_add,List.drop_drop,show i.toNat+(k.toNat-i.toNat)=k.toNat by omega]
theorem sub_nil {s:Str} {i:Int}:subS s i i=[]:=by
 unfold subS;rw[Nat.sub_self];rfl
theorem sub_all {s:Str}:subS s 0 (s.length:Int)=s:=by
 unfold subS;rw[show ((s.length:Int)).toNat-(0:Int).toNat=s.length by omega];show List.take s.length s=s;exact List.take_length
theorem sub_split {s u1 u2:Str} {i j:Int} (h0:0≤i) (h1:i≤j) (h2:j≤(s.length:Int)) (h:subS s i j=u1++u2):∃k,i≤k∧k≤j∧u1=subS s i k∧u2=subS s k j:=by
 have hl:=sub_len h0 h1 h2;rw[h,length_append]at hl;have h3:=sub_app (s:=s) (i:=i) (k:=i+u1.length) (j:=j) h0 (by omega) (by omega) h2;have h4:=sub_len (s:=s) (i:=i) (j:=i+u1.length) h0 (by omega) (by omega);rw[h]at h3;have h5:=List.append_inj h3 (by omega);exact⟨i+u1.length,by omega,by omega,h5.1,h5.2⟩
theorem dist_word {s:Str} {l:List Rule} {a:Str} {i j:Int} {n:Nat} (h:DistG s l a i j n):0≤i→i≤j→j≤(s.length:Int)→∃w m,m≤n∧WordG l a w∧Ed (subS s i j) w m:=by
 refine h (fun a i j n=>0≤i→i≤j→j≤(s.length:Int)→∃w m,m≤n∧WordG l a w∧Ed (subS s i j) w m) ?_;intro r hr i j n h0 h1 h2 g _ _ _
 suffices hs:∃w m,m≤n∧spW (WordG l) r.2 w∧Ed (subS s i j) w m by
  obtain⟨w,m,hm,hw,he⟩:=hs;exact⟨w,m,hm,Word_closed r hr w hw,he⟩
 unfold rhsD at g
 by_cases hr0:r.2=[]
 ·rw[if_pos hr0]at g;have hl:=sub_len h0 h1 h2;refine⟨[],(subS s i j).length,by omega,by rw[hr0];exact rfl,Ed.outs⟩
 ·rw[if_neg hr0]at g;clear hr hr0
  generalize r.2=q at g
  induction q generalizing i n with
  |nil =>
   obtain⟨rfl,rfl⟩:=g;exact⟨[],0,Nat.le_refl _,rfl,by rw[sub_nil];exact .nil⟩
  |cons c q ih =>
   obtain⟨k,n1,n2,k1,k2,rfl,g1,g2⟩:=g;obtain⟨w2,m2,e1,e2,e3⟩:=ih k n2 (by omega) k2 (by omega) k2 g2;have h3:∃w1 m1,m1≤n1∧wdP (WordG l) [c] w1∧Ed (subS s i k) w1 m1:=by
    unfold dstP at g1
    split at g1
    ·rename_i hs;exact⟨[c],n1,Nat.le_refl _,by unfold wdP;rw[if_pos hs],by rw[g1];exact costN_ed⟩
    ·rename_i hs;obtain⟨w,m,d1,d2,d3⟩:=g1 h0 k1 (by omega);exact⟨w,m,d1,by unfold wdP;rw[if_neg hs];exact d2,d3⟩
   obtain⟨w1,m1,d1,d2,d3⟩:=h3;exact⟨w1++w2,m1+m2,by omega,⟨w1,w2,rfl,d2,e2⟩,by rw[sub_app h0 k1 k2 h2];exact d3.app e3⟩
theorem word_dist {s:Str} {l:List Rule} {a w:Str} (h:WordG l a w):∀ {i j:Int} {m:Nat},0≤i→i≤j→j≤(s.length:Int)→Ed (subS s i j) w m→∃n,n≤m∧DistG s l a i j n:=by
 refine h (fun a w=>∀ {i j:Int} {m:Nat},0≤i→i≤j→j≤(s.length:Int)→Ed (subS s i j) w m→∃n,n≤m∧DistG s l a i j n) ?_;intro r hr w g i j m h0 h1 h2 he
 suffices hs:∃n,n≤m∧rhsD s (DistG s l) r.2 i j n by
  obtain⟨n,hn,hd⟩:=hs;exact⟨n,hn,Dist_closed r hr i j n h0 h1 h2 hd⟩
 clear hr
 generalize r.2=q at g
 by_cases hq:q=[]
 ·subst hq;have hw:w=[]:=g;have hl:=sub_len h0 h1 h2;have:=he.to_nil hw;exact⟨(j-i).toNat,by omega,by unfold rhsD;rw[if_pos rfl]⟩
 ·suffices hs:∃n,n≤m∧splD s (DistG s l) q i j n by
   obtain⟨n,hn,hd⟩:=hs;exact⟨n,hn,by unfold rhsD;rw[if_neg hq];exact hd⟩
  have one:∀ {c:UInt8} {w:Str} {i j:Int} {m:Nat},0≤i→i≤j→j≤(s.length:Int)→wdP (fun a w=>∀ {i j:Int} {m:Nat},0≤i→i≤j→j≤(s.length:Int)→Ed (subS s i j) w m→∃n,n≤m∧DistG s l a i j n) [c] w→Ed (subS s i j) w m→∃n,n≤m∧dstP s (DistG s l) [c] i j n:=by
   intro c w i j m h0 h1 h2 g he;unfold wdP at g
   split at g
   ·rename_i hs;exact⟨_,costN_le he g,by unfold dstP;rw[if_pos hs];rfl⟩
   ·rename_i hs;obtain⟨n,hn,hd⟩:=g h0 h1 h2 he;exact⟨n,hn,by unfold dstP;rw[if_neg hs];exact hd⟩
  induction q generalizing i w m with
  |nil=>exact absurd rfl hq
  |cons c q ih =>
   obtain⟨w1,w2,rfl,g1,g2⟩:=g
   by_cases hq0:q=[]
   ·subst hq0;have hw:w2=[]:=g2;subst hw;rw[List.append_nil]at he;obtain⟨n,hn,hd⟩:=one h0 h1 h2 g1 he;exact⟨n,hn,j,n,0,h1,Int.le_refl _,rfl,hd,rfl,rfl⟩
   ·obtain ⟨u1,u2,m1,m2,e,rfl,e1,e2⟩:=he.split rfl;obtain⟨k,k1,k2,rfl,rfl⟩:=sub_split h0 h1 h2 e;obtain⟨n1,hn1,hd1⟩:=one h0 k1 (by omega) g1 e1;obtain⟨n2,hn2,hd2⟩:=ih w2 (by omega) k2 e2 g2 hq0;exact⟨n1+n2,by omega,k,n1,n2,k1,k2,rfl,hd1,hd2⟩
theorem relN_at {f:Int→Int}:∀ {n:Nat} {z:Int} {l:List Int} {y:Nat},0≤z→z+n≤(l.length:Int)→y<l.length →
  ((relN f n z l).getD y 0≤l.getD y 0∧(z≤(y:Int)→(y:Int)<z+n→(relN f n z l).getD y 0≤f y))∧((relN f n z l).getD y 0=l.getD y 0∨(z≤(y:Int)∧(y:Int)<z+n∧(relN f n z l).getD y 0=f y))
 |0,z,l,y,_,_,_=>⟨⟨Int.le_refl _,fun h1 h2=>by omega⟩, .inl rfl⟩
 |n+1,z,l,y,h0,h1,hy=>by
  unfold relN;obtain⟨w,hw⟩:∃w,w=(if f z<l.getD z.toNat 0 then f z else l.getD z.toNat 0):=⟨_,rfl⟩;rw[← hw];have w1:w≤l.getD z.toNat 0∧w≤f z∧(w=l.getD z.toNat 0∨w=f z):=by
   rw[hw]
   split<;>exact ⟨by omega,by omega,by simp⟩
  obtain⟨⟨a1,a2⟩,a3⟩:=relN_at (f:=f) (n:=n) (z:=z+1) (l:=l.set z.toNat w) (y:=y) (by omega) (by rw[length_set];omega) (by rw[length_set];exact hy);rw[getD_set (by omega)]at a1 a3
  by_cases hz:z.toNat=y
  ·have e:z=(y:Int):=by omega
   rw[if_pos hz]at a1 a3;rw[← hz];rw[← hz]at a1 a3;refine⟨⟨by omega,fun _ _=>by rw[show ((z.toNat:Nat):Int)=z by omega];omega⟩, ?_⟩;rw[show ((z.toNat:Nat):Int)=z by omega];rcases a3 with h | ⟨h,_⟩
   ·rcases w1.2.2 with g | g
    ·exact .inl (h.trans g)
    ·exact .inr ⟨Int.le_refl _,by omega,h.trans g⟩
   ·omega
  ·rw[if_neg hz]at a1 a3;refine⟨⟨a1,fun q1 q2=>a2 (by omega) (by omega)⟩, ?_⟩;rcases a3 with h | ⟨q1,q2,h⟩
   ·exact .inl h
   ·exact .inr ⟨by omega,by omega,h⟩
theorem midF_at {s:Str} {m:DMap} {c:Str} {i:Int} {be:List Int}:∀ {n:Nat} {x:Int} {nx:List Int} {y:Nat},0≤x→x+n≤(nx.length:Int)→y<nx.length →
  ((midF s m c i be n x nx).getD y 0≤nx.getD y 0∧(∀q:Nat,x≤(q:Int)→(q:Int)<x+n→q≤y→be.getD q 0≠1073741824→(midF s m c i be n x nx).getD y 0≤be.getD q 0+dofV s m c (i+q) (i+y))) ∧
  ((midF s m c i be n x nx).getD y 0=nx.getD y 0∨∃q:Nat,q≤y∧be.getD q 0≠1073741824∧(midF s m c i be n x nx).getD y 0=be.getD q 0+dofV s m c (i+q) (i+y))
 |0,x,nx,y,_,_,_=>⟨⟨Int.le_refl _,fun q h1 h2=>by omega⟩, .inl rfl⟩
 |n+1,x,nx,y,h0,h1,hy=>by
  unfold midF;obtain⟨⟨a1,a2⟩,a3⟩:=midF_at (s:=s) (m:=m) (c:=c) (i:=i) (be:=be) (n:=n) (x:=x+1) (nx:=stepM s m c i be x nx) (y:=y) (by omega) (by rw[stepM_len];omega) (by rw[stepM_len];exact hy);have hst:((stepM s m c i be x nx).getD y 0≤nx.getD y 0∧(x.toNat≤y→be.getD x.toNat 0≠1073741824→(stepM s m c i be x nx).getD y 0≤be.getD x.toNat 0+dofV s m c (i+x) (i+y)))∧((stepM s m c i be x nx).getD y 0=nx.getD y 0∨(x.toNat≤y∧be.getD x.toNat 0≠1073741824∧(stepM s m c i be x nx).getD y 0=be.getD x.toNat 0+dofV s m c (i+x) (i+y))):=by
   unfold stepM
   by_cases hb:be.getD x.toNat 0=1073741824
   ·rw[zT hb,cond_true];exact⟨⟨Int.le_refl _,fun _ h=>absurd hb h⟩, .inl rfl⟩
   ·rw[zF hb,cond_false];obtain⟨⟨b1,b2⟩,b3⟩:=relN_at (f:=drF s m c i x (be.getD x.toNat 0)) (n:=nx.length-x.toNat) (z:=x) (l:=nx) (y:=y) h0 (by omega) hy;refine⟨⟨b1,fun q _=>b2 (by omega) (by omega)⟩, ?_⟩;rcases b3 with h | ⟨q1,q2,h⟩
    ·exact .inl h
    ·exact .inr ⟨by omega,hb,h⟩
  obtain⟨⟨c1,c2⟩,c3⟩:=hst;refine⟨⟨Int.le_trans a1 c1,fun q q1 q2 q3 q4 => ?_⟩, ?_⟩
  ·by_cases hq:(q:Int)=x
   ·have e:x.toNat=q:=by omega
    rw[e]at c2;have:=c2 q3 q4;rw[← hq]at this;exact Int.le_trans (by rw[← hq]at a1;rw[← hq];exact a1) this
   ·exact a2 q (by omega) (by omega) q3 q4
  ·rcases a3 with h | ⟨q,q1,q2,h⟩
   ·rcases c3 with g | ⟨g1,g2,g3⟩
    ·exact .inl (h.trans g)
    ·refine .inr ⟨x.toNat,g1,g2,h.trans ?_⟩;rw[g3,show ((x.toNat:Nat):Int)=x by omega]
   ·exact .inr ⟨q,q1,q2,h⟩
theorem hasI_iff {s:Str} {c:UInt8} {i j:Int} (i0:0≤i) (j1:j≤(s.length:Int)):hasI s [c] i j=true↔c∈subS s i j:=by
 unfold hasI subS;rw[anyI_iff]
 constructor
 ·rintro ⟨k,h1,h2,h3⟩;have h3:=(List.cons.inj (dec_iff.1 h3)).1;have hk:k.toNat<s.length:=by omega
  refine List.mem_iff_getElem?.2 ⟨k.toNat-i.toNat, ?_⟩;rw[getElem?_take,if_pos (by omega),List.getElem?_drop,show i.toNat+(k.toNat-i.toNat)=k.toNat by omega,zE hk];rw[zG,zE hk]at h3;exact congrArg some h3
 ·intro h;obtain⟨q,hq⟩:=List.mem_iff_getElem?.1 h;rw[getElem?_take]at hq
  split at hq
  ·rename_i hlt;rw[List.getElem?_drop]at hq;refine⟨(i.toNat+q:Nat),by omega,by omega,zT ?_⟩;rw[Int.toNat_natCast,zG,hq];rfl
  ·cases hq
theorem costZ_N {s:Str} {c:UInt8} {i j:Int} (i0:0≤i) (i1:i≤j) (j1:j≤(s.length:Int)):costZ s [c] i j=(costN (subS s i j) c:Int):=by
 have hl:=sub_len i0 i1 j1;have hh:=hasI_iff (s:=s) (c:=c) i0 j1;unfold costZ costN
 by_cases hn:subS s i j=[]
 ·rw[if_pos hn];rw[hn]at hl;have hl:((0:Nat):Int)=j-i:=hl;have:hasI s [c] i j=false:=by
   cases h:hasI s [c] i j
   ·rfl
   ·rw[h,hn]at hh
    cases hh.1 rfl
  rw[this,cond_false,if_neg (by omega)];rfl
 ·rw[if_neg hn];have hpos:=List.length_pos_iff.2 hn
  by_cases hc:c∈subS s i j
  ·rw[if_pos hc,hh.2 hc,cond_true];omega
  ·have:hasI s [c] i j=false:=by
    cases h:hasI s [c] i j
    ·rfl
    ·exact absurd (hh.1 h) hc
   rw[if_neg hc,this,cond_false]
   split<;>omega
def tabD (m:DMap) (a:Str) (i j:Int) (n:Nat):Prop:=getD' m (a,i,j)=(n:Int)∧n<1073741824
def leD (m:DMap) (a:Str) (i j:Int) (n:Nat):Prop:=getD' m (a,i,j)≤(n:Int)
theorem dofV_tab {s:Str} {m:DMap} {c:UInt8} {i j:Int} {n:Nat} (hc:sign c=true) (i0:0≤i) (i1:i≤j) (j1:j≤(s.length:Int)) (h:dofV s m [c] i j=(n:Int)) (hn:n<1073741824):dstP s (tabD m) [c] i j n:=by
 unfold dstP;unfold dofV at h
 cases hb:bigS [c]
 ·rw[hb,cond_false,costZ_N i0 i1 j1]at h;have hs:smallS [c]=true:=by
   have hb:bigc c=false:=hb;unfold sign at hc;rw[hb,Bool.false_or]at hc;exact hc
  rw[if_pos hs];exact(Int.ofNat_inj.1 h).symm
 ·rw[hb,cond_true]at h;rw[if_neg (by rw[big_not_small hb];simp)];exact⟨h,hn⟩
theorem dofV_le {s:Str} {m:DMap} {c:UInt8} {i j:Int} {n:Nat} (hc:sign c=true) (i0:0≤i) (i1:i≤j) (j1:j≤(s.length:Int)) (h:dstP s (leD m) [c] i j n):dofV s m [c] i j≤(n:Int):=by
 unfold dstP at h;unfold dofV
 cases hb:bigS [c]
 ·rw[cond_false,costZ_N i0 i1 j1];have hs:smallS [c]=true:=by
   have hb:bigc c=false:=hb;unfold sign at hc;rw[hb,Bool.false_or]at hc;exact hc
  rw[if_pos hs]at h;rw[h];exact Int.le_refl _
 ·rw[cond_true];rw[if_neg (by rw[big_not_small hb];simp)]at h;exact h
theorem rep_never {n y:Nat} (h:y<n):(replicate n never).getD y 0=1073741824:=by
 rw[zG,List.getElem?_replicate,if_pos h];rfl
theorem mid_one {s:Str} {m:DMap} {c:Str} {i:Int} {be:List Int} {y:Nat} (hy:y<be.length) :
  (∀q:Nat,q≤y→be.getD q 0≠1073741824→(midF s m c i be be.length 0 (replicate be.length never)).getD y 0≤be.getD q 0+dofV s m c (i+q) (i+y)) ∧
  ((midF s m c i be be.length 0 (replicate be.length never)).getD y 0=1073741824∨∃q:Nat,q≤y∧be.getD q 0≠1073741824∧(midF s m c i be be.length 0 (replicate be.length never)).getD y 0=be.getD q 0+dofV s m c (i+q) (i+y)):=by
 obtain⟨⟨_,a2⟩,a3⟩:=midF_at (s:=s) (m:=m) (c:=c) (i:=i) (be:=be) (n:=be.length) (x:=0) (nx:=replicate be.length never) (y:=y) (Int.le_refl 0) (by rw[length_replicate];omega) (by rw[length_replicate];exact hy);rw[rep_never hy]at a3;exact⟨fun q q1 q2=>a2 q (by omega) (by omega) q1 q2,a3⟩
theorem mid_all {s:Str} {m:DMap} {c:Str} {i:Int} {be:List Int} (hm:okDm m=true) (hs:length s≤1000) (i0:0≤i) (hl:i+be.length≤(length s:Int)+1) (hb:okLs be=true):okLs (midF s m c i be be.length 0 (replicate be.length never))=true∧(midF s m c i be be.length 0 (replicate be.length never)).length=be.length :=
 ⟨midF_ok hm hs i0 hb (by rw[length_replicate];exact hl) (Int.le_refl 0) (by rw[length_replicate];omega) (by rw[length_replicate]) okLs_rep,by rw[midF_len,length_replicate]⟩
theorem outF_sound {s:Str} {m:DMap} {i:Int} (hm:okDm m=true) (hs:length s≤1000) (i0:0≤i):∀ {r:Str} {be:List Int} {y:Nat},List.all r sign=true→i+be.length≤(length s:Int)+1→okLs be=true→y<be.length→(outF s m i r be).getD y 0<1073741824 →
  ∃x:Nat,x≤y∧be.getD x 0<1073741824∧∃n:Nat,splD s (tabD m) r (i+x) (i+y) n∧(outF s m i r be).getD y 0=be.getD x 0+n
 | [],be,y,_,_,_,_,h=>⟨y,Nat.le_refl _,h,0,⟨rfl,rfl⟩,by show be.getD y 0=be.getD y 0+((0:Nat):Int);omega⟩
 |c::r,be,y,ha,hl,hb,hy,h=>by
  rw[List.all_cons,andd]at ha;unfold outF at h ⊢;obtain⟨m1,m2⟩:=mid_all (c:=[c]) hm hs i0 hl hb;obtain⟨x,x1,x2,n,x3,x4⟩:=outF_sound hm hs i0 (r:=r) (y:=y) ha.2 (by rw[m2];exact hl) m1 (by rw[m2];exact hy) h;rcases(mid_one (s:=s) (m:=m) (c:=[c]) (i:=i) (be:=be) (y:=x) (by omega)).2 with e | ⟨q,q1,q2,q3⟩
  ·omega
  ·have hq:=okLs_at (i:=q) hb (by omega);obtain⟨d0,d1⟩:=dofV_ok (s:=s) (a:=[c]) (m:=m) (i:=i+q) (j:=i+x) hm (by omega) (by omega) (by omega) hs;refine⟨q,by omega,by omega,(dofV s m [c] (i+q) (i+x)).toNat+n,⟨i+x,(dofV s m [c] (i+q) (i+x)).toNat,n,by omega,by omega,rfl,dofV_tab ha.1 (by omega) (by omega) (by omega) (by omega) (by omega),x3⟩, ?_⟩;rw[x4,q3];omega
theorem outF_least {s:Str} {m:DMap} {i:Int} (hm:okDm m=true) (hs:length s≤1000) (i0:0≤i):∀ {r:Str} {be:List Int} {x y n:Nat},List.all r sign=true→i+be.length≤(length s:Int)+1→okLs be=true→x≤y→y<be.length→splD s (leD m) r (i+x) (i+y) n→be.getD x 0+n<1073741824 →
  (outF s m i r be).getD y 0≤be.getD x 0+n
 | [],be,x,y,n,_,_,_,_,_,h,_=>by
  obtain⟨h1,h2⟩:=h;have e:x=y:=by omega
  subst e;show be.getD x 0≤_;omega
 |c::r,be,x,y,n,ha,hl,hb,hxy,hy,h,hn=>by
  rw[List.all_cons,andd]at ha;obtain⟨k,n1,n2,k1,k2,rfl,g1,g2⟩:=h;obtain⟨q,hq⟩:∃q:Nat,k=i+q:=⟨(k-i).toNat,by omega⟩;subst hq;unfold outF;obtain⟨m1,m2⟩:=mid_all (c:=[c]) hm hs i0 hl hb;have hd:=dofV_le ha.1 (by omega) (by omega) (by omega) g1;have h1:=(mid_one (s:=s) (m:=m) (c:=[c]) (i:=i) (be:=be) (y:=q) (by omega)).1 x (by omega) (by omega);have h2:=outF_least hm hs i0 (r:=r) (be:=midF s m [c] i be be.length 0 (replicate be.length never)) (x:=q) (y:=y) (n:=n2) ha.2 (by rw[m2];exact hl) m1 (by omega) (by rw[m2];exact hy) g2 (by omega);omega
theorem init_at {n x:Nat} (h:x<n):(List.set (replicate n never) 0 0).getD x 0=if x=0 then 0 else 1073741824:=by
 rw[getD_set (by rw[length_replicate];omega)]
 by_cases e:0=x
 ·rw[if_pos e,if_pos e.symm]
 ·rw[if_neg e,if_neg (fun q=>e q.symm),rep_never h]
theorem ruleV_sound {s:Str} {m:DMap} {r:Str} {i j:Int} (hm:okDm m=true) (hs:length s≤1000) (i0:0≤i) (i1:i≤j) (j1:j≤(length s:Int)) (ha:List.all r sign=true) (h:ruleV s m r i j<1073741824):rhsD s (tabD m) r i j (ruleV s m r i j).toNat:=by
 unfold ruleV at h ⊢;unfold rhsD
 by_cases hr:r=[]
 ·rw[zT hr,cond_true,if_pos hr]
 ·rw[zF hr,cond_false]at h ⊢;rw[if_neg hr];have hl:(List.set (replicate (j-i+1).toNat never) 0 0).length=(j-i+1).toNat:=by rw[length_set,length_replicate]
  obtain⟨x,x1,x2,n,x3,x4⟩:=outF_sound hm hs i0 (r:=r) (be:=List.set (replicate (j-i+1).toNat never) 0 0) (y:=(j-i).toNat) ha (by rw[hl];omega) init_ok (by rw[hl];omega) h;rw[init_at (by omega)]at x2 x4
  by_cases hx:x=0
  ·rw[if_pos hx]at x4;subst hx;rw[x4];rw[show (0+(n:Int)).toNat=n by omega];rw[show i+(((j-i).toNat:Nat):Int)=j by omega,show i+((0:Nat):Int)=i by omega]at x3;exact x3
  ·rw[if_neg hx]at x2;omega
theorem ruleV_least {s:Str} {m:DMap} {r:Str} {i j:Int} {n:Nat} (hm:okDm m=true) (hs:length s≤1000) (i0:0≤i) (i1:i≤j) (j1:j≤(length s:Int)) (ha:List.all r sign=true) (h:rhsD s (leD m) r i j n) (hn:n<1073741824):ruleV s m r i j≤(n:Int):=by
 unfold ruleV;unfold rhsD at h
 by_cases hr:r=[]
 ·rw[zT hr,cond_true];rw[if_pos hr]at h;omega
 ·rw[zF hr,cond_false];rw[if_neg hr]at h;have hl:(List.set (replicate (j-i+1).toNat never) 0 0).length=(j-i+1).toNat:=by rw[length_set,length_replicate]
  have h0:(List.set (replicate (j-i+1).toNat never) 0 0).getD 0 0=0:=by rw[init_at (by omega),if_pos rfl]
  have:=outF_least hm hs i0 (r:=r) (be:=List.set (replicate (j-i+1).toNat never) 0 0) (x:=0) (y:=(j-i).toNat) (n:=n) ha (by rw[hl];omega) init_ok (by omega) (by rw[hl];omega) (by rw[show i+(((j-i).toNat:Nat):Int)=j by omega,show i+((0:Nat):Int)=i by omega];exact h) (by rw[h0];omega);rw[h0]at this;omega
def okRq (l:List Rule):Bool:=okRd l&&List.all l fun r=>List.all r.2 sign
theorem distM_ok {s:Str} {l:List Rule} (hs:length s≤1000) (h:okRq l=true):okDm (distM s l)=true :=
 (runC_end (stepVD_ok hs) (J:=fun _=>True) (good_vis (s:=s) (andd.1 h).1) (fun _ _ _ _=>trivial) (m:=([]:DMap)) rfl trivial).1
theorem distM_sound {s:Str} {l:List Rule} (hs:length s≤1000) (h:okRq l=true) {a:Str} {i j:Int} {n:Nat} (ht:tabD (distM s l) a i j n):DistG s l a i j n:=by
 obtain⟨h1,h2⟩:=andd.1 h;refine(runC_end (stepVD_ok hs) (J:=fun m=>∀a i j n,tabD m a i j n→DistG s l a i j n) (good_vis (s:=s) h1) (fun v hv p hp a i j n ht => ?_) (m:=([]:DMap)) rfl (fun a i j n ht => ?_)).2.1 a i j n ht
 ·obtain ⟨v1,v2,v3,v4,v5⟩:=(mem_visF (Nat.le_refl _)).1 hv;unfold stepVD stepRD at ht
  cases hc:decide (ruleV s p.1 v.2.2.2 v.1 v.2.1<dofV s p.1 v.2.2.1 v.1 v.2.1)<;>rw[hc]at ht
  ·exact hp.2 a i j n ht
  ·rw[cond_true]at ht;obtain⟨t1,t2⟩:=ht;rw[getDm_set]at t1
   by_cases he:(a,i,j)=(v.2.2.1,v.1,v.2.1)
   ·rw[zT he,cond_true]at t1
    cases he
    have hr:=ruleV_sound hp.1 hs v1 v3 v4 (all_eq_true.1 h2 v.2.2 v5) (by omega);rw[t1]at hr;exact Dist_closed v.2.2 v5 v.1 v.2.1 n v1 v3 v4 (rhsD_mono (fun a i j n _ _ _ g=>hp.2 a i j n g) v1 v4 hr)
   ·rw[zF he,cond_false]at t1;exact hp.2 a i j n ⟨t1,t2⟩
 ·obtain ⟨t1,t2⟩:=ht;have t1:(1073741824:Int)=n:=t1;omega
theorem distM_least {s:Str} {l:List Rule} (hs:length s≤1000) (h:okRq l=true) {a:Str} {i j:Int} {n:Nat} (i0:0≤i) (i1:i≤j) (j1:j≤(length s:Int)) (hd:DistG s l a i j n):getD' (distM s l) (a,i,j)≤(n:Int):=by
 obtain⟨h1,h2⟩:=andd.1 h;have hok:=distM_ok hs h;refine hd (fun a i j n=>0≤i→i≤j→j≤(length s:Int)→leD (distM s l) a i j n) (fun r hr i j n i0 i1 j1 g _ _ _ => ?_) i0 i1 j1;show getD' (distM s l) (r.1,i,j)≤(n:Int)
 by_cases hn:n<1073741824
 ·have hq:=(runC_end (stepVD_ok hs) (J:=fun _=>True) (good_vis (s:=s) h1) (fun _ _ _ _=>trivial) (m:=([]:DMap)) rfl trivial).2.2 (i,j,r) ((mem_visF (Nat.le_refl _)).2 ⟨i0,by show i<_;omega,i1,j1,hr⟩);change stepRD s i j r (distM s l,false)=(distM s l,false)at hq;have hv:=ruleV_least hok hs i0 i1 j1 (all_eq_true.1 h2 r hr) (rhsD_mono (fun a i j n a0 a1 a2 g=>g a0 a1 a2) i0 j1 g) hn;unfold stepRD at hq
  cases hc:decide (ruleV s (distM s l) r.2 i j<dofV s (distM s l) r.1 i j)
  ·have:=of_decide_eq_false hc;unfold dofV at this;rw[(okRd_at h1 hr).2,cond_true]at this;omega
  ·rw[hc]at hq
   cases congrArg Prod.snd hq
 ·have:=(getD_ok (x:=(r.1,i,j)) hok).2;omega
theorem bestF_at {f:Int→Int}:∀ {n:Nat} {p b:Int},bestF f n p b≤b∧(∀q,p≤q→q<p+n→bestF f n p b≤f q)∧(bestF f n p b=b∨∃q,p≤q∧q<p+n∧bestF f n p b=f q)
 |0,_,_=>⟨Int.le_refl _,fun q h1 h2=>by omega, .inl rfl⟩
 |n+1,p,b=>by
  unfold bestF;obtain⟨a1,a2,a3⟩:=bestF_at (f:=f) (n:=n) (p:=p+1) (b:=minI b (f p));have hm:minI b (f p)≤b∧minI b (f p)≤f p∧(minI b (f p)=b∨minI b (f p)=f p):=by
   unfold minI
   cases hc:decide (b<f p)
   ·have:=of_decide_eq_false hc;rw[cond_false];exact⟨by omega,by omega, .inr rfl⟩
   ·have:=dec_iff.1 hc;rw[cond_true];exact⟨by omega,by omega, .inl rfl⟩
  refine⟨by omega,fun q q0 q1 => ?_, ?_⟩
  ·by_cases hq:q=p
   ·rw[hq];omega
   ·exact a2 q (by omega) (by omega)
  ·rcases a3 with e | ⟨q,q0,q1,q2⟩
   ·rcases hm.2.2 with g | g
    ·exact .inl (e.trans g)
    ·exact .inr ⟨p,by omega,by omega,e.trans g⟩
   ·exact .inr ⟨q,by omega,by omega,q2⟩
theorem nextF_at {s:Str} {ch:D3} {row:List Int} {c i:Int}:∀ {n y:Nat} {j:Int},y<n→(nextF s ch row c i n j).getD y 0=bestF (fRow s ch row c (j+y)) (j+y+1-i).toNat i 100000
 |0,_,_,h=>absurd h (Nat.not_lt_zero _)
 |n+1,0,j,_=>by
  unfold nextF;rw[show j+((0:Nat):Int)=j by omega];rfl
 |n+1,y+1,j,h=>by
  unfold nextF;rw[show j+((y+1:Nat):Int)=j+1+(y:Int)by omega];exact nextF_at (n:=n) (y:=y) (j:=j+1) (by omega)
theorem initF_at {a:Str} {i:Int}:∀ {n y:Nat} {j:Int},y<n→(initF a i n j).getD y 0=e0 a i (j+y)
 |0,_,_,h=>absurd h (Nat.not_lt_zero _)
 |n+1,0,j,_=>by
  unfold initF;rw[show j+((0:Nat):Int)=j by omega];rfl
 |n+1,y+1,j,h=>by
  unfold initF;rw[show j+((y+1:Nat):Int)=j+1+(y:Int)by omega];exact initF_at (n:=n) (y:=y) (j:=j+1) (by omega)
theorem smlD_N {s:Str} {c:UInt8} {i j:Int} (i0:0≤i) (i1:i≤j) (j1:j≤(s.length:Int)):smlD s (c.toNat:Int) i j=(costN (subS s i j) c:Int):=by
 have hl:=sub_len (s:=s) i0 i1 j1;have hh:=inS_mem (s:=subS s i j) (c:=c);unfold smlD costN;change(bif decide (i=j)then 1 else bif inS (subS s i j) (c.toNat:Int)then j-i-1 else j-i)=_
 by_cases hij:i=j
 ·have hn:subS s i j=[]:=List.eq_nil_of_length_eq_zero (by omega);rw[zT hij,cond_true,if_pos hn];rfl
 ·have hn:¬subS s i j=[]:=fun e=>by
   rw[e]at hl;have hl:((0:Nat):Int)=j-i:=hl;omega
  rw[zF hij,cond_false,if_neg hn]
  by_cases hc:c∈subS s i j
  ·rw[if_pos hc,hh.2 hc,cond_true];have:=List.length_pos_iff.2 hn;omega
  ·have:inS (subS s i j) (c.toNat:Int)=false:=by
    cases h:inS (subS s i j) (c.toNat:Int)
    ·rfl
    ·exact absurd (hh.1 h) hc
   rw[if_neg hc,this,cond_false];omega
def tabE (ch:D3) (a:Str) (i j:Int) (n:Nat):Prop:=bigS a=true∧0≤i∧0≤j∧atD ch (byteAt a 0-65) i j=(n:Int)∧n<100000
def leE (ch:D3) (a:Str) (i j:Int) (n:Nat):Prop:=atD ch (byteAt a 0-65) i j≤(n:Int)
theorem ofS_tab {s:Str} {ch:D3} {c:UInt8} {i j:Int} {n:Nat} (hc:sign c=true) (i0:0≤i) (i1:i≤j) (j1:j≤(s.length:Int)) (h:ofS s ch (c.toNat:Int) i j=(n:Int)) (hn:n<100000):dstP s (tabE ch) [c] i j n:=by
 unfold dstP;unfold ofS at h;rw[smallI_nat]at h;rw[show smallS [c]=small c from rfl]
 cases hs:small c
 ·rw[hs,cond_false]at h;rw[if_neg (by simp)];have hb:bigc c=true:=by
   unfold sign at hc;rw[hs,Bool.or_false]at hc;exact hc
  exact⟨hb,i0,by omega,h,hn⟩
 ·rw[hs,cond_true,smlD_N i0 i1 j1]at h;rw[if_pos rfl];exact(Int.ofNat_inj.1 h).symm
theorem ofS_le {s:Str} {ch:D3} {c:UInt8} {i j:Int} {n:Nat} (i0:0≤i) (i1:i≤j) (j1:j≤(s.length:Int)) (h:dstP s (leE ch) [c] i j n):ofS s ch (c.toNat:Int) i j≤(n:Int):=by
 unfold dstP at h;unfold ofS;rw[smallI_nat];rw[show smallS [c]=small c from rfl]at h
 cases hs:small c
 ·rw[hs,if_neg (by simp)]at h;exact h
 ·rw[hs,if_pos rfl]at h;rw[cond_true,smlD_N i0 i1 j1,h];exact Int.le_refl _
theorem rowsF_sound {s:Str} {ch:D3} {i:Nat} (h1:okD5 (length s+1) ch=true) (h4:length s≤1000):∀ {r:Str} {row:List Int} {y:Nat},List.all r sign=true→length row=length s+1→okL5 row=true→i≤y→y<length s+1→(rowsF s ch i r row).getD y 0<100000 →
  ∃x:Nat,i≤x∧x≤y∧row.getD x 0<100000∧∃n:Nat,splD s (tabE ch) r x y n∧(rowsF s ch i r row).getD y 0=row.getD x 0+n
 | [],row,y,_,_,_,hi,_,h=>⟨y,hi,Nat.le_refl _,h,0,⟨rfl,rfl⟩,by show row.getD y 0=row.getD y 0+((0:Nat):Int);omega⟩
 |c::r,row,y,ha,hl,hr,hi,hy,h=>by
  rw[List.all_cons,andd]at ha;unfold rowsF at h ⊢;have hn:=nextF_ok (n:=length s+1) (j:=0) h1 (sign_I ha.1) (by omega:0≤(i:Int)) h4 hl hr (by omega);obtain⟨x,x0,x1,x2,n,x3,x4⟩:=rowsF_sound h1 h4 (r:=r) (y:=y) ha.2 nextF_len hn hi hy h;rw[nextF_at (by omega)]at x2 x4;rw[show (0:Int)+(x:Int)=x by omega]at x2 x4;rcases(bestF_at (f:=fRow s ch row (c.toNat:Int) x) (n:=((x:Int)+1-i).toNat) (p:=i) (b:=100000)).2.2 with e | ⟨q,q0,q1,q2⟩
  ·omega
  ·have hq:=okL5_at (i:=q.toNat) hr (by omega);have ho:=ofS_ok (i:=q) (j:=(x:Int)) h1 (sign_I ha.1) (okIJ_iff.2 ⟨by omega,by omega,by omega⟩) h4;have q2:_=row.getD q.toNat 0+ofS s ch (c.toNat:Int) q x:=q2;refine⟨q.toNat,by omega,by omega,by omega,(ofS s ch (c.toNat:Int) q x).toNat+n,⟨x,(ofS s ch (c.toNat:Int) q x).toNat,n,by omega,by omega,rfl,ofS_tab ha.1 (by omega) (by omega) (by omega) (by rw[show ((q.toNat:Nat):Int)=q by omega];omega) (by omega),x3⟩, ?_⟩;rw[x4,q2];omega
theorem rowsF_least {s:Str} {ch:D3} {i:Nat} (h1:okD5 (length s+1) ch=true) (h4:length s≤1000):∀ {r:Str} {row:List Int} {x y n:Nat},List.all r sign=true→length row=length s+1→okL5 row=true→i≤x→x≤y→y<length s+1→splD s (leE ch) r x y n→(rowsF s ch i r row).getD y 0≤row.getD x 0+n
 | [],row,x,y,n,_,_,_,_,_,_,h=>by
  obtain⟨g1,g2⟩:=h;have e:x=y:=by omega
  subst e;show row.getD x 0≤_;omega
 |c::r,row,x,y,n,ha,hl,hr,hi,hxy,hy,h=>by
  rw[List.all_cons,andd]at ha;obtain⟨k,n1,n2,k1,k2,rfl,g1,g2⟩:=h;obtain⟨q,hq⟩:∃q:Nat,k=(q:Int):=⟨k.toNat,by omega⟩;subst hq;unfold rowsF;have hn:=nextF_ok (n:=length s+1) (j:=0) h1 (sign_I ha.1) (by omega:0≤(i:Int)) h4 hl hr (by omega);have hd:=ofS_le (s:=s) (ch:=ch) (c:=c) (by omega) (by omega) (by omega) g1;have hxq:x≤q:=by omega
  have hqy:q≤y:=by omega
  have h2:=rowsF_least h1 h4 (r:=r) (row:=nextF s ch row (c.toNat:Int) i (length s+1) 0) (x:=q) (y:=y) (n:=n2) ha.2 nextF_len hn (Nat.le_trans hi hxq) hqy hy g2;rw[nextF_at (by omega),show (0:Int)+(q:Int)=q by omega]at h2;have h3:=(bestF_at (f:=fRow s ch row (c.toNat:Int) q) (n:=((q:Int)+1-i).toNat) (p:=i) (b:=100000)).2.1 x (by omega) (by omega);have h3:_≤row.getD ((x:Int)).toNat 0+ofS s ch (c.toNat:Int) x q:=h3;rw[Int.toNat_natCast]at h3;omega
theorem rowV_sound {s:Str} {ch:D3} {a:Str} {i y:Nat} (h1:okD5 (length s+1) ch=true) (h4:length s≤1000) (ha:List.all a sign=true) (hi:i≤y) (hy:y<length s+1) (h:(rowV s ch a i).getD y 0<100000):rhsD s (tabE ch) a i y ((rowV s ch a i).getD y 0).toNat:=by
 unfold rowV at h ⊢;unfold rhsD
 cases a with
 |nil =>
  rw[if_pos rfl];show((initF [] i (length s+1) 0).getD y 0).toNat=_;rw[initF_at hy];unfold e0;rw[zT rfl,cond_true,zT (by omega),cond_true];omega
 |cons c r =>
  rw[if_neg (by simp)];obtain⟨x,x0,x1,x2,n,x3,x4⟩:=rowsF_sound h1 h4 (r:=c::r) (row:=initF (c::r) i (length s+1) 0) (y:=y) ha initF_len (initF_ok (by omega) (by omega)) hi hy h;have he:(initF (c::r) i (length s+1) 0).getD x 0=bif decide ((x:Int)=i)then 0 else 100000:=by
   rw[initF_at (by omega)];unfold e0;rw[show decide ((c::r)=[])=false from rfl,cond_false,cond_false,show (0:Int)+(x:Int)=x by omega]
  by_cases hx:(x:Int)=i
  ·rw[zT hx,cond_true]at he;rw[he]at x4;rw[x4,show (0+(n:Int)).toNat=n by omega];rw[hx]at x3;exact x3
  ·rw[zF hx,cond_false]at he;omega
theorem rowV_least {s:Str} {ch:D3} {a:Str} {i y n:Nat} (h1:okD5 (length s+1) ch=true) (h4:length s≤1000) (ha:List.all a sign=true) (hi:i≤y) (hy:y<length s+1) (h:rhsD s (leE ch) a i y n):(rowV s ch a i).getD y 0≤n:=by
 unfold rowV;unfold rhsD at h
 cases a with
 |nil =>
  rw[if_pos rfl]at h;show(initF [] i (length s+1) 0).getD y 0≤_;rw[initF_at hy];unfold e0;rw[zT rfl,cond_true,zT (by omega),cond_true];omega
 |cons c r =>
  rw[if_neg (by simp)]at h;have:=rowsF_least h1 h4 (r:=c::r) (row:=initF (c::r) i (length s+1) 0) (x:=i) (y:=y) (n:=n) ha initF_len (initF_ok (by omega) (by omega)) (Nat.le_refl _) hi hy h;rw[initF_at (by omega)]at this;unfold e0 at this;rw[show decide ((c::r)=[])=false from rfl,cond_false,cond_false,zT (by omega),cond_true]at this;omega
theorem big_same {a b:Str} (ha:bigS a=true) (hb:bigS b=true) (h:byteAt a 0=byteAt b 0):a=b:=by
 obtain⟨c,rfl,_⟩:=bigS_one ha;obtain⟨d,rfl,_⟩:=bigS_one hb;have h:(c.toNat:Int)=d.toNat:=h;rw[show c=d from UInt8.toNat_inj.1 (by omega)]
theorem far_at {n a b c:Nat} (ha:a<5) (hb:b<n) (hc:c<n):atM (farC n) a b c=100000:=by
 unfold atM farC;simp only[zG,List.getElem?_replicate,if_pos ha,if_pos hb,if_pos hc,Option.getD_some]
theorem costC_sound {s:Str} {l:List Rule} (hs:length s≤1000) (h:okRp l=true) {a:Str} {i j:Int} {n:Nat} (i1:i≤(length s:Int)) (j1:j≤(length s:Int)) (ht:tabE (costC s l) a i j n):DistG s l a i j n:=by
 refine(runC_end (stepF_ok hs) (J:=fun ch=>∀a i j n,i≤(length s:Int)→j≤(length s:Int)→tabE ch a i j n→DistG s l a i j n) (good_visE (s:=s) h) (fun v hv p hp a i j n i1 j1 ht => ?_) (m:=farC (length s+1)) far_ok (fun a i j n i1 j1 ht => ?_)).2.1 a i j n i1 j1 ht
 ·obtain ⟨t1,t2,t3,t4,t5⟩:=ht;have hg:=good_visE (s:=s) h v hv;obtain⟨a1,a2,a3,a4,a5⟩:=stepF_at hs hg hp.1;obtain⟨k0,k1,_⟩:=keyK_in (r:=(a,[])) t1;have k0:0≤byteAt a 0-65:=k0;rcases a5 (byteAt a 0-65).toNat i.toNat j.toNat with e | ⟨e1,e2,⟨e3,e4⟩,e5⟩
  ·exact hp.2 a i j n i1 j1 ⟨t1,t2,t3,e.symm.trans t4,t5⟩
  ·obtain ⟨q0,q1,_⟩:=keyK_in hg.2.2.1;have hk:keyK v.2=byteAt v.2.1 0-65:=rfl;have ea:a=v.2.1:=big_same t1 hg.2.2.1 (by omega);have g1:=hg.1;have ei:i=v.1:=by omega
   subst ei;obtain⟨iN,hiN⟩:∃q:Nat,v.1=(q:Int):=⟨v.1.toNat,by omega⟩;have t4:atM (stepF s v p).1 (byteAt a 0-65).toNat v.1.toNat j.toNat=n:=t4;have e5:atM (stepF s v p).1 (byteAt a 0-65).toNat v.1.toNat j.toNat=(rowV s p.1 v.2.2 v.1).getD j.toNat 0:=e5;rw[e5]at t4;rw[hiN]at t4;have hr:=rowV_sound (a:=v.2.2) (i:=iN) (y:=j.toNat) hp.1 hs hg.2.2.2.2 (by omega) (by omega) (by omega);rw[t4,Int.toNat_natCast,show ((j.toNat:Nat):Int)=j by omega,← hiN]at hr;rw[ea];exact Dist_closed v.2 (mem_visE.1 hv).1 v.1 j n g1 (by omega) j1 (rhsD_mono (fun a i j n _ b1 b2 g=>hp.2 a i j n (by omega) b2 g) g1 j1 hr)
 ·obtain ⟨t1,t2,t3,t4,t5⟩:=ht;obtain⟨k0,k1,_⟩:=keyK_in (r:=(a,[])) t1;have k0:0≤byteAt a 0-65:=k0;have k1:byteAt a 0-65<5:=k1;have t4:atM (farC (length s+1)) (byteAt a 0-65).toNat i.toNat j.toNat=n:=t4;rw[far_at (by omega) (by omega) (by omega)]at t4;omega
theorem costC_least {s:Str} {l:List Rule} (hs:length s≤1000) (h:okRp l=true) {a:Str} {i j:Int} {n:Nat} (i0:0≤i) (i1:i≤j) (j1:j≤(length s:Int)) (hd:DistG s l a i j n):atD (costC s l) (byteAt a 0-65) i j≤(n:Int):=by
 refine hd (fun a i j n=>0≤i→i≤j→j≤(length s:Int)→leE (costC s l) a i j n) (fun r hr i j n i0 i1 j1 g _ _ _ => ?_) i0 i1 j1;have hv:(i,r)∈visE (length s+1) l:=mem_visE.2 ⟨hr,i0,by show i<_;omega⟩;have hg:=good_visE (s:=s) h (i,r) hv;have hok:=costC_ok (s:=s) h hs;have hq:=(runC_end (stepF_ok hs) (J:=fun _=>True) (good_visE (s:=s) h) (fun _ _ _ _=>trivial) (m:=farC (length s+1)) far_ok trivial).2.2 (i,r) hv;change stepF s (i,r) (costC s l,false)=(costC s l,false)at hq;have h4:=((stepF_at (p:=(costC s l,false)) hs hg hok).2.2.2.1 (congrArg Prod.snd hq)).2.2 j i1 (by show j<i+_;omega);obtain⟨iN,hiN⟩:∃q:Nat,i=(q:Int):=⟨i.toNat,by omega⟩;subst hiN;have hm:=rhsD_mono (fun a i j n a0 a1 a2 g=>g a0 a1 a2) i0 j1 g;have hl:=rowV_least (a:=r.2) (i:=iN) (y:=j.toNat) (n:=n) hok hs hg.2.2.2.2 (by omega) (by omega) (by rw[show ((j.toNat:Nat):Int)=j by omega];exact hm);exact Int.le_trans h4 hl
theorem farV_eq {g:Gram} {s:Str} (h:okG g=true):farV g s=getD' (distM s g.2) (g.1,0,(s.length:Int)):=by
 unfold farV dofV;rw[okG_big h,cond_true]
theorem okRq_G {g:Gram} (h:okG g=true):okRq g.2=true:=by
 refine andd.2 ⟨okRd_G h,all_eq_true.2 fun r hr => ?_⟩;obtain⟨r3,_⟩:=areS_iff ((okG_iff h).2.2 r hr).2;exact all_eq_true.2 r3
theorem far_start {g:Gram} {s:Str} {n:Nat} (h:okG g=true) (hs:length s≤1000) (hd:DistG s g.2 g.1 0 (s.length:Int) n) (hn:n<100000):farV g s=startC g s∧0≤farV g s∧farV g s≤n∧DistG s g.2 g.1 0 (s.length:Int) (farV g s).toNat:=by
 have hok:=distM_ok (s:=s) hs (okRq_G h);have hb:=okG_big h;obtain⟨k0,k1,_⟩:=keyK_in (r:=(g.1,[])) hb;have k0:0≤byteAt g.1 0-65:=k0;have k1:byteAt g.1 0-65<5:=k1;have h1:=distM_least hs (okRq_G h) (Int.le_refl 0) (by omega) (Int.le_refl _) hd;have h2:=costC_least hs (ok_rp h) (Int.le_refl 0) (by omega) (Int.le_refl _) hd;have h3:=(getD_ok (x:=(g.1,0,(s.length:Int))) hok).1;have h4:=(atD_ok (costC_ok (s:=s) (ok_rp h) hs) (k:=byteAt g.1 0-65) (i:=0) (j:=(s.length:Int)) k0 k1 (Int.le_refl 0) (by omega) (by omega) (by omega)).1;rw[farV_eq h];unfold startC;have d1:DistG s g.2 g.1 0 (s.length:Int) (getD' (distM s g.2) (g.1,0,(s.length:Int))).toNat:=distM_sound hs (okRq_G h) ⟨by omega,by omega⟩;have d2:DistG s g.2 g.1 0 (s.length:Int) (atD (costC s g.2) (byteAt g.1 0-65) 0 (s.length:Int)).toNat:=costC_sound hs (ok_rp h) (by omega) (Int.le_refl _) ⟨hb,Int.le_refl 0,by omega,by omega,by omega⟩;have h5:=distM_least hs (okRq_G h) (Int.le_refl 0) (by omega) (Int.le_refl _) d2;have h6:=costC_least hs (ok_rp h) (Int.le_refl 0) (by omega) (Int.le_refl _) d1;exact⟨by omega,h3,h1,d1⟩
theorem far_none {g:Gram} {s:Str} (h:okG g=true) (hs:length s≤1000) (hd:∀n,¬DistG s g.2 g.1 0 (s.length:Int) n):farV g s=1073741824:=by
 have hok:=distM_ok (s:=s) hs (okRq_G h);rw[farV_eq h];obtain⟨h1,h2⟩:=getD_ok (x:=(g.1,0,(s.length:Int))) hok
 by_cases hlt:getD' (distM s g.2) (g.1,0,(s.length:Int))<1073741824
 ·exact absurd (distM_sound hs (okRq_G h) ⟨by omega,by omega⟩) (hd (getD' (distM s g.2) (g.1,0,(s.length:Int))).toNat)
 ·omega
theorem Ed.inss:∀ {w:Str},Ed [] w w.length
 | [] => .nil
 |_::_ => .ins Ed.inss
theorem Ed.any {s w:Str}:Ed s w (s.length+w.length):=by
 have:=(Ed.outs (u:=s)).app (Ed.inss (w:=w));rw[List.append_nil,List.nil_append]at this;exact this
def RkW (l:List Rule) (k:Nat) (a:Str):Prop:=∃w,WordG l a w∧w.length≤4 ^ k
theorem RkW_up {l:List Rule} {k:Nat} {a:Str} (h:RkW l k a):RkW l (k+1) a:=by
 obtain⟨w,h1,h2⟩:=h;exact⟨w,h1,Nat.le_trans h2 (Nat.pow_le_pow_right (by omega) (by omega))⟩
theorem sp_R {l:List Rule} {k:Nat}:∀ {r w:Str},spW (fun a _=>RkW l k a) r w→∃w',spW (WordG l) r w'∧w'.length≤r.length*4 ^ k
 | [],_,_=>⟨[],rfl,Nat.zero_le _⟩
 |c::r,w,h=>by
  obtain⟨u,v,e,h1,h2⟩:=h;obtain⟨v',g1,g2⟩:=sp_R (r:=r) h2;have hp:1≤4 ^ k:=Nat.one_le_pow _ _ (by omega);have hu:∃u',wdP (WordG l) [c] u'∧u'.length≤4 ^ k:=by
   unfold wdP at h1 ⊢
   split at h1
   ·rename_i hs;exact⟨[c],by rw[if_pos hs],hp⟩
   ·rename_i hs;obtain⟨u',q1,q2⟩:=h1;exact⟨u',by rw[if_neg hs];exact q1,q2⟩
  obtain⟨u',q1,q2⟩:=hu;refine⟨u'++v',⟨u',v',rfl,q1,g1⟩, ?_⟩;rw[length_append,length_cons,Nat.succ_mul];omega
theorem RkW_rule {l:List Rule} {k:Nat} {r:Rule} {w:Str} (hr:r∈l) (h4:length r.2≤4) (h:spW (fun a _=>RkW l k a) r.2 w):RkW l (k+1) r.1:=by
 obtain⟨w',h1,h2⟩:=sp_R h;refine⟨w',Word_closed r hr w' h1,Nat.le_trans h2 ?_⟩;rw[Nat.pow_succ,Nat.mul_comm];exact Nat.mul_le_mul_left _ h4
theorem RkW_closed {l:List Rule} {k:Nat} (h4:∀r∈l,length r.2≤4) (hk:∀r∈l,RkW l (k+1) r.1→RkW l k r.1) {a w:Str} (h:WordG l a w):RkW l k a :=
 h (fun a _=>RkW l k a) fun r hr _ hw=>hk r hr (RkW_rule hr (h4 r hr) hw)
theorem cntB_len {α:Type} {f:α→Bool}:∀ {l:List α},cntB f l≤l.length
 | []=>Nat.le_refl _
 |a::l=>by
  have:=cntB_len (f:=f) (l:=l);unfold cntB;rw[length_cons]
  cases f a
  ·rw[cond_false];omega
  ·rw[cond_true];omega
theorem short_word {l:List Rule} (h4:∀r∈l,length r.2≤4) (h8:l.length≤8) {a w:Str} (h:WordG l a w):∃w',WordG l a w'∧w'.length≤65536:=by
 have hc:∃k,k≤8∧∀r∈l,RkW l (k+1) r.1→RkW l k r.1:=by
  refine Classical.byContradiction fun hno => ?_;have hstep:∀k,k≤8→∃r∈l,¬RkW l k r.1∧RkW l (k+1) r.1:=fun k hk=>by
   refine Classical.byContradiction fun h0=>hno ⟨k,hk,fun r hr h1 => ?_⟩;refine Classical.byContradiction fun h2=>h0 ⟨r,hr,h2,h1⟩
  have hf:∀k,∃f:Rule→Bool,∀r,f r=true↔RkW l k r.1:=fun k=>⟨fun r=>@decide _ (Classical.propDecidable (RkW l k r.1)),fun r=>by rw[@decide_eq_true_iff _ (Classical.propDecidable _)]⟩;have hcnt:∀k,k≤9→∃f:Rule→Bool,(∀r,f r=true↔RkW l k r.1)∧k≤cntB f l:=by
   intro k
   induction k with
   |zero =>
    intro _;obtain⟨f,hf⟩:=hf 0;exact⟨f,hf,Nat.zero_le _⟩
   |succ k ih =>
    intro hk;obtain⟨f,hf1,hf2⟩:=ih (by omega);obtain⟨g,hg⟩:=hf (k+1);obtain⟨r,hr,r1,r2⟩:=hstep k (by omega);have:=cnt_lt (f:=f) (g:=g) (l:=l) (fun q _ hq=>(hg q).2 (RkW_up ((hf1 q).1 hq))) ⟨r,hr,by
     cases hfr:f r
     ·rfl
     ·exact absurd ((hf1 r).1 hfr) r1,(hg r).2 r2⟩
    exact⟨g,hg,by omega⟩
  obtain⟨f,_,hf2⟩:=hcnt 9 (Nat.le_refl _);have:=cntB_len (f:=f) (l:=l);omega
 obtain⟨k,hk,hcl⟩:=hc;obtain⟨w',h1,h2⟩:=RkW_closed h4 hcl h;exact⟨w',h1,Nat.le_trans h2 (Nat.le_trans (Nat.pow_le_pow_right (by omega) hk) (by decide))⟩
def prodG (g:Gram):Prop:=∃w,WordG g.2 g.1 w
theorem dist_some {g:Gram} {s:Str} (h:okG g=true) (hs:length s≤1000) (hp:prodG g):∃n,n<100000∧DistG s g.2 g.1 0 (s.length:Int) n:=by
 obtain⟨w,hw⟩:=hp;obtain⟨_,h8,h3⟩:=okG_iff h;obtain⟨w',h1,h2⟩:=short_word (fun r hr=>by
  have:=(areS_iff (h3 r hr).2).2;omega) h8 hw
 obtain⟨n,n1,n2⟩:=word_dist (s:=s) h1 (i:=0) (j:=(s.length:Int)) (m:=s.length+w'.length) (Int.le_refl 0) (by omega) (Int.le_refl _) (by
  rw[sub_all];exact Ed.any)
 exact⟨n,by omega,n2⟩
theorem dist_prod {g:Gram} {s:Str} {n:Nat} (hd:DistG s g.2 g.1 0 (s.length:Int) n):prodG g:=by
 obtain⟨w,_,_,hw,_⟩:=dist_word hd (Int.le_refl 0) (by omega) (Int.le_refl _);exact⟨w,hw⟩
theorem far_both {g:Gram} {s:Str} (h:okG g=true) (hs:length s≤1000) (hp:prodG g):farV g s=startC g s∧0≤farV g s∧farV g s<100000∧(∃w,WordG g.2 g.1 w∧∃m:Nat,(m:Int)≤farV g s∧Ed s w m)∧∀w m,WordG g.2 g.1 w→Ed s w m→farV g s≤(m:Int):=by
 obtain⟨n,n1,n2⟩:=dist_some h hs hp;obtain⟨a1,a2,a3,a4⟩:=far_start h hs n2 n1;refine⟨a1,a2,by omega, ?_,fun w m hw hm => ?_⟩
 ·obtain ⟨w,m,m1,m2,m3⟩:=dist_word a4 (Int.le_refl 0) (by omega) (Int.le_refl _);rw[sub_all]at m3;exact⟨w,m2,m,by omega,m3⟩
 ·obtain ⟨k,k1,k2⟩:=word_dist (s:=s) hw (i:=0) (j:=(s.length:Int)) (m:=m) (Int.le_refl 0) (by omega) (Int.le_refl _) (by rw[sub_all];exact hm);have hl:=distM_least hs (okRq_G h) (Int.le_refl 0) (by omega) (Int.le_refl _) k2;rw[farV_eq h];omega
def cb_l2a:Cx:=cxOf Γ63 Tryz.f113.ntmps [(2,[0,1,2,7])] [(0,[]),(1,[0,1,2,7]),(1000000,[6])] [] []
abbrev st_l2a (s t:Str) (b:Bool) (i:Int):St:=⟨[(0,vS s),(1,vS t),(2,vB b),(7,vI i)],[]⟩
theorem x_spec_l2All (s t:Str) (b:Bool) (i:Int) (R:St→Option Fin) (K:Cont):evC (cb_l2a.withLoops (look [])) (loopOf Tryz.f113 0) (st_l2a s t b i) (onward (headAt (cb_l2a.withLoops (look [])) 2) R K)=(
branch (decide (i<(s.length:Int))) (
 need (inb i s.length) <|
 need (bif decide ((!inS t (byteAt s i))=true)&&decide (b=true)then inb i s.length else true) <|
 branch (bif !inS t (byteAt s i)then !bif b then smallI (byteAt s i)else false else false) ( K (.ret) (.mk [(6,vB false)] [])) ( R (st_l2a s t b (W64 (i+1))))) ( K (.exit 0) (.mk [] []))):=by kernel_rfl
def okIn (t:Str) (b:Bool) (c:UInt8):Bool:=inS t (c.toNat:Int)||(b&&small c)
def allOf (t:Str) (b:Bool) (s:Str):Bool:=s.all (okIn t b)
theorem allOf_at {t s:Str} {b:Bool} {i:Int} (h0:0≤i) (h1:i<(s.length:Int)):allOf t b (s.drop i.toNat)=((inS t (byteAt s i)||(b&&smallI (byteAt s i)))&&allOf t b (s.drop (i+1).toNat)):=by
 have hn:i.toNat<s.length:=by omega
 have hb:byteAt s i=((s[i.toNat]).toNat:Int):=by
  unfold byteAt;rw[zG,zE hn];rfl
 unfold allOf;rw[drop_eq_getElem_cons hn,List.all_cons,show (i+1).toNat=i.toNat+1 by omega,hb,smallI_nat];rfl
def cx0_l2a:Cx:=(cb_l2a).withLoops (look [])
def sh_l2a:Sh:=([(0, .d .str),(1, .d .str),(2, .d .bool),(7, .d TI64)],[])
def pre_l2a (s _t:Str) (_b:Bool) (i:Int):Bool:=decide (0≤i)&&Nat.ble s.length big
def res_l2a (s t:Str) (b:Bool) (i:Int) (K:Cont):Option Fin:=branch (allOf t b (s.drop i.toNat)) (K (.exit 0) ⟨[],[]⟩) (K .ret ⟨[(6,vB false)],[]⟩)
def mu_l2a (s _t:Str) (_b:Bool) (i:Int):Nat:=s.length-i.toNat
theorem r_l2a (s t:Str) (b:Bool) (i:Int) (K:Cont) (hI:pre_l2a s t b i=true):(∀R:St→Option Fin,evC cx0_l2a (loopOf Tryz.f113 0) (st_l2a s t b i) (onward (headAt cx0_l2a 2) R K)=res_l2a s t b i K) ∨
  (∃(s' t':Str) (b':Bool) (i':Int),pre_l2a s' t' b' i'=true∧mu_l2a s' t' b' i'<mu_l2a s t b i∧res_l2a s' t' b' i' K=res_l2a s t b i K∧∀R:St→Option Fin,evC cx0_l2a (loopOf Tryz.f113 0) (st_l2a s t b i) (onward (headAt cx0_l2a 2) R K)=R (st_l2a s' t' b' i')):=by
 have hx:=fun R=>x_spec_l2All s t b i R K;simp only[pre_l2a,andd,dec_iff,ble_iff]at hI;obtain⟨h0,h1⟩:=hI
 by_cases hi:i<(s.length:Int)
 ·have hg:=allOf_at (t:=t) (b:=b) h0 hi;rw[zT hi,inb_ok h0 hi,W1 h0 hi h1,Bool.cond_self]at hx;have hh:(bif !inS t (byteAt s i)then !bif b then smallI (byteAt s i)else false else false) = !(inS t (byteAt s i)||(b&&smallI (byteAt s i))):=by
   cases inS t (byteAt s i)<;>cases b<;>cases smallI (byteAt s i)<;>rfl
  rw[hh]at hx
  cases hc:(inS t (byteAt s i)||(b&&smallI (byteAt s i)))
  ·left;intro R;rw[hc]at hg;refine(hx R).trans ?_;rw[hc];simp only[res_l2a,hg];rfl
  ·right;rw[hc]at hg;refine⟨s,t,b,i+1, ?_, ?_, ?_,fun R=>(hx R).trans ?_⟩
   ·exact andd.2 ⟨dec_iff.2 (by omega),ble_iff.2 h1⟩
   ·simp only[mu_l2a];omega
   ·simp only[res_l2a,hg];rfl
   ·rw[hc];rfl
 ·left;intro R;refine(hx R).trans ?_;rw[zF hi];simp only[res_l2a];rw[drop_eq_nil_of_le (by omega)];rfl
def g_l2a:St→Cont→Option Fin:=gP sh_l2a (fun v=>match v with | ((s,t,b,i,()),())=>pre_l2a s t b i) (fun v K=>match v with | ((s,t,b,i,()),())=>res_l2a s t b i K)
def L_l2a:LpL:=(2,g_l2a)::[]
def cx_l2a:Cx:=(cb_l2a).withLoops (look L_l2a)
theorem l_l2a {L:LpL} (n:Nat) (h1:L.drop n=[]) (h2:idsFree (L.take n) (loopOf Tryz.f113 0)=true):LoopsTo g_l2a (cb_l2a) (loopOf Tryz.f113 0) 2 L :=
 with_drop h1 h2 (gP_ok (fun v=>match v with | ((s,t,b,i,()),())=>mu_l2a s t b i) fun v K hI=>by
  obtain⟨⟨s,t,b,i,⟨⟩⟩,⟨⟩⟩:=v;exact(r_l2a s t b i K hI).imp id fun⟨s',t',b',i',h⟩=>⟨((s',t',b',i',()),()),h⟩)
theorem y_spec_l2All (s:Str) (t:Str) (b:Bool):evFn cx_l2a Tryz.f113 true [ofD .str s,ofD .str t,ofD .bool b] []=(
need (pre_l2a s t b 0) <|
branch (allOf t b s) ( some ((vB true),[])) ( some ((vB false),[]))):=by kernel_rfl
theorem s_spec_l2All (s:Str) (hs:Fit .str s) (t:Str) (_ht:Fit .str t) (b:Bool) (_hb:Fit .bool b):Sat Tryz.prog 113 [ofD .str s,ofD .str t,ofD .bool b] [] (.d (ofD .bool (allOf t b s))) [] :=
 fn_sound (cx:=cx_l2a) Tryz.func113 rfl ttOk Γ63ok mixed (fun c hc=>LoopsOk.all (l:=[(2,loopOf Tryz.f113 0)]) (by cases hc;kernel_rfl) ⟨atLoop rfl (l_l2a 1 rfl (by kernel_rfl)),trivial⟩) (ro:=true) (by
  have h:pre_l2a s t b 0=true:=andd.2 ⟨rfl,ble_iff.2 hs⟩;rw[y_spec_l2All,h];show branch (allOf t b s) _ _=_
  cases allOf t b s<;>rfl)
def c_spec_l2All:Con:=conT [.str, .str, .bool] fun(s:Str) (t:Str) (b:Bool)=>(none, .d (ofD .bool (allOf t b s)))
theorem k_spec_l2All:ConOk Tryz.prog 113 c_spec_l2All:=conT_ok Tryz.call113 fun s hs t ht b hb _=>s_spec_l2All s hs t ht b hb
def Γ64:GL:=(113,c_spec_l2All)::Γ63
theorem Γ64ok:GO Γ64 := .cons k_spec_l2All Γ63ok
def cb_l2g:Cx:=cxOf Γ64 Tryz.f98.ntmps [(3,[1,2,5,6])] [(0,[5]),(1,[1,2,5,6]),(1000000,[4])] [] []
abbrev st_l2g (b:Bool) (o:Str) (i:Int) (g:Gram):St:=⟨[(1,vB b),(2, kp0),(5,vS o),(6,vI i)],[(500000,some (boxD 25 TG g))]⟩
theorem x_spec_l2Grow (g:Gram) (o:Str) (b:Bool) (i:Int) (R:St→Option Fin) (K:Cont):evC (cb_l2g.withLoops (look [])) (loopOf Tryz.f98 0) (st_l2g b o i g) (onward (headAt (cb_l2g.withLoops (look [])) 3) R K)=(
branch (decide (i<(length g.snd:Int))) (
 need (inb i (length g.snd)) <|
 need (inb 0 (length (getD g.snd i.toNat d0).fst)) <|
 branch (bif !inS o (byteAt (getD g.snd i.toNat d0).fst 0)then allOf o b (getD g.snd i.toNat d0).snd else false) (
 need (inb 0 (length (getD g.snd i.toNat d0).fst)) <|
 need (o.length.ble 1000000) <| R (st_l2g b (addS (UInt8.ofNat (byteAt (getD g.snd i.toNat d0).fst 0).toNat) o) (W64 (Int.neg 1+1)) g)) ( R (st_l2g b o (W64 (i+1)) g))) ( K (.exit 0) (.mk [(5,vS o)] []))):=by kernel_rfl
theorem cnt_lenB {α:Type} {f:α→Bool}:∀ {l:List α},cntB f l≤l.length
 | []=>Nat.le_refl _
 |a::l=>by
  have:=cnt_lenB (f:=f) (l:=l);unfold cntB;rw[length_cons]
  cases f a
  ·rw[cond_false];omega
  ·rw[cond_true];omega
def newR (o:Str) (b:Bool) (r:Rule):Bool := !inS o (byteAt r.1 0)&&allOf o b r.2
def signR (r:Rule):UInt8:=UInt8.ofNat (byteAt r.1 0).toNat
def grwN (l:List Rule) (b:Bool):Nat→Int→Str→Str
 |0,_,o=>o
 |n+1,i,o=>bif decide (i<(l.length:Int))then(bif newR o b (l.getD i.toNat d0)then grwN l b n 0 (addS (signR (l.getD i.toNat d0)) o)else grwN l b n (i+1) o)else o
def missL (l:List Rule) (o:Str):Nat:=cntB (fun r => !inS o (byteAt r.1 0)) l
def muG (l:List Rule) (i:Int) (o:Str):Nat:=missL l o*(l.length+1)+(l.length-i.toNat)
theorem inS_any {s:Str} {c:Int}:inS s c=true↔∃x∈s,(x.toNat:Int)=c:=by
 unfold inS;rw[List.any_eq_true]
 constructor
 ·rintro ⟨x,hx,h⟩;exact ⟨x,hx,dec_iff.1 h⟩
 ·rintro ⟨x,hx,h⟩;exact ⟨x,hx,zT h⟩
theorem signR_nat {r:Rule}:((signR r).toNat:Int)=byteAt r.1 0:=by
 have:signR r=r.1.getD 0 0:=by
  unfold signR byteAt;show UInt8.ofNat (((r.1.getD 0 0).toNat:Int)).toNat=_;rw[Int.toNat_natCast,UInt8.ofNat_toNat]
 rw[this];rfl
theorem miss_add {l:List Rule} {o:Str} {r:Rule} {b:Bool} (hr:r∈l) (h:newR o b r=true):missL l (addS (signR r) o)<missL l o:=by
 obtain⟨h1,_⟩:=andd.1 h;refine cnt_lt (fun q _ hq => ?_) ⟨r,hr, ?_,h1⟩
 ·cases hc:inS o (byteAt q.1 0)
  ·rfl
  ·obtain ⟨x,hx,e⟩:=inS_any.1 hc;rw[inS_any.2 ⟨x,addS_mem.2 (.inr hx),e⟩]at hq
   cases hq
 ·rw[inS_any.2 ⟨signR r,addS_mem.2 (.inl rfl),signR_nat⟩];rfl
theorem mu_add {l:List Rule} {o:Str} {b:Bool} {i:Int} (h0:0≤i) (h1:i<(l.length:Int)) (h:newR o b (l.getD i.toNat d0)=true):muG l 0 (addS (signR (l.getD i.toNat d0)) o)<muG l i o:=by
 have:=miss_add (getD_mem (d:=d0) (by omega:i.toNat<l.length)) h;unfold muG;have h2:(missL l (addS (signR (l.getD i.toNat d0)) o)+1)*(l.length+1)≤missL l o*(l.length+1):=Nat.mul_le_mul_right _ this;rw[Nat.succ_mul]at h2;have:(0:Int).toNat=0:=rfl;omega
theorem mu_next {l:List Rule} {o:Str} {i:Int} (h0:0≤i) (h1:i<(l.length:Int)):muG l (i+1) o<muG l i o:=by
 unfold muG;omega
theorem grow_fuel {l:List Rule} {b:Bool}:∀ {n n':Nat} {i:Int} {o:Str},0≤i→muG l i o<n→muG l i o<n'→grwN l b n i o=grwN l b n' i o
 |0,_,_,_,_,h,_=>absurd h (Nat.not_lt_zero _)
 |_+1,0,_,_,_,_,h=>absurd h (Nat.not_lt_zero _)
 |n+1,n'+1,i,o,h0,h1,h2=>by
  unfold grwN
  by_cases hi:i<(l.length:Int)
  ·rw[zT hi,cond_true,cond_true]
   cases hc:newR o b (l.getD i.toNat d0)
   ·have:=mu_next (o:=o) h0 hi;exact grow_fuel (by omega) (by omega) (by omega)
   ·have:=mu_add h0 hi hc;exact grow_fuel (Int.le_refl 0) (by omega) (by omega)
  ·rw[zF hi];rfl
def growV (l:List Rule) (b:Bool) (i:Int) (o:Str):Str:=grwN l b (muG l i o+1) i o
theorem growV_at {l:List Rule} {b:Bool} {i:Int} {o:Str} (h0:0≤i):growV l b i o=bif decide (i<(l.length:Int))then(bif newR o b (l.getD i.toNat d0)then growV l b 0 (addS (signR (l.getD i.toNat d0)) o)else growV l b (i+1) o)else o:=by
 unfold growV
 conv=>lhs;unfold grwN
 by_cases hi:i<(l.length:Int)
 ·rw[zT hi,cond_true,cond_true]
  cases hc:newR o b (l.getD i.toNat d0)
  ·have:=mu_next (o:=o) h0 hi;exact grow_fuel (by omega) (by omega) (by omega)
  ·have:=mu_add h0 hi hc;exact grow_fuel (Int.le_refl 0) (by omega) (by omega)
 ·rw[zF hi];rfl
def okLf (l:List Rule):Bool:=decide (length l≤1000)&&List.all l fun r=>bigS r.1
def cx0_l2g:Cx:=(cb_l2g).withLoops (look [])
def sh_l2g:Sh:=([(1, .d .bool),(2, .ptr 500000 0),(5, .d .str),(6, .d TI64)],[(500000, .box 25 TG)])
def pre_l2g (_b:Bool) (o:Str) (i:Int) (g:Gram):Bool:=decide (0≤i)&&(okLf g.2&&decide (missL g.2 o+length o≤1000))
def res_l2g (b:Bool) (o:Str) (i:Int) (g:Gram) (K:Cont):Option Fin:=K (.exit 0) ⟨[(5,vS (growV g.2 b i o))],[]⟩
def mu_l2g (_b:Bool) (o:Str) (i:Int) (g:Gram):Nat:=muG g.2 i o
theorem r_l2g (b:Bool) (o:Str) (i:Int) (g:Gram) (K:Cont) (hI:pre_l2g b o i g=true):(∀R:St→Option Fin,evC cx0_l2g (loopOf Tryz.f98 0) (st_l2g b o i g) (onward (headAt cx0_l2g 3) R K)=res_l2g b o i g K) ∨
  (∃(b':Bool) (o':Str) (i':Int) (g':Gram),pre_l2g b' o' i' g'=true∧mu_l2g b' o' i' g'<mu_l2g b o i g∧res_l2g b' o' i' g' K=res_l2g b o i g K∧∀R:St→Option Fin,evC cx0_l2g (loopOf Tryz.f98 0) (st_l2g b o i g) (onward (headAt cx0_l2g 3) R K)=R (st_l2g b' o' i' g')):=by
 have hx:=fun R=>x_spec_l2Grow g o b i R K;simp only[pre_l2g,andd,dec_iff]at hI;obtain⟨h0,h1,h2⟩:=hI;obtain⟨l1,l2⟩:=andd.1 h1;have l1:=dec_iff.1 l1;have hg:=growV_at (l:=g.2) (b:=b) (o:=o) h0
 by_cases hi:i<(length g.2:Int)
 ·have w:W64 (i+1)=i+1:=wrap_small (by omega) (by omega);have w2:W64 (Int.neg 1+1)=0:=by decide
  have hmem:=getD_mem (d:=d0) (by omega:i.toNat<length g.2);have hl:inb 0 (length (getD g.2 i.toNat d0).1)=true:=by
   obtain⟨c,e,_⟩:=bigS_one (all_eq_true.1 l2 _ hmem);rw[e];rfl
  have hh:(bif !inS o (byteAt (getD g.2 i.toNat d0).1 0)then allOf o b (getD g.2 i.toNat d0).2 else false)=newR o b (getD g.2 i.toNat d0):=by
   unfold newR
   cases inS o (byteAt (getD g.2 i.toNat d0).1 0)<;>rfl
  rw[zT hi,inb_ok h0 hi,hl,hh,ble_iff.2 (by omega:length o≤1000000),w,w2]at hx;rw[zT hi,cond_true]at hg;right
  cases hc:newR o b (getD g.2 i.toNat d0)
  ·rw[hc]at hx hg;refine⟨b,o,i+1,g, ?_, ?_, ?_,fun R=>hx R⟩
   ·simp only[pre_l2g,andd,dec_iff];exact⟨by omega,h1,h2⟩
   ·simp only[mu_l2g];exact mu_next h0 hi
   ·simp only[res_l2g,hg];rfl
  ·rw[hc]at hx hg;refine⟨b,addS (signR (getD g.2 i.toNat d0)) o,0,g, ?_, ?_, ?_,fun R=>hx R⟩
   ·simp only[pre_l2g,andd,dec_iff];have:=miss_add hmem hc;have:=addS_len (c:=signR (getD g.2 i.toNat d0)) (s:=o);exact⟨Int.le_refl 0,h1,by omega⟩
   ·simp only[mu_l2g];exact mu_add h0 hi hc
   ·simp only[res_l2g,hg];rfl
 ·left;intro R;refine(hx R).trans ?_;rw[zF hi]at hg ⊢;simp only[res_l2g,hg];rfl
def g_l2g:St→Cont→Option Fin:=gP sh_l2g (fun v=>match v with | ((b,o,i,()),(g,()))=>pre_l2g b o i g) (fun v K=>match v with | ((b,o,i,()),(g,()))=>res_l2g b o i g K)
def L_l2g:LpL:=(3,g_l2g)::[]
def cx_l2g:Cx:=(cb_l2g).withLoops (look L_l2g)
theorem l_l2g {L:LpL} (n:Nat) (h1:L.drop n=[]) (h2:idsFree (L.take n) (loopOf Tryz.f98 0)=true):LoopsTo g_l2g (cb_l2g) (loopOf Tryz.f98 0) 3 L :=
 with_drop h1 h2 (gP_ok (fun v=>match v with | ((b,o,i,()),(g,()))=>mu_l2g b o i g) fun v K hI=>by
  obtain⟨⟨b,o,i,⟨⟩⟩,⟨g,⟨⟩⟩⟩:=v;exact(r_l2g b o i g K hI).imp id fun⟨b',o',i',g',h⟩=>⟨((b',o',i',()),(g',())),h⟩)
theorem y_spec_l2Grow (g:Gram) (b:Bool):evFn cx_l2g Tryz.f98 true [ofD TG g,ofD .bool b] []=(
need (pre_l2g b ([]:Str) 0 g) <| some ((vS (growV g.snd b 0 ([]:Str))),[])):=by kernel_rfl
theorem s_spec_l2Grow (g:Gram) (_hg:Fit TG g) (b:Bool) (_hb:Fit .bool b) (hpre:(okLf g.2)=true):Sat Tryz.prog 98 [ofD TG g,ofD .bool b] [] (.d (ofD .str (growV g.2 b 0 []))) [] :=
 fn_sound (cx:=cx_l2g) Tryz.func98 rfl ttOk Γ64ok mixed (fun c hc=>LoopsOk.all (l:=[(3,loopOf Tryz.f98 0)]) (by cases hc;kernel_rfl) ⟨atLoop rfl (l_l2g 1 rfl (by kernel_rfl)),trivial⟩) (ro:=true) (by
  have hm:missL g.2 []≤length g.2:=cnt_lenB;have hl:=dec_iff.1 (andd.1 hpre).1;have h:pre_l2g b ([]:Str) 0 g=true:=by
   simp only[pre_l2g,andd,dec_iff];refine⟨Int.le_refl 0,hpre, ?_⟩;show missL g.2 []+0≤1000;omega
  rw[y_spec_l2Grow,h];rfl)
def c_spec_l2Grow:Con:=conT [TG, .bool] fun(g:Gram) (b:Bool)=>(some (okLf g.2), .d (ofD .str (growV g.2 b 0 [])))
theorem k_spec_l2Grow:ConOk Tryz.prog 98 c_spec_l2Grow:=conT_ok Tryz.call98 fun g hg b hb hqq=>s_spec_l2Grow g hg b hb (pre_of hqq)
def Γ65:GL:=(98,c_spec_l2Grow)::Γ64
theorem Γ65ok:GO Γ65 := .cons k_spec_l2Grow Γ64ok
theorem okLf_G {g:Gram} (h:okG g=true):okLf g.2=true:=by
 obtain⟨_,h2,h3⟩:=okG_iff h;exact andd.2 ⟨zT (by omega),all_eq_true.2 fun r hr=>(h3 r hr).1⟩
def canB (g:Gram) (s:Str):Bool:=bif both2 g s then inS (growV g.2 true 0 []) (byteAt g.1 0)else false
theorem y_spec_l8Can (g:Gram) (s:Str):evFn (cxOf Γ65 Tryz.f47.ntmps [] [] [] []) Tryz.f47 true [ofD TG g,ofD .str s] []=(
need (bif decide ((bif okG g then areSm s 8 else false)=true)then okLf g.snd else true) <|
need (bif decide ((bif okG g then areSm s 8 else false)=true)then inb 0 (length g.fst)else true) <| some ((vB (bif bif okG g then areSm s 8 else false then inS (growV g.snd true 0 []) (byteAt g.fst 0)else false)),[])):=by kernel_rfl
theorem s_spec_l8Can (g:Gram) (_hg:Fit TG g) (s:Str) (_hs:Fit .str s):Sat Tryz.prog 47 [ofD TG g,ofD .str s] [] (.d (ofD .bool (canB g s))) [] :=
 fn_sound (cx:=cxOf Γ65 Tryz.f47.ntmps [] [] [] []) Tryz.func47 rfl ttOk Γ65ok mixed (fun _ _=>LoopsOk.no fun _=>rfl) (ro:=true) (by
  rw[y_spec_l8Can];change need (bif decide (both2 g s=true)then okLf g.2 else true) (need (bif decide (both2 g s=true)then inb 0 (length g.1)else true) (some (vB (canB g s),[])))=_
  cases hb:both2 g s
  ·rfl
  ·obtain ⟨h1,_⟩:=both2_iff.1 hb;obtain⟨c,e,_⟩:=bigS_one (okG_big h1);have hl:inb 0 (length g.1)=true:=by rw[e];rfl
   rw[okLf_G h1,hl];rfl)
noncomputable def c_spec_l8Can:Con:=conT [TG, .str] fun(g:Gram) (s:Str)=>(none, .d (ofD .bool (canB g s)))
theorem k_spec_l8Can:ConOk Tryz.prog 47 c_spec_l8Can:=conT_ok Tryz.call47 fun g hg s hs _=>s_spec_l8Can g hg s hs
noncomputable def Γ66:GL:=(47,c_spec_l8Can)::Γ65
theorem Γ66ok:GO Γ66 := .cons k_spec_l8Can Γ65ok
def sMendV (g:Gram) (s:Str):Int:=bif canB g s then startC g s else -1
theorem grow_inv {l:List Rule} {b:Bool} {J:Str→Prop} (hJ:∀o,∀r∈l,J o→newR o b r=true→J (addS (signR r) o)):∀ {n:Nat} {i:Int} {o:Str},0≤i→J o→J (grwN l b n i o)
 |0,_,_,_,h=>h
 |n+1,i,o,h0,h=>by
  unfold grwN
  by_cases hi:i<(l.length:Int)
  ·rw[zT hi,cond_true]
   cases hc:newR o b (l.getD i.toNat d0)
   ·exact grow_inv hJ (by omega) h
   ·exact grow_inv hJ (Int.le_refl 0) (hJ o _ (getD_mem (by omega)) h hc)
  ·rw[zF hi];exact h
theorem grow_end {l:List Rule} {b:Bool}:∀ {n:Nat} {i:Int} {o:Str},0≤i→muG l i o<n→(∀q:Nat,(q:Int)<i→q<l.length→newR o b (l.getD q d0)=false)→∀r∈l,newR (grwN l b n i o) b r=false
 |0,_,_,_,h,_=>absurd h (Nat.not_lt_zero _)
 |n+1,i,o,h0,h,hq=>by
  unfold grwN
  by_cases hi:i<(l.length:Int)
  ·rw[zT hi,cond_true]
   cases hc:newR o b (l.getD i.toNat d0)
   ·have:=mu_next (o:=o) h0 hi;refine grow_end (by omega) (by omega) fun q q1 q2 => ?_
    by_cases e:(q:Int)=i
    ·rw[show q=i.toNat by omega];exact hc
    ·exact hq q (by omega) q2
   ·have:=mu_add h0 hi hc;exact grow_end (Int.le_refl 0) (by omega) fun q q1 _=>by omega
  ·rw[zF hi,cond_false];intro r hr;obtain⟨q,h1,rfl⟩:=List.getElem_of_mem hr;have:=hq q (by omega) h1;rw[getD_at h1]at this;exact this
theorem all_words {l:List Rule} {o:Str} (ho:∀x∈o,∃w,WordG l [x] w):∀ {r:Str},allOf o true r=true→∃w,spW (WordG l) r w
 | [],_=>⟨[],rfl⟩
 |c::r,h=>by
  obtain⟨h1,h2⟩:=andd.1 (show (okIn o true c&&allOf o true r)=true from h);obtain⟨v,hv⟩:=all_words ho (r:=r) h2;have hu:∃u,wdP (WordG l) [c] u:=by
   unfold wdP
   cases hs:smallS [c]
   ·have hs:small c=false:=hs;unfold okIn at h1;rw[hs,Bool.and_false,Bool.or_false]at h1;obtain⟨w,hw⟩:=ho c (inS_mem.1 h1);exact⟨w,by rw[if_neg (by simp)];exact hw⟩
   ·exact ⟨[c],by rw[if_pos rfl]⟩
  obtain⟨u,hu⟩:=hu;exact⟨u++v,u,v,rfl,hu,hv⟩
theorem wordsAll {o:Str}:∀ {r w:Str},spW (fun a _=>inS o (byteAt a 0)=true) r w→allOf o true r=true
 | [],_,_=>rfl
 |c::r,w,h=>by
  obtain⟨u,v,_,h1,h2⟩:=h;refine andd.2 ⟨?_,wordsAll h2⟩;unfold wdP at h1;unfold okIn
  split at h1
  ·rename_i hs;have hs:small c=true:=hs;rw[hs];simp
  ·have h1:inS o (c.toNat:Int)=true:=h1;rw[h1];rfl
theorem grow_prod {l:List Rule} (hl:List.all l (fun r=>bigS r.1)=true) {c:UInt8}:inS (growV l true 0 []) (c.toNat:Int)=true↔∃w,WordG l [c] w:=by
 constructor
 ·intro h;refine grow_inv (l:=l) (b:=true) (J:=fun o=>∀x∈o,∃w,WordG l [x] w) (fun o r hr ho hn x hx => ?_) (Int.le_refl 0) (fun x hx=>by cases hx) c (inS_mem.1 h);rcases addS_mem.1 hx with rfl | hx
  ·obtain ⟨w,hw⟩:=all_words ho (andd.1 hn).2;obtain⟨d,e,_⟩:=bigS_one (all_eq_true.1 hl r hr);have hs:[signR r]=r.1:=by
    have h1:=signR_nat (r:=r);rw[e]at h1;have h1:((signR r).toNat:Int)=(d.toNat:Int):=h1;rw[e,show signR r=d from UInt8.toNat_inj.1 (by omega)]
   rw[hs];exact⟨w,Word_closed r hr w hw⟩
  ·exact ho x hx
 ·rintro ⟨w,hw⟩;have hend:=grow_end (l:=l) (b:=true) (n:=muG l 0 []+1) (i:=0) (o:=[]) (Int.le_refl 0) (Nat.lt_succ_self _) (fun q q1 _=>by omega);have:=hw (fun a _=>inS (growV l true 0 []) (byteAt a 0)=true) (fun r hr w h => ?_)
  ·exact this
  ·have h1:=hend r hr;have h2:=wordsAll h;unfold newR at h1;change(!inS (growV l true 0 []) (byteAt r.1 0)&&allOf (growV l true 0 []) true r.2)=false at h1;rw[h2,Bool.and_true]at h1;show inS (growV l true 0 []) (byteAt r.1 0)=true
   cases hc:inS (growV l true 0 []) (byteAt r.1 0)
   ·rw[hc]at h1;cases h1
   ·rfl
theorem canB_iff {g:Gram} {s:Str}:canB g s=true↔both2 g s=true∧prodG g:=by
 unfold canB
 cases hb:both2 g s
 ·exact ⟨fun h=>(by cases h),fun h=>(by cases h.1)⟩
 ·rw[cond_true];obtain⟨h1,_⟩:=both2_iff.1 hb;obtain⟨c,e,_⟩:=bigS_one (okG_big h1);have:=grow_prod (l:=g.2) (andd.1 (okLf_G h1)).2 (c:=c);rw[show byteAt g.1 0=(c.toNat:Int)by rw[e];rfl,this];unfold prodG;rw[e];exact⟨fun h=>⟨rfl,h⟩,fun h=>h.2⟩
theorem mend_same {g:Gram} {s:Str}:mendV g s=sMendV g s:=by
 unfold mendV sMendV
 cases hb:both2 g s
 ·have:canB g s=false:=by
   unfold canB;rw[hb];rfl
  rw[this];rfl
 ·obtain ⟨h1,h2⟩:=both2_iff.1 hb;have hs:length s≤1000:=by
   have:=(areSm_iff.1 h2).1;omega
  rw[cond_true]
  cases hc:canB g s
  ·have hn:∀n,¬DistG s g.2 g.1 0 (s.length:Int) n:=fun n hd=>by
    have:=canB_iff.2 ⟨hb,dist_prod hd⟩;rw[hc]at this;cases this
   rw[far_none h1 hs hn];rfl
  ·obtain ⟨a1,a2,a3,_⟩:=far_both h1 hs (canB_iff.1 hc).2;rw[zF (by omega),cond_false,cond_true,a1]
abbrev TE:Ty:=ty35
abbrev Edit:Type:=Int×Int×Str
abbrev ed0:Edit:=(0,0,[])
def longOk (s:Str):Bool:=s.all small&&Nat.ble s.length 20
def edit1 (t:Str) (e:Edit):Str:=t.take e.2.1.toNat++(e.2.2++t.drop e.2.1.toNat)
def edit2 (t:Str) (e:Edit):Str:=t.take e.2.1.toNat++(e.2.2++t.drop (e.2.1.toNat+1))
def signAt (t:Str) (i:Int):Str:=(t.drop i.toNat).take 1
def editOk (t:Str) (e:Edit):Bool :=
 bif decide (e.1=1)then decide (0≤e.2.1)&&(decide (e.2.1≤(t.length:Int))&&smallS e.2.2)else
 bif decide (e.1=2)then decide (0≤e.2.1)&&(decide (e.2.1<(t.length:Int))&&decide (e.2.2=[]))else
 bif decide (e.1=3)then decide (0≤e.2.1)&&(decide (e.2.1<(t.length:Int))&&(smallS e.2.2 && !decide (signAt t e.2.1=e.2.2)))else false
def doE (t:Str) (e:Edit):Str:=bif decide (e.1=1)then edit1 t e else edit2 t e
def EdDo (t:Str) (e:Edit):Str×Bool:=bif longOk t&&(editOk t e&&longOk (doE t e))then(doE t e,true)else([],false)
theorem EdDo_true {t:Str} {e:Edit} (h:(EdDo t e).2=true):longOk t=true∧editOk t e=true∧longOk (doE t e)=true∧(EdDo t e).1=doE t e:=by
 unfold EdDo at h ⊢
 cases hb:longOk t&&(editOk t e&&longOk (doE t e))
 ·rw[hb]at h;cases h
 ·simp only[Bool.and_eq_true]at hb;exact⟨hb.1,hb.2.1,hb.2.2,rfl⟩
theorem EdDo_mk {t:Str} {e:Edit} (h1:longOk t=true) (h2:editOk t e=true) (h3:longOk (doE t e)=true):EdDo t e=(doE t e,true):=by
 unfold EdDo;rw[h1,h2,h3];rfl
theorem longOk_iff {s:Str}:longOk s=true↔(∀c∈s,small c=true)∧s.length≤20:=by
 unfold longOk;rw[Bool.and_eq_true,all_eq_true,Nat.ble_eq]
def G_l8Long (s:Str) (i:Int) (K:Cont):Option Fin:=need (decide (0≤i)&&Nat.ble s.length 9223372036854775807)
 (branch ((s.drop i.toNat).all small) (K (.exit 0) ⟨[(0,vS s)],[]⟩) (K .ret ⟨[(2,vB false)],[]⟩))
def g_l8Long:St→Cont→Option Fin:=orc ([(0, .d .str),(3, .d TI64)],[]) fun v=>G_l8Long v.1.1 v.1.2.1
def cx_l8Long:Cx:=cxOf Γ66 Tryz.f137.ntmps [(2,[0,3])] [(0,[0]),(1,[0,3]),(1000000,[2])] [] [(2,g_l8Long)]
theorem x_spec_l8Long (s:Str) (i:Int) (R:St→Option Fin) (K:Cont):evC cx_l8Long (loopOf Tryz.f137 0) ⟨[(0,vS s),(3,vI i)],[]⟩ (onward (headAt cx_l8Long 2) R K) =
 branch (decide (i<(s.length:Int))) (need (inb i s.length) (branch (!smallI (byteAt s i)) (K .ret ⟨[(2,vB false)],[]⟩) (R ⟨[(0,vS s),(3,vI (W64 (i+1)))],[]⟩))) (K (.exit 0) ⟨[(0,vS s)],[]⟩):=by kernel_rfl
theorem l_spec_l8Long:∀st K r,g_l8Long st K=some r→∃N,iter (evC cx_l8Long (loopOf Tryz.f137 0)) (headAt cx_l8Long 2) N st K=some r:=by
 refine orc_ok (loop_rule (fun v=>length v.1.1-Int.toNat v.1.2.1) ?_);rintro⟨⟨(s:Str),(i:Int),⟨⟩⟩,⟨⟩⟩ K r hg R hR;refine(x_spec_l8Long s i R K).trans ?_;replace hg:G_l8Long s i K=some r:=hg;replace hR:∀(s':Str) (i':Int),s'.length-i'.toNat<s.length-i.toNat→G_l8Long s' i' K=some r→R ⟨[(0,vS s'),(3,vI i')],[]⟩=some r:=fun s' i'=>hR ((s',i',()),());unfold G_l8Long at hg hR;obtain⟨hp,hg⟩:=need_some.1 hg;simp only[Bool.and_eq_true,decide_eq_true_eq]at hp;obtain⟨h0,h1⟩:=hp;have h1:length s≤9223372036854775807:=Nat.le_of_ble_eq_true h1
 by_cases hi:i<(s.length:Int)
 ·have hn:i.toNat<s.length:=by omega
  rw[zT hi,branch_true,inb_ok h0 hi,byteAt_get h0 hn,smallI_nat];simp only[need,branch_true];rw[drop_eq_getElem_cons hn,List.all_cons]at hg
  cases hc:small s[i.toNat]
  ·rw[hc]at hg;exact hg
  ·rw[hc,Bool.true_and]at hg;have e:W64 (i+1)=i+1:=wrap_small (by omega) (by omega);rw[Bool.not_true,branch_false,e];refine hR s (i+1) (by omega) (need_some.2 ⟨?_, ?_⟩)
   ·simp only[Bool.and_eq_true,decide_eq_true_eq];exact⟨by omega,Nat.ble_eq_true_of_le h1⟩
   ·rw[show (i+1).toNat=i.toNat+1 by omega];exact hg
 ·rw[zF hi,branch_false];rw[drop_eq_nil_of_le (by omega)]at hg;exact hg
theorem y_spec_l8Long (s:Str):evFn cx_l8Long Tryz.f137 true [ofD .str s] []=need (true&&Nat.ble s.length 9223372036854775807) (branch (s.all small) (some (vB (decide ((s.length:Int)≤20)),[])) (some (vB false,[]))):=by kernel_rfl
theorem s_spec_l8Long (s:Str) (hs:Fit .str s):Sat Tryz.prog 137 [ofD .str s] [] (.d (ofD .bool (longOk s))) [] :=
 fn_sound (cx:=cx_l8Long) Tryz.func137 rfl ttOk Γ66ok mixed (fun c hc=>LoopsOk.one (b:=loopOf Tryz.f137 0) (id:=2) (g:=g_l8Long) (by cases hc;kernel_rfl) rfl l_spec_l8Long) (ro:=true) (by
  rw[y_spec_l8Long,Nat.ble_eq_true_of_le (show s.length≤9223372036854775807 from hs)];unfold longOk;have:decide ((s.length:Int)≤20)=Nat.ble s.length 20:=by
   by_cases h:s.length≤20
   ·rw[Nat.ble_eq_true_of_le h,zT (by omega)]
   ·rw[zF (by omega)]
    cases hb:Nat.ble s.length 20
    ·rfl
    ·exact absurd (Nat.le_of_ble_eq_true hb) h
  rw[this]
  cases s.all small<;>rfl)
def c_spec_l8Long:Con:=conT [.str] fun(s:Str)=>(none, .d (ofD .bool (longOk s)))
theorem k_spec_l8Long:ConOk Tryz.prog 137 c_spec_l8Long:=conT_ok Tryz.call137 fun s hs _=>s_spec_l8Long s hs
def Γ67:GL:=(137,c_spec_l8Long)::Γ66
theorem Γ67ok:GO Γ67 := .cons k_spec_l8Long Γ66ok
theorem and3 (x y z:Bool):(bif (bif x then y else false)then z else false)=(x&&(y&&z)):=by cases x<;>cases y<;>cases z<;>rfl
theorem and2 (x y:Bool):(bif x then y else false)=(x&&y):=by cases x<;>rfl
theorem y_spec_l8Edit (s:Str) (e:Edit):evFn (cxOf Γ67 Tryz.f138.ntmps [] [(0,[]),(1000000,[4])] [] []) Tryz.f138 true [ofD .str s,ofD TE e] [] =
branch (decide (e.1=1)) (some (vB (bif bif decide (0≤e.2.1)then decide (e.2.1≤(s.length:Int))else false then smallS e.2.2 else false),[])) (
 branch (decide (e.1=2)) (some (vB (bif bif decide (0≤e.2.1)then decide (e.2.1<(s.length:Int))else false then decide (e.2.2=[])else false),[])) (
 branch (decide (e.1=3)) (
  need (bif decide ((bif bif decide (0≤e.2.1)then decide (e.2.1<(s.length:Int))else false then smallS e.2.2 else false)=true)then inr e.2.1 (W64 (e.2.1+1)) s.length else true) (
  some (vB (bif bif bif decide (0≤e.2.1)then decide (e.2.1<(s.length:Int))else false then smallS e.2.2 else false then !decide ((s.drop e.2.1.toNat).take ((W64 (e.2.1+1)).toNat-e.2.1.toNat)=e.2.2)else false),[])))
  (some (vB false,[])))):=by kernel_rfl
theorem s_spec_l8Edit (s:Str) (hs:Fit .str s) (e:Edit) (_he:Fit TE e):Sat Tryz.prog 138 [ofD .str s,ofD TE e] [] (.d (ofD .bool (editOk s e))) [] :=
 fn_sound (cx:=cxOf Γ67 Tryz.f138.ntmps [] [(0,[]),(1000000,[4])] [] []) Tryz.func138 rfl ttOk Γ67ok mixed (fun _ _=>LoopsOk.no fun _=>rfl) (ro:=true) (by
  rw[y_spec_l8Edit];obtain⟨k,a,g⟩:=e;have hs:s.length≤9223372036854775807:=hs;unfold editOk
  by_cases k1:k=1
  ·rw[zT k1,and3];rfl
  rw[zF k1,branch_false,cond_false]
  by_cases k2:k=2
  ·rw[zT k2,and3];rfl
  rw[zF k2,branch_false,cond_false]
  by_cases k3:k=3
  ·rw[zT k3,and3,branch_true,cond_true]
   by_cases h0:0≤a
   ·by_cases h1:a<(s.length:Int)
    ·have e1:W64 (a+1)=a+1:=wrap_small (by omega) (by omega);have e2:inr a (a+1) s.length=true:=zT ⟨h0,by omega,by omega⟩;have e3:(a+1).toNat-a.toNat=1:=by omega
     rw[zT h0,zT h1,e1,e2,e3]
     cases smallS g<;>rfl
    ·rw[zT h0,zF h1];rfl
   ·rw[zF h0];rfl
  ·rw[zF k3];rfl)
def c_spec_l8Edit:Con:=conT [.str,TE] fun(s:Str) (e:Edit)=>(none, .d (ofD .bool (editOk s e)))
theorem k_spec_l8Edit:ConOk Tryz.prog 138 c_spec_l8Edit:=conT_ok Tryz.call138 fun s hs e he _=>s_spec_l8Edit s hs e he
def Γ68:GL:=(138,c_spec_l8Edit)::Γ67
theorem Γ68ok:GO Γ68 := .cons k_spec_l8Edit Γ67ok
theorem y_spec_l8Do (s:Str) (e:Edit):evFn (cxOf Γ68 Tryz.f57.ntmps [] [] [] []) Tryz.f57 true [ofD .str s,ofD TE e] [] =
branch (decide (e.1=1)) (
 need (inr 0 e.2.1 s.length) (need (decide ((s.take e.2.1.toNat).length+e.2.2.length≤9223372036854775807)) (need (inr e.2.1 (s.length:Int) s.length)
  (need (decide ((s.take e.2.1.toNat++e.2.2).length+((s.drop e.2.1.toNat).take (s.length-e.2.1.toNat)).length≤9223372036854775807)) (some (vS ((s.take e.2.1.toNat++e.2.2)++(s.drop e.2.1.toNat).take (s.length-e.2.1.toNat)),[]))))))
 (need (inr 0 e.2.1 s.length) (need (decide ((s.take e.2.1.toNat).length+e.2.2.length≤9223372036854775807)) (need (inr (W64 (e.2.1+1)) (s.length:Int) s.length)
  (need (decide ((s.take e.2.1.toNat++e.2.2).length+((s.drop (W64 (e.2.1+1)).toNat).take (s.length-(W64 (e.2.1+1)).toNat)).length≤9223372036854775807)) (some (vS ((s.take e.2.1.toNat++e.2.2)++(s.drop (W64 (e.2.1+1)).toNat).take (s.length-(W64 (e.2.1+1)).toNat)),[])))))):=by kernel_rfl
theorem editOk_range {s:Str} {e:Edit} (h:editOk s e=true):0≤e.2.1∧e.2.1≤(s.length:Int)∧(e.1≠1→e.2.1<(s.length:Int))∧e.2.2.length≤1:=by
 obtain⟨k,a,g⟩:=e;unfold editOk at h
 by_cases k1:k=1
 ·rw[zT k1,cond_true]at h;simp only[Bool.and_eq_true,decide_eq_true_eq]at h;obtain⟨c,h3,_⟩:=smallS_one h.2.2;exact⟨h.1,h.2.1,fun h'=>absurd k1 h',by rw[h3];simp⟩
 rw[zF k1,cond_false]at h
 by_cases k2:k=2
 ·rw[zT k2,cond_true]at h;simp only[Bool.and_eq_true,decide_eq_true_eq]at h;exact⟨h.1,Int.le_of_lt h.2.1,fun _=>h.2.1,by rw[h.2.2];simp⟩
 rw[zF k2,cond_false]at h
 by_cases k3:k=3
 ·rw[zT k3,cond_true]at h;simp only[Bool.and_eq_true,decide_eq_true_eq]at h;obtain⟨c,h3,_⟩:=smallS_one h.2.2.1;exact⟨h.1,Int.le_of_lt h.2.1,fun _=>h.2.1,by rw[h3];simp⟩
 ·rw[zF k3]at h;cases h
theorem take_all {s:Str} {n:Nat}:(s.drop n).take (s.length-n)=s.drop n:=List.take_of_length_le (by simp)
theorem s_spec_l8Do (s:Str) (_hs:Fit .str s) (e:Edit) (_he:Fit TE e) (hpre:(longOk s&&editOk s e)=true):Sat Tryz.prog 57 [ofD .str s,ofD TE e] [] (.d (ofD .str (doE s e))) [] :=
 fn_sound (cx:=cxOf Γ68 Tryz.f57.ntmps [] [] [] []) Tryz.func57 rfl ttOk Γ68ok mixed (fun _ _=>LoopsOk.no fun _=>rfl) (ro:=true) (by
  rw[y_spec_l8Do];rw[Bool.and_eq_true]at hpre;obtain⟨h1,h2⟩:=hpre;have hl:=(longOk_iff.1 h1).2;obtain⟨k,a,g⟩:=e;obtain⟨r1,r2,r3,r4⟩:0≤a∧a≤(s.length:Int)∧(k≠1→a<(s.length:Int))∧g.length≤1:=editOk_range h2;have i1:inr 0 a s.length=true:=zT ⟨by omega,r1,r2⟩;have n1:(s.take a.toNat).length+g.length≤9223372036854775807:=by rw[length_take];omega
  unfold doE
  by_cases k1:k=1
  ·have i2:inr a (s.length:Int) s.length=true:=zT ⟨r1,r2,by omega⟩;have n2:(s.take a.toNat++g).length+(s.drop a.toNat).length≤9223372036854775807:=by rw[length_append,length_take,length_drop];omega
   rw[zT k1,branch_true,cond_true,i1,zT n1,i2,take_all,zT n2,append_assoc];rfl
  ·have:=r3 k1;have e1:W64 (a+1)=a+1:=wrap_small (by omega) (by omega);have i2:inr (a+1) (s.length:Int) s.length=true:=zT ⟨by omega,by omega,by omega⟩;have n2:(s.take a.toNat++g).length+(s.drop (a+1).toNat).length≤9223372036854775807:=by rw[length_append,length_take,length_drop];omega
   rw[zF k1,branch_false,cond_false,e1,i1,zT n1,i2,take_all,zT n2,append_assoc];show some (vS (s.take a.toNat++(g++s.drop (a+1).toNat)),[])=some (vS (s.take a.toNat++(g++s.drop (a.toNat+1))),[]);rw[show (a+1).toNat=a.toNat+1 by omega])
def c_spec_l8Do:Con:=conT [.str,TE] fun(s:Str) (e:Edit)=>(some (longOk s&&editOk s e), .d (ofD .str (doE s e)))
theorem k_spec_l8Do:ConOk Tryz.prog 57 c_spec_l8Do:=conT_ok Tryz.call57 fun s hs e he hqq=>s_spec_l8Do s hs e he (pre_of hqq)
def Γ69:GL:=(57,c_spec_l8Do)::Γ68
theorem Γ69ok:GO Γ69 := .cons k_spec_l8Do Γ68ok
def editR (x:Str×Bool):T := .tup [ofD .str x.1,ofD .bool x.2]
theorem y_spec_EditDo (s:Str) (e:Edit):evFn (cxOf Γ69 Tryz.f104.ntmps [] [] [] []) Tryz.f104 true [ofD .str s,ofD TE e] [] =
need (bif decide ((bif !longOk s then true else !editOk s e)=false)then longOk s&&editOk s e else true) (
 branch (bif bif !longOk s then true else !editOk s e then true else !longOk (doE s e)) (some (editR ([],false),[])) (need (longOk s&&editOk s e) (some (editR (doE s e,true),[])))):=by kernel_rfl
theorem s_spec_EditDo (s:Str) (_hs:Fit .str s) (e:Edit) (_he:Fit TE e):Sat Tryz.prog 104 [ofD .str s,ofD TE e] [] (editR (EdDo s e)) [] :=
 fn_sound (cx:=cxOf Γ69 Tryz.f104.ntmps [] [] [] []) Tryz.func104 rfl ttOk Γ69ok mixed (fun _ _=>LoopsOk.no fun _=>rfl) (ro:=true) (by
  rw[y_spec_EditDo];unfold EdDo
  cases longOk s
  ·rfl
  ·cases editOk s e
   ·rfl
   ·cases longOk (doE s e)<;>rfl)
def c_spec_EditDo:Con:=conT [.str,TE] fun(s:Str) (e:Edit)=>(none,editR (EdDo s e))
theorem k_spec_EditDo:ConOk Tryz.prog 104 c_spec_EditDo:=conT_ok Tryz.call104 fun s hs e he _=>s_spec_EditDo s hs e he
def Γ70:GL:=(104,c_spec_EditDo)::Γ69
theorem Γ70ok:GO Γ70 := .cons k_spec_EditDo Γ69ok
theorem areSm_20 (s:Str):areSm s 20=longOk s:=by
 unfold areSm longOk;have:decide ((s.length:Int)≤20)=Nat.ble s.length 20:=by
  by_cases h:s.length≤20
  ·rw[Nat.ble_eq_true_of_le h,zT (by omega)]
  ·rw[zF (by omega)]
   cases hb:Nat.ble s.length 20
   ·rfl
   ·exact absurd (Nat.le_of_ble_eq_true hb) h
 rw[this,and2,Bool.and_comm]
theorem long_edit1 {s:Str} {a:Int} {c:UInt8} (h:longOk s=true) (hc:small c=true) (ha:a.toNat≤s.length):longOk (s.take a.toNat++([c]++s.drop a.toNat))=decide (s.length<20):=by
 have hl:=longOk_iff.1 h;have hn:(s.take a.toNat++([c]++s.drop a.toNat)).length=s.length+1:=by simp only[length_append,length_take,length_drop,length_singleton];omega
 by_cases g:s.length<20
 ·rw[zT g];refine longOk_iff.2 ⟨fun x hx => ?_,by omega⟩;simp only[mem_append,mem_singleton]at hx;rcases hx with hx | rfl | hx
  ·exact hl.1 x (List.mem_of_mem_take hx)
  ·exact hc
  ·exact hl.1 x (List.mem_of_mem_drop hx)
 ·rw[zF g]
  cases hq:longOk (s.take a.toNat++([c]++s.drop a.toNat))
  ·rfl
  ·have:=(longOk_iff.1 hq).2;omega
theorem long_edit2 {s g:Str} {a:Int} (h:longOk s=true) (hc:∀x∈g,small x=true) (hg:g.length≤1) (ha:a.toNat<s.length):longOk (s.take a.toNat++(g++s.drop (a.toNat+1)))=true:=by
 have hl:=longOk_iff.1 h;refine longOk_iff.2 ⟨fun x hx => ?_,by simp only[length_append,length_take,length_drop];omega⟩;simp only[mem_append]at hx;rcases hx with hx | hx | hx
 ·exact hl.1 x (List.mem_of_mem_take hx)
 ·exact hc x hx
 ·exact hl.1 x (List.mem_of_mem_drop hx)
theorem y_impl_EditDo (s:Str) (e:Edit):evFn (cxOf Γ70 Tryz.f21.ntmps [] [(0,[]),(1000000,[4,5])] [] []) Tryz.f21 true [ofD .str s,ofD TE e] [] =
branch (bif bif bif !areSm s 20 then true else decide (e.2.1<0)then true else decide ((s.length:Int)<e.2.1)then true else bif !decide (e.1=1)then decide (e.2.1=(s.length:Int))else false) (some (editR ([],false),[])) (
 branch (bif bif decide (e.1=1)then smallS e.2.2 else false then decide ((s.length:Int)<20)else false) (
 need (inr 0 e.2.1 s.length) (need (decide ((s.take e.2.1.toNat).length+e.2.2.length≤9223372036854775807)) (need (inr e.2.1 (s.length:Int) s.length)
  (need (decide ((s.take e.2.1.toNat++e.2.2).length+((s.drop e.2.1.toNat).take (s.length-e.2.1.toNat)).length≤9223372036854775807)) (
  some (editR ((s.take e.2.1.toNat++e.2.2)++(s.drop e.2.1.toNat).take (s.length-e.2.1.toNat),true),[]))))))
 (branch (bif decide (e.1=2)then decide (e.2.2=[])else false) (
  need (inr 0 e.2.1 s.length) (need (inr (W64 (e.2.1+1)) (s.length:Int) s.length)
  (need (decide ((s.take e.2.1.toNat).length+((s.drop (W64 (e.2.1+1)).toNat).take (s.length-(W64 (e.2.1+1)).toNat)).length≤9223372036854775807)) (
   some (editR (s.take e.2.1.toNat++(s.drop (W64 (e.2.1+1)).toNat).take (s.length-(W64 (e.2.1+1)).toNat),true),[])))))
  (need (bif decide ((bif decide (e.1=3)then smallS e.2.2 else false)=true)then inr e.2.1 (W64 (e.2.1+1)) s.length else true) (
  branch (bif bif decide (e.1=3)then smallS e.2.2 else false then !decide ((s.drop e.2.1.toNat).take ((W64 (e.2.1+1)).toNat-e.2.1.toNat)=e.2.2)else false) (
   need (inr 0 e.2.1 s.length) (need (decide ((s.take e.2.1.toNat).length+e.2.2.length≤9223372036854775807)) (need (inr (W64 (e.2.1+1)) (s.length:Int) s.length)
  (need (decide ((s.take e.2.1.toNat++e.2.2).length+((s.drop (W64 (e.2.1+1)).toNat).take (s.length-(W64 (e.2.1+1)).toNat)).length≤9223372036854775807)) (
  some (editR ((s.take e.2.1.toNat++e.2.2)++(s.drop (W64 (e.2.1+1)).toNat).take (s.length-(W64 (e.2.1+1)).toNat),true),[]))))))
   (some (editR ([],false),[])))))):=by kernel_rfl
theorem s_impl_EditDo (s:Str) (_hs:Fit .str s) (e:Edit) (he:Fit TE e):Sat Tryz.prog 21 [ofD .str s,ofD TE e] [] (editR (EdDo s e)) [] :=
 fn_sound (cx:=cxOf Γ70 Tryz.f21.ntmps [] [(0,[]),(1000000,[4,5])] [] []) Tryz.func21 rfl ttOk Γ70ok mixed (fun _ _=>LoopsOk.no fun _=>rfl) (ro:=true) (by
  rw[y_impl_EditDo,areSm_20];obtain⟨k,a,g⟩:=e
  cases hlo:longOk s
  ·have:EdDo s (k,a,g)=([],false):=by unfold EdDo;rw[hlo];rfl
   rw[this];rfl
  have hl:=(longOk_iff.1 hlo).2;have bad:editOk s (k,a,g)=false→EdDo s (k,a,g)=([],false):=fun h=>by unfold EdDo;rw[h,hlo];rfl
  dsimp only
  by_cases ha:a<0
  ·rw[zT ha,bad (by unfold editOk;simp only;rw[zF (by omega:¬ 0≤a)];cases decide (k=1)<;>cases decide (k=2)<;>cases decide (k=3)<;>rfl)];rfl
  rw[zF ha]
  by_cases hb:(s.length:Int)<a
  ·rw[zT hb,bad (by unfold editOk;simp only;rw[zF (by omega:¬a≤(s.length:Int)),zF (by omega:¬a<(s.length:Int))];cases decide (0≤a)<;>cases decide (k=1)<;>cases decide (k=2)<;>cases decide (k=3)<;>rfl)];rfl
  rw[zF hb];have i1:inr 0 a s.length=true:=zT ⟨by omega,by omega,by omega⟩;have l0:(s.take a.toNat).length≤20:=by rw[length_take];omega
  by_cases k1:k=1
  ·subst k1;have i2:inr a (s.length:Int) s.length=true:=zT ⟨by omega,by omega,by omega⟩
   cases hg:smallS g
   ·rw[bad (by unfold editOk;simp only;rw[hg];cases decide (0≤a)<;>cases decide (a≤(s.length:Int))<;>rfl)];rfl
   ·obtain ⟨c,rfl,hc⟩:=smallS_one hg;have he:=long_edit1 (a:=a) hlo hc (by omega);have ho:editOk s (1,a,[c])=true:=by
     unfold editOk;simp only;rw[hg,zT (by omega:0≤a),zT (by omega:a≤(s.length:Int))];rfl
    by_cases hn:s.length<20
    ·have:EdDo s (1,a,[c])=(s.take a.toNat++([c]++s.drop a.toNat),true):=EdDo_mk hlo ho (he.trans (zT hn));rw[this];have n1:(s.take a.toNat).length+[c].length≤9223372036854775807:=by simp only[length_singleton];omega
     have n2:(s.take a.toNat++[c]).length+(s.drop a.toNat).length≤9223372036854775807:=by simp only[length_append,length_singleton,length_drop];omega
     rw[zT (by omega:(s.length:Int)<20),i1,zT n1,i2,take_all,zT n2,append_assoc];rfl
    ·have:EdDo s (1,a,[c])=([],false):=by
      unfold EdDo;rw[show longOk (doE s (1,a,[c]))=false from he.trans (zF hn),hlo,ho];rfl
     rw[this,zF (by omega:¬(s.length:Int)<20)];rfl
  ·rw[zF k1]
   by_cases hq:a=(s.length:Int)
   ·rw[zT hq,bad (by unfold editOk;simp only;rw[zF k1,zF (by omega:¬a<(s.length:Int))];cases decide (0≤a)<;>cases decide (k=2)<;>cases decide (k=3)<;>rfl)];rfl
   ·have hlt:a<(s.length:Int):=by omega
    have e1:W64 (a+1)=a+1:=wrap_small (by omega) (by omega);have e4:(a+1).toNat=a.toNat+1:=by omega
    have i2:inr (a+1) (s.length:Int) s.length=true:=zT ⟨by omega,by omega,by omega⟩;have i3:inr a (a+1) s.length=true:=zT ⟨by omega,by omega,by omega⟩;have l1:(s.drop (a.toNat+1)).length≤20:=by rw[length_drop];omega
    rw[zF hq,e1,e4,i1,i2,i3,take_all (n:=a.toNat+1)]
    by_cases k2:k=2
    ·subst k2
     by_cases hg:g=[]
     ·subst hg;have he:longOk (doE s (2,a,[]))=true:=long_edit2 (g:=[]) (a:=a) hlo (fun x hx=>by cases hx) (by simp) (by omega);have ho:editOk s (2,a,[])=true:=by unfold editOk;simp only;rw[zT (by omega:0≤a),zT hlt];rfl
      rw[EdDo_mk hlo ho he,zT (by omega:(s.take a.toNat).length+(s.drop (a.toNat+1)).length≤9223372036854775807)];rfl
     ·rw[bad (by unfold editOk;simp only;rw[zF hg];cases decide (0≤a)<;>cases decide (a<(s.length:Int))<;>rfl),zF hg];rfl
    ·rw[zF k2]
     by_cases k3:k=3
     ·subst k3
      cases hg:smallS g
      ·rw[bad (by unfold editOk;simp only;rw[hg];cases decide (0≤a)<;>cases decide (a<(s.length:Int))<;>rfl)];rfl
      ·obtain ⟨c,rfl,hc⟩:=smallS_one hg;have e5:(s.drop a.toNat).take (a.toNat+1-a.toNat)=signAt s a:=by rw[show a.toNat+1-a.toNat=1 by omega];rfl
       rw[e5]
       by_cases hsg:signAt s a=[c]
       ·rw[bad (by unfold editOk;simp only;rw[zT hsg];cases decide (0≤a)<;>cases decide (a<(s.length:Int))<;>cases smallS [c]<;>rfl),zT hsg];rfl
       ·have he:longOk (doE s (3,a,[c]))=true:=long_edit2 (g:=[c]) (a:=a) hlo (fun x hx=>by rw[mem_singleton.1 hx];exact hc) (by simp) (by omega);have ho:editOk s (3,a,[c])=true:=by unfold editOk;simp only;rw[zT (by omega:0≤a),zT hlt,hg,zF hsg];rfl
        have n1:(s.take a.toNat).length+[c].length≤9223372036854775807:=by simp only[length_singleton];omega
        have n2:(s.take a.toNat++[c]).length+(s.drop (a.toNat+1)).length≤9223372036854775807:=by simp only[length_append,length_singleton];omega
        rw[EdDo_mk hlo ho he,zF hsg,zT n1,zT n2,append_assoc (s.take a.toNat) [c] (s.drop (a.toNat+1))];rfl
     ·rw[bad (by unfold editOk;simp only;rw[zF k1,zF k2,zF k3];rfl),zF k3];rfl)
def c_impl_EditDo:Con:=conT [.str,TE] fun(s:Str) (e:Edit)=>(none,editR (EdDo s e))
theorem k_impl_EditDo:ConOk Tryz.prog 21 c_impl_EditDo:=conT_ok Tryz.call21 fun s hs e he _=>s_impl_EditDo s hs e he
def Γ71:GL:=(21,c_impl_EditDo)::Γ70
theorem Γ71ok:GO Γ71 := .cons k_impl_EditDo Γ70ok
theorem mend_cases {g:Gram} {s:Str}:(mendV g s = -1∧canB g s=false)∨(canB g s=true∧mendV g s=farV g s∧0≤farV g s∧both2 g s=true∧okG g=true∧length s≤8∧prodG g):=by
 cases hc:canB g s
 ·refine .inl ⟨?_,rfl⟩;rw[mend_same];unfold sMendV;rw[hc];rfl
 ·obtain ⟨h1,h2⟩:=canB_iff.1 hc;obtain⟨h3,h4⟩:=both2_iff.1 h1;have hl:=(areSm_iff.1 h4).1;obtain⟨a1,a2,_⟩:=far_both h3 (by omega:length s≤1000) h2;refine .inr ⟨rfl, ?_,a2,h1,h3,by omega,h2⟩;rw[mend_same];unfold sMendV;rw[hc,cond_true,a1]
theorem EdDo_short {s:Str} {e:Edit} (h:(EdDo s e).2=true):longOk (EdDo s e).1=true∧length (EdDo s e).1≤20:=by
 obtain⟨_,_,h3,h4⟩:=EdDo_true h;rw[h4];exact⟨h3,(longOk_iff.1 h3).2⟩
def cb_nr:Cx:=cxOf Γ71 Tryz.f53.ntmps [(16,[1,2,3,6,9,23,24,54,55,56]),(10,[1,2,3,6,9,10,11,13,23,24,30,31,32,37,38]),(7,[1,2,3,6,9,10,11,23,24,30,31,32]),(3,[1,2,3,6,9,23,24])] [(0,[6]),(1,[1,2,3,6,9,23,24]),(6,[1,2,3,6,9,23,24]),(7,[1,2,3,6,9,23,24,54,55,56]),(2,[1,2,3,6,9,11,23,24]),(3,[1,2,3,6,9,10,11,23,24,30,31,32]),(4,[1,2,3,6,9,10,11,23,24,30,31,32]),(5,[1,2,3,6,9,10,11,13,23,24,30,31,32,37,38]),(1000000,[6,7,8])] [] []
abbrev st_nr3 (s:Str) (f:Int) (c:Str) (n i m k:Int) (g:Gram) (q:Edit) (l:List (Edit)):St:=⟨[(1,vS s),(2,vI f),(3, kp0),(6, kp1),(9,vS c),(23,vI n),(24,vI i),(54, ko2),(55,vI m),(56,vI k)],[(500000,some (boxD 25 TG g)),(500001,some (boxD 35 TE q)),(500002,some (.lis 35 TE l))]⟩
theorem x_impl_nearer_3 (g:Gram) (s c:Str) (f n i m k:Int) (q:Edit) (l:List Edit) (R:St→Option Fin) (K:Cont):evC (cb_nr.withLoops (look [])) (loopOf Tryz.f53 3) (st_nr3 s f c n i m k g q l) (onward (headAt (cb_nr.withLoops (look [])) 16) R K)=(
branch (decide (k<m)) (
 need (inb k l.length) <|
 need (bif decide ((EdDo s (l.getD k.toNat ed0)).snd=true)then okRd g.snd&&decide ((length (EdDo s (l.getD k.toNat ed0)).fst)≤1000)else true) <|
 branch (bif (EdDo s (l.getD k.toNat ed0)).snd then decide (dofV (EdDo s (l.getD k.toNat ed0)).fst (distM (EdDo s (l.getD k.toNat ed0)).fst g.snd) g.fst 0 (length (EdDo s (l.getD k.toNat ed0)).fst:Int)<f)else false) ( K (.ret) (.mk [(6,kp0),(7,(vS (EdDo s (l.getD k.toNat ed0)).fst)),(8,vB true)] [(500000,(.some (.box 35 [(.r (.v (Value.int IntKind.i64 (l.getD k.toNat ed0).fst))),(.r (.v (Value.int IntKind.i64 (l.getD k.toNat ed0).snd.fst))),(.r (.v (Value.string (mk (l.getD k.toNat ed0).snd.snd))))])))])) ( R (st_nr3 s f c n i m (W64 (k+1)) g q l))) ( K (.exit 6) (.mk [(1,vS s),(2,vI f),(3,kp0),(6,kp1),(9,vS c),(23,vI n),(24,vI i)] [(500000,some (boxD 25 TG g)),(500001,some (boxD 35 TE q))]))):=by kernel_rfl
def okN (F:Str→Int) (s:Str) (f:Int) (e:Edit):Bool:=bif (EdDo s e).2 then decide (F (EdDo s e).1<f)else false
def fstE (p:Edit→Bool):List Edit→Option Edit
 | []=>none
 |e::l=>bif p e then some e else fstE p l
theorem dropE_at {l:List Edit} {k:Int} (h0:0≤k) (h1:k<(length l:Int)):List.drop k.toNat l=getD l k.toNat ed0::List.drop (k+1).toNat l:=by
 have hn:k.toNat<length l:=by omega
 rw[drop_eq_getElem_cons hn,show (k+1).toNat=k.toNat+1 by omega,zG,zE hn];rfl
def nrR (g:Gram) (s c:Str) (f n i:Int) (q:Edit) (K:Cont) (o:Option Edit):Option Fin:=branch o.isSome
 (K .ret ⟨[(6, kp0),(7,vS (EdDo s (o.getD ed0)).1),(8,vB true)],[(500000,some (boxD 35 TE (o.getD ed0)))]⟩)
 (K (.exit 6) ⟨[(1,vS s),(2,vI f),(3, kp0),(6, kp1),(9,vS c),(23,vI n),(24,vI i)],[(500000,some (boxD 25 TG g)),(500001,some (boxD 35 TE q))]⟩)
def cx0_nr3:Cx:=(cb_nr).withLoops (look [])
def sh_nr3:Sh:=([(1, .d .str),(2, .d TI64),(3, .ptr 500000 0),(6, .ptr 500001 0),(9, .d .str),(23, .d TI64),(24, .d TI64),(54, .own 500002),(55, .d TI64),(56, .d TI64)],[(500000, .box 25 TG),(500001, .box 35 TE),(500002, .lis 35 TE)])
def pre_nr3 (_s:Str) (_f:Int) (_c:Str) (_n _i m k:Int) (g:Gram) (_q:Edit) (l:List (Edit)):Bool:=decide (0≤k)&&(decide (m=(length l:Int))&&(okRd g.2&&decide (length l≤1000)))
def res_nr3 (s:Str) (f:Int) (c:Str) (n i _m k:Int) (g:Gram) (q:Edit) (l:List (Edit)) (K:Cont):Option Fin:=nrR g s c f n i q K (fstE (okN (farV g) s f) (List.drop k.toNat l))
def mu_nr3 (_s:Str) (_f:Int) (_c:Str) (_n _i _m k:Int) (_g:Gram) (_q:Edit) (l:List (Edit)):Nat:=length l-k.toNat
theorem r_nr3 (s:Str) (f:Int) (c:Str) (n i m k:Int) (g:Gram) (q:Edit) (l:List (Edit)) (K:Cont) (hI:pre_nr3 s f c n i m k g q l=true):(∀R:St→Option Fin,evC cx0_nr3 (loopOf Tryz.f53 3) (st_nr3 s f c n i m k g q l) (onward (headAt cx0_nr3 16) R K)=res_nr3 s f c n i m k g q l K) ∨
  (∃(s':Str) (f':Int) (c':Str) (n' i' m' k':Int) (g':Gram) (q':Edit) (l':List (Edit)),pre_nr3 s' f' c' n' i' m' k' g' q' l'=true∧mu_nr3 s' f' c' n' i' m' k' g' q' l'<mu_nr3 s f c n i m k g q l∧res_nr3 s' f' c' n' i' m' k' g' q' l' K=res_nr3 s f c n i m k g q l K∧∀R:St→Option Fin,evC cx0_nr3 (loopOf Tryz.f53 3) (st_nr3 s f c n i m k g q l) (onward (headAt cx0_nr3 16) R K)=R (st_nr3 s' f' c' n' i' m' k' g' q' l')):=by
 have hx:=fun R=>x_impl_nearer_3 g s c f n i m k q l R K;simp only[pre_nr3,andd,dec_iff]at hI;obtain⟨h0,rfl,h2,h3⟩:=hI
 by_cases hk:k<(length l:Int)
 ·have w:W64 (k+1)=k+1:=wrap_small (by omega) (by omega);have hd:=dropE_at h0 hk;have kk:(bif decide ((EdDo s (getD l k.toNat ed0)).2=true)then okRd g.2&&decide ((length (EdDo s (getD l k.toNat ed0)).1)≤1000)else true)=true:=by
   cases hb:(EdDo s (getD l k.toNat ed0)).2
   ·rfl
   ·have:=(EdDo_short hb).2;exact andd.2 ⟨h2,zT (by omega)⟩
  rw[zT hk,inb_ok h0 hk,kk,w]at hx;change ∀R:St→Option Fin,_=branch (okN (farV g) s f (getD l k.toNat ed0)) _ _ at hx;have hf:fstE (okN (farV g) s f) (List.drop k.toNat l)=bif okN (farV g) s f (getD l k.toNat ed0)then some (getD l k.toNat ed0)else fstE (okN (farV g) s f) (List.drop (k+1).toNat l):=by rw[hd];rfl
  cases hc:okN (farV g) s f (getD l k.toNat ed0)
  ·rw[hc]at hx hf;right;refine⟨s,f,c,n,i,(length l:Int),k+1,g,q,l, ?_, ?_, ?_,fun R=>hx R⟩
   ·simp only[pre_nr3,andd,dec_iff];exact⟨by omega,trivial,h2,h3⟩
   ·simp only[mu_nr3];omega
   ·simp only[res_nr3,hf];rfl
  ·rw[hc]at hx hf;left;intro R;refine(hx R).trans ?_;simp only[res_nr3,hf];rfl
 ·left;intro R;refine(hx R).trans ?_;rw[zF hk];have e:List.drop k.toNat l=[]:=drop_eq_nil_of_le (by omega);simp only[res_nr3,e];rfl
def g_nr3:St→Cont→Option Fin:=gP sh_nr3 (fun v=>match v with | ((s,f,c,n,i,m,k,()),(g,q,l,()))=>pre_nr3 s f c n i m k g q l) (fun v K=>match v with | ((s,f,c,n,i,m,k,()),(g,q,l,()))=>res_nr3 s f c n i m k g q l K)
def L_nr3:LpL:=(16,g_nr3)::[]
theorem l_nr3 {L:LpL} (n:Nat) (h1:L.drop n=[]) (h2:idsFree (L.take n) (loopOf Tryz.f53 3)=true):LoopsTo g_nr3 (cb_nr) (loopOf Tryz.f53 3) 16 L :=
 with_drop h1 h2 (gP_ok (fun v=>match v with | ((s,f,c,n,i,m,k,()),(g,q,l,()))=>mu_nr3 s f c n i m k g q l) fun v K hI=>by
  obtain⟨⟨s,f,c,n,i,m,k,⟨⟩⟩,⟨g,q,l,⟨⟩⟩⟩:=v;exact(r_nr3 s f c n i m k g q l K hI).imp id fun⟨s',f',c',n',i',m',k',g',q',l',h⟩=>⟨((s',f',c',n',i',m',k',()),(g',q',l',())),h⟩)
abbrev st_nr2 (s:Str) (f:Int) (c:Str) (a d n i x y m k:Int) (g:Gram) (q:Edit) (l:List (Edit)) (z:List (Int)):St:=⟨[(1,vS s),(2,vI f),(3, kp0),(6, kp1),(9,vS c),(10,vI a),(11, ko2),(13,vI d),(23,vI n),(24,vI i),(30, ko3),(31,vI x),(32,vI y),(37,vI m),(38,vI k)],[(500000,some (boxD 25 TG g)),(500001,some (boxD 35 TE q)),(500002,some (.lis 35 TE l)),(500003,some (.lis 3 TI64 z))]⟩
theorem x_impl_nearer_2 (g:Gram) (s c:Str) (f a d n i x y m k:Int) (q:Edit) (l:List Edit) (z:List Int) (R:St→Option Fin) (K:Cont):evC (cb_nr.withLoops (look L_nr3)) (loopOf Tryz.f53 2) (st_nr2 s f c a d n i x y m k g q l z) (onward (headAt (cb_nr.withLoops (look L_nr3)) 10) R K)=(
branch (decide (k<m)) (
 need (inr k (W64 (k+1)) c.length) <|
 need (fits (l.length+[(d,a,List.take ((W64 (k+1)).toNat-k.toNat) (List.drop k.toNat c))].length) Tryz.t35.bytes) <| R (st_nr2 s f c a d n i x y m (W64 (k+1)) g q (l.append [(d,a,List.take ((W64 (k+1)).toNat-k.toNat) (List.drop k.toNat c))]) z)) ( K (.exit 4) (.mk [(1,vS s),(2,vI f),(3,kp0),(6,kp1),(9,vS c),(10,vI a),(11,ko2),(23,vI n),(24,vI i),(30,ko3),(31,vI x),(32,vI y)] [(500000,some (boxD 25 TG g)),(500001,some (boxD 35 TE q)),(500002,some (.lis 35 TE l)),(500003,some (.lis 3 TI64 z))]))):=by kernel_rfl
def addE (a:Int) (c:Str) (d:Int):List Edit:=List.map (fun x=>((d,a,[x]):Edit)) c
theorem editFits {n m:Nat} (h:n+m≤100000):fits (n+m) Tryz.t35.bytes=true:=fits_ok h (by decide)
theorem dropC_at {s:Str} {i:Int} (h0:0≤i) (h1:i<(s.length:Int)):s.drop i.toNat=s.getD i.toNat 0::s.drop (i+1).toNat:=by
 have hn:i.toNat<s.length:=by omega
 rw[drop_eq_getElem_cons hn,show (i+1).toNat=i.toNat+1 by omega,zG,zE hn];rfl
def cx0_nr2:Cx:=(cb_nr).withLoops (look L_nr3)
def sh_nr2:Sh:=([(1, .d .str),(2, .d TI64),(3, .ptr 500000 0),(6, .ptr 500001 0),(9, .d .str),(10, .d TI64),(11, .own 500002),(13, .d TI64),(23, .d TI64),(24, .d TI64),(30, .own 500003),(31, .d TI64),(32, .d TI64),(37, .d TI64),(38, .d TI64)],[(500000, .box 25 TG),(500001, .box 35 TE),(500002, .lis 35 TE),(500003, .lis 3 TI64)])
def pre_nr2 (_s:Str) (_f:Int) (c:Str) (_a _d _n _i _x _y m k:Int) (_g:Gram) (_q:Edit) (l:List (Edit)) (_z:List (Int)):Bool:=decide (0≤k)&&(decide (m=(length c:Int))&&(decide (length c≤10)&&decide ((length l:Int)+m-k≤1000)))
def res_nr2 (s:Str) (f:Int) (c:Str) (a d n i x y _m k:Int) (g:Gram) (q:Edit) (l:List (Edit)) (z:List (Int)) (K:Cont):Option Fin:=K (.exit 4) ⟨[(1,vS s),(2,vI f),(3, kp0),(6, kp1),(9,vS c),(10,vI a),(11, ko2),(23,vI n),(24,vI i),(30, ko3),(31,vI x),(32,vI y)],[(500000,some (boxD 25 TG g)),(500001,some (boxD 35 TE q)),(500002,some (.lis 35 TE (l++addE a (List.drop k.toNat c) d))),(500003,some (.lis 3 TI64 z))]⟩
def mu_nr2 (_s:Str) (_f:Int) (c:Str) (_a _d _n _i _x _y _m k:Int) (_g:Gram) (_q:Edit) (_l:List (Edit)) (_z:List (Int)):Nat:=length c-k.toNat
theorem r_nr2 (s:Str) (f:Int) (c:Str) (a d n i x y m k:Int) (g:Gram) (q:Edit) (l:List (Edit)) (z:List (Int)) (K:Cont) (hI:pre_nr2 s f c a d n i x y m k g q l z=true):(∀R:St→Option Fin,evC cx0_nr2 (loopOf Tryz.f53 2) (st_nr2 s f c a d n i x y m k g q l z) (onward (headAt cx0_nr2 10) R K)=res_nr2 s f c a d n i x y m k g q l z K) ∨
  (∃(s':Str) (f':Int) (c':Str) (a' d' n' i' x' y' m' k':Int) (g':Gram) (q':Edit) (l':List (Edit)) (z':List (Int)),pre_nr2 s' f' c' a' d' n' i' x' y' m' k' g' q' l' z'=true∧mu_nr2 s' f' c' a' d' n' i' x' y' m' k' g' q' l' z'<mu_nr2 s f c a d n i x y m k g q l z∧res_nr2 s' f' c' a' d' n' i' x' y' m' k' g' q' l' z' K=res_nr2 s f c a d n i x y m k g q l z K∧∀R:St→Option Fin,evC cx0_nr2 (loopOf Tryz.f53 2) (st_nr2 s f c a d n i x y m k g q l z) (onward (headAt cx0_nr2 10) R K)=R (st_nr2 s' f' c' a' d' n' i' x' y' m' k' g' q' l' z')):=by
 have hx:=fun R=>x_impl_nearer_2 g s c f a d n i x y m k q l z R K;simp only[pre_nr2,andd,dec_iff]at hI;obtain⟨h0,rfl,h2,h3⟩:=hI
 by_cases hk:k<(length c:Int)
 ·have w:W64 (k+1)=k+1:=wrap_small (by omega) (by omega);have hd:l++addE a (List.drop k.toNat c) d=(l++[(d,a,[getD c k.toNat 0])])++addE a (List.drop (k+1).toNat c) d:=by
   rw[dropC_at h0 hk,append_assoc];rfl
  rw[zT hk,w,inr_iff.2 (by omega:0≤k∧k≤k+1∧k+1≤(length c:Int)),slice_one h0 hk,editFits (by rw[length_singleton];omega)]at hx;right;refine⟨s,f,c,a,d,n,i,x,y,(length c:Int),k+1,g,q,l++[(d,a,[getD c k.toNat 0])],z, ?_, ?_, ?_,fun R=>hx R⟩
  ·simp only[pre_nr2,andd,dec_iff];rw[length_append,length_singleton];exact⟨by omega,trivial,h2,by omega⟩
  ·simp only[mu_nr2];omega
  ·simp only[res_nr2,hd]
 ·left;intro R;refine(hx R).trans ?_;rw[zF hk];have e:l++addE a (List.drop k.toNat c) d=l:=by
   rw[drop_eq_nil_of_le (by omega)];exact List.append_nil l
  simp only[res_nr2,e];rfl
def g_nr2:St→Cont→Option Fin:=gP sh_nr2 (fun v=>match v with | ((s,f,c,a,d,n,i,x,y,m,k,()),(g,q,l,z,()))=>pre_nr2 s f c a d n i x y m k g q l z) (fun v K=>match v with | ((s,f,c,a,d,n,i,x,y,m,k,()),(g,q,l,z,()))=>res_nr2 s f c a d n i x y m k g q l z K)
def L_nr2:LpL:=(10,g_nr2)::L_nr3
theorem l_nr2 {L:LpL} (n:Nat) (h1:L.drop n=L_nr3) (h2:idsFree (L.take n) (loopOf Tryz.f53 2)=true):LoopsTo g_nr2 (cb_nr) (loopOf Tryz.f53 2) 10 L :=
 with_drop h1 h2 (gP_ok (fun v=>match v with | ((s,f,c,a,d,n,i,x,y,m,k,()),(g,q,l,z,()))=>mu_nr2 s f c a d n i x y m k g q l z) fun v K hI=>by
  obtain⟨⟨s,f,c,a,d,n,i,x,y,m,k,⟨⟩⟩,⟨g,q,l,z,⟨⟩⟩⟩:=v;exact(r_nr2 s f c a d n i x y m k g q l z K hI).imp id fun⟨s',f',c',a',d',n',i',x',y',m',k',g',q',l',z',h⟩=>⟨((s',f',c',a',d',n',i',x',y',m',k',()),(g',q',l',z',())),h⟩)
abbrev st_nr1 (s:Str) (f:Int) (c:Str) (a n i x y:Int) (g:Gram) (q:Edit) (l:List (Edit)) (z:List (Int)):St:=⟨[(1,vS s),(2,vI f),(3, kp0),(6, kp1),(9,vS c),(10,vI a),(11, ko2),(23,vI n),(24,vI i),(30, ko3),(31,vI x),(32,vI y)],[(500000,some (boxD 25 TG g)),(500001,some (boxD 35 TE q)),(500002,some (.lis 35 TE l)),(500003,some (.lis 3 TI64 z))]⟩
theorem x_impl_nearer_1 (g:Gram) (s c:Str) (f a n i x y:Int) (q:Edit) (l:List Edit) (z:List Int) (R:St→Option Fin) (K:Cont):evC (cb_nr.withLoops (look L_nr2)) (loopOf Tryz.f53 1) (st_nr1 s f c a n i x y g q l z) (onward (headAt (cb_nr.withLoops (look L_nr2)) 7) R K)=(
branch (decide (y<x)) (
 need (inb y z.length) <|
 need (pre_nr2 s f c a (z.getD y.toNat 0) n i x y ((c.length:Int)) 0 g q l z) <| R (st_nr1 s f c a n i x (W64 (y+1)) g q (l.append (addE a c (z.getD y.toNat 0))) z)) ( K (.exit 2) (.mk [(1,vS s),(2,vI f),(3,kp0),(6,kp1),(9,vS c),(11,ko2),(23,vI n),(24,vI i)] [(500000,some (boxD 25 TG g)),(500001,some (boxD 35 TE q)),(500002,some (.lis 35 TE l))]))):=by kernel_rfl
def kindsE (a:Int) (c:Str) (z:List Int):List Edit:=List.flatMap (addE a c) z
theorem dropI_at {l:List Int} {i:Int} (h0:0≤i) (h1:i<(l.length:Int)):l.drop i.toNat=l.getD i.toNat 0::l.drop (i+1).toNat:=by
 have hn:i.toNat<l.length:=by omega
 rw[drop_eq_getElem_cons hn,show (i+1).toNat=i.toNat+1 by omega,zG,zE hn];rfl
theorem addE_len {a d:Int} {c:Str}:(addE a c d).length=c.length:=List.length_map ..
def cx0_nr1:Cx:=(cb_nr).withLoops (look L_nr2)
def sh_nr1:Sh:=([(1, .d .str),(2, .d TI64),(3, .ptr 500000 0),(6, .ptr 500001 0),(9, .d .str),(10, .d TI64),(11, .own 500002),(23, .d TI64),(24, .d TI64),(30, .own 500003),(31, .d TI64),(32, .d TI64)],[(500000, .box 25 TG),(500001, .box 35 TE),(500002, .lis 35 TE),(500003, .lis 3 TI64)])
def pre_nr1 (_s:Str) (_f:Int) (c:Str) (_a _n _i x y:Int) (_g:Gram) (_q:Edit) (l:List (Edit)) (z:List (Int)):Bool:=decide (0≤y)&&(decide (x=(length z:Int))&&(decide (length z≤2)&&(decide (length c≤10)&&decide ((length l:Int)+10*(x-y)≤1000))))
def res_nr1 (s:Str) (f:Int) (c:Str) (a n i _x y:Int) (g:Gram) (q:Edit) (l:List (Edit)) (z:List (Int)) (K:Cont):Option Fin:=K (.exit 2) ⟨[(1,vS s),(2,vI f),(3, kp0),(6, kp1),(9,vS c),(11, ko2),(23,vI n),(24,vI i)],[(500000,some (boxD 25 TG g)),(500001,some (boxD 35 TE q)),(500002,some (.lis 35 TE (l++kindsE a c (List.drop y.toNat z))))]⟩
def mu_nr1 (_s:Str) (_f:Int) (_c:Str) (_a _n _i _x y:Int) (_g:Gram) (_q:Edit) (_l:List (Edit)) (z:List (Int)):Nat:=length z-y.toNat
theorem r_nr1 (s:Str) (f:Int) (c:Str) (a n i x y:Int) (g:Gram) (q:Edit) (l:List (Edit)) (z:List (Int)) (K:Cont) (hI:pre_nr1 s f c a n i x y g q l z=true):(∀R:St→Option Fin,evC cx0_nr1 (loopOf Tryz.f53 1) (st_nr1 s f c a n i x y g q l z) (onward (headAt cx0_nr1 7) R K)=res_nr1 s f c a n i x y g q l z K) ∨
  (∃(s':Str) (f':Int) (c':Str) (a' n' i' x' y':Int) (g':Gram) (q':Edit) (l':List (Edit)) (z':List (Int)),pre_nr1 s' f' c' a' n' i' x' y' g' q' l' z'=true∧mu_nr1 s' f' c' a' n' i' x' y' g' q' l' z'<mu_nr1 s f c a n i x y g q l z∧res_nr1 s' f' c' a' n' i' x' y' g' q' l' z' K=res_nr1 s f c a n i x y g q l z K∧∀R:St→Option Fin,evC cx0_nr1 (loopOf Tryz.f53 1) (st_nr1 s f c a n i x y g q l z) (onward (headAt cx0_nr1 7) R K)=R (st_nr1 s' f' c' a' n' i' x' y' g' q' l' z')):=by
 have hx:=fun R=>x_impl_nearer_1 g s c f a n i x y q l z R K;simp only[pre_nr1,andd,dec_iff]at hI;obtain⟨h0,rfl,h1,h2,h3⟩:=hI
 by_cases hk:y<(length z:Int)
 ·have w:W64 (y+1)=y+1:=wrap_small (by omega) (by omega);have hd:l++kindsE a c (List.drop y.toNat z)=(l++addE a c (getD z y.toNat 0))++kindsE a c (List.drop (y+1).toNat z):=by
   rw[dropI_at h0 hk,append_assoc];rfl
  have hp:pre_nr2 s f c a (getD z y.toNat 0) n i (length z:Int) y (length c:Int) 0 g q l z=true:=by
   simp only[pre_nr2,andd,dec_iff];exact⟨Int.le_refl 0,trivial,h2,by omega⟩
  rw[zT hk,inb_ok h0 hk,hp,w]at hx;right;refine⟨s,f,c,a,n,i,(length z:Int),y+1,g,q,l++addE a c (getD z y.toNat 0),z, ?_, ?_, ?_,fun R=>hx R⟩
  ·simp only[pre_nr1,andd,dec_iff];rw[length_append,addE_len];exact⟨by omega,trivial,h1,h2,by omega⟩
  ·simp only[mu_nr1];omega
  ·simp only[res_nr1,hd]
 ·left;intro R;refine(hx R).trans ?_;rw[zF hk];have e:l++kindsE a c (List.drop y.toNat z)=l:=by
   rw[drop_eq_nil_of_le (by omega)];exact List.append_nil l
  simp only[res_nr1,e];rfl
def g_nr1:St→Cont→Option Fin:=gP sh_nr1 (fun v=>match v with | ((s,f,c,a,n,i,x,y,()),(g,q,l,z,()))=>pre_nr1 s f c a n i x y g q l z) (fun v K=>match v with | ((s,f,c,a,n,i,x,y,()),(g,q,l,z,()))=>res_nr1 s f c a n i x y g q l z K)
def L_nr1:LpL:=(7,g_nr1)::L_nr2
theorem l_nr1 {L:LpL} (n:Nat) (h1:L.drop n=L_nr2) (h2:idsFree (L.take n) (loopOf Tryz.f53 1)=true):LoopsTo g_nr1 (cb_nr) (loopOf Tryz.f53 1) 7 L :=
 with_drop h1 h2 (gP_ok (fun v=>match v with | ((s,f,c,a,n,i,x,y,()),(g,q,l,z,()))=>mu_nr1 s f c a n i x y g q l z) fun v K hI=>by
  obtain⟨⟨s,f,c,a,n,i,x,y,⟨⟩⟩,⟨g,q,l,z,⟨⟩⟩⟩:=v;exact(r_nr1 s f c a n i x y g q l z K hI).imp id fun⟨s',f',c',a',n',i',x',y',g',q',l',z',h⟩=>⟨((s',f',c',a',n',i',x',y',()),(g',q',l',z',())),h⟩)
def editsE (i:Int) (c:Str):List Edit:=((2,i,[]):Edit)::kindsE i c [3,1]
abbrev st_nr0 (s:Str) (f:Int) (c:Str) (n i:Int) (g:Gram) (q:Edit):St:=⟨[(1,vS s),(2,vI f),(3, kp0),(6, kp1),(9,vS c),(23,vI n),(24,vI i)],[(500000,some (boxD 25 TG g)),(500001,some (boxD 35 TE q))]⟩
theorem x_impl_nearer (g:Gram) (s c:Str) (f n i:Int) (q:Edit) (R:St→Option Fin) (K:Cont):evC (cb_nr.withLoops (look L_nr1)) (loopOf Tryz.f53 0) (st_nr0 s f c n i g q) (onward (headAt (cb_nr.withLoops (look L_nr1)) 3) R K)=(
branch (decide (i<n)) (
 need (pre_nr1 s f c i n i 2 0 g q [(2,i,([]:Str))] [3,1]) <|
 need (pre_nr3 s f c n i (length (editsE i c):Int) 0 g q (editsE i c)) <|
 branch ((fstE (okN (farV g) s f) (editsE i c)).isSome) (K .ret ⟨[(6, kp0),(7,vS (EdDo s ((fstE (okN (farV g) s f) (editsE i c)).getD ed0)).1),(8,vB true)],[(500000,some (boxD 35 TE ((fstE (okN (farV g) s f) (editsE i c)).getD ed0)))]⟩) (R (st_nr0 s f c n (W64 (i+1)) g q))) (K (.exit 0) ⟨[(6, kp0)],[(500000,some (boxD 35 TE q))]⟩)):=by kernel_rfl
def nearN (p:Edit→Bool) (c:Str):Nat→Int→Option Edit
 |0,_=>none
 |m+1,i=>bif (fstE p (editsE i c)).isSome then fstE p (editsE i c)else nearN p c m (i+1)
theorem editsE_len {i:Int} {c:Str}:(editsE i c).length=1+2*c.length:=by
 show((2,i,[])::(addE i c 3++(addE i c 1++[]))).length=_;rw[length_cons,length_append,length_append,addE_len,addE_len,List.length_nil];omega
def cx0_nr0:Cx:=(cb_nr).withLoops (look L_nr1)
def sh_nr0:Sh:=([(1, .d .str),(2, .d TI64),(3, .ptr 500000 0),(6, .ptr 500001 0),(9, .d .str),(23, .d TI64),(24, .d TI64)],[(500000, .box 25 TG),(500001, .box 35 TE)])
def pre_nr0 (_s:Str) (_f:Int) (c:Str) (n i:Int) (g:Gram) (_q:Edit):Bool:=decide (0≤i)&&(decide (n≤1001)&&(okRd g.2&&decide (length c≤10)))
def res_nr0 (s:Str) (f:Int) (c:Str) (n i:Int) (g:Gram) (q:Edit) (K:Cont):Option Fin:=branch ((nearN (okN (farV g) s f) c (n-i).toNat i).isSome) (K .ret ⟨[(6, kp0),(7,vS (EdDo s ((nearN (okN (farV g) s f) c (n-i).toNat i).getD ed0)).1),(8,vB true)],[(500000,some (boxD 35 TE ((nearN (okN (farV g) s f) c (n-i).toNat i).getD ed0)))]⟩) (K (.exit 0) ⟨[(6, kp0)],[(500000,some (boxD 35 TE q))]⟩)
def mu_nr0 (_s:Str) (_f:Int) (_c:Str) (n i:Int) (_g:Gram) (_q:Edit):Nat:=(n-i).toNat
theorem r_nr0 (s:Str) (f:Int) (c:Str) (n i:Int) (g:Gram) (q:Edit) (K:Cont) (hI:pre_nr0 s f c n i g q=true):(∀R:St→Option Fin,evC cx0_nr0 (loopOf Tryz.f53 0) (st_nr0 s f c n i g q) (onward (headAt cx0_nr0 3) R K)=res_nr0 s f c n i g q K) ∨
  (∃(s':Str) (f':Int) (c':Str) (n' i':Int) (g':Gram) (q':Edit),pre_nr0 s' f' c' n' i' g' q'=true∧mu_nr0 s' f' c' n' i' g' q'<mu_nr0 s f c n i g q∧res_nr0 s' f' c' n' i' g' q' K=res_nr0 s f c n i g q K∧∀R:St→Option Fin,evC cx0_nr0 (loopOf Tryz.f53 0) (st_nr0 s f c n i g q) (onward (headAt cx0_nr0 3) R K)=R (st_nr0 s' f' c' n' i' g' q')):=by
 have hx:=fun R=>x_impl_nearer g s c f n i q R K;simp only[pre_nr0,andd,dec_iff]at hI;obtain⟨h0,h1,h2,h3⟩:=hI
 by_cases hi:i<n
 ·have w:W64 (i+1)=i+1:=wrap_small (by omega) (by omega);obtain⟨m,hm⟩:∃m,(n-i).toNat=m+1:=⟨(n-i).toNat-1,by omega⟩;have hm2:(n-(i+1)).toNat=m:=by omega
  have hp:pre_nr1 s f c i n i 2 0 g q [(2,i,([]:Str))] [3,1]=true:=by
   simp only[pre_nr1,andd,dec_iff];exact⟨Int.le_refl 0,rfl,by decide,h3,by rw[length_singleton];omega⟩
  have hq:pre_nr3 s f c n i (length (editsE i c):Int) 0 g q (editsE i c)=true:=by
   simp only[pre_nr3,andd,dec_iff];exact⟨Int.le_refl 0,trivial,h2,by rw[editsE_len];omega⟩
  have hn:nearN (okN (farV g) s f) c (m+1) i=bif (fstE (okN (farV g) s f) (editsE i c)).isSome then fstE (okN (farV g) s f) (editsE i c)else nearN (okN (farV g) s f) c m (i+1):=rfl;rw[zT hi,hp,hq,w]at hx
  cases hc:(fstE (okN (farV g) s f) (editsE i c)).isSome
  ·rw[hc]at hx hn;right;refine⟨s,f,c,n,i+1,g,q, ?_, ?_, ?_,fun R=>hx R⟩
   ·simp only[pre_nr0,andd,dec_iff];exact⟨by omega,h1,h2,h3⟩
   ·simp only[mu_nr0];omega
   ·simp only[res_nr0,hm,hm2,hn];rfl
  ·rw[hc]at hx hn;left;intro R;refine(hx R).trans ?_;simp only[res_nr0,hm,hn,cond_true,hc];rfl
 ·left;intro R;refine(hx R).trans ?_;rw[zF hi];have e:(n-i).toNat=0:=by omega
  simp only[res_nr0,e];rfl
def g_nr0:St→Cont→Option Fin:=gP sh_nr0 (fun v=>match v with | ((s,f,c,n,i,()),(g,q,()))=>pre_nr0 s f c n i g q) (fun v K=>match v with | ((s,f,c,n,i,()),(g,q,()))=>res_nr0 s f c n i g q K)
def L_nr0:LpL:=(3,g_nr0)::L_nr1
def cx_nr0:Cx:=(cb_nr).withLoops (look L_nr0)
theorem l_nr0 {L:LpL} (n:Nat) (h1:L.drop n=L_nr1) (h2:idsFree (L.take n) (loopOf Tryz.f53 0)=true):LoopsTo g_nr0 (cb_nr) (loopOf Tryz.f53 0) 3 L :=
 with_drop h1 h2 (gP_ok (fun v=>match v with | ((s,f,c,n,i,()),(g,q,()))=>mu_nr0 s f c n i g q) fun v K hI=>by
  obtain⟨⟨s,f,c,n,i,⟨⟩⟩,⟨g,q,⟨⟩⟩⟩:=v;exact(r_nr0 s f c n i g q K hI).imp id fun⟨s',f',c',n',i',g',q',h⟩=>⟨((s',f',c',n',i',()),(g',q',())),h⟩)
theorem y_impl_nearer (g:Gram) (s:Str) (f:Int):evFn cx_nr0 Tryz.f53 true [ofD TG g,ofD .str s,ofD TI64 f] []=(
need (pre_nr0 s f (bif okG g then smallsG g else []) (W64 ((s.length:Int)+1)) 0 g (0,0,([]:Str))) <|
branch ((nearN (okN (farV g) s f) (bif okG g then smallsG g else []) (W64 ((s.length:Int)+1)-0).toNat 0).isSome) ( some ((.tup [(.agg [(.r (.v (Value.int IntKind.i64 ((nearN (okN (farV g) s f) (bif okG g then smallsG g else []) (W64 ((s.length:Int)+1)-0).toNat 0).getD ed0).fst))),(.r (.v (Value.int IntKind.i64 ((nearN (okN (farV g) s f) (bif okG g then smallsG g else []) (W64 ((s.length:Int)+1)-0).toNat 0).getD ed0).snd.fst))),(.r (.v (Value.string (mk ((nearN (okN (farV g) s f) (bif okG g then smallsG g else []) (W64 ((s.length:Int)+1)-0).toNat 0).getD ed0).snd.snd))))]),(.one (.r (.v (Value.string (mk (EdDo s ((nearN (okN (farV g) s f) (bif okG g then smallsG g else []) (W64 ((s.length:Int)+1)-0).toNat 0).getD ed0)).fst))))),(.one (.r (.v (Value.bool true))))]),[])) ( some ((.tup [(.agg [(.r (.v (Value.int IntKind.i64 0))),(.r (.v (Value.int IntKind.i64 0))),(.r (.v (Value.string (mk []))))]),(.one (.r (.v (Value.string (mk []))))),(.one (.r (.v (Value.bool false))))]),[]))):=by kernel_rfl
def nearV (F:Str→Int) (g:Gram) (s:Str) (f:Int):Option Edit:=nearN (okN F s f) (smallsG g) (length s+1) 0
def nearT (s:Str) (o:Option Edit):T := .tup [ofD TE (o.getD ed0),ofD .str (bif o.isSome then(EdDo s (o.getD ed0)).1 else []),ofD .bool o.isSome]
theorem nearN_none {p:Edit→Bool} {c:Str}:∀ {m:Nat} {i:Int},(nearN p c m i).isSome=false→nearN p c m i=none
 |_,_,h=>Option.isSome_eq_false_iff.1 h |> Option.isNone_iff_eq_none.1
theorem s_impl_nearer (g:Gram) (_hg:Fit TG g) (s:Str) (_hs:Fit .str s) (f:Int) (_hf:Fit TI64 f) (hpre:(okG g&&decide (length s≤1000))=true):Sat Tryz.prog 53 [ofD TG g,ofD .str s,ofD TI64 f] [] (nearT s (nearV (farV g) g s f)) [] :=
 fn_sound (cx:=cx_nr0) Tryz.func53 rfl ttOk Γ71ok mixed (fun c hc=>LoopsOk.all (l:=[(3,loopOf Tryz.f53 0),(7,loopOf Tryz.f53 1),(10,loopOf Tryz.f53 2),(16,loopOf Tryz.f53 3)]) (by cases hc;kernel_rfl) ⟨atLoop rfl (l_nr0 1 rfl (by kernel_rfl)),atLoop rfl (l_nr1 2 rfl (by kernel_rfl)),atLoop rfl (l_nr2 3 rfl (by kernel_rfl)),atLoop rfl (l_nr3 4 rfl (by kernel_rfl)),trivial⟩) (ro:=true) (by
  obtain⟨h1,h2⟩:=andd.1 hpre;have h2:=dec_iff.1 h2;have w:W64 ((length s:Int)+1)=(length s:Int)+1:=wrap_small (by omega) (by omega);have e:((length s:Int)+1-0).toNat=length s+1:=by omega
  have hp:pre_nr0 s f (smallsG g) ((length s:Int)+1) 0 g ed0=true:=by
   simp only[pre_nr0,andd,dec_iff];have:=smalls_four (g:=g);exact⟨Int.le_refl 0,by omega,okRd_G h1,by omega⟩
  rw[y_impl_nearer,h1,cond_true,w,hp,e];show branch ((nearV (farV g) g s f).isSome) _ _=_
  cases hc:(nearV (farV g) g s f).isSome
  ·have hn:nearV (farV g) g s f=none:=nearN_none hc;rw[hn];rfl
  ·unfold nearT;rw[hc];rfl)
def c_impl_nearer:Con:=conT [TG, .str,TI64] fun(g:Gram) (s:Str) (f:Int)=>(some (okG g&&decide (length s≤1000)),nearT s (nearV (farV g) g s f))
theorem k_impl_nearer:ConOk Tryz.prog 53 c_impl_nearer:=conT_ok Tryz.call53 fun g hg s hs f hf hqq=>s_impl_nearer g hg s hs f hf (pre_of hqq)
def Γ72:GL:=(53,c_impl_nearer)::Γ71
theorem Γ72ok:GO Γ72 := .cons k_impl_nearer Γ71ok
def cb_sn:Cx:=cxOf Γ72 Tryz.f54.ntmps [(15,[1,2,3,6,8,9,10,13]),(11,[1,2,3,6,8,9,10,12]),(7,[1,2,3,6,8,9,10,11]),(3,[1,2,3,6,8,9])] [(0,[6]),(1,[1,2,3,6,8,9]),(6,[1,2,3,6,8,9]),(7,[1,2,3,6,8,9,10,13]),(4,[1,2,3,6,8,9,10]),(5,[1,2,3,6,8,9,10,12]),(2,[1,2,3,6,8,9,10]),(3,[1,2,3,6,8,9,10,11]),(1000000,[6,7])] [] []
abbrev st_sn3 (s:Str) (f:Int) (c:Str) (i k:Int) (g:Gram) (q:Edit) (l:List (Edit)):St:=⟨[(1,vS s),(2,vI f),(3, kp0),(6, kp1),(8,vS c),(9,vI i),(10, ko2),(13,vI k)],[(500000,some (boxD 25 TG g)),(500001,some (boxD 35 TE q)),(500002,some (.lis 35 TE l))]⟩
theorem x_spec_l8Next_3 (g:Gram) (s c:Str) (f i k:Int) (q:Edit) (l:List Edit) (R:St→Option Fin) (K:Cont):evC (cb_sn.withLoops (look [])) (loopOf Tryz.f54 3) (st_sn3 s f c i k g q l) (onward (headAt (cb_sn.withLoops (look [])) 15) R K)=(
branch (decide (k<(l.length:Int))) (
 need (inb k l.length) <|
 need (bif decide ((EdDo s (l.getD k.toNat ed0)).snd=true)then okG g&&decide ((length (EdDo s (l.getD k.toNat ed0)).fst)≤1000)else true) <|
 branch (bif (EdDo s (l.getD k.toNat ed0)).snd then decide (startC g (EdDo s (l.getD k.toNat ed0)).fst<f)else false) (
 need (inb k l.length) <| K (.ret) (.mk [(6,kp0),(7,vB true)] [(500000,(.some (.box 35 [(.r (.v (Value.int IntKind.i64 (l.getD k.toNat ed0).fst))),(.r (.v (Value.int IntKind.i64 (l.getD k.toNat ed0).snd.fst))),(.r (.v (Value.string (mk (l.getD k.toNat ed0).snd.snd))))])))])) ( R (st_sn3 s f c i (W64 (k+1)) g q l))) ( K (.exit 6) (.mk [(1,vS s),(2,vI f),(3,kp0),(6,kp1),(8,vS c),(9,vI i)] [(500000,some (boxD 25 TG g)),(500001,some (boxD 35 TE q))]))):=by kernel_rfl
def snR (g:Gram) (s c:Str) (f i:Int) (q:Edit) (K:Cont) (o:Option Edit):Option Fin:=branch o.isSome
 (K .ret ⟨[(6, kp0),(7,vB true)],[(500000,some (boxD 35 TE (o.getD ed0)))]⟩)
 (K (.exit 6) ⟨[(1,vS s),(2,vI f),(3, kp0),(6, kp1),(8,vS c),(9,vI i)],[(500000,some (boxD 25 TG g)),(500001,some (boxD 35 TE q))]⟩)
def cx0_sn3:Cx:=(cb_sn).withLoops (look [])
def sh_sn3:Sh:=([(1, .d .str),(2, .d TI64),(3, .ptr 500000 0),(6, .ptr 500001 0),(8, .d .str),(9, .d TI64),(10, .own 500002),(13, .d TI64)],[(500000, .box 25 TG),(500001, .box 35 TE),(500002, .lis 35 TE)])
def pre_sn3 (_s:Str) (_f:Int) (_c:Str) (_i k:Int) (g:Gram) (_q:Edit) (l:List (Edit)):Bool:=decide (0≤k)&&(okG g&&decide (length l≤1000))
def res_sn3 (s:Str) (f:Int) (c:Str) (i k:Int) (g:Gram) (q:Edit) (l:List (Edit)) (K:Cont):Option Fin:=snR g s c f i q K (fstE (okN (startC g) s f) (List.drop k.toNat l))
def mu_sn3 (_s:Str) (_f:Int) (_c:Str) (_i k:Int) (_g:Gram) (_q:Edit) (l:List (Edit)):Nat:=length l-k.toNat
theorem r_sn3 (s:Str) (f:Int) (c:Str) (i k:Int) (g:Gram) (q:Edit) (l:List (Edit)) (K:Cont) (hI:pre_sn3 s f c i k g q l=true):(∀R:St→Option Fin,evC cx0_sn3 (loopOf Tryz.f54 3) (st_sn3 s f c i k g q l) (onward (headAt cx0_sn3 15) R K)=res_sn3 s f c i k g q l K) ∨
  (∃(s':Str) (f':Int) (c':Str) (i' k':Int) (g':Gram) (q':Edit) (l':List (Edit)),pre_sn3 s' f' c' i' k' g' q' l'=true∧mu_sn3 s' f' c' i' k' g' q' l'<mu_sn3 s f c i k g q l∧res_sn3 s' f' c' i' k' g' q' l' K=res_sn3 s f c i k g q l K∧∀R:St→Option Fin,evC cx0_sn3 (loopOf Tryz.f54 3) (st_sn3 s f c i k g q l) (onward (headAt cx0_sn3 15) R K)=R (st_sn3 s' f' c' i' k' g' q' l')):=by
 have hx:=fun R=>x_spec_l8Next_3 g s c f i k q l R K;simp only[pre_sn3,andd,dec_iff]at hI;obtain⟨h0,h2,h3⟩:=hI
 by_cases hk:k<(length l:Int)
 ·have w:W64 (k+1)=k+1:=wrap_small (by omega) (by omega);have hd:=dropE_at h0 hk;have kk:(bif decide ((EdDo s (getD l k.toNat ed0)).2=true)then okG g&&decide ((length (EdDo s (getD l k.toNat ed0)).1)≤1000)else true)=true:=by
   cases hb:(EdDo s (getD l k.toNat ed0)).2
   ·rfl
   ·have:=(EdDo_short hb).2;exact andd.2 ⟨h2,zT (by omega)⟩
  rw[zT hk,inb_ok h0 hk,kk,w]at hx;change ∀R:St→Option Fin,_=branch (okN (startC g) s f (getD l k.toNat ed0)) _ _ at hx;have hf:fstE (okN (startC g) s f) (List.drop k.toNat l)=bif okN (startC g) s f (getD l k.toNat ed0)then some (getD l k.toNat ed0)else fstE (okN (startC g) s f) (List.drop (k+1).toNat l):=by rw[hd];rfl
  cases hc:okN (startC g) s f (getD l k.toNat ed0)
  ·rw[hc]at hx hf;right;refine⟨s,f,c,i,k+1,g,q,l, ?_, ?_, ?_,fun R=>hx R⟩
   ·simp only[pre_sn3,andd,dec_iff];exact⟨by omega,h2,h3⟩
   ·simp only[mu_sn3];omega
   ·simp only[res_sn3,hf];rfl
  ·rw[hc]at hx hf;left;intro R;refine(hx R).trans ?_;simp only[res_sn3,hf];rfl
 ·left;intro R;refine(hx R).trans ?_;rw[zF hk];have e:List.drop k.toNat l=[]:=drop_eq_nil_of_le (by omega);simp only[res_sn3,e];rfl
def g_sn3:St→Cont→Option Fin:=gP sh_sn3 (fun v=>match v with | ((s,f,c,i,k,()),(g,q,l,()))=>pre_sn3 s f c i k g q l) (fun v K=>match v with | ((s,f,c,i,k,()),(g,q,l,()))=>res_sn3 s f c i k g q l K)
def L_sn3:LpL:=(15,g_sn3)::[]
theorem l_sn3 {L:LpL} (n:Nat) (h1:L.drop n=[]) (h2:idsFree (L.take n) (loopOf Tryz.f54 3)=true):LoopsTo g_sn3 (cb_sn) (loopOf Tryz.f54 3) 15 L :=
 with_drop h1 h2 (gP_ok (fun v=>match v with | ((s,f,c,i,k,()),(g,q,l,()))=>mu_sn3 s f c i k g q l) fun v K hI=>by
  obtain⟨⟨s,f,c,i,k,⟨⟩⟩,⟨g,q,l,⟨⟩⟩⟩:=v;exact(r_sn3 s f c i k g q l K hI).imp id fun⟨s',f',c',i',k',g',q',l',h⟩=>⟨((s',f',c',i',k',()),(g',q',l',())),h⟩)
abbrev st_sn2 (s:Str) (f:Int) (c:Str) (i k:Int) (g:Gram) (q:Edit) (l:List (Edit)):St:=⟨[(1,vS s),(2,vI f),(3, kp0),(6, kp1),(8,vS c),(9,vI i),(10, ko2),(12,vI k)],[(500000,some (boxD 25 TG g)),(500001,some (boxD 35 TE q)),(500002,some (.lis 35 TE l))]⟩
theorem x_spec_l8Next_2 (g:Gram) (s c:Str) (f i k:Int) (q:Edit) (l:List Edit) (R:St→Option Fin) (K:Cont):evC (cb_sn.withLoops (look L_sn3)) (loopOf Tryz.f54 2) (st_sn2 s f c i k g q l) (onward (headAt (cb_sn.withLoops (look L_sn3)) 11) R K)=(
branch (decide (k<(c.length:Int))) (
 need (inr k (W64 (k+1)) c.length) <|
 need (fits (l.length+[(1,i,List.take ((W64 (k+1)).toNat-k.toNat) (List.drop k.toNat c))].length) Tryz.t35.bytes) <| R (st_sn2 s f c i (W64 (k+1)) g q (l.append [(1,i,List.take ((W64 (k+1)).toNat-k.toNat) (List.drop k.toNat c))]))) ( K (.exit 4) (.mk [(1,vS s),(2,vI f),(3,kp0),(6,kp1),(8,vS c),(9,vI i),(10,ko2)] [(500000,some (boxD 25 TG g)),(500001,some (boxD 35 TE q)),(500002,some (.lis 35 TE l))]))):=by kernel_rfl
def cx0_sn2:Cx:=(cb_sn).withLoops (look L_sn3)
def sh_sn2:Sh:=([(1, .d .str),(2, .d TI64),(3, .ptr 500000 0),(6, .ptr 500001 0),(8, .d .str),(9, .d TI64),(10, .own 500002),(12, .d TI64)],[(500000, .box 25 TG),(500001, .box 35 TE),(500002, .lis 35 TE)])
def pre_sn2 (_s:Str) (_f:Int) (c:Str) (_i k:Int) (_g:Gram) (_q:Edit) (l:List (Edit)):Bool:=decide (0≤k)&&(decide (length c≤10)&&decide ((length l:Int)+length c-k≤1000))
def res_sn2 (s:Str) (f:Int) (c:Str) (i k:Int) (g:Gram) (q:Edit) (l:List (Edit)) (K:Cont):Option Fin:=K (.exit 4) ⟨[(1,vS s),(2,vI f),(3, kp0),(6, kp1),(8,vS c),(9,vI i),(10, ko2)],[(500000,some (boxD 25 TG g)),(500001,some (boxD 35 TE q)),(500002,some (.lis 35 TE (l++addE i (List.drop k.toNat c) 1)))]⟩
def mu_sn2 (_s:Str) (_f:Int) (c:Str) (_i k:Int) (_g:Gram) (_q:Edit) (_l:List (Edit)):Nat:=length c-k.toNat
theorem r_sn2 (s:Str) (f:Int) (c:Str) (i k:Int) (g:Gram) (q:Edit) (l:List (Edit)) (K:Cont) (hI:pre_sn2 s f c i k g q l=true):(∀R:St→Option Fin,evC cx0_sn2 (loopOf Tryz.f54 2) (st_sn2 s f c i k g q l) (onward (headAt cx0_sn2 11) R K)=res_sn2 s f c i k g q l K) ∨
  (∃(s':Str) (f':Int) (c':Str) (i' k':Int) (g':Gram) (q':Edit) (l':List (Edit)),pre_sn2 s' f' c' i' k' g' q' l'=true∧mu_sn2 s' f' c' i' k' g' q' l'<mu_sn2 s f c i k g q l∧res_sn2 s' f' c' i' k' g' q' l' K=res_sn2 s f c i k g q l K∧∀R:St→Option Fin,evC cx0_sn2 (loopOf Tryz.f54 2) (st_sn2 s f c i k g q l) (onward (headAt cx0_sn2 11) R K)=R (st_sn2 s' f' c' i' k' g' q' l')):=by
 have hx:=fun R=>x_spec_l8Next_2 g s c f i k q l R K;simp only[pre_sn2,andd,dec_iff]at hI;obtain⟨h0,h2,h3⟩:=hI
 by_cases hk:k<(length c:Int)
 ·have w:W64 (k+1)=k+1:=wrap_small (by omega) (by omega);have hd:l++addE i (List.drop k.toNat c) 1=(l++[((1,i,[getD c k.toNat 0]):Edit)])++addE i (List.drop (k+1).toNat c) 1:=by
   rw[dropC_at h0 hk,append_assoc];rfl
  rw[zT hk,w,inr_iff.2 (by omega:0≤k∧k≤k+1∧k+1≤(length c:Int)),slice_one h0 hk,editFits (by rw[length_singleton];omega)]at hx;right;refine⟨s,f,c,i,k+1,g,q,l++[((1,i,[getD c k.toNat 0]):Edit)], ?_, ?_, ?_,fun R=>hx R⟩
  ·simp only[pre_sn2,andd,dec_iff];rw[length_append,length_singleton];exact⟨by omega,h2,by omega⟩
  ·simp only[mu_sn2];omega
  ·simp only[res_sn2,hd]
 ·left;intro R;refine(hx R).trans ?_;rw[zF hk];have e:l++addE i (List.drop k.toNat c) 1=l:=by
   rw[drop_eq_nil_of_le (by omega)];exact List.append_nil l
  simp only[res_sn2,e];rfl
def g_sn2:St→Cont→Option Fin:=gP sh_sn2 (fun v=>match v with | ((s,f,c,i,k,()),(g,q,l,()))=>pre_sn2 s f c i k g q l) (fun v K=>match v with | ((s,f,c,i,k,()),(g,q,l,()))=>res_sn2 s f c i k g q l K)
def L_sn2:LpL:=(11,g_sn2)::L_sn3
theorem l_sn2 {L:LpL} (n:Nat) (h1:L.drop n=L_sn3) (h2:idsFree (L.take n) (loopOf Tryz.f54 2)=true):LoopsTo g_sn2 (cb_sn) (loopOf Tryz.f54 2) 11 L :=
 with_drop h1 h2 (gP_ok (fun v=>match v with | ((s,f,c,i,k,()),(g,q,l,()))=>mu_sn2 s f c i k g q l) fun v K hI=>by
  obtain⟨⟨s,f,c,i,k,⟨⟩⟩,⟨g,q,l,⟨⟩⟩⟩:=v;exact(r_sn2 s f c i k g q l K hI).imp id fun⟨s',f',c',i',k',g',q',l',h⟩=>⟨((s',f',c',i',k',()),(g',q',l',())),h⟩)
abbrev st_sn1 (s:Str) (f:Int) (c:Str) (i k:Int) (g:Gram) (q:Edit) (l:List (Edit)):St:=⟨[(1,vS s),(2,vI f),(3, kp0),(6, kp1),(8,vS c),(9,vI i),(10, ko2),(11,vI k)],[(500000,some (boxD 25 TG g)),(500001,some (boxD 35 TE q)),(500002,some (.lis 35 TE l))]⟩
theorem x_spec_l8Next_1 (g:Gram) (s c:Str) (f i k:Int) (q:Edit) (l:List Edit) (R:St→Option Fin) (K:Cont):evC (cb_sn.withLoops (look L_sn2)) (loopOf Tryz.f54 1) (st_sn1 s f c i k g q l) (onward (headAt (cb_sn.withLoops (look L_sn2)) 7) R K)=(
branch (decide (k<(c.length:Int))) (
 need (inr k (W64 (k+1)) c.length) <|
 need (fits (l.length+[(3,i,List.take ((W64 (k+1)).toNat-k.toNat) (List.drop k.toNat c))].length) Tryz.t35.bytes) <| R (st_sn1 s f c i (W64 (k+1)) g q (l.append [(3,i,List.take ((W64 (k+1)).toNat-k.toNat) (List.drop k.toNat c))]))) ( K (.exit 2) (.mk [(1,vS s),(2,vI f),(3,kp0),(6,kp1),(8,vS c),(9,vI i),(10,ko2)] [(500000,some (boxD 25 TG g)),(500001,some (boxD 35 TE q)),(500002,some (.lis 35 TE l))]))):=by kernel_rfl
def cx0_sn1:Cx:=(cb_sn).withLoops (look L_sn2)
def sh_sn1:Sh:=([(1, .d .str),(2, .d TI64),(3, .ptr 500000 0),(6, .ptr 500001 0),(8, .d .str),(9, .d TI64),(10, .own 500002),(11, .d TI64)],[(500000, .box 25 TG),(500001, .box 35 TE),(500002, .lis 35 TE)])
def pre_sn1 (_s:Str) (_f:Int) (c:Str) (_i k:Int) (_g:Gram) (_q:Edit) (l:List (Edit)):Bool:=decide (0≤k)&&(decide (length c≤10)&&decide ((length l:Int)+length c-k≤1000))
def res_sn1 (s:Str) (f:Int) (c:Str) (i k:Int) (g:Gram) (q:Edit) (l:List (Edit)) (K:Cont):Option Fin:=K (.exit 2) ⟨[(1,vS s),(2,vI f),(3, kp0),(6, kp1),(8,vS c),(9,vI i),(10, ko2)],[(500000,some (boxD 25 TG g)),(500001,some (boxD 35 TE q)),(500002,some (.lis 35 TE (l++addE i (List.drop k.toNat c) 3)))]⟩
def mu_sn1 (_s:Str) (_f:Int) (c:Str) (_i k:Int) (_g:Gram) (_q:Edit) (_l:List (Edit)):Nat:=length c-k.toNat
theorem r_sn1 (s:Str) (f:Int) (c:Str) (i k:Int) (g:Gram) (q:Edit) (l:List (Edit)) (K:Cont) (hI:pre_sn1 s f c i k g q l=true):(∀R:St→Option Fin,evC cx0_sn1 (loopOf Tryz.f54 1) (st_sn1 s f c i k g q l) (onward (headAt cx0_sn1 7) R K)=res_sn1 s f c i k g q l K) ∨
  (∃(s':Str) (f':Int) (c':Str) (i' k':Int) (g':Gram) (q':Edit) (l':List (Edit)),pre_sn1 s' f' c' i' k' g' q' l'=true∧mu_sn1 s' f' c' i' k' g' q' l'<mu_sn1 s f c i k g q l∧res_sn1 s' f' c' i' k' g' q' l' K=res_sn1 s f c i k g q l K∧∀R:St→Option Fin,evC cx0_sn1 (loopOf Tryz.f54 1) (st_sn1 s f c i k g q l) (onward (headAt cx0_sn1 7) R K)=R (st_sn1 s' f' c' i' k' g' q' l')):=by
 have hx:=fun R=>x_spec_l8Next_1 g s c f i k q l R K;simp only[pre_sn1,andd,dec_iff]at hI;obtain⟨h0,h2,h3⟩:=hI
 by_cases hk:k<(length c:Int)
 ·have w:W64 (k+1)=k+1:=wrap_small (by omega) (by omega);have hd:l++addE i (List.drop k.toNat c) 3=(l++[((3,i,[getD c k.toNat 0]):Edit)])++addE i (List.drop (k+1).toNat c) 3:=by
   rw[dropC_at h0 hk,append_assoc];rfl
  rw[zT hk,w,inr_iff.2 (by omega:0≤k∧k≤k+1∧k+1≤(length c:Int)),slice_one h0 hk,editFits (by rw[length_singleton];omega)]at hx;right;refine⟨s,f,c,i,k+1,g,q,l++[((3,i,[getD c k.toNat 0]):Edit)], ?_, ?_, ?_,fun R=>hx R⟩
  ·simp only[pre_sn1,andd,dec_iff];rw[length_append,length_singleton];exact⟨by omega,h2,by omega⟩
  ·simp only[mu_sn1];omega
  ·simp only[res_sn1,hd]
 ·left;intro R;refine(hx R).trans ?_;rw[zF hk];have e:l++addE i (List.drop k.toNat c) 3=l:=by
   rw[drop_eq_nil_of_le (by omega)];exact List.append_nil l
  simp only[res_sn1,e];rfl
def g_sn1:St→Cont→Option Fin:=gP sh_sn1 (fun v=>match v with | ((s,f,c,i,k,()),(g,q,l,()))=>pre_sn1 s f c i k g q l) (fun v K=>match v with | ((s,f,c,i,k,()),(g,q,l,()))=>res_sn1 s f c i k g q l K)
def L_sn1:LpL:=(7,g_sn1)::L_sn2
theorem l_sn1 {L:LpL} (n:Nat) (h1:L.drop n=L_sn2) (h2:idsFree (L.take n) (loopOf Tryz.f54 1)=true):LoopsTo g_sn1 (cb_sn) (loopOf Tryz.f54 1) 7 L :=
 with_drop h1 h2 (gP_ok (fun v=>match v with | ((s,f,c,i,k,()),(g,q,l,()))=>mu_sn1 s f c i k g q l) fun v K hI=>by
  obtain⟨⟨s,f,c,i,k,⟨⟩⟩,⟨g,q,l,⟨⟩⟩⟩:=v;exact(r_sn1 s f c i k g q l K hI).imp id fun⟨s',f',c',i',k',g',q',l',h⟩=>⟨((s',f',c',i',k',()),(g',q',l',())),h⟩)
theorem editsE_eq {i:Int} {c:Str}:editsE i c=([((2,i,[]):Edit)]++addE i c 3)++addE i c 1:=by
 show((2,i,[]):Edit)::(addE i c 3++(addE i c 1++[]))=_;rw[List.append_nil];rfl
abbrev st_sn0 (s:Str) (f:Int) (c:Str) (i:Int) (g:Gram) (q:Edit):St:=⟨[(1,vS s),(2,vI f),(3, kp0),(6, kp1),(8,vS c),(9,vI i)],[(500000,some (boxD 25 TG g)),(500001,some (boxD 35 TE q))]⟩
theorem x_spec_l8Next (g:Gram) (s c:Str) (f i:Int) (q:Edit) (R:St→Option Fin) (K:Cont):evC (cb_sn.withLoops (look L_sn1)) (loopOf Tryz.f54 0) (st_sn0 s f c i g q) (onward (headAt (cb_sn.withLoops (look L_sn1)) 3) R K)=(
branch (decide (i≤(s.length:Int))) (
 need (pre_sn1 s f c i 0 g q [((2,i,[]):Edit)]) <|
 need (pre_sn2 s f c i 0 g q ([((2,i,[]):Edit)]++addE i c 3)) <|
 need (pre_sn3 s f c i 0 g q (([((2,i,[]):Edit)]++addE i c 3)++addE i c 1)) <|
 branch ((fstE (okN (startC g) s f) (([((2,i,[]):Edit)]++addE i c 3)++addE i c 1)).isSome) (K .ret ⟨[(6, kp0),(7,vB true)],[(500000,some (boxD 35 TE ((fstE (okN (startC g) s f) (([((2,i,[]):Edit)]++addE i c 3)++addE i c 1)).getD ed0)))]⟩) (R (st_sn0 s f c (W64 (i+1)) g q))) (K (.exit 0) ⟨[(6, kp0)],[(500000,some (boxD 35 TE q))]⟩)):=by kernel_rfl
def cx0_sn0:Cx:=(cb_sn).withLoops (look L_sn1)
def sh_sn0:Sh:=([(1, .d .str),(2, .d TI64),(3, .ptr 500000 0),(6, .ptr 500001 0),(8, .d .str),(9, .d TI64)],[(500000, .box 25 TG),(500001, .box 35 TE)])
def pre_sn0 (s:Str) (_f:Int) (c:Str) (i:Int) (g:Gram) (_q:Edit):Bool:=decide (0≤i)&&(decide (length s≤1000)&&(okG g&&decide (length c≤10)))
def res_sn0 (s:Str) (f:Int) (c:Str) (i:Int) (g:Gram) (q:Edit) (K:Cont):Option Fin:=branch ((nearN (okN (startC g) s f) c (length s+1-i.toNat) i).isSome) (K .ret ⟨[(6, kp0),(7,vB true)],[(500000,some (boxD 35 TE ((nearN (okN (startC g) s f) c (length s+1-i.toNat) i).getD ed0)))]⟩) (K (.exit 0) ⟨[(6, kp0)],[(500000,some (boxD 35 TE q))]⟩)
def mu_sn0 (s:Str) (_f:Int) (_c:Str) (i:Int) (_g:Gram) (_q:Edit):Nat:=length s+1-i.toNat
theorem r_sn0 (s:Str) (f:Int) (c:Str) (i:Int) (g:Gram) (q:Edit) (K:Cont) (hI:pre_sn0 s f c i g q=true):(∀R:St→Option Fin,evC cx0_sn0 (loopOf Tryz.f54 0) (st_sn0 s f c i g q) (onward (headAt cx0_sn0 3) R K)=res_sn0 s f c i g q K) ∨
  (∃(s':Str) (f':Int) (c':Str) (i':Int) (g':Gram) (q':Edit),pre_sn0 s' f' c' i' g' q'=true∧mu_sn0 s' f' c' i' g' q'<mu_sn0 s f c i g q∧res_sn0 s' f' c' i' g' q' K=res_sn0 s f c i g q K∧∀R:St→Option Fin,evC cx0_sn0 (loopOf Tryz.f54 0) (st_sn0 s f c i g q) (onward (headAt cx0_sn0 3) R K)=R (st_sn0 s' f' c' i' g' q')):=by
 have hx:=fun R=>x_spec_l8Next g s c f i q R K;simp only[pre_sn0,andd,dec_iff]at hI;obtain⟨h0,h1,h2,h3⟩:=hI
 by_cases hi:i≤(length s:Int)
 ·have w:W64 (i+1)=i+1:=wrap_small (by omega) (by omega);obtain⟨m,hm⟩:∃m,length s+1-i.toNat=m+1:=⟨length s-i.toNat,by omega⟩;have hm2:length s+1-(i+1).toNat=m:=by omega
  have p1:pre_sn1 s f c i 0 g q [((2,i,[]):Edit)]=true:=by
   simp only[pre_sn1,andd,dec_iff];exact⟨Int.le_refl 0,h3,by rw[length_singleton];omega⟩
  have p2:pre_sn2 s f c i 0 g q ([((2,i,[]):Edit)]++addE i c 3)=true:=by
   simp only[pre_sn2,andd,dec_iff];exact⟨Int.le_refl 0,h3,by rw[length_append,length_singleton,addE_len];omega⟩
  have p3:pre_sn3 s f c i 0 g q (([((2,i,[]):Edit)]++addE i c 3)++addE i c 1)=true:=by
   simp only[pre_sn3,andd,dec_iff];exact⟨Int.le_refl 0,h2,by rw[← editsE_eq,editsE_len];omega⟩
  have hn:nearN (okN (startC g) s f) c (m+1) i=bif (fstE (okN (startC g) s f) (editsE i c)).isSome then fstE (okN (startC g) s f) (editsE i c)else nearN (okN (startC g) s f) c m (i+1):=rfl;rw[zT hi,p1,p2,p3,w,← editsE_eq]at hx
  cases hc:(fstE (okN (startC g) s f) (editsE i c)).isSome
  ·rw[hc]at hx hn;right;refine⟨s,f,c,i+1,g,q, ?_, ?_, ?_,fun R=>hx R⟩
   ·simp only[pre_sn0,andd,dec_iff];exact⟨by omega,h1,h2,h3⟩
   ·simp only[mu_sn0];omega
   ·simp only[res_sn0,hm,hm2,hn];rfl
  ·rw[hc]at hx hn;left;intro R;refine(hx R).trans ?_;simp only[res_sn0,hm,hn,cond_true,hc];rfl
 ·left;intro R;refine(hx R).trans ?_;rw[zF hi];have e:length s+1-i.toNat=0:=by omega
  simp only[res_sn0,e];rfl
def g_sn0:St→Cont→Option Fin:=gP sh_sn0 (fun v=>match v with | ((s,f,c,i,()),(g,q,()))=>pre_sn0 s f c i g q) (fun v K=>match v with | ((s,f,c,i,()),(g,q,()))=>res_sn0 s f c i g q K)
def L_sn0:LpL:=(3,g_sn0)::L_sn1
def cx_sn0:Cx:=(cb_sn).withLoops (look L_sn0)
theorem l_sn0 {L:LpL} (n:Nat) (h1:L.drop n=L_sn1) (h2:idsFree (L.take n) (loopOf Tryz.f54 0)=true):LoopsTo g_sn0 (cb_sn) (loopOf Tryz.f54 0) 3 L :=
 with_drop h1 h2 (gP_ok (fun v=>match v with | ((s,f,c,i,()),(g,q,()))=>mu_sn0 s f c i g q) fun v K hI=>by
  obtain⟨⟨s,f,c,i,⟨⟩⟩,⟨g,q,⟨⟩⟩⟩:=v;exact(r_sn0 s f c i g q K hI).imp id fun⟨s',f',c',i',g',q',h⟩=>⟨((s',f',c',i',()),(g',q',())),h⟩)
theorem y_spec_l8Next (g:Gram) (s:Str) (f:Int):evFn cx_sn0 Tryz.f54 true [ofD TG g,ofD .str s,ofD TI64 f] []=(
need (okG g) <|
need (pre_sn0 s f (setS (bigIs false) (signsG g)) 0 g (0,0,([]:Str))) <|
branch ((nearN (okN (startC g) s f) (setS (bigIs false) (signsG g)) (length s+1-(0:Int).toNat) 0).isSome) ( some ((.tup [(.agg [(.r (.v (Value.int IntKind.i64 ((nearN (okN (startC g) s f) (setS (bigIs false) (signsG g)) (length s+1-(0:Int).toNat) 0).getD ed0).fst))),(.r (.v (Value.int IntKind.i64 ((nearN (okN (startC g) s f) (setS (bigIs false) (signsG g)) (length s+1-(0:Int).toNat) 0).getD ed0).snd.fst))),(.r (.v (Value.string (mk ((nearN (okN (startC g) s f) (setS (bigIs false) (signsG g)) (length s+1-(0:Int).toNat) 0).getD ed0).snd.snd))))]),(.one (.r (.v (Value.bool true))))]),[])) ( some ((.tup [(.agg [(.r (.v (Value.int IntKind.i64 0))),(.r (.v (Value.int IntKind.i64 0))),(.r (.v (Value.string (mk []))))]),(.one (.r (.v (Value.bool false))))]),[]))):=by kernel_rfl
def nextT (o:Option Edit):T := .tup [ofD TE (o.getD ed0),ofD .bool o.isSome]
theorem s_spec_l8Next (g:Gram) (_hg:Fit TG g) (s:Str) (_hs:Fit .str s) (f:Int) (_hf:Fit TI64 f) (hpre:(okG g&&decide (length s≤1000))=true):Sat Tryz.prog 54 [ofD TG g,ofD .str s,ofD TI64 f] [] (nextT (nearV (startC g) g s f)) [] :=
 fn_sound (cx:=cx_sn0) Tryz.func54 rfl ttOk Γ72ok mixed (fun c hc=>LoopsOk.all (l:=[(3,loopOf Tryz.f54 0),(7,loopOf Tryz.f54 1),(11,loopOf Tryz.f54 2),(15,loopOf Tryz.f54 3)]) (by cases hc;kernel_rfl) ⟨atLoop rfl (l_sn0 1 rfl (by kernel_rfl)),atLoop rfl (l_sn1 2 rfl (by kernel_rfl)),atLoop rfl (l_sn2 3 rfl (by kernel_rfl)),atLoop rfl (l_sn3 4 rfl (by kernel_rfl)),trivial⟩) (ro:=true) (by
  obtain⟨h1,h2⟩:=andd.1 hpre;have h2:=dec_iff.1 h2;have e:setS (bigIs false) (signsG g)=smallsG g:=smalls_eq h1;have hp:pre_sn0 s f (smallsG g) 0 g ed0=true:=by
   simp only[pre_sn0,andd,dec_iff];have:=smalls_four (g:=g);exact⟨Int.le_refl 0,h2,h1,by omega⟩
  rw[y_spec_l8Next,h1,e,hp];show branch ((nearV (startC g) g s f).isSome) _ _=_
  cases hc:(nearV (startC g) g s f).isSome
  ·have hn:nearV (startC g) g s f=none:=nearN_none hc;rw[hn];rfl
  ·unfold nextT;rw[hc];rfl)
def c_spec_l8Next:Con:=conT [TG, .str,TI64] fun(g:Gram) (s:Str) (f:Int)=>(some (okG g&&decide (length s≤1000)),nextT (nearV (startC g) g s f))
theorem k_spec_l8Next:ConOk Tryz.prog 54 c_spec_l8Next:=conT_ok Tryz.call54 fun g hg s hs f hf hqq=>s_spec_l8Next g hg s hs f hf (pre_of hqq)
def Γ73:GL:=(54,c_spec_l8Next)::Γ72
theorem Γ73ok:GO Γ73 := .cons k_spec_l8Next Γ72ok
def nextV (g:Gram) (s:Str):Option Edit:=bif decide (mendV g s≤0)then none else nearV (farV g) g s (mendV g s)
def sNextV (g:Gram) (s:Str):Option Edit:=bif canB g s then(bif decide (startC g s=0)then none else nearV (startC g) g s (startC g s))else none
theorem y_impl_MendNext2 (g:Gram) (s:Str):evFn (cxOf Γ73 Tryz.f19.ntmps [] [] [] []) Tryz.f19 true [ofD TG g,ofD .str s] []=(
branch (decide (mendV g s≤0)) ( some ((.tup [(.agg [(.r (.v (Value.int IntKind.i64 0))),(.r (.v (Value.int IntKind.i64 0))),(.r (.v (Value.string (mk []))))]),(.one (.r (.v (Value.bool false))))]),[])) (
 need (okG g&&decide (s.length≤1000)) <| some ((.tup [(.agg [(.r (.v (Value.int IntKind.i64 ((nearV (farV g) g s (mendV g s)).getD ed0).fst))),(.r (.v (Value.int IntKind.i64 ((nearV (farV g) g s (mendV g s)).getD ed0).snd.fst))),(.r (.v (Value.string (mk ((nearV (farV g) g s (mendV g s)).getD ed0).snd.snd))))]),(.one (.r (.v (Value.bool (nearV (farV g) g s (mendV g s)).isSome))))]),[]))):=by kernel_rfl
theorem s_impl_MendNext (g:Gram) (_hg:Fit TG g) (s:Str) (_hs:Fit .str s):Sat Tryz.prog 19 [ofD TG g,ofD .str s] [] (nextT (nextV g s)) [] :=
 fn_sound (cx:=cxOf Γ73 Tryz.f19.ntmps [] [] [] []) Tryz.func19 rfl ttOk Γ73ok mixed (fun _ _=>LoopsOk.no fun _=>rfl) (ro:=true) (by
  rw[y_impl_MendNext2];unfold nextV
  cases hd:decide (mendV g s≤0)
  ·have hd:=of_decide_eq_false hd;rcases mend_cases (g:=g) (s:=s)with⟨h1,_⟩ | ⟨_,_,_,_,h5,h6,_⟩
   ·omega
   ·rw[h5,zT (by omega:length s≤1000)];rfl
  ·rfl)
def c_impl_MendNext:Con:=conT [TG, .str] fun(g:Gram) (s:Str)=>(none,nextT (nextV g s))
theorem k_impl_MendNext:ConOk Tryz.prog 19 c_impl_MendNext:=conT_ok Tryz.call19 fun g hg s hs _=>s_impl_MendNext g hg s hs
def Γ74:GL:=(19,c_impl_MendNext)::Γ73
theorem Γ74ok:GO Γ74 := .cons k_impl_MendNext Γ73ok
theorem y_spec_MendNext (g:Gram) (s:Str):evFn (cxOf Γ74 Tryz.f20.ntmps [] [] [] []) Tryz.f20 true [ofD TG g,ofD .str s] []=(
need (bif decide ((!canB g s)=false)then okG g&&decide (s.length≤1000)else true) <|
branch (bif !canB g s then true else decide (startC g s=0)) ( some ((.tup [(.agg [(.r (.v (Value.int IntKind.i64 0))),(.r (.v (Value.int IntKind.i64 0))),(.r (.v (Value.string (mk []))))]),(.one (.r (.v (Value.bool false))))]),[])) (
 need (okG g&&decide (s.length≤1000)) <|
 need (okG g&&decide (s.length≤1000)) <| some ((.tup [(.agg [(.r (.v (Value.int IntKind.i64 ((nearV (startC g) g s (startC g s)).getD ed0).fst))),(.r (.v (Value.int IntKind.i64 ((nearV (startC g) g s (startC g s)).getD ed0).snd.fst))),(.r (.v (Value.string (mk ((nearV (startC g) g s (startC g s)).getD ed0).snd.snd))))]),(.one (.r (.v (Value.bool (nearV (startC g) g s (startC g s)).isSome))))]),[]))):=by kernel_rfl
theorem s_spec_MendNext (g:Gram) (_hg:Fit TG g) (s:Str) (_hs:Fit .str s):Sat Tryz.prog 20 [ofD TG g,ofD .str s] [] (nextT (sNextV g s)) [] :=
 fn_sound (cx:=cxOf Γ74 Tryz.f20.ntmps [] [] [] []) Tryz.func20 rfl ttOk Γ74ok mixed (fun _ _=>LoopsOk.no fun _=>rfl) (ro:=true) (by
  rw[y_spec_MendNext];unfold sNextV
  cases hc:canB g s
  ·rfl
  ·obtain ⟨h1,_⟩:=canB_iff.1 hc;obtain⟨h3,h4⟩:=both2_iff.1 h1;have hl:=(areSm_iff.1 h4).1;rw[h3,zT (by omega:length s≤1000)]
   cases decide (startC g s=0)<;>rfl)
def c_spec_MendNext:Con:=conT [TG, .str] fun(g:Gram) (s:Str)=>(none,nextT (sNextV g s))
theorem k_spec_MendNext:ConOk Tryz.prog 20 c_spec_MendNext:=conT_ok Tryz.call20 fun g hg s hs _=>s_spec_MendNext g hg s hs
def Γ75:GL:=(20,c_spec_MendNext)::Γ74
theorem Γ75ok:GO Γ75 := .cons k_spec_MendNext Γ74ok
theorem near_same {g:Gram} {s:Str} {f:Int} (h:okG g=true) (hp:prodG g):nearV (farV g) g s f=nearV (startC g) g s f:=by
 have:okN (farV g) s f=okN (startC g) s f:=by
  funext e
  unfold okN
  cases hb:(EdDo s e).2
  ·rfl
  ·have:=(EdDo_short hb).2;rw[(far_both h (by omega:length (EdDo s e).1≤1000) hp).1]
 unfold nearV;rw[this]
theorem next_same {g:Gram} {s:Str}:nextV g s=sNextV g s:=by
 unfold nextV sNextV;rcases mend_cases (g:=g) (s:=s)with⟨h1,h2⟩ | ⟨h1,h2,h3,h4,h5,h6,h7⟩
 ·rw[h1,h2];rfl
 ·have e:=(far_both h5 (by omega:length s≤1000) h7).1;rw[h1,cond_true,h2,← e,near_same h5 h7];have hd:decide (farV g s≤0)=decide (farV g s=0):=by
   by_cases hz:farV g s=0
   ·rw[zT hz,zT (by omega)]
   ·rw[zF hz,zF (by omega)]
  rw[hd]
theorem getD_some {α:Type} {o:Option α} {d:α} (h:o.isSome=true):o=some (o.getD d):=by
 cases o with
 |none=>cases h
 |some x=>rfl
def szr (r:Rule) (n:Int):Int:=bif decide (n-(length r.1:Int)<0)then -1 else bif decide (n-(length r.1:Int)-(length r.2:Int)<0)then -1 else n-(length r.1:Int)-(length r.2:Int)
def szs:List Rule→Int→Int
 | [],n=>n
 |r::l,n=>bif decide (szr r n<0)then -1 else szs l (szr r n)
theorem szr_in {r:Rule} {n:Int} (h0:n≤1048576) : -1≤szr r n∧szr r n≤1048576:=by
 unfold szr
 by_cases h1:n-(length r.1:Int)<0
 ·rw[zT h1,cond_true];omega
 ·rw[zF h1,cond_false]
  by_cases h2:n-(length r.1:Int)-(length r.2:Int)<0
  ·rw[zT h2,cond_true];omega
  ·rw[zF h2,cond_false];omega
def inM (n:Int):Bool:=decide (0≤n)&&decide (n≤1048576)
theorem inM_iff {n:Int}:inM n=true↔0≤n∧n≤1048576:=by unfold inM;rw[andd,dec_iff,dec_iff]
theorem y_laws_szRule (r:Rule) (n:Int):evFn (cxOf Γ75 Tryz.f106.ntmps [] [] [] []) Tryz.f106 true [ofD TRu r,ofD TI64 n] []=(
branch (decide (W64 (n-(length r.fst:Int))<0)) ( some ((vI (Int.neg 1)),[])) (
 branch (decide (W64 (W64 (n-(length r.fst:Int))-(length r.snd:Int))<0)) ( some ((vI (Int.neg 1)),[])) ( some ((vI (W64 (W64 (n-(length r.fst:Int))-(length r.snd:Int)))),[])))):=by kernel_rfl
theorem s_laws_szRule (r:Rule) (hr:Fit TRu r) (n:Int) (_hn:Fit TI64 n) (hpre:(inM n)=true):Sat Tryz.prog 106 [ofD TRu r,ofD TI64 n] [] (.d (ofD TI64 (szr r n))) [] :=
 fn_sound (cx:=cxOf Γ75 Tryz.f106.ntmps [] [] [] []) Tryz.func106 rfl ttOk Γ75ok mixed (fun _ _=>LoopsOk.no fun _=>rfl) (ro:=true) (by
  obtain⟨n0,n1⟩:=inM_iff.1 hpre;have r1:length r.1≤9223372036854775807:=hr.1;have r2:length r.2≤9223372036854775807:=hr.2;have w1:W64 (n-(length r.1:Int))=n-(length r.1:Int):=wrap_small (by omega) (by omega);rw[y_laws_szRule,w1];unfold szr
  by_cases h1:n-(length r.1:Int)<0
  ·rw[zT h1];rfl
  ·have w2:W64 (n-(length r.1:Int)-(length r.2:Int))=n-(length r.1:Int)-(length r.2:Int):=wrap_small (by omega) (by omega);rw[zF h1,w2]
   cases decide (n-(length r.1:Int)-(length r.2:Int)<0)<;>rfl)
def c_laws_szRule:Con:=conT [TRu,TI64] fun(r:Rule) (n:Int)=>(some (inM n), .d (ofD TI64 (szr r n)))
theorem k_laws_szRule:ConOk Tryz.prog 106 c_laws_szRule:=conT_ok Tryz.call106 fun r hr n hn hqq=>s_laws_szRule r hr n hn (pre_of hqq)
def Γ76:GL:=(106,c_laws_szRule)::Γ75
theorem Γ76ok:GO Γ76 := .cons k_laws_szRule Γ75ok
def cb_szs:Cx:=cxOf Γ76 Tryz.f58.ntmps [(5,[0,1,5])] [(0,[1]),(1,[0,1,5]),(1000000,[4])] [] []
theorem rul_at {l:List Rule} {i:Int} (h0:0≤i) (h1:i<(l.length:Int)):List.drop i.toNat l=getD l i.toNat d0::List.drop (i+1).toNat l:=by
 have hn:i.toNat<l.length:=by omega
 rw[drop_eq_getElem_cons hn,show (i+1).toNat=i.toNat+1 by omega,getD_at hn]
abbrev st_szs (l:List Rule) (n i:Int):St:=⟨[(0, .d (ofD TRL l)),(1,vI n),(5,vI i)],[]⟩
theorem x_laws_szRuleS (l:List Rule) (n i:Int) (R:St→Option Fin) (K:Cont):evC (cb_szs.withLoops (look [])) (loopOf Tryz.f58 0) (st_szs l n i) (onward (headAt (cb_szs.withLoops (look [])) 5) R K)=(
branch (decide (i<(l.length:Int))) (
 need (inb i l.length) <|
 need (inM n) <|
 branch (decide (szr (l.getD i.toNat d0) n<0)) ( K (.ret) (.mk [(4,vI (Int.neg 1))] [])) ( R (st_szs l (szr (l.getD i.toNat d0) n) (W64 (i+1))))) ( K (.exit 0) (.mk [(1,vI n)] []))):=by kernel_rfl
def cx0_szs:Cx:=(cb_szs).withLoops (look [])
def sh_szs:Sh:=([(0, .d TRL),(1, .d TI64),(5, .d TI64)],[])
def pre_szs (l:List Rule) (n i:Int):Bool:=decide (0≤i)&&(inM n&&decide (length l≤1048576))
def res_szs (l:List Rule) (n i:Int) (K:Cont):Option Fin:=branch (decide (szs (List.drop i.toNat l) n<0)) (K .ret ⟨[(4,vI (-1))],[]⟩) (K (.exit 0) ⟨[(1,vI (szs (List.drop i.toNat l) n))],[]⟩)
def mu_szs (l:List Rule) (_n i:Int):Nat:=length l-i.toNat
theorem r_szs (l:List Rule) (n i:Int) (K:Cont) (hI:pre_szs l n i=true):(∀R:St→Option Fin,evC cx0_szs (loopOf Tryz.f58 0) (st_szs l n i) (onward (headAt cx0_szs 5) R K)=res_szs l n i K) ∨
  (∃(l':List Rule) (n' i':Int),pre_szs l' n' i'=true∧mu_szs l' n' i'<mu_szs l n i∧res_szs l' n' i' K=res_szs l n i K∧∀R:St→Option Fin,evC cx0_szs (loopOf Tryz.f58 0) (st_szs l n i) (onward (headAt cx0_szs 5) R K)=R (st_szs l' n' i')):=by
 have hx:=fun R=>x_laws_szRuleS l n i R K;simp only[pre_szs,andd,dec_iff]at hI;obtain⟨h0,h1,h2⟩:=hI;obtain⟨n0,n1⟩:=inM_iff.1 h1
 by_cases hi:i<(length l:Int)
 ·have w:W64 (i+1)=i+1:=wrap_small (by omega) (by omega);obtain⟨q0,q1⟩:=szr_in (r:=getD l i.toNat d0) n1;have ht:szs (List.drop i.toNat l) n=bif decide (szr (getD l i.toNat d0) n<0)then -1 else szs (List.drop (i+1).toNat l) (szr (getD l i.toNat d0) n):=by rw[rul_at h0 hi];rfl
  rw[zT hi,inb_ok h0 hi,h1,w]at hx;change ∀R:St→Option Fin,_=branch (decide (szr (getD l i.toNat d0) n<0)) _ _ at hx
  by_cases hs:szr (getD l i.toNat d0) n<0
  ·left;intro R;refine(hx R).trans ?_;rw[zT hs]at ht ⊢;simp only[res_szs,ht];rfl
  ·rw[zF hs]at hx ht;right;refine⟨l,szr (getD l i.toNat d0) n,i+1, ?_, ?_, ?_,fun R=>hx R⟩
   ·simp only[pre_szs,andd,dec_iff];exact⟨by omega,inM_iff.2 ⟨by omega,by omega⟩,h2⟩
   ·simp only[mu_szs];omega
   ·simp only[res_szs,ht];rfl
 ·left;intro R;refine(hx R).trans ?_;rw[zF hi];have e:List.drop i.toNat l=[]:=drop_eq_nil_of_le (by omega);have e2:decide (n<0)=false:=zF (by omega);simp only[res_szs,e,szs,e2];rfl
def g_szs:St→Cont→Option Fin:=gP sh_szs (fun v=>match v with | ((l,n,i,()),())=>pre_szs l n i) (fun v K=>match v with | ((l,n,i,()),())=>res_szs l n i K)
def L_szs:LpL:=(5,g_szs)::[]
def cx_szs:Cx:=(cb_szs).withLoops (look L_szs)
theorem l_szs {L:LpL} (n:Nat) (h1:L.drop n=[]) (h2:idsFree (L.take n) (loopOf Tryz.f58 0)=true):LoopsTo g_szs (cb_szs) (loopOf Tryz.f58 0) 5 L :=
 with_drop h1 h2 (gP_ok (fun v=>match v with | ((l,n,i,()),())=>mu_szs l n i) fun v K hI=>by
  obtain⟨⟨l,n,i,⟨⟩⟩,⟨⟩⟩:=v;exact(r_szs l n i K hI).imp id fun⟨l',n',i',h⟩=>⟨((l',n',i',()),()),h⟩)
theorem szs_in:∀ {l:List Rule} {n:Int},-1≤n→n≤1048576 → -1≤szs l n∧szs l n≤1048576
 | [],_,h0,h1=>⟨h0,h1⟩
 |r::l,n,h0,h1=>by
  obtain⟨q0,q1⟩:=szr_in (r:=r) h1;unfold szs
  cases decide (szr r n<0)
  ·exact szs_in q0 q1
  ·rw[cond_true];omega
def szRS (l:List Rule) (n:Int):Int:=bif decide (n-(length l:Int)<0)then -1 else szs l (n-(length l:Int))
theorem y_laws_szRuleS (l:List Rule) (n:Int):evFn cx_szs Tryz.f58 true [ofD TRL l,ofD TI64 n] []=(
branch (decide (W64 (n-(l.length:Int))<0)) ( some ((vI (Int.neg 1)),[])) (
 need (pre_szs l (W64 (n-(l.length:Int))) 0) <|
 branch (decide (szs l (W64 (n-(l.length:Int)))<0)) ( some ((vI (Int.neg 1)),[])) ( some ((vI (szs l (W64 (n-(l.length:Int))))),[])))):=by kernel_rfl
theorem s_laws_szRuleS (l:List Rule) (hl:Fit TRL l) (n:Int) (_hn:Fit TI64 n) (hpre:(inM n)=true):Sat Tryz.prog 58 [ofD TRL l,ofD TI64 n] [] (.d (ofD TI64 (szRS l n))) [] :=
 fn_sound (cx:=cx_szs) Tryz.func58 rfl ttOk Γ76ok mixed (fun c hc=>LoopsOk.all (l:=[(5,loopOf Tryz.f58 0)]) (by cases hc;kernel_rfl) ⟨atLoop rfl (l_szs 1 rfl (by kernel_rfl)),trivial⟩) (ro:=true) (by
  obtain⟨n0,n1⟩:=inM_iff.1 hpre;have h1:length l≤9223372036854775807:=hl.1;have w1:W64 (n-(length l:Int))=n-(length l:Int):=wrap_small (by omega) (by omega);rw[y_laws_szRuleS,w1];unfold szRS
  by_cases h1:n-(length l:Int)<0
  ·rw[zT h1];rfl
  ·have kp:pre_szs l (n-(length l:Int)) 0=true:=by
    simp only[pre_szs,andd,dec_iff];exact⟨Int.le_refl 0,inM_iff.2 ⟨by omega,by omega⟩,by omega⟩
   rw[zF h1,kp];show branch (decide (szs l (n-(length l:Int))<0)) (some (vI (-1),[])) (some (vI (szs l (n-(length l:Int))),[]))=_;have hin:=szs_in (l:=l) (n:=n-(length l:Int)) (by omega) (by omega)
   by_cases hs:szs l (n-(length l:Int))<0
   ·rw[zT hs];exact congrArg (fun z:Int=>(some (.d (ofD TI64 z),[]):Option Fin)) (show (-1:Int)=szs l (n-(length l:Int))by omega)
   ·rw[zF hs];rfl)
def c_laws_szRuleS:Con:=conT [TRL,TI64] fun(l:List Rule) (n:Int)=>(some (inM n), .d (ofD TI64 (szRS l n)))
theorem k_laws_szRuleS:ConOk Tryz.prog 58 c_laws_szRuleS:=conT_ok Tryz.call58 fun l hl n hn hqq=>s_laws_szRuleS l hl n hn (pre_of hqq)
def Γ77:GL:=(58,c_laws_szRuleS)::Γ76
theorem Γ77ok:GO Γ77 := .cons k_laws_szRuleS Γ76ok
def szGr (g:Gram) (n:Int):Int:=bif decide (n-(length g.1:Int)<0)then -1 else szRS g.2 (n-(length g.1:Int))
theorem szRS_in {l:List Rule} {n:Int} (h1:n≤1048576) : -1≤szRS l n∧(0≤szRS l n→length l≤1048576):=by
 unfold szRS
 by_cases h:n-(length l:Int)<0
 ·rw[zT h,cond_true];exact ⟨Int.le_refl _,fun h=>by omega⟩
 ·rw[zF h,cond_false];exact⟨(szs_in (by omega) (by omega)).1,fun _=>by omega⟩
theorem y_laws_szGram (g:Gram) (n:Int):evFn (cxOf Γ77 Tryz.f26.ntmps [] [] [] []) Tryz.f26 true [ofD TG g,ofD TI64 n] []=(
branch (decide (W64 (n-(length g.fst:Int))<0)) ( some ((vI (Int.neg 1)),[])) (
 need (inM (W64 (n-(length g.fst:Int)))) <|
 branch (decide (szRS g.snd (W64 (n-(length g.fst:Int)))<0)) ( some ((vI (Int.neg 1)),[])) ( some ((vI (szRS g.snd (W64 (n-(length g.fst:Int))))),[])))):=by kernel_rfl
theorem s_laws_szGram (g:Gram) (hg:Fit TG g) (n:Int) (_hn:Fit TI64 n) (hpre:(inM n)=true):Sat Tryz.prog 26 [ofD TG g,ofD TI64 n] [] (.d (ofD TI64 (szGr g n))) [] :=
 fn_sound (cx:=cxOf Γ77 Tryz.f26.ntmps [] [] [] []) Tryz.func26 rfl ttOk Γ77ok mixed (fun _ _=>LoopsOk.no fun _=>rfl) (ro:=true) (by
  obtain⟨n0,n1⟩:=inM_iff.1 hpre;have h1:length g.1≤9223372036854775807:=hg.1;have w1:W64 (n-(length g.1:Int))=n-(length g.1:Int):=wrap_small (by omega) (by omega);rw[y_laws_szGram,w1];unfold szGr
  by_cases h1:n-(length g.1:Int)<0
  ·rw[zT h1];rfl
  ·have hin:=(szRS_in (l:=g.2) (n:=n-(length g.1:Int)) (by omega)).1;rw[zF h1,inM_iff.2 ⟨by omega,by omega⟩];show branch (decide (szRS g.2 (n-(length g.1:Int))<0)) (some (vI (-1),[])) (some (vI (szRS g.2 (n-(length g.1:Int))),[]))=_
   by_cases hs:szRS g.2 (n-(length g.1:Int))<0
   ·rw[zT hs];exact congrArg (fun z:Int=>(some (.d (ofD TI64 z),[]):Option Fin)) (show (-1:Int)=szRS g.2 (n-(length g.1:Int))by omega)
   ·rw[zF hs];rfl)
def c_laws_szGram:Con:=conT [TG,TI64] fun(g:Gram) (n:Int)=>(some (inM n), .d (ofD TI64 (szGr g n)))
theorem k_laws_szGram:ConOk Tryz.prog 26 c_laws_szGram:=conT_ok Tryz.call26 fun g hg n hn hqq=>s_laws_szGram g hg n hn (pre_of hqq)
theorem szGr_few {g:Gram} {n:Int} (h1:n≤1048576) (h:0≤szGr g n):length g.2≤1048576:=by
 unfold szGr at h
 by_cases h2:n-(length g.1:Int)<0
 ·rw[zT h2,cond_true]at h;omega
 ·rw[zF h2,cond_false]at h;exact(szRS_in (by omega)).2 h
def Γ78:GL:=(26,c_laws_szGram)::Γ77
theorem Γ78ok:GO Γ78 := .cons k_laws_szGram Γ77ok
theorem s_laws_toRule (r:Rule) (_hr:Fit TRu r):Sat Tryz.prog 107 [ofD TRu r] [] (.d (ofD TRu r)) [] :=
 fn_sound (cx:=cxOf Γ78 Tryz.f107.ntmps [] [] [] []) Tryz.func107 rfl ttOk Γ78ok mixed (fun _ _=>LoopsOk.no fun _=>rfl) (ro:=true) (by
  kernel_rfl)
def c_laws_toRule:Con:=conT [TRu] fun(r:Rule)=>(none, .d (ofD TRu r))
theorem k_laws_toRule:ConOk Tryz.prog 107 c_laws_toRule:=conT_ok Tryz.call107 fun r hr _=>s_laws_toRule r hr
def Γ79:GL:=(107,c_laws_toRule)::Γ78
theorem Γ79ok:GO Γ79 := .cons k_laws_toRule Γ78ok
def cb_trs:Cx:=cxOf Γ79 Tryz.f59.ntmps [(3,[0,3,4])] [(0,[3]),(1,[0,3,4]),(1000000,[2])] [] []
abbrev st_trs (l:List Rule) (i:Int) (o:List (Rule)):St:=⟨[(0, .d (ofD TRL l)),(3, ko0),(4,vI i)],[(500000,some (.lis 63 TRu o))]⟩
theorem x_laws_toRuleS (l o:List Rule) (i:Int) (R:St→Option Fin) (K:Cont):evC (cb_trs.withLoops (look [])) (loopOf Tryz.f59 0) (st_trs l i o) (onward (headAt (cb_trs.withLoops (look [])) 3) R K)=(
branch (decide (i<(l.length:Int))) (
 need (inb i l.length) <|
 need (inb i o.length) <| R (st_trs l (W64 (i+1)) (o.set i.toNat (l.getD i.toNat d0)))) ( K (.exit 0) (.mk [(3,ko0)] [(500000,some (.lis 63 TRu o))]))):=by kernel_rfl
def cx0_trs:Cx:=(cb_trs).withLoops (look [])
def sh_trs:Sh:=([(0, .d TRL),(3, .own 500000),(4, .d TI64)],[(500000, .lis 63 TRu)])
def pre_trs (l:List Rule) (i:Int) (o:List (Rule)):Bool:=decide (0≤i)&&(decide (length o=length l)&&decide (length l≤1048576))
def res_trs (l:List Rule) (i:Int) (o:List (Rule)) (K:Cont):Option Fin:=K (.exit 0) ⟨[(3, ko0)],[(500000,some (.lis 63 TRu (List.take i.toNat o++List.drop i.toNat l)))]⟩
def mu_trs (l:List Rule) (i:Int) (_o:List (Rule)):Nat:=length l-i.toNat
theorem r_trs (l:List Rule) (i:Int) (o:List (Rule)) (K:Cont) (hI:pre_trs l i o=true):(∀R:St→Option Fin,evC cx0_trs (loopOf Tryz.f59 0) (st_trs l i o) (onward (headAt cx0_trs 3) R K)=res_trs l i o K) ∨
  (∃(l':List Rule) (i':Int) (o':List (Rule)),pre_trs l' i' o'=true∧mu_trs l' i' o'<mu_trs l i o∧res_trs l' i' o' K=res_trs l i o K∧∀R:St→Option Fin,evC cx0_trs (loopOf Tryz.f59 0) (st_trs l i o) (onward (headAt cx0_trs 3) R K)=R (st_trs l' i' o')):=by
 have hx:=fun R=>x_laws_toRuleS l o i R K;simp only[pre_trs,andd,dec_iff]at hI;obtain⟨h0,h1,h2⟩:=hI
 by_cases hi:i<(length l:Int)
 ·have w:W64 (i+1)=i+1:=wrap_small (by omega) (by omega);rw[zT hi,inb_ok h0 hi,w]at hx;change ∀R:St→Option Fin,_=branch true (need true (need (inb i (length o)) _)) _ at hx;rw[inb_ok h0 (by omega:i<(length o:Int))]at hx;right;refine⟨l,i+1,List.set o i.toNat (getD l i.toNat d0), ?_, ?_, ?_,fun R=>hx R⟩
  ·simp only[pre_trs,andd,dec_iff];rw[length_set];exact⟨by omega,h1,h2⟩
  ·simp only[mu_trs];omega
  ·have e:List.take (i+1).toNat (List.set o i.toNat (getD l i.toNat d0))++List.drop (i+1).toNat l=List.take i.toNat o++List.drop i.toNat l:=by
    rw[rul_at h0 hi,show (i+1).toNat=i.toNat+1 by omega,List.take_succ_eq_append_getElem (by rw[length_set];omega),List.getElem_set_self,List.take_set_of_le (Nat.le_refl _),append_assoc];rfl
   simp only[res_trs,e]
 ·left;intro R;refine(hx R).trans ?_;rw[zF hi];have e:List.take i.toNat o++List.drop i.toNat l=o:=by
   rw[drop_eq_nil_of_le (by omega),List.append_nil,List.take_of_length_le (by omega)]
  simp only[res_trs,e];rfl
def g_trs:St→Cont→Option Fin:=gP sh_trs (fun v=>match v with | ((l,i,()),(o,()))=>pre_trs l i o) (fun v K=>match v with | ((l,i,()),(o,()))=>res_trs l i o K)
def L_trs:LpL:=(3,g_trs)::[]
def cx_trs:Cx:=(cb_trs).withLoops (look L_trs)
theorem l_trs {L:LpL} (n:Nat) (h1:L.drop n=[]) (h2:idsFree (L.take n) (loopOf Tryz.f59 0)=true):LoopsTo g_trs (cb_trs) (loopOf Tryz.f59 0) 3 L :=
 with_drop h1 h2 (gP_ok (fun v=>match v with | ((l,i,()),(o,()))=>mu_trs l i o) fun v K hI=>by
  obtain⟨⟨l,i,⟨⟩⟩,⟨o,⟨⟩⟩⟩:=v;exact(r_trs l i o K hI).imp id fun⟨l',i',o',h⟩=>⟨((l',i',()),(o',())),h⟩)
theorem y_laws_toRuleS (l:List Rule):evFn cx_trs Tryz.f59 true [ofD TRL l] []=(
need (decide (0≤(l.length:Int)∧(l.length:Int)≤(l.length:Int)∧(l.length:Int)*(Tryz.t63.bytes:Int)≤140737488355328∧(l.length:Int)≤9223372036854775807)) <|
need (pre_trs l 0 (replicate ((l.length:Int)).toNat (([]:Str),([]:Str)))) <| some ((.d (.one (.r (.li TRu ((List.take ((0:Int).toNat) (replicate ((l.length:Int)).toNat (([]:Str),([]:Str)))).append l))))),[])):=by kernel_rfl
theorem s_laws_toRuleS (l:List Rule) (_hl:Fit TRL l) (hpre:(decide (length l≤1048576))=true):Sat Tryz.prog 59 [ofD TRL l] [] (.d (ofD TRL l)) [] :=
 fn_sound (cx:=cx_trs) Tryz.func59 rfl ttOk Γ79ok mixed (fun c hc=>LoopsOk.all (l:=[(3,loopOf Tryz.f59 0)]) (by cases hc;kernel_rfl) ⟨atLoop rfl (l_trs 1 rfl (by kernel_rfl)),trivial⟩) (ro:=true) (by
  have h1:=of_decide_eq_true hpre;have k1:decide (0≤(length l:Int)∧(length l:Int)≤(length l:Int)∧(length l:Int)*(Tryz.t63.bytes:Int)≤140737488355328∧(length l:Int)≤9223372036854775807)=true:=by
   rw[show Tryz.t63.bytes=32 by kernel_rfl];exact zT ⟨by omega,Int.le_refl _,by omega,by omega⟩
  have k2:pre_trs l 0 (replicate ((length l:Int)).toNat (([]:Str),([]:Str)))=true:=by
   simp only[pre_trs,andd,dec_iff];rw[length_replicate];exact⟨Int.le_refl 0,by omega,h1⟩
  rw[y_laws_toRuleS,k1,k2];rfl)
def c_laws_toRuleS:Con:=conT [TRL] fun(l:List Rule)=>(some (decide (length l≤1048576)), .d (ofD TRL l))
theorem k_laws_toRuleS:ConOk Tryz.prog 59 c_laws_toRuleS:=conT_ok Tryz.call59 fun l hl hqq=>s_laws_toRuleS l hl (pre_of hqq)
def Γ80:GL:=(59,c_laws_toRuleS)::Γ79
theorem Γ80ok:GO Γ80 := .cons k_laws_toRuleS Γ79ok
theorem y_laws_toGram (g:Gram):evFn (cxOf Γ80 Tryz.f27.ntmps [] [] [] []) Tryz.f27 true [ofD TG g] []=(
need (decide ((length g.snd)≤1048576)) <| some ((.d (.agg [(.r (.v (Value.string (mk g.fst)))),(.r (.li TRu (g.snd)))])),[])):=by kernel_rfl
theorem s_laws_toGram (g:Gram) (_hg:Fit TG g) (hpre:(decide (length g.2≤1048576))=true):Sat Tryz.prog 27 [ofD TG g] [] (.d (ofD TG g)) [] :=
 fn_sound (cx:=cxOf Γ80 Tryz.f27.ntmps [] [] [] []) Tryz.func27 rfl ttOk Γ80ok mixed (fun _ _=>LoopsOk.no fun _=>rfl) (ro:=true) (by
  rw[y_laws_toGram,hpre];rfl)
def c_laws_toGram:Con:=conT [TG] fun(g:Gram)=>(some (decide (length g.2≤1048576)), .d (ofD TG g))
theorem k_laws_toGram:ConOk Tryz.prog 27 c_laws_toGram:=conT_ok Tryz.call27 fun g hg hqq=>s_laws_toGram g hg (pre_of hqq)
def Γ81:GL:=(27,c_laws_toGram)::Γ80
theorem Γ81ok:GO Γ81 := .cons k_laws_toGram Γ80ok
theorem y_laws_eqRule (a:Rule) (b:Rule):evFn (cxOf Γ81 Tryz.f108.ntmps [] [] [] []) Tryz.f108 true [ofD TRu a,ofD TRu b] []=(
branch (!decide (a.fst=b.fst)) ( some ((vB false),[])) (
 branch (!decide (a.snd=b.snd)) ( some ((vB false),[])) ( some ((vB true),[])))):=by kernel_rfl
theorem s_laws_eqRule (a:Rule) (_ha:Fit TRu a) (b:Rule) (_hb:Fit TRu b):Sat Tryz.prog 108 [ofD TRu a,ofD TRu b] [] (.d (ofD .bool (decide (a=b)))) [] :=
 fn_sound (cx:=cxOf Γ81 Tryz.f108.ntmps [] [] [] []) Tryz.func108 rfl ttOk Γ81ok mixed (fun _ _=>LoopsOk.no fun _=>rfl) (ro:=true) (by
  rw[y_laws_eqRule];obtain⟨a1,a2⟩:=a;obtain⟨b1,b2⟩:=b;show branch (!decide (a1=b1)) _ (branch (!decide (a2=b2)) _ _)=_
  by_cases h1:a1=b1
  ·subst h1
   by_cases h2:a2=b2
   ·subst h2;rw[zT rfl,zT rfl,zT rfl];rfl
   ·rw[zT rfl,zF h2,zF fun e=>h2 (Prod.mk.inj e).2];rfl
  ·rw[zF h1,zF fun e=>h1 (Prod.mk.inj e).1];rfl)
def c_laws_eqRule:Con:=conT [TRu,TRu] fun(a:Rule) (b:Rule)=>(none, .d (ofD .bool (decide (a=b))))
theorem k_laws_eqRule:ConOk Tryz.prog 108 c_laws_eqRule:=conT_ok Tryz.call108 fun a ha b hb _=>s_laws_eqRule a ha b hb
def Γ82:GL:=(108,c_laws_eqRule)::Γ81
theorem Γ82ok:GO Γ82 := .cons k_laws_eqRule Γ81ok
def cb_ers:Cx:=cxOf Γ82 Tryz.f60.ntmps [(4,[0,1,5])] [(0,[]),(1,[0,1,5]),(1000000,[4])] [] []
abbrev st_ers (l m:List Rule) (i:Int):St:=⟨[(0, .d (ofD TRL l)),(1, .d (ofD TRL m)),(5,vI i)],[]⟩
theorem x_laws_eqRuleS (l m:List Rule) (i:Int) (R:St→Option Fin) (K:Cont):evC (cb_ers.withLoops (look [])) (loopOf Tryz.f60 0) (st_ers l m i) (onward (headAt (cb_ers.withLoops (look [])) 4) R K)=(
branch (decide (i<(l.length:Int))) (
 need (inb i l.length) <|
 need (inb i m.length) <|
 branch (!decide (l.getD i.toNat d0=m.getD i.toNat d0)) ( K (.ret) (.mk [(4,vB false)] [])) ( R (st_ers l m (W64 (i+1))))) ( K (.exit 0) (.mk [] []))):=by kernel_rfl
def cx0_ers:Cx:=(cb_ers).withLoops (look [])
def sh_ers:Sh:=([(0, .d TRL),(1, .d TRL),(5, .d TI64)],[])
def pre_ers (l m:List Rule) (i:Int):Bool:=decide (0≤i)&&(decide (length l=length m)&&decide (length l≤9223372036854775807))
def res_ers (l m:List Rule) (i:Int) (K:Cont):Option Fin:=branch (decide (List.drop i.toNat l=List.drop i.toNat m)) (K (.exit 0) ⟨[],[]⟩) (K .ret ⟨[(4,vB false)],[]⟩)
def mu_ers (l _m:List Rule) (i:Int):Nat:=length l-i.toNat
theorem r_ers (l m:List Rule) (i:Int) (K:Cont) (hI:pre_ers l m i=true):(∀R:St→Option Fin,evC cx0_ers (loopOf Tryz.f60 0) (st_ers l m i) (onward (headAt cx0_ers 4) R K)=res_ers l m i K) ∨
  (∃(l' m':List Rule) (i':Int),pre_ers l' m' i'=true∧mu_ers l' m' i'<mu_ers l m i∧res_ers l' m' i' K=res_ers l m i K∧∀R:St→Option Fin,evC cx0_ers (loopOf Tryz.f60 0) (st_ers l m i) (onward (headAt cx0_ers 4) R K)=R (st_ers l' m' i')):=by
 have hx:=fun R=>x_laws_eqRuleS l m i R K;simp only[pre_ers,andd,dec_iff]at hI;obtain⟨h0,h1,h2⟩:=hI
 by_cases hi:i<(length l:Int)
 ·have w:W64 (i+1)=i+1:=wrap_small (by omega) (by omega);rw[zT hi,inb_ok h0 hi,inb_ok h0 (by omega:i<(length m:Int)),w]at hx;change ∀R:St→Option Fin,_=branch (!decide (getD l i.toNat d0=getD m i.toNat d0)) _ _ at hx;have e1:=rul_at h0 hi;have e2:=rul_at h0 (by omega:i<(length m:Int))
  by_cases he:getD l i.toNat d0=getD m i.toNat d0
  ·right;rw[zT he]at hx;refine⟨l,m,i+1, ?_, ?_, ?_,fun R=>hx R⟩
   ·simp only[pre_ers,andd,dec_iff];exact⟨by omega,h1,h2⟩
   ·simp only[mu_ers];omega
   ·have e3:decide (List.drop (i+1).toNat l=List.drop (i+1).toNat m)=decide (List.drop i.toNat l=List.drop i.toNat m):=by
     rw[e1,e2,he,decide_eq_decide];exact⟨fun h=>by rw[h],fun h=>(List.cons.inj h).2⟩
    simp only[res_ers,e3]
  ·left;intro R;refine(hx R).trans ?_;have e3:decide (List.drop i.toNat l=List.drop i.toNat m)=false:=zF fun h=>by
    rw[e1,e2]at h;exact he (List.cons.inj h).1
   rw[zF he];simp only[res_ers,e3];rfl
 ·left;intro R;refine(hx R).trans ?_;rw[zF hi];have e3:decide (List.drop i.toNat l=List.drop i.toNat m)=true:=zT (by rw[drop_eq_nil_of_le (by omega),drop_eq_nil_of_le (by omega)]);simp only[res_ers,e3];rfl
def g_ers:St→Cont→Option Fin:=gP sh_ers (fun v=>match v with | ((l,m,i,()),())=>pre_ers l m i) (fun v K=>match v with | ((l,m,i,()),())=>res_ers l m i K)
def L_ers:LpL:=(4,g_ers)::[]
def cx_ers:Cx:=(cb_ers).withLoops (look L_ers)
theorem l_ers {L:LpL} (n:Nat) (h1:L.drop n=[]) (h2:idsFree (L.take n) (loopOf Tryz.f60 0)=true):LoopsTo g_ers (cb_ers) (loopOf Tryz.f60 0) 4 L :=
 with_drop h1 h2 (gP_ok (fun v=>match v with | ((l,m,i,()),())=>mu_ers l m i) fun v K hI=>by
  obtain⟨⟨l,m,i,⟨⟩⟩,⟨⟩⟩:=v;exact(r_ers l m i K hI).imp id fun⟨l',m',i',h⟩=>⟨((l',m',i',()),()),h⟩)
theorem y_laws_eqRuleS (l:List Rule) (m:List Rule):evFn cx_ers Tryz.f60 true [ofD TRL l,ofD TRL m] []=(
branch (!decide ((l.length:Int)=(m.length:Int))) ( some ((vB false),[])) (
 need (pre_ers l m 0) <|
 branch (decide (id l=List.drop ((0:Int).toNat) m)) ( some ((vB true),[])) ( some ((vB false),[])))):=by kernel_rfl
theorem s_laws_eqRuleS (l:List Rule) (hl:Fit TRL l) (m:List Rule) (_hm:Fit TRL m):Sat Tryz.prog 60 [ofD TRL l,ofD TRL m] [] (.d (ofD .bool (decide (l=m)))) [] :=
 fn_sound (cx:=cx_ers) Tryz.func60 rfl ttOk Γ82ok mixed (fun c hc=>LoopsOk.all (l:=[(4,loopOf Tryz.f60 0)]) (by cases hc;kernel_rfl) ⟨atLoop rfl (l_ers 1 rfl (by kernel_rfl)),trivial⟩) (ro:=true) (by
  rw[y_laws_eqRuleS];have h1:length l≤9223372036854775807:=hl.1
  by_cases hlm:(length l:Int)=(length m:Int)
  ·have kp:pre_ers l m 0=true:=by
    simp only[pre_ers,andd,dec_iff];exact⟨Int.le_refl 0,by omega,h1⟩
   rw[zT hlm,kp];show branch (decide (l=m)) _ _=_
   cases decide (l=m)<;>rfl
  ·rw[zF hlm,zF (fun e=>hlm (by rw[e]):¬l=m)];rfl)
def c_laws_eqRuleS:Con:=conT [TRL,TRL] fun(l:List Rule) (m:List Rule)=>(none, .d (ofD .bool (decide (l=m))))
theorem k_laws_eqRuleS:ConOk Tryz.prog 60 c_laws_eqRuleS:=conT_ok Tryz.call60 fun l hl m hm _=>s_laws_eqRuleS l hl m hm
def Γ83:GL:=(60,c_laws_eqRuleS)::Γ82
theorem Γ83ok:GO Γ83 := .cons k_laws_eqRuleS Γ82ok
theorem y_laws_eqGram (a:Gram) (b:Gram):evFn (cxOf Γ83 Tryz.f29.ntmps [] [] [] []) Tryz.f29 true [ofD TG a,ofD TG b] []=(
branch (!decide (a.fst=b.fst)) ( some ((vB false),[])) (
 branch (!decide (a.snd=b.snd)) ( some ((vB false),[])) ( some ((vB true),[])))):=by kernel_rfl
theorem s_laws_eqGram (a:Gram) (_ha:Fit TG a) (b:Gram) (_hb:Fit TG b):Sat Tryz.prog 29 [ofD TG a,ofD TG b] [] (.d (ofD .bool (decide (a=b)))) [] :=
 fn_sound (cx:=cxOf Γ83 Tryz.f29.ntmps [] [] [] []) Tryz.func29 rfl ttOk Γ83ok mixed (fun _ _=>LoopsOk.no fun _=>rfl) (ro:=true) (by
  rw[y_laws_eqGram];obtain⟨a1,a2⟩:=a;obtain⟨b1,b2⟩:=b;show branch (!decide (a1=b1)) _ (branch (!decide (a2=b2)) _ _)=_
  by_cases h1:a1=b1
  ·subst h1
   by_cases h2:a2=b2
   ·subst h2;rw[zT rfl,zT rfl,zT rfl];rfl
   ·rw[zT rfl,zF h2,zF fun e=>h2 (Prod.mk.inj e).2];rfl
  ·rw[zF h1,zF fun e=>h1 (Prod.mk.inj e).1];rfl)
def c_laws_eqGram:Con:=conT [TG,TG] fun(a:Gram) (b:Gram)=>(none, .d (ofD .bool (decide (a=b))))
theorem k_laws_eqGram:ConOk Tryz.prog 29 c_laws_eqGram:=conT_ok Tryz.call29 fun a ha b hb _=>s_laws_eqGram a ha b hb
def Γ84:GL:=(29,c_laws_eqGram)::Γ83
theorem Γ84ok:GO Γ84 := .cons k_laws_eqGram Γ83ok
def eqE (a b:Edit):Bool:=decide (a.1=b.1)&&(decide (a.2.1=b.2.1)&&(decide (a.2.2=b.2.2)&&true))
theorem eqE_self (a:Edit):eqE a a=true:=by simp[eqE]
theorem y_laws_eqEdit (a b:Edit):evFn (cxOf Γ84 Tryz.f28.ntmps [] [] [] []) Tryz.f28 true [ofD TE a,ofD TE b] [] =
  branch (!decide (a.1=b.1)) (some (.d (ofD .bool false),[])) (branch (!decide (a.2.1=b.2.1)) (some (.d (ofD .bool false),[])) (branch (!decide (a.2.2=b.2.2)) (some (.d (ofD .bool false),[])) (some (.d (ofD .bool true),[])))):=by kernel_rfl
theorem s_laws_eqEdit (a:Edit) (_ha:Fit TE a) (b:Edit) (_hb:Fit TE b):Sat Tryz.prog 28 [ofD TE a,ofD TE b] [] (.d (ofD .bool (eqE a b))) [] :=
 fn_sound (cx:=cxOf Γ84 Tryz.f28.ntmps [] [] [] []) Tryz.func28 rfl ttOk Γ84ok mixed (fun _ _=>LoopsOk.no fun _=>rfl) (ro:=true) (by
  rw[y_laws_eqEdit];unfold eqE
  cases decide (a.1=b.1)<;>cases decide (a.2.1=b.2.1)<;>cases decide (a.2.2=b.2.2)<;>rfl)
def c_laws_eqEdit:Con:=conT [TE,TE] fun(a:Edit) (b:Edit)=>(none, .d (ofD .bool (eqE a b)))
theorem k_laws_eqEdit:ConOk Tryz.prog 28 c_laws_eqEdit:=conT_ok Tryz.call28 fun a ha b hb _=>s_laws_eqEdit a ha b hb
def Γ85:GL:=(28,c_laws_eqEdit)::Γ84
theorem Γ85ok:GO Γ85 := .cons k_laws_eqEdit Γ84ok
theorem y_laws_FnExactMendNext (g:Gram) (s:Str):evFn (cxOf Γ85 Tryz.f8.ntmps [] [] [] []) Tryz.f8 true [ofD TG g,ofD .str s] []=(
branch (decide (1048576<(s.length:Int))) ( some ((vB true),[])) (
 branch (decide (szGr g 1048576<0)) ( some ((vB true),[])) (
 need (decide (g.snd.length≤1048576)) <|
 need (decide (g.snd.length≤1048576)) <|
 branch (bif !eqE ((nextV g s).getD ed0) ((sNextV g s).getD ed0)then true else !decide ((nextV g s).isSome=(sNextV g s).isSome)) ( some ((vB false),[])) (
  need (decide (g.snd.length≤1048576)) <|
  branch (!decide (g=g)) ( some ((vB false),[])) ( some ((vB true),[])))))):=by kernel_rfl
theorem s_laws_FnExactMendNext (g:Gram) (_hg:Fit TG g) (s:Str) (_hs:Fit .str s):Sat Tryz.prog 8 [ofD TG g,ofD .str s] [] (.d (ofD .bool true)) [] :=
 fn_sound (cx:=cxOf Γ85 Tryz.f8.ntmps [] [] [] []) Tryz.func8 rfl ttOk Γ85ok mixed (fun _ _=>LoopsOk.no fun _=>rfl) (ro:=true) (by
  rw[y_laws_FnExactMendNext,← next_same,eqE_self]
  cases decide (1048576<(length s:Int))
  ·by_cases h:szGr g 1048576<0
   ·rw[zT h];rfl
   ·have k1:decide (length g.2≤1048576)=true:=zT (szGr_few (Int.le_refl _) (by omega));rw[zF h,k1,zT (rfl:(nextV g s).isSome=(nextV g s).isSome),zT (rfl:g=g)];rfl
  ·rfl)
end
end Go.Proofs.YtmeiebnfmhddnaaGreatDoor.Ev
