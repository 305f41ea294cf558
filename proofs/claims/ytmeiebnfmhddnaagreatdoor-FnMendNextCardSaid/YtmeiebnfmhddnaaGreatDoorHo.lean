/-
  Distances: what both tables tell.
-/
import Derived.Test.YtmeiebnfmhddnaaGreatDoorHn
namespace Go.Proofs.YtmeiebnfmhddnaaGreatDoor.Ev
open Go
inductive Ed:Str→Str→Nat→Prop
 | nil:Ed [] [] 0
 | keep {c:UInt8} {u w:Str} {n:Nat} (h:Ed u w n):Ed (c::u) (c::w) n
 | turn {c d:UInt8} {u w:Str} {n:Nat} (hne:c≠d) (h:Ed u w n):Ed (c::u) (d::w) (n+1)
 | out {c:UInt8} {u w:Str} {n:Nat} (h:Ed u w n):Ed (c::u) w (n+1)
 | ins {c:UInt8} {u w:Str} {n:Nat} (h:Ed u w n):Ed u (c::w) (n+1)
theorem Ed.refl:∀ {u:Str},Ed u u 0
 | [] => .nil
 |_::_ => .keep Ed.refl
theorem Ed.zero {u w:Str} (h:Ed u w 0):u=w:=by
 generalize hn:0=n at h
 induction h with
 |nil=>rfl
 |keep _ ih=>rw[ih hn]
 |turn=>omega
 |out=>omega
 |ins=>omega
theorem Ed.app {u w u' w':Str} {n m:Nat} (h:Ed u w n) (h':Ed u' w' m):Ed (u++u') (w++w') (n+m):=by
 induction h with
 |nil=>rw[Nat.zero_add];exact h'
 |keep _ ih=>exact .keep ih
 |turn hne _ ih=>rw[Nat.add_right_comm];exact .turn hne ih
 |out _ ih=>rw[Nat.add_right_comm];exact .out ih
 |ins _ ih=>rw[Nat.add_right_comm];exact .ins ih
theorem Ed.outs:∀ {u:Str},Ed u [] u.length
 | [] => .nil
 |_::_ => .out Ed.outs
theorem Ed.to_nil {u w:Str} {n:Nat} (h:Ed u w n) (hw:w=[]):n=u.length:=by
 induction h with
 |nil=>rfl
 |keep=>cases hw
 |turn=>cases hw
 |out _ ih=>rw[ih hw];rfl
 |ins=>cases hw
theorem Ed.split {u w:Str} {n:Nat} (h:Ed u w n):∀ {w1 w2:Str},w=w1++w2→∃u1 u2 n1 n2,u=u1++u2∧n=n1+n2∧Ed u1 w1 n1∧Ed u2 w2 n2:=by
 induction h with
 |nil =>
  intro w1 w2 e
  obtain⟨rfl,rfl⟩:=List.append_eq_nil_iff.1 e.symm
  exact⟨[],[],0,0,rfl,rfl, .nil, .nil⟩
 | @keep c u w n h ih =>
  intro w1 w2 e
  cases w1 with
  |nil =>
   have e:c::w=w2:=e
   exact⟨[],c::u,0,n,rfl,by omega, .nil,by rw[← e];exact .keep h⟩
  |cons d w1 =>
   have e:c::w=d::(w1++w2):=e
   cases e
   obtain⟨u1,u2,n1,n2,rfl,rfl,h1,h2⟩:=ih rfl
   exact⟨c::u1,u2,n1,n2,rfl,rfl, .keep h1,h2⟩
 | @turn c d u w n hne h ih =>
  intro w1 w2 e
  cases w1 with
  |nil =>
   have e:d::w=w2:=e
   exact⟨[],c::u,0,n+1,rfl,by omega, .nil,by rw[← e];exact .turn hne h⟩
  |cons d' w1 =>
   have e:d::w=d'::(w1++w2):=e
   cases e
   obtain⟨u1,u2,n1,n2,rfl,rfl,h1,h2⟩:=ih rfl
   exact⟨c::u1,u2,n1+1,n2,rfl,by omega, .turn hne h1,h2⟩
 | @out c u w n h ih =>
  intro w1 w2 e
  obtain⟨u1,u2,n1,n2,rfl,rfl,h1,h2⟩:=ih e
  exact⟨c::u1,u2,n1+1,n2,rfl,by omega, .out h1,h2⟩
 | @ins c u w n h ih =>
  intro w1 w2 e
  cases w1 with
  |nil =>
   have e:c::w=w2:=e
   exact⟨[],u,0,n+1,rfl,by omega, .nil,by rw[← e];exact .ins h⟩
  |cons d w1 =>
   have e:c::w=d::(w1++w2):=e
   cases e
   obtain⟨u1,u2,n1,n2,rfl,rfl,h1,h2⟩:=ih rfl
   exact⟨u1,u2,n1+1,n2,rfl,by omega, .ins h1,h2⟩
theorem Ed.tri {b c:Str} {n:Nat} (h:Ed b c n):∀ {a:Str} {m:Nat},Ed a b m→∃k,k≤m+n∧Ed a c k:=by
 induction h with
 |nil=>intro a m h;exact ⟨m,by omega,h⟩
 | @keep x u w n h ih =>
  intro a m h'
  generalize hb:x::u=b at h'
  induction h' with
  |nil=>cases hb
  |keep g _=>cases hb;obtain ⟨k,k1,k2⟩:=ih g;exact ⟨k,k1, .keep k2⟩
  |turn hne g _=>cases hb;obtain ⟨k,k1,k2⟩:=ih g;exact ⟨k+1,by omega, .turn hne k2⟩
  |out _ ih2=>obtain ⟨k,k1,k2⟩:=ih2 hb;exact ⟨k+1,by omega, .out k2⟩
  |ins g _=>cases hb;obtain ⟨k,k1,k2⟩:=ih g;exact ⟨k+1,by omega, .ins k2⟩
 | @turn x y u w n hne h ih =>
  intro a m h'
  generalize hb:x::u=b at h'
  induction h' with
  |nil=>cases hb
  |keep g _=>cases hb;obtain ⟨k,k1,k2⟩:=ih g;exact ⟨k+1,by omega, .turn hne k2⟩
  | @turn z d u' w' n' hne' g _ =>
   cases hb;obtain ⟨k,k1,k2⟩:=ih g
   by_cases e:z=y
   ·subst e;exact ⟨k,by omega, .keep k2⟩
   ·exact ⟨k+1,by omega, .turn e k2⟩
  |out _ ih2=>obtain ⟨k,k1,k2⟩:=ih2 hb;exact ⟨k+1,by omega, .out k2⟩
  |ins g _=>cases hb;obtain ⟨k,k1,k2⟩:=ih g;exact ⟨k+1,by omega, .ins k2⟩
 | @out x u w n h ih =>
  intro a m h'
  generalize hb:x::u=b at h'
  induction h' with
  |nil=>cases hb
  |keep g _=>cases hb;obtain ⟨k,k1,k2⟩:=ih g;exact ⟨k+1,by omega, .out k2⟩
  |turn _ g _=>cases hb;obtain ⟨k,k1,k2⟩:=ih g;exact ⟨k+1,by omega, .out k2⟩
  |out _ ih2=>obtain ⟨k,k1,k2⟩:=ih2 hb;exact ⟨k+1,by omega, .out k2⟩
  |ins g _=>cases hb;obtain ⟨k,k1,k2⟩:=ih g;exact ⟨k,by omega,k2⟩
 |ins _ ih =>
  intro a m h'
  obtain⟨k,k1,k2⟩:=ih h'
  exact⟨k+1,by omega, .ins k2⟩
inductive OneEd:Str→Str→Prop
 | out {u v:Str} {c:UInt8}:OneEd (u++c::v) (u++v)
 | turn {u v:Str} {c d:UInt8} (hne:c≠d):OneEd (u++c::v) (u++d::v)
 | ins {u v:Str} {c:UInt8}:OneEd (u++v) (u++c::v)
theorem OneEd.ed {s x:Str} (h:OneEd s x):Ed s x 1:=by
 cases h with
 |out=>exact (Ed.refl.app (.out Ed.refl):Ed _ _ (0+1))
 |turn hne=>exact (Ed.refl.app (.turn hne Ed.refl):Ed _ _ (0+1))
 |ins=>exact (Ed.refl.app (.ins Ed.refl):Ed _ _ (0+1))
theorem OneEd.de {s x:Str} (h:OneEd s x):Ed x s 1:=by
 cases h with
 |out=>exact (Ed.refl.app (.ins Ed.refl):Ed _ _ (0+1))
 |turn hne=>exact (Ed.refl.app (.turn (Ne.symm hne) Ed.refl):Ed _ _ (0+1))
 |ins=>exact (Ed.refl.app (.out Ed.refl):Ed _ _ (0+1))
inductive OneIn (w:Str):Str→Str→Prop
 | out {u v:Str} {c:UInt8}:OneIn w (u++c::v) (u++v)
 | turn {u v:Str} {c d:UInt8} (hne:c≠d) (hd:d∈w):OneIn w (u++c::v) (u++d::v)
 | ins {u v:Str} {c:UInt8} (hc:c∈w):OneIn w (u++v) (u++c::v)
theorem OneIn.cons {w s x:Str} {c d:UInt8} (h:OneIn w s x):OneIn (d::w) (c::s) (c::x):=by
 cases h with
 | @out u v e=>exact .out (u:=c::u) (v:=v) (c:=e)
 | @turn u v e f hne hd=>exact .turn (u:=c::u) (v:=v) hne (List.mem_cons_of_mem _ hd)
 | @ins u v e hc=>exact .ins (u:=c::u) (v:=v) (List.mem_cons_of_mem _ hc)
theorem Ed.first {s w:Str} {n:Nat} (h:Ed s w n):∀ {m:Nat},n=m+1→∃x,OneIn w s x∧Ed x w m:=by
 induction h with
 |nil=>intro m e;cases e
 | @keep c u w n h ih =>
  intro m e
  obtain⟨x,h1,h2⟩:=ih e
  exact⟨c::x,h1.cons, .keep h2⟩
 | @turn c d u w n hne h ih =>
  intro m e
  cases e
  exact⟨d::u, .turn (u:=[]) hne List.mem_cons_self, .keep h⟩
 | @out c u w n h ih =>
  intro m e
  cases e
  exact⟨u, .out (u:=[]),h⟩
 | @ins c u w n h ih =>
  intro m e
  cases e
  exact⟨c::u, .ins (u:=[]) List.mem_cons_self, .keep h⟩
theorem Ed.len {s w:Str} {n:Nat} (h:Ed s w n):w.length≤s.length+n∧s.length≤w.length+n:=by
 induction h with
 |nil=>exact ⟨Nat.le_refl _,Nat.le_refl _⟩
 |keep _ ih=>simp only[List.length_cons];omega
 |turn _ _ ih=>simp only[List.length_cons];omega
 |out _ ih=>simp only[List.length_cons];omega
 |ins _ ih=>simp only[List.length_cons];omega
def costN (u:Str) (c:UInt8):Nat:=if u=[] then 1 else if c∈u then u.length-1 else u.length
theorem costN_ed {u:Str} {c:UInt8}:Ed u [c] (costN u c):=by
 unfold costN
 split
 ·rename_i h;rw[h];exact .ins .nil
 ·split
  ·rename_i h
   obtain⟨a,b,rfl⟩:=List.append_of_mem h
   have:=(Ed.outs (u:=a)).app (Ed.keep (c:=c) (Ed.outs (u:=b)))
   rw[show (a++c::b).length-1=a.length+b.length by rw[List.length_append,List.length_cons];omega]
   exact this
  ·rename_i h0 h
   cases u with
   |nil=>exact absurd rfl h0
   |cons d u =>
    have hne:d≠c:=fun e=>h (by rw[e];exact List.mem_cons_self)
    exact .turn hne Ed.outs
theorem costN_le {u w:Str} {n:Nat} (h:Ed u w n):∀ {c:UInt8},w=[c]→costN u c≤n:=by
 induction h with
 |nil=>intro c e;cases e
 | @keep x u w n h ih =>
  intro c e
  cases e
  have:=h.to_nil rfl
  unfold costN
  rw[if_neg (by simp),if_pos List.mem_cons_self,List.length_cons];omega
 | @turn x d u w n hne h ih =>
  intro c e
  cases e
  have:=h.to_nil rfl
  unfold costN
  rw[if_neg (by simp)]
  split<;>(rw[List.length_cons];omega)
 | @out x u w n h ih =>
  intro c e
  have:=ih e
  unfold costN at *
  rw[if_neg (by simp)]
  by_cases h0:u=[]
  ·subst h0
   rw[if_pos rfl]at this
   split<;>(simp only[List.length_cons,List.length_nil];omega)
  ·rw[if_neg h0]at this
   have hl:0<u.length:=List.length_pos_iff.2 h0
   by_cases hc:c∈u
   ·rw[if_pos hc]at this
    rw[if_pos (List.mem_cons_of_mem _ hc),List.length_cons];omega
   ·rw[if_neg hc]at this
    split<;>(rw[List.length_cons];omega)
 | @ins x u w n h ih =>
  intro c e
  cases e
  have:=h.to_nil rfl
  unfold costN
  split
  ·omega
  ·split<;>omega
def dstP (s:Str) (P:Str→Int→Int→Nat→Prop) (a:Str) (i j:Int) (n:Nat):Prop:=if smallS a then n=costN (subS s i j) (a.headD 0)else P a i j n
def splD (s:Str) (P:Str→Int→Int→Nat→Prop):Str→Int→Int→Nat→Prop
 | [],i,j,n=>i=j∧n=0
 |c::r,i,j,n=>∃k n1 n2,i≤k∧k≤j∧n=n1+n2∧dstP s P [c] i k n1∧splD s P r k j n2
def rhsD (s:Str) (P:Str→Int→Int→Nat→Prop) (r:Str) (i j:Int) (n:Nat):Prop:=if r=[] then n=(j-i).toNat else splD s P r i j n
def ClosedD (s:Str) (l:List Rule) (P:Str→Int→Int→Nat→Prop):Prop:=∀r∈l,∀i j n,0≤i→i≤j→j≤(s.length:Int)→rhsD s P r.2 i j n→P r.1 i j n
def DistG (s:Str) (l:List Rule) (a:Str) (i j:Int) (n:Nat):Prop:=∀P,ClosedD s l P→P a i j n
def wdP (Q:Str→Str→Prop) (a w:Str):Prop:=if smallS a then w=a else Q a w
def spW (Q:Str→Str→Prop):Str→Str→Prop
 | [],w=>w=[]
 |c::r,w=>∃w1 w2,w=w1++w2∧wdP Q [c] w1∧spW Q r w2
def ClosedW (l:List Rule) (Q:Str→Str→Prop):Prop:=∀r∈l,∀w,spW Q r.2 w→Q r.1 w
def WordG (l:List Rule) (a w:Str):Prop:=∀Q,ClosedW l Q→Q a w
theorem spW_mono {Q R:Str→Str→Prop} (h:∀a w,Q a w→R a w):∀ {r w:Str},spW Q r w→spW R r w
 | [],_,g=>g
 |c::r,w,⟨w1,w2,e,g1,g2⟩=>by
  refine⟨w1,w2,e, ?_,spW_mono h g2⟩
  unfold wdP at g1 ⊢
  split
  ·rename_i hs;rw[if_pos hs]at g1;exact g1
  ·rename_i hs;rw[if_neg hs]at g1;exact h _ _ g1
theorem Word_closed {l:List Rule}:ClosedW l (WordG l):=fun r hr w h Q hQ=>hQ r hr w (spW_mono (fun _ _ g=>g Q hQ) h)
theorem splD_mono {s:Str} {P Q:Str→Int→Int→Nat→Prop} (h:∀a i j n,0≤i→i≤j→j≤(s.length:Int)→P a i j n→Q a i j n):∀ {r:Str} {i j:Int} {n:Nat},0≤i→j≤(s.length:Int)→splD s P r i j n→splD s Q r i j n
 | [],_,_,_,_,_,g=>g
 |c::r,i,j,n,h0,h1,⟨k,n1,n2,k1,k2,e,g1,g2⟩=>by
  refine⟨k,n1,n2,k1,k2,e, ?_,splD_mono h (by omega) h1 g2⟩
  unfold dstP at g1 ⊢
  split
  ·rename_i hs;rw[if_pos hs]at g1;exact g1
  ·rename_i hs;rw[if_neg hs]at g1;exact h _ _ _ _ h0 k1 (by omega) g1
theorem rhsD_mono {s:Str} {P Q:Str→Int→Int→Nat→Prop} (h:∀a i j n,0≤i→i≤j→j≤(s.length:Int)→P a i j n→Q a i j n) {r:Str} {i j:Int} {n:Nat} (h0:0≤i) (h1:j≤(s.length:Int)) (g:rhsD s P r i j n):rhsD s Q r i j n:=by
 unfold rhsD at g ⊢
 split
 ·rename_i hs;rw[if_pos hs]at g;exact g
 ·rename_i hs;rw[if_neg hs]at g;exact splD_mono h h0 h1 g
theorem Dist_closed {s:Str} {l:List Rule}:ClosedD s l (DistG s l):=fun r hr i j n h0 h1 h2 h P hP=>hP r hr i j n h0 h1 h2 (rhsD_mono (fun _ _ _ _ _ _ _ g=>g P hP) h0 h2 h)
theorem sub_app {s:Str} {i k j:Int} (_h0:0≤i) (h1:i≤k) (h2:k≤j) (_h3:j≤(s.length:Int)):subS s i j=subS s i k++subS s k j:=by
 unfold subS
 rw[show j.toNat-i.toNat=(k.toNat-i.toNat)+(j.toNat-k.toNat)by omega,List.take_add,List.drop_drop,show i.toNat+(k.toNat-i.toNat)=k.toNat by omega]
theorem sub_nil {s:Str} {i:Int}:subS s i i=[]:=by
 unfold subS
 rw[Nat.sub_self];rfl
theorem sub_all {s:Str}:subS s 0 (s.length:Int)=s:=by
 unfold subS
 rw[show ((s.length:Int)).toNat-(0:Int).toNat=s.length by omega]
 show List.take s.length s=s
 exact List.take_length
theorem sub_split {s u1 u2:Str} {i j:Int} (h0:0≤i) (h1:i≤j) (h2:j≤(s.length:Int)) (h:subS s i j=u1++u2):∃k,i≤k∧k≤j∧u1=subS s i k∧u2=subS s k j:=by
 have hl:=sub_len h0 h1 h2
 rw[h,List.length_append]at hl
 have h3:=sub_app (s:=s) (i:=i) (k:=i+u1.length) (j:=j) h0 (by omega) (by omega) h2
 have h4:=sub_len (s:=s) (i:=i) (j:=i+u1.length) h0 (by omega) (by omega)
 rw[h]at h3
 have h5:=List.append_inj h3 (by omega)
 exact⟨i+u1.length,by omega,by omega,h5.1,h5.2⟩
theorem dist_word {s:Str} {l:List Rule} {a:Str} {i j:Int} {n:Nat} (h:DistG s l a i j n):0≤i→i≤j→j≤(s.length:Int)→∃w m,m≤n∧WordG l a w∧Ed (subS s i j) w m:=by
 refine h (fun a i j n=>0≤i→i≤j→j≤(s.length:Int)→∃w m,m≤n∧WordG l a w∧Ed (subS s i j) w m) ?_
 intro r hr i j n h0 h1 h2 g _ _ _
 suffices hs:∃w m,m≤n∧spW (WordG l) r.2 w∧Ed (subS s i j) w m by
  obtain⟨w,m,hm,hw,he⟩:=hs
  exact⟨w,m,hm,Word_closed r hr w hw,he⟩
 unfold rhsD at g
 by_cases hr0:r.2=[]
 ·rw[if_pos hr0]at g
  have hl:=sub_len h0 h1 h2
  refine⟨[],(subS s i j).length,by omega,by rw[hr0];exact rfl,Ed.outs⟩
 ·rw[if_neg hr0]at g
  clear hr hr0
  generalize r.2=q at g
  induction q generalizing i n with
  |nil =>
   obtain⟨rfl,rfl⟩:=g
   exact⟨[],0,Nat.le_refl _,rfl,by rw[sub_nil];exact .nil⟩
  |cons c q ih =>
   obtain⟨k,n1,n2,k1,k2,rfl,g1,g2⟩:=g
   obtain⟨w2,m2,e1,e2,e3⟩:=ih k n2 (by omega) k2 (by omega) k2 g2
   have h3:∃w1 m1,m1≤n1∧wdP (WordG l) [c] w1∧Ed (subS s i k) w1 m1:=by
    unfold dstP at g1
    split at g1
    ·rename_i hs
     exact⟨[c],n1,Nat.le_refl _,by unfold wdP;rw[if_pos hs],by rw[g1];exact costN_ed⟩
    ·rename_i hs
     obtain⟨w,m,d1,d2,d3⟩:=g1 h0 k1 (by omega)
     exact⟨w,m,d1,by unfold wdP;rw[if_neg hs];exact d2,d3⟩
   obtain⟨w1,m1,d1,d2,d3⟩:=h3
   exact⟨w1++w2,m1+m2,by omega,⟨w1,w2,rfl,d2,e2⟩,by rw[sub_app h0 k1 k2 h2];exact d3.app e3⟩
theorem word_dist {s:Str} {l:List Rule} {a w:Str} (h:WordG l a w):∀ {i j:Int} {m:Nat},0≤i→i≤j→j≤(s.length:Int)→Ed (subS s i j) w m→∃n,n≤m∧DistG s l a i j n:=by
 refine h (fun a w=>∀ {i j:Int} {m:Nat},0≤i→i≤j→j≤(s.length:Int)→Ed (subS s i j) w m→∃n,n≤m∧DistG s l a i j n) ?_
 intro r hr w g i j m h0 h1 h2 he
 suffices hs:∃n,n≤m∧rhsD s (DistG s l) r.2 i j n by
  obtain⟨n,hn,hd⟩:=hs
  exact⟨n,hn,Dist_closed r hr i j n h0 h1 h2 hd⟩
 clear hr
 generalize r.2=q at g
 by_cases hq:q=[]
 ·subst hq
  have hw:w=[]:=g
  have hl:=sub_len h0 h1 h2
  have:=he.to_nil hw
  exact⟨(j-i).toNat,by omega,by unfold rhsD;rw[if_pos rfl]⟩
 ·suffices hs:∃n,n≤m∧splD s (DistG s l) q i j n by
   obtain⟨n,hn,hd⟩:=hs
   exact⟨n,hn,by unfold rhsD;rw[if_neg hq];exact hd⟩
  have one:∀ {c:UInt8} {w:Str} {i j:Int} {m:Nat},0≤i→i≤j→j≤(s.length:Int)→wdP (fun a w=>∀ {i j:Int} {m:Nat},0≤i→i≤j→j≤(s.length:Int)→Ed (subS s i j) w m→∃n,n≤m∧DistG s l a i j n) [c] w→Ed (subS s i j) w m→∃n,n≤m∧dstP s (DistG s l) [c] i j n:=by
   intro c w i j m h0 h1 h2 g he
   unfold wdP at g
   split at g
   ·rename_i hs
    exact⟨_,costN_le he g,by unfold dstP;rw[if_pos hs];rfl⟩
   ·rename_i hs
    obtain⟨n,hn,hd⟩:=g h0 h1 h2 he
    exact⟨n,hn,by unfold dstP;rw[if_neg hs];exact hd⟩
  induction q generalizing i w m with
  |nil=>exact absurd rfl hq
  |cons c q ih =>
   obtain⟨w1,w2,rfl,g1,g2⟩:=g
   by_cases hq0:q=[]
   ·subst hq0
    have hw:w2=[]:=g2
    subst hw
    rw[List.append_nil]at he
    obtain⟨n,hn,hd⟩:=one h0 h1 h2 g1 he
    exact⟨n,hn,j,n,0,h1,Int.le_refl _,rfl,hd,rfl,rfl⟩
   ·obtain ⟨u1,u2,m1,m2,e,rfl,e1,e2⟩:=he.split rfl
    obtain⟨k,k1,k2,rfl,rfl⟩:=sub_split h0 h1 h2 e
    obtain⟨n1,hn1,hd1⟩:=one h0 k1 (by omega) g1 e1
    obtain⟨n2,hn2,hd2⟩:=ih w2 (by omega) k2 e2 g2 hq0
    exact⟨n1+n2,by omega,k,n1,n2,k1,k2,rfl,hd1,hd2⟩
theorem relN_at {f:Int→Int}:∀ {n:Nat} {z:Int} {l:List Int} {y:Nat},0≤z→z+n≤(l.length:Int)→y<l.length →
  ((relN f n z l).getD y 0≤l.getD y 0∧(z≤(y:Int)→(y:Int)<z+n→(relN f n z l).getD y 0≤f y))∧((relN f n z l).getD y 0=l.getD y 0∨(z≤(y:Int)∧(y:Int)<z+n∧(relN f n z l).getD y 0=f y))
 |0,z,l,y,_,_,_=>⟨⟨Int.le_refl _,fun h1 h2=>by omega⟩, .inl rfl⟩
 |n+1,z,l,y,h0,h1,hy=>by
  unfold relN
  obtain⟨w,hw⟩:∃w,w=(if f z<l.getD z.toNat 0 then f z else l.getD z.toNat 0):=⟨_,rfl⟩
  rw[← hw]
  have w1:w≤l.getD z.toNat 0∧w≤f z∧(w=l.getD z.toNat 0∨w=f z):=by
   rw[hw]
   split<;>exact ⟨by omega,by omega,by simp⟩
  obtain⟨⟨a1,a2⟩,a3⟩:=relN_at (f:=f) (n:=n) (z:=z+1) (l:=l.set z.toNat w) (y:=y) (by omega) (by rw[List.length_set];omega) (by rw[List.length_set];exact hy)
  rw[getD_set (by omega)]at a1 a3
  by_cases hz:z.toNat=y
  ·have e:z=(y:Int):=by omega
   rw[if_pos hz]at a1 a3
   rw[← hz]
   rw[← hz]at a1 a3
   refine⟨⟨by omega,fun _ _=>by rw[show ((z.toNat:Nat):Int)=z by omega];omega⟩, ?_⟩
   rw[show ((z.toNat:Nat):Int)=z by omega]
   rcases a3 with h | ⟨h,_⟩
   ·rcases w1.2.2 with g | g
    ·exact .inl (h.trans g)
    ·exact .inr ⟨Int.le_refl _,by omega,h.trans g⟩
   ·omega
  ·rw[if_neg hz]at a1 a3
   refine⟨⟨a1,fun q1 q2=>a2 (by omega) (by omega)⟩, ?_⟩
   rcases a3 with h | ⟨q1,q2,h⟩
   ·exact .inl h
   ·exact .inr ⟨by omega,by omega,h⟩
theorem midF_at {s:Str} {m:DMap} {c:Str} {i:Int} {be:List Int}:∀ {n:Nat} {x:Int} {nx:List Int} {y:Nat},0≤x→x+n≤(nx.length:Int)→y<nx.length →
  ((midF s m c i be n x nx).getD y 0≤nx.getD y 0∧(∀q:Nat,x≤(q:Int)→(q:Int)<x+n→q≤y→be.getD q 0≠1073741824→(midF s m c i be n x nx).getD y 0≤be.getD q 0+dofV s m c (i+q) (i+y))) ∧
  ((midF s m c i be n x nx).getD y 0=nx.getD y 0∨∃q:Nat,q≤y∧be.getD q 0≠1073741824∧(midF s m c i be n x nx).getD y 0=be.getD q 0+dofV s m c (i+q) (i+y))
 |0,x,nx,y,_,_,_=>⟨⟨Int.le_refl _,fun q h1 h2=>by omega⟩, .inl rfl⟩
 |n+1,x,nx,y,h0,h1,hy=>by
  unfold midF
  obtain⟨⟨a1,a2⟩,a3⟩:=midF_at (s:=s) (m:=m) (c:=c) (i:=i) (be:=be) (n:=n) (x:=x+1) (nx:=stepM s m c i be x nx) (y:=y) (by omega) (by rw[stepM_len];omega) (by rw[stepM_len];exact hy)
  have hst:((stepM s m c i be x nx).getD y 0≤nx.getD y 0∧(x.toNat≤y→be.getD x.toNat 0≠1073741824→(stepM s m c i be x nx).getD y 0≤be.getD x.toNat 0+dofV s m c (i+x) (i+y)))∧((stepM s m c i be x nx).getD y 0=nx.getD y 0∨(x.toNat≤y∧be.getD x.toNat 0≠1073741824∧(stepM s m c i be x nx).getD y 0=be.getD x.toNat 0+dofV s m c (i+x) (i+y))):=by
   unfold stepM
   by_cases hb:be.getD x.toNat 0=1073741824
   ·rw[decide_eq_true hb,cond_true]
    exact⟨⟨Int.le_refl _,fun _ h=>absurd hb h⟩, .inl rfl⟩
   ·rw[decide_eq_false hb,cond_false]
    obtain⟨⟨b1,b2⟩,b3⟩:=relN_at (f:=drF s m c i x (be.getD x.toNat 0)) (n:=nx.length-x.toNat) (z:=x) (l:=nx) (y:=y) h0 (by omega) hy
    refine⟨⟨b1,fun q _=>b2 (by omega) (by omega)⟩, ?_⟩
    rcases b3 with h | ⟨q1,q2,h⟩
    ·exact .inl h
    ·exact .inr ⟨by omega,hb,h⟩
  obtain⟨⟨c1,c2⟩,c3⟩:=hst
  refine⟨⟨Int.le_trans a1 c1,fun q q1 q2 q3 q4 => ?_⟩, ?_⟩
  ·by_cases hq:(q:Int)=x
   ·have e:x.toNat=q:=by omega
    rw[e]at c2
    have:=c2 q3 q4
    rw[← hq]at this
    exact Int.le_trans (by rw[← hq]at a1;rw[← hq];exact a1) this
   ·exact a2 q (by omega) (by omega) q3 q4
  ·rcases a3 with h | ⟨q,q1,q2,h⟩
   ·rcases c3 with g | ⟨g1,g2,g3⟩
    ·exact .inl (h.trans g)
    ·refine .inr ⟨x.toNat,g1,g2,h.trans ?_⟩
     rw[g3,show ((x.toNat:Nat):Int)=x by omega]
   ·exact .inr ⟨q,q1,q2,h⟩
theorem hasI_iff {s:Str} {c:UInt8} {i j:Int} (i0:0≤i) (j1:j≤(s.length:Int)):hasI s [c] i j=true↔c∈subS s i j:=by
 unfold hasI subS
 rw[anyI_iff]
 constructor
 ·rintro ⟨k,h1,h2,h3⟩
  have h3:=(List.cons.inj (dec_iff.1 h3)).1
  have hk:k.toNat<s.length:=by omega
  refine List.mem_iff_getElem?.2 ⟨k.toNat-i.toNat, ?_⟩
  rw[List.getElem?_take,if_pos (by omega),List.getElem?_drop,show i.toNat+(k.toNat-i.toNat)=k.toNat by omega,List.getElem?_eq_getElem hk]
  rw[List.getD_eq_getElem?_getD,List.getElem?_eq_getElem hk]at h3
  exact congrArg some h3
 ·intro h
  obtain⟨q,hq⟩:=List.mem_iff_getElem?.1 h
  rw[List.getElem?_take]at hq
  split at hq
  ·rename_i hlt
   rw[List.getElem?_drop]at hq
   refine⟨(i.toNat+q:Nat),by omega,by omega,decide_eq_true ?_⟩
   rw[Int.toNat_natCast,List.getD_eq_getElem?_getD,hq];rfl
  ·cases hq
theorem costZ_N {s:Str} {c:UInt8} {i j:Int} (i0:0≤i) (i1:i≤j) (j1:j≤(s.length:Int)):costZ s [c] i j=(costN (subS s i j) c:Int):=by
 have hl:=sub_len i0 i1 j1
 have hh:=hasI_iff (s:=s) (c:=c) i0 j1
 unfold costZ costN
 by_cases hn:subS s i j=[]
 ·rw[if_pos hn]
  rw[hn]at hl
  have hl:((0:Nat):Int)=j-i:=hl
  have:hasI s [c] i j=false:=by
   cases h:hasI s [c] i j
   ·rfl
   ·rw[h,hn]at hh
    cases hh.1 rfl
  rw[this,cond_false,if_neg (by omega)];rfl
 ·rw[if_neg hn]
  have hpos:=List.length_pos_iff.2 hn
  by_cases hc:c∈subS s i j
  ·rw[if_pos hc,hh.2 hc,cond_true];omega
  ·have:hasI s [c] i j=false:=by
    cases h:hasI s [c] i j
    ·rfl
    ·exact absurd (hh.1 h) hc
   rw[if_neg hc,this,cond_false]
   split<;>omega
def tabD (m:DMap) (a:Str) (i j:Int) (n:Nat):Prop:=getD' m (a,i,j)=(n:Int)∧n<1073741824
def leD (m:DMap) (a:Str) (i j:Int) (n:Nat):Prop:=getD' m (a,i,j)≤(n:Int)
theorem dofV_tab {s:Str} {m:DMap} {c:UInt8} {i j:Int} {n:Nat} (hc:sign c=true) (i0:0≤i) (i1:i≤j) (j1:j≤(s.length:Int)) (h:dofV s m [c] i j=(n:Int)) (hn:n<1073741824):dstP s (tabD m) [c] i j n:=by
 unfold dstP
 unfold dofV at h
 cases hb:bigS [c]
 ·rw[hb,cond_false,costZ_N i0 i1 j1]at h
  have hs:smallS [c]=true:=by
   have hb:bigc c=false:=hb
   unfold sign at hc
   rw[hb,Bool.false_or]at hc
   exact hc
  rw[if_pos hs]
  exact(Int.ofNat_inj.1 h).symm
 ·rw[hb,cond_true]at h
  rw[if_neg (by rw[big_not_small hb];simp)]
  exact⟨h,hn⟩
theorem dofV_le {s:Str} {m:DMap} {c:UInt8} {i j:Int} {n:Nat} (hc:sign c=true) (i0:0≤i) (i1:i≤j) (j1:j≤(s.length:Int)) (h:dstP s (leD m) [c] i j n):dofV s m [c] i j≤(n:Int):=by
 unfold dstP at h
 unfold dofV
 cases hb:bigS [c]
 ·rw[cond_false,costZ_N i0 i1 j1]
  have hs:smallS [c]=true:=by
   have hb:bigc c=false:=hb
   unfold sign at hc
   rw[hb,Bool.false_or]at hc
   exact hc
  rw[if_pos hs]at h
  rw[h];exact Int.le_refl _
 ·rw[cond_true]
  rw[if_neg (by rw[big_not_small hb];simp)]at h
  exact h
theorem rep_never {n y:Nat} (h:y<n):(List.replicate n never).getD y 0=1073741824:=by
 rw[List.getD_eq_getElem?_getD,List.getElem?_replicate,if_pos h];rfl
theorem mid_one {s:Str} {m:DMap} {c:Str} {i:Int} {be:List Int} {y:Nat} (hy:y<be.length) :
  (∀q:Nat,q≤y→be.getD q 0≠1073741824→(midF s m c i be be.length 0 (List.replicate be.length never)).getD y 0≤be.getD q 0+dofV s m c (i+q) (i+y)) ∧
  ((midF s m c i be be.length 0 (List.replicate be.length never)).getD y 0=1073741824∨∃q:Nat,q≤y∧be.getD q 0≠1073741824∧(midF s m c i be be.length 0 (List.replicate be.length never)).getD y 0=be.getD q 0+dofV s m c (i+q) (i+y)):=by
 obtain⟨⟨_,a2⟩,a3⟩:=midF_at (s:=s) (m:=m) (c:=c) (i:=i) (be:=be) (n:=be.length) (x:=0) (nx:=List.replicate be.length never) (y:=y) (Int.le_refl 0) (by rw[List.length_replicate];omega) (by rw[List.length_replicate];exact hy)
 rw[rep_never hy]at a3
 exact⟨fun q q1 q2=>a2 q (by omega) (by omega) q1 q2,a3⟩
theorem mid_all {s:Str} {m:DMap} {c:Str} {i:Int} {be:List Int} (hm:okDm m=true) (hs:List.length s≤1000) (i0:0≤i) (hl:i+be.length≤(List.length s:Int)+1) (hb:okLs be=true):okLs (midF s m c i be be.length 0 (List.replicate be.length never))=true∧(midF s m c i be be.length 0 (List.replicate be.length never)).length=be.length :=
 ⟨midF_ok hm hs i0 hb (by rw[List.length_replicate];exact hl) (Int.le_refl 0) (by rw[List.length_replicate];omega) (by rw[List.length_replicate]) okLs_rep,by rw[midF_len,List.length_replicate]⟩
theorem outF_sound {s:Str} {m:DMap} {i:Int} (hm:okDm m=true) (hs:List.length s≤1000) (i0:0≤i):∀ {r:Str} {be:List Int} {y:Nat},List.all r sign=true→i+be.length≤(List.length s:Int)+1→okLs be=true→y<be.length→(outF s m i r be).getD y 0<1073741824 →
  ∃x:Nat,x≤y∧be.getD x 0<1073741824∧∃n:Nat,splD s (tabD m) r (i+x) (i+y) n∧(outF s m i r be).getD y 0=be.getD x 0+n
 | [],be,y,_,_,_,_,h=>⟨y,Nat.le_refl _,h,0,⟨rfl,rfl⟩,by show be.getD y 0=be.getD y 0+((0:Nat):Int);omega⟩
 |c::r,be,y,ha,hl,hb,hy,h=>by
  rw[List.all_cons,andd]at ha
  unfold outF at h ⊢
  obtain⟨m1,m2⟩:=mid_all (c:=[c]) hm hs i0 hl hb
  obtain⟨x,x1,x2,n,x3,x4⟩:=outF_sound hm hs i0 (r:=r) (y:=y) ha.2 (by rw[m2];exact hl) m1 (by rw[m2];exact hy) h
  rcases(mid_one (s:=s) (m:=m) (c:=[c]) (i:=i) (be:=be) (y:=x) (by omega)).2 with e | ⟨q,q1,q2,q3⟩
  ·omega
  ·have hq:=okLs_at (i:=q) hb (by omega)
   obtain⟨d0,d1⟩:=dofV_ok (s:=s) (a:=[c]) (m:=m) (i:=i+q) (j:=i+x) hm (by omega) (by omega) (by omega) hs
   refine⟨q,by omega,by omega,(dofV s m [c] (i+q) (i+x)).toNat+n,⟨i+x,(dofV s m [c] (i+q) (i+x)).toNat,n,by omega,by omega,rfl,dofV_tab ha.1 (by omega) (by omega) (by omega) (by omega) (by omega),x3⟩, ?_⟩
   rw[x4,q3];omega
theorem outF_least {s:Str} {m:DMap} {i:Int} (hm:okDm m=true) (hs:List.length s≤1000) (i0:0≤i):∀ {r:Str} {be:List Int} {x y n:Nat},List.all r sign=true→i+be.length≤(List.length s:Int)+1→okLs be=true→x≤y→y<be.length→splD s (leD m) r (i+x) (i+y) n→be.getD x 0+n<1073741824 →
  (outF s m i r be).getD y 0≤be.getD x 0+n
 | [],be,x,y,n,_,_,_,_,_,h,_=>by
  obtain⟨h1,h2⟩:=h
  have e:x=y:=by omega
  subst e
  show be.getD x 0≤_
  omega
 |c::r,be,x,y,n,ha,hl,hb,hxy,hy,h,hn=>by
  rw[List.all_cons,andd]at ha
  obtain⟨k,n1,n2,k1,k2,rfl,g1,g2⟩:=h
  obtain⟨q,hq⟩:∃q:Nat,k=i+q:=⟨(k-i).toNat,by omega⟩
  subst hq
  unfold outF
  obtain⟨m1,m2⟩:=mid_all (c:=[c]) hm hs i0 hl hb
  have hd:=dofV_le ha.1 (by omega) (by omega) (by omega) g1
  have h1:=(mid_one (s:=s) (m:=m) (c:=[c]) (i:=i) (be:=be) (y:=q) (by omega)).1 x (by omega) (by omega)
  have h2:=outF_least hm hs i0 (r:=r) (be:=midF s m [c] i be be.length 0 (List.replicate be.length never)) (x:=q) (y:=y) (n:=n2) ha.2 (by rw[m2];exact hl) m1 (by omega) (by rw[m2];exact hy) g2 (by omega)
  omega
theorem init_at {n x:Nat} (h:x<n):(List.set (List.replicate n never) 0 0).getD x 0=if x=0 then 0 else 1073741824:=by
 rw[getD_set (by rw[List.length_replicate];omega)]
 by_cases e:0=x
 ·rw[if_pos e,if_pos e.symm]
 ·rw[if_neg e,if_neg (fun q=>e q.symm),rep_never h]
theorem ruleV_sound {s:Str} {m:DMap} {r:Str} {i j:Int} (hm:okDm m=true) (hs:List.length s≤1000) (i0:0≤i) (i1:i≤j) (j1:j≤(List.length s:Int)) (ha:List.all r sign=true) (h:ruleV s m r i j<1073741824):rhsD s (tabD m) r i j (ruleV s m r i j).toNat:=by
 unfold ruleV at h ⊢
 unfold rhsD
 by_cases hr:r=[]
 ·rw[decide_eq_true hr,cond_true,if_pos hr]
 ·rw[decide_eq_false hr,cond_false]at h ⊢
  rw[if_neg hr]
  have hl:(List.set (List.replicate (j-i+1).toNat never) 0 0).length=(j-i+1).toNat:=by rw[List.length_set,List.length_replicate]
  obtain⟨x,x1,x2,n,x3,x4⟩:=outF_sound hm hs i0 (r:=r) (be:=List.set (List.replicate (j-i+1).toNat never) 0 0) (y:=(j-i).toNat) ha (by rw[hl];omega) init_ok (by rw[hl];omega) h
  rw[init_at (by omega)]at x2 x4
  by_cases hx:x=0
  ·rw[if_pos hx]at x4
   subst hx
   rw[x4]
   rw[show (0+(n:Int)).toNat=n by omega]
   rw[show i+(((j-i).toNat:Nat):Int)=j by omega,show i+((0:Nat):Int)=i by omega]at x3
   exact x3
  ·rw[if_neg hx]at x2;omega
theorem ruleV_least {s:Str} {m:DMap} {r:Str} {i j:Int} {n:Nat} (hm:okDm m=true) (hs:List.length s≤1000) (i0:0≤i) (i1:i≤j) (j1:j≤(List.length s:Int)) (ha:List.all r sign=true) (h:rhsD s (leD m) r i j n) (hn:n<1073741824):ruleV s m r i j≤(n:Int):=by
 unfold ruleV
 unfold rhsD at h
 by_cases hr:r=[]
 ·rw[decide_eq_true hr,cond_true]
  rw[if_pos hr]at h
  omega
 ·rw[decide_eq_false hr,cond_false]
  rw[if_neg hr]at h
  have hl:(List.set (List.replicate (j-i+1).toNat never) 0 0).length=(j-i+1).toNat:=by rw[List.length_set,List.length_replicate]
  have h0:(List.set (List.replicate (j-i+1).toNat never) 0 0).getD 0 0=0:=by rw[init_at (by omega),if_pos rfl]
  have:=outF_least hm hs i0 (r:=r) (be:=List.set (List.replicate (j-i+1).toNat never) 0 0) (x:=0) (y:=(j-i).toNat) (n:=n) ha (by rw[hl];omega) init_ok (by omega) (by rw[hl];omega) (by rw[show i+(((j-i).toNat:Nat):Int)=j by omega,show i+((0:Nat):Int)=i by omega];exact h) (by rw[h0];omega)
  rw[h0]at this
  omega
def okRq (l:List Rule):Bool:=okRd l&&List.all l fun r=>List.all r.2 sign
theorem distM_ok {s:Str} {l:List Rule} (hs:List.length s≤1000) (h:okRq l=true):okDm (distM s l)=true :=
 (runC_end (stepVD_ok hs) (J:=fun _=>True) (good_vis (s:=s) (andd.1 h).1) (fun _ _ _ _=>trivial) (m:=([]:DMap)) rfl trivial).1
theorem distM_sound {s:Str} {l:List Rule} (hs:List.length s≤1000) (h:okRq l=true) {a:Str} {i j:Int} {n:Nat} (ht:tabD (distM s l) a i j n):DistG s l a i j n:=by
 obtain⟨h1,h2⟩:=andd.1 h
 refine(runC_end (stepVD_ok hs) (J:=fun m=>∀a i j n,tabD m a i j n→DistG s l a i j n) (good_vis (s:=s) h1) (fun v hv p hp a i j n ht => ?_) (m:=([]:DMap)) rfl (fun a i j n ht => ?_)).2.1 a i j n ht
 ·obtain ⟨v1,v2,v3,v4,v5⟩:=(mem_visF (Nat.le_refl _)).1 hv
  unfold stepVD stepRD at ht
  cases hc:decide (ruleV s p.1 v.2.2.2 v.1 v.2.1<dofV s p.1 v.2.2.1 v.1 v.2.1)<;>rw[hc]at ht
  ·exact hp.2 a i j n ht
  ·rw[cond_true]at ht
   obtain⟨t1,t2⟩:=ht
   rw[getDm_set]at t1
   by_cases he:(a,i,j)=(v.2.2.1,v.1,v.2.1)
   ·rw[decide_eq_true he,cond_true]at t1
    cases he
    have hr:=ruleV_sound hp.1 hs v1 v3 v4 (List.all_eq_true.1 h2 v.2.2 v5) (by omega)
    rw[t1]at hr
    exact Dist_closed v.2.2 v5 v.1 v.2.1 n v1 v3 v4 (rhsD_mono (fun a i j n _ _ _ g=>hp.2 a i j n g) v1 v4 hr)
   ·rw[decide_eq_false he,cond_false]at t1
    exact hp.2 a i j n ⟨t1,t2⟩
 ·obtain ⟨t1,t2⟩:=ht
  have t1:(1073741824:Int)=n:=t1
  omega
theorem distM_least {s:Str} {l:List Rule} (hs:List.length s≤1000) (h:okRq l=true) {a:Str} {i j:Int} {n:Nat} (i0:0≤i) (i1:i≤j) (j1:j≤(List.length s:Int)) (hd:DistG s l a i j n):getD' (distM s l) (a,i,j)≤(n:Int):=by
 obtain⟨h1,h2⟩:=andd.1 h
 have hok:=distM_ok hs h
 refine hd (fun a i j n=>0≤i→i≤j→j≤(List.length s:Int)→leD (distM s l) a i j n) (fun r hr i j n i0 i1 j1 g _ _ _ => ?_) i0 i1 j1
 show getD' (distM s l) (r.1,i,j)≤(n:Int)
 by_cases hn:n<1073741824
 ·have hq:=(runC_end (stepVD_ok hs) (J:=fun _=>True) (good_vis (s:=s) h1) (fun _ _ _ _=>trivial) (m:=([]:DMap)) rfl trivial).2.2 (i,j,r) ((mem_visF (Nat.le_refl _)).2 ⟨i0,by show i<_;omega,i1,j1,hr⟩)
  change stepRD s i j r (distM s l,false)=(distM s l,false)at hq
  have hv:=ruleV_least hok hs i0 i1 j1 (List.all_eq_true.1 h2 r hr) (rhsD_mono (fun a i j n a0 a1 a2 g=>g a0 a1 a2) i0 j1 g) hn
  unfold stepRD at hq
  cases hc:decide (ruleV s (distM s l) r.2 i j<dofV s (distM s l) r.1 i j)
  ·have:=of_decide_eq_false hc
   unfold dofV at this
   rw[(okRd_at h1 hr).2,cond_true]at this
   omega
  ·rw[hc]at hq
   cases congrArg Prod.snd hq
 ·have:=(getD_ok (x:=(r.1,i,j)) hok).2
  omega
theorem bestF_at {f:Int→Int}:∀ {n:Nat} {p b:Int},bestF f n p b≤b∧(∀q,p≤q→q<p+n→bestF f n p b≤f q)∧(bestF f n p b=b∨∃q,p≤q∧q<p+n∧bestF f n p b=f q)
 |0,_,_=>⟨Int.le_refl _,fun q h1 h2=>by omega, .inl rfl⟩
 |n+1,p,b=>by
  unfold bestF
  obtain⟨a1,a2,a3⟩:=bestF_at (f:=f) (n:=n) (p:=p+1) (b:=minI b (f p))
  have hm:minI b (f p)≤b∧minI b (f p)≤f p∧(minI b (f p)=b∨minI b (f p)=f p):=by
   unfold minI
   cases hc:decide (b<f p)
   ·have:=of_decide_eq_false hc
    rw[cond_false]
    exact⟨by omega,by omega, .inr rfl⟩
   ·have:=dec_iff.1 hc
    rw[cond_true]
    exact⟨by omega,by omega, .inl rfl⟩
  refine⟨by omega,fun q q0 q1 => ?_, ?_⟩
  ·by_cases hq:q=p
   ·rw[hq];omega
   ·exact a2 q (by omega) (by omega)
  ·rcases a3 with e | ⟨q,q0,q1,q2⟩
   ·rcases hm.2.2 with g | g
    ·exact .inl (e.trans g)
    ·exact .inr ⟨p,by omega,by omega,e.trans g⟩
   ·exact .inr ⟨q,by omega,by omega,q2⟩
theorem nextF_at {s:Str} {ch:D3} {row:List Int} {c i:Int}:∀ {n y:Nat} {j:Int},y<n→(nextF s ch row c i n j).getD y 0=bestF (fRow s ch row c (j+y)) (j+y+1-i).toNat i 100000
 |0,_,_,h=>absurd h (Nat.not_lt_zero _)
 |n+1,0,j,_=>by
  unfold nextF
  rw[show j+((0:Nat):Int)=j by omega];rfl
 |n+1,y+1,j,h=>by
  unfold nextF
  rw[show j+((y+1:Nat):Int)=j+1+(y:Int)by omega]
  exact nextF_at (n:=n) (y:=y) (j:=j+1) (by omega)
theorem initF_at {a:Str} {i:Int}:∀ {n y:Nat} {j:Int},y<n→(initF a i n j).getD y 0=e0 a i (j+y)
 |0,_,_,h=>absurd h (Nat.not_lt_zero _)
 |n+1,0,j,_=>by
  unfold initF
  rw[show j+((0:Nat):Int)=j by omega];rfl
 |n+1,y+1,j,h=>by
  unfold initF
  rw[show j+((y+1:Nat):Int)=j+1+(y:Int)by omega]
  exact initF_at (n:=n) (y:=y) (j:=j+1) (by omega)
theorem smlD_N {s:Str} {c:UInt8} {i j:Int} (i0:0≤i) (i1:i≤j) (j1:j≤(s.length:Int)):smlD s (c.toNat:Int) i j=(costN (subS s i j) c:Int):=by
 have hl:=sub_len (s:=s) i0 i1 j1
 have hh:=inS_mem (s:=subS s i j) (c:=c)
 unfold smlD costN
 change(bif decide (i=j)then 1 else bif inS (subS s i j) (c.toNat:Int)then j-i-1 else j-i)=_
 by_cases hij:i=j
 ·have hn:subS s i j=[]:=List.eq_nil_of_length_eq_zero (by omega)
  rw[decide_eq_true hij,cond_true,if_pos hn];rfl
 ·have hn:¬subS s i j=[]:=fun e=>by
   rw[e]at hl
   have hl:((0:Nat):Int)=j-i:=hl
   omega
  rw[decide_eq_false hij,cond_false,if_neg hn]
  by_cases hc:c∈subS s i j
  ·rw[if_pos hc,hh.2 hc,cond_true]
   have:=List.length_pos_iff.2 hn
   omega
  ·have:inS (subS s i j) (c.toNat:Int)=false:=by
    cases h:inS (subS s i j) (c.toNat:Int)
    ·rfl
    ·exact absurd (hh.1 h) hc
   rw[if_neg hc,this,cond_false];omega
def tabE (ch:D3) (a:Str) (i j:Int) (n:Nat):Prop:=bigS a=true∧0≤i∧0≤j∧atD ch (byteAt a 0-65) i j=(n:Int)∧n<100000
def leE (ch:D3) (a:Str) (i j:Int) (n:Nat):Prop:=atD ch (byteAt a 0-65) i j≤(n:Int)
theorem ofS_tab {s:Str} {ch:D3} {c:UInt8} {i j:Int} {n:Nat} (hc:sign c=true) (i0:0≤i) (i1:i≤j) (j1:j≤(s.length:Int)) (h:ofS s ch (c.toNat:Int) i j=(n:Int)) (hn:n<100000):dstP s (tabE ch) [c] i j n:=by
 unfold dstP
 unfold ofS at h
 rw[smallI_nat]at h
 rw[show smallS [c]=small c from rfl]
 cases hs:small c
 ·rw[hs,cond_false]at h
  rw[if_neg (by simp)]
  have hb:bigc c=true:=by
   unfold sign at hc
   rw[hs,Bool.or_false]at hc;exact hc
  exact⟨hb,i0,by omega,h,hn⟩
 ·rw[hs,cond_true,smlD_N i0 i1 j1]at h
  rw[if_pos rfl]
  exact(Int.ofNat_inj.1 h).symm
theorem ofS_le {s:Str} {ch:D3} {c:UInt8} {i j:Int} {n:Nat} (i0:0≤i) (i1:i≤j) (j1:j≤(s.length:Int)) (h:dstP s (leE ch) [c] i j n):ofS s ch (c.toNat:Int) i j≤(n:Int):=by
 unfold dstP at h
 unfold ofS
 rw[smallI_nat]
 rw[show smallS [c]=small c from rfl]at h
 cases hs:small c
 ·rw[hs,if_neg (by simp)]at h
  exact h
 ·rw[hs,if_pos rfl]at h
  rw[cond_true,smlD_N i0 i1 j1,h];exact Int.le_refl _
theorem rowsF_sound {s:Str} {ch:D3} {i:Nat} (h1:okD5 (List.length s+1) ch=true) (h4:List.length s≤1000):∀ {r:Str} {row:List Int} {y:Nat},List.all r sign=true→List.length row=List.length s+1→okL5 row=true→i≤y→y<List.length s+1→(rowsF s ch i r row).getD y 0<100000 →
  ∃x:Nat,i≤x∧x≤y∧row.getD x 0<100000∧∃n:Nat,splD s (tabE ch) r x y n∧(rowsF s ch i r row).getD y 0=row.getD x 0+n
 | [],row,y,_,_,_,hi,_,h=>⟨y,hi,Nat.le_refl _,h,0,⟨rfl,rfl⟩,by show row.getD y 0=row.getD y 0+((0:Nat):Int);omega⟩
 |c::r,row,y,ha,hl,hr,hi,hy,h=>by
  rw[List.all_cons,andd]at ha
  unfold rowsF at h ⊢
  have hn:=nextF_ok (n:=List.length s+1) (j:=0) h1 (sign_I ha.1) (by omega:0≤(i:Int)) h4 hl hr (by omega)
  obtain⟨x,x0,x1,x2,n,x3,x4⟩:=rowsF_sound h1 h4 (r:=r) (y:=y) ha.2 nextF_len hn hi hy h
  rw[nextF_at (by omega)]at x2 x4
  rw[show (0:Int)+(x:Int)=x by omega]at x2 x4
  rcases(bestF_at (f:=fRow s ch row (c.toNat:Int) x) (n:=((x:Int)+1-i).toNat) (p:=i) (b:=100000)).2.2 with e | ⟨q,q0,q1,q2⟩
  ·omega
  ·have hq:=okL5_at (i:=q.toNat) hr (by omega)
   have ho:=ofS_ok (i:=q) (j:=(x:Int)) h1 (sign_I ha.1) (okIJ_iff.2 ⟨by omega,by omega,by omega⟩) h4
   have q2:_=row.getD q.toNat 0+ofS s ch (c.toNat:Int) q x:=q2
   refine⟨q.toNat,by omega,by omega,by omega,(ofS s ch (c.toNat:Int) q x).toNat+n,⟨x,(ofS s ch (c.toNat:Int) q x).toNat,n,by omega,by omega,rfl,ofS_tab ha.1 (by omega) (by omega) (by omega) (by rw[show ((q.toNat:Nat):Int)=q by omega];omega) (by omega),x3⟩, ?_⟩
   rw[x4,q2];omega
theorem rowsF_least {s:Str} {ch:D3} {i:Nat} (h1:okD5 (List.length s+1) ch=true) (h4:List.length s≤1000):∀ {r:Str} {row:List Int} {x y n:Nat},List.all r sign=true→List.length row=List.length s+1→okL5 row=true→i≤x→x≤y→y<List.length s+1→splD s (leE ch) r x y n→(rowsF s ch i r row).getD y 0≤row.getD x 0+n
 | [],row,x,y,n,_,_,_,_,_,_,h=>by
  obtain⟨g1,g2⟩:=h
  have e:x=y:=by omega
  subst e
  show row.getD x 0≤_
  omega
 |c::r,row,x,y,n,ha,hl,hr,hi,hxy,hy,h=>by
  rw[List.all_cons,andd]at ha
  obtain⟨k,n1,n2,k1,k2,rfl,g1,g2⟩:=h
  obtain⟨q,hq⟩:∃q:Nat,k=(q:Int):=⟨k.toNat,by omega⟩
  subst hq
  unfold rowsF
  have hn:=nextF_ok (n:=List.length s+1) (j:=0) h1 (sign_I ha.1) (by omega:0≤(i:Int)) h4 hl hr (by omega)
  have hd:=ofS_le (s:=s) (ch:=ch) (c:=c) (by omega) (by omega) (by omega) g1
  have hxq:x≤q:=by omega
  have hqy:q≤y:=by omega
  have h2:=rowsF_least h1 h4 (r:=r) (row:=nextF s ch row (c.toNat:Int) i (List.length s+1) 0) (x:=q) (y:=y) (n:=n2) ha.2 nextF_len hn (Nat.le_trans hi hxq) hqy hy g2
  rw[nextF_at (by omega),show (0:Int)+(q:Int)=q by omega]at h2
  have h3:=(bestF_at (f:=fRow s ch row (c.toNat:Int) q) (n:=((q:Int)+1-i).toNat) (p:=i) (b:=100000)).2.1 x (by omega) (by omega)
  have h3:_≤row.getD ((x:Int)).toNat 0+ofS s ch (c.toNat:Int) x q:=h3
  rw[Int.toNat_natCast]at h3
  omega
theorem rowV_sound {s:Str} {ch:D3} {a:Str} {i y:Nat} (h1:okD5 (List.length s+1) ch=true) (h4:List.length s≤1000) (ha:List.all a sign=true) (hi:i≤y) (hy:y<List.length s+1) (h:(rowV s ch a i).getD y 0<100000):rhsD s (tabE ch) a i y ((rowV s ch a i).getD y 0).toNat:=by
 unfold rowV at h ⊢
 unfold rhsD
 cases a with
 |nil =>
  rw[if_pos rfl]
  show((initF [] i (List.length s+1) 0).getD y 0).toNat=_
  rw[initF_at hy]
  unfold e0
  rw[decide_eq_true rfl,cond_true,decide_eq_true (by omega),cond_true]
  omega
 |cons c r =>
  rw[if_neg (by simp)]
  obtain⟨x,x0,x1,x2,n,x3,x4⟩:=rowsF_sound h1 h4 (r:=c::r) (row:=initF (c::r) i (List.length s+1) 0) (y:=y) ha initF_len (initF_ok (by omega) (by omega)) hi hy h
  have he:(initF (c::r) i (List.length s+1) 0).getD x 0=bif decide ((x:Int)=i)then 0 else 100000:=by
   rw[initF_at (by omega)]
   unfold e0
   rw[show decide ((c::r)=[])=false from rfl,cond_false,cond_false,show (0:Int)+(x:Int)=x by omega]
  by_cases hx:(x:Int)=i
  ·rw[decide_eq_true hx,cond_true]at he
   rw[he]at x4
   rw[x4,show (0+(n:Int)).toNat=n by omega]
   rw[hx]at x3
   exact x3
  ·rw[decide_eq_false hx,cond_false]at he
   omega
theorem rowV_least {s:Str} {ch:D3} {a:Str} {i y n:Nat} (h1:okD5 (List.length s+1) ch=true) (h4:List.length s≤1000) (ha:List.all a sign=true) (hi:i≤y) (hy:y<List.length s+1) (h:rhsD s (leE ch) a i y n):(rowV s ch a i).getD y 0≤n:=by
 unfold rowV
 unfold rhsD at h
 cases a with
 |nil =>
  rw[if_pos rfl]at h
  show(initF [] i (List.length s+1) 0).getD y 0≤_
  rw[initF_at hy]
  unfold e0
  rw[decide_eq_true rfl,cond_true,decide_eq_true (by omega),cond_true]
  omega
 |cons c r =>
  rw[if_neg (by simp)]at h
  have:=rowsF_least h1 h4 (r:=c::r) (row:=initF (c::r) i (List.length s+1) 0) (x:=i) (y:=y) (n:=n) ha initF_len (initF_ok (by omega) (by omega)) (Nat.le_refl _) hi hy h
  rw[initF_at (by omega)]at this
  unfold e0 at this
  rw[show decide ((c::r)=[])=false from rfl,cond_false,cond_false,decide_eq_true (by omega),cond_true]at this
  omega
theorem big_same {a b:Str} (ha:bigS a=true) (hb:bigS b=true) (h:byteAt a 0=byteAt b 0):a=b:=by
 obtain⟨c,rfl,_⟩:=bigS_one ha
 obtain⟨d,rfl,_⟩:=bigS_one hb
 have h:(c.toNat:Int)=d.toNat:=h
 rw[show c=d from UInt8.toNat_inj.1 (by omega)]
theorem far_at {n a b c:Nat} (ha:a<5) (hb:b<n) (hc:c<n):atM (farC n) a b c=100000:=by
 unfold atM farC
 simp only[List.getD_eq_getElem?_getD,List.getElem?_replicate,if_pos ha,if_pos hb,if_pos hc,Option.getD_some]
theorem costC_sound {s:Str} {l:List Rule} (hs:List.length s≤1000) (h:okRp l=true) {a:Str} {i j:Int} {n:Nat} (i1:i≤(List.length s:Int)) (j1:j≤(List.length s:Int)) (ht:tabE (costC s l) a i j n):DistG s l a i j n:=by
 refine(runC_end (stepF_ok hs) (J:=fun ch=>∀a i j n,i≤(List.length s:Int)→j≤(List.length s:Int)→tabE ch a i j n→DistG s l a i j n) (good_visE (s:=s) h) (fun v hv p hp a i j n i1 j1 ht => ?_) (m:=farC (List.length s+1)) far_ok (fun a i j n i1 j1 ht => ?_)).2.1 a i j n i1 j1 ht
 ·obtain ⟨t1,t2,t3,t4,t5⟩:=ht
  have hg:=good_visE (s:=s) h v hv
  obtain⟨a1,a2,a3,a4,a5⟩:=stepF_at hs hg hp.1
  obtain⟨k0,k1,_⟩:=keyK_in (r:=(a,[])) t1
  have k0:0≤byteAt a 0-65:=k0
  rcases a5 (byteAt a 0-65).toNat i.toNat j.toNat with e | ⟨e1,e2,⟨e3,e4⟩,e5⟩
  ·exact hp.2 a i j n i1 j1 ⟨t1,t2,t3,e.symm.trans t4,t5⟩
  ·obtain ⟨q0,q1,_⟩:=keyK_in hg.2.2.1
   have hk:keyK v.2=byteAt v.2.1 0-65:=rfl
   have ea:a=v.2.1:=big_same t1 hg.2.2.1 (by omega)
   have g1:=hg.1
   have ei:i=v.1:=by omega
   subst ei
   obtain⟨iN,hiN⟩:∃q:Nat,v.1=(q:Int):=⟨v.1.toNat,by omega⟩
   have t4:atM (stepF s v p).1 (byteAt a 0-65).toNat v.1.toNat j.toNat=n:=t4
   have e5:atM (stepF s v p).1 (byteAt a 0-65).toNat v.1.toNat j.toNat=(rowV s p.1 v.2.2 v.1).getD j.toNat 0:=e5
   rw[e5]at t4
   rw[hiN]at t4
   have hr:=rowV_sound (a:=v.2.2) (i:=iN) (y:=j.toNat) hp.1 hs hg.2.2.2.2 (by omega) (by omega) (by omega)
   rw[t4,Int.toNat_natCast,show ((j.toNat:Nat):Int)=j by omega,← hiN]at hr
   rw[ea]
   exact Dist_closed v.2 (mem_visE.1 hv).1 v.1 j n g1 (by omega) j1 (rhsD_mono (fun a i j n _ b1 b2 g=>hp.2 a i j n (by omega) b2 g) g1 j1 hr)
 ·obtain ⟨t1,t2,t3,t4,t5⟩:=ht
  obtain⟨k0,k1,_⟩:=keyK_in (r:=(a,[])) t1
  have k0:0≤byteAt a 0-65:=k0
  have k1:byteAt a 0-65<5:=k1
  have t4:atM (farC (List.length s+1)) (byteAt a 0-65).toNat i.toNat j.toNat=n:=t4
  rw[far_at (by omega) (by omega) (by omega)]at t4
  omega
theorem costC_least {s:Str} {l:List Rule} (hs:List.length s≤1000) (h:okRp l=true) {a:Str} {i j:Int} {n:Nat} (i0:0≤i) (i1:i≤j) (j1:j≤(List.length s:Int)) (hd:DistG s l a i j n):atD (costC s l) (byteAt a 0-65) i j≤(n:Int):=by
 refine hd (fun a i j n=>0≤i→i≤j→j≤(List.length s:Int)→leE (costC s l) a i j n) (fun r hr i j n i0 i1 j1 g _ _ _ => ?_) i0 i1 j1
 have hv:(i,r)∈visE (List.length s+1) l:=mem_visE.2 ⟨hr,i0,by show i<_;omega⟩
 have hg:=good_visE (s:=s) h (i,r) hv
 have hok:=costC_ok (s:=s) h hs
 have hq:=(runC_end (stepF_ok hs) (J:=fun _=>True) (good_visE (s:=s) h) (fun _ _ _ _=>trivial) (m:=farC (List.length s+1)) far_ok trivial).2.2 (i,r) hv
 change stepF s (i,r) (costC s l,false)=(costC s l,false)at hq
 have h4:=((stepF_at (p:=(costC s l,false)) hs hg hok).2.2.2.1 (congrArg Prod.snd hq)).2.2 j i1 (by show j<i+_;omega)
 obtain⟨iN,hiN⟩:∃q:Nat,i=(q:Int):=⟨i.toNat,by omega⟩
 subst hiN
 have hm:=rhsD_mono (fun a i j n a0 a1 a2 g=>g a0 a1 a2) i0 j1 g
 have hl:=rowV_least (a:=r.2) (i:=iN) (y:=j.toNat) (n:=n) hok hs hg.2.2.2.2 (by omega) (by omega) (by rw[show ((j.toNat:Nat):Int)=j by omega];exact hm)
 exact Int.le_trans h4 hl
theorem farV_eq {g:Gram} {s:Str} (h:okG g=true):farV g s=getD' (distM s g.2) (g.1,0,(s.length:Int)):=by
 unfold farV dofV
 rw[okG_big h,cond_true]
theorem okRq_G {g:Gram} (h:okG g=true):okRq g.2=true:=by
 refine andd.2 ⟨okRd_G h,List.all_eq_true.2 fun r hr => ?_⟩
 obtain⟨r3,_⟩:=areS_iff ((okG_iff h).2.2 r hr).2
 exact List.all_eq_true.2 r3
theorem far_start {g:Gram} {s:Str} {n:Nat} (h:okG g=true) (hs:List.length s≤1000) (hd:DistG s g.2 g.1 0 (s.length:Int) n) (hn:n<100000):farV g s=startC g s∧0≤farV g s∧farV g s≤n∧DistG s g.2 g.1 0 (s.length:Int) (farV g s).toNat:=by
 have hok:=distM_ok (s:=s) hs (okRq_G h)
 have hb:=okG_big h
 obtain⟨k0,k1,_⟩:=keyK_in (r:=(g.1,[])) hb
 have k0:0≤byteAt g.1 0-65:=k0
 have k1:byteAt g.1 0-65<5:=k1
 have h1:=distM_least hs (okRq_G h) (Int.le_refl 0) (by omega) (Int.le_refl _) hd
 have h2:=costC_least hs (ok_rp h) (Int.le_refl 0) (by omega) (Int.le_refl _) hd
 have h3:=(getD_ok (x:=(g.1,0,(s.length:Int))) hok).1
 have h4:=(atD_ok (costC_ok (s:=s) (ok_rp h) hs) (k:=byteAt g.1 0-65) (i:=0) (j:=(s.length:Int)) k0 k1 (Int.le_refl 0) (by omega) (by omega) (by omega)).1
 rw[farV_eq h]
 unfold startC
 have d1:DistG s g.2 g.1 0 (s.length:Int) (getD' (distM s g.2) (g.1,0,(s.length:Int))).toNat:=distM_sound hs (okRq_G h) ⟨by omega,by omega⟩
 have d2:DistG s g.2 g.1 0 (s.length:Int) (atD (costC s g.2) (byteAt g.1 0-65) 0 (s.length:Int)).toNat:=costC_sound hs (ok_rp h) (by omega) (Int.le_refl _) ⟨hb,Int.le_refl 0,by omega,by omega,by omega⟩
 have h5:=distM_least hs (okRq_G h) (Int.le_refl 0) (by omega) (Int.le_refl _) d2
 have h6:=costC_least hs (ok_rp h) (Int.le_refl 0) (by omega) (Int.le_refl _) d1
 exact⟨by omega,h3,h1,d1⟩
theorem far_none {g:Gram} {s:Str} (h:okG g=true) (hs:List.length s≤1000) (hd:∀n,¬DistG s g.2 g.1 0 (s.length:Int) n):farV g s=1073741824:=by
 have hok:=distM_ok (s:=s) hs (okRq_G h)
 rw[farV_eq h]
 obtain⟨h1,h2⟩:=getD_ok (x:=(g.1,0,(s.length:Int))) hok
 by_cases hlt:getD' (distM s g.2) (g.1,0,(s.length:Int))<1073741824
 ·exact absurd (distM_sound hs (okRq_G h) ⟨by omega,by omega⟩) (hd (getD' (distM s g.2) (g.1,0,(s.length:Int))).toNat)
 ·omega
theorem Ed.inss:∀ {w:Str},Ed [] w w.length
 | [] => .nil
 |_::_ => .ins Ed.inss
theorem Ed.any {s w:Str}:Ed s w (s.length+w.length):=by
 have:=(Ed.outs (u:=s)).app (Ed.inss (w:=w))
 rw[List.append_nil,List.nil_append]at this
 exact this
def RkW (l:List Rule) (k:Nat) (a:Str):Prop:=∃w,WordG l a w∧w.length≤4 ^ k
theorem RkW_up {l:List Rule} {k:Nat} {a:Str} (h:RkW l k a):RkW l (k+1) a:=by
 obtain⟨w,h1,h2⟩:=h
 exact⟨w,h1,Nat.le_trans h2 (Nat.pow_le_pow_right (by omega) (by omega))⟩
theorem sp_R {l:List Rule} {k:Nat}:∀ {r w:Str},spW (fun a _=>RkW l k a) r w→∃w',spW (WordG l) r w'∧w'.length≤r.length*4 ^ k
 | [],_,_=>⟨[],rfl,Nat.zero_le _⟩
 |c::r,w,h=>by
  obtain⟨u,v,e,h1,h2⟩:=h
  obtain⟨v',g1,g2⟩:=sp_R (r:=r) h2
  have hp:1≤4 ^ k:=Nat.one_le_pow _ _ (by omega)
  have hu:∃u',wdP (WordG l) [c] u'∧u'.length≤4 ^ k:=by
   unfold wdP at h1 ⊢
   split at h1
   ·rename_i hs
    exact⟨[c],by rw[if_pos hs],hp⟩
   ·rename_i hs
    obtain⟨u',q1,q2⟩:=h1
    exact⟨u',by rw[if_neg hs];exact q1,q2⟩
  obtain⟨u',q1,q2⟩:=hu
  refine⟨u'++v',⟨u',v',rfl,q1,g1⟩, ?_⟩
  rw[List.length_append,List.length_cons,Nat.succ_mul]
  omega
theorem RkW_rule {l:List Rule} {k:Nat} {r:Rule} {w:Str} (hr:r∈l) (h4:List.length r.2≤4) (h:spW (fun a _=>RkW l k a) r.2 w):RkW l (k+1) r.1:=by
 obtain⟨w',h1,h2⟩:=sp_R h
 refine⟨w',Word_closed r hr w' h1,Nat.le_trans h2 ?_⟩
 rw[Nat.pow_succ,Nat.mul_comm]
 exact Nat.mul_le_mul_left _ h4
theorem RkW_closed {l:List Rule} {k:Nat} (h4:∀r∈l,List.length r.2≤4) (hk:∀r∈l,RkW l (k+1) r.1→RkW l k r.1) {a w:Str} (h:WordG l a w):RkW l k a :=
 h (fun a _=>RkW l k a) fun r hr _ hw=>hk r hr (RkW_rule hr (h4 r hr) hw)
theorem cntB_len {α:Type} {f:α→Bool}:∀ {l:List α},cntB f l≤l.length
 | []=>Nat.le_refl _
 |a::l=>by
  have:=cntB_len (f:=f) (l:=l)
  unfold cntB
  rw[List.length_cons]
  cases f a
  ·rw[cond_false];omega
  ·rw[cond_true];omega
theorem short_word {l:List Rule} (h4:∀r∈l,List.length r.2≤4) (h8:l.length≤8) {a w:Str} (h:WordG l a w):∃w',WordG l a w'∧w'.length≤65536:=by
 have hc:∃k,k≤8∧∀r∈l,RkW l (k+1) r.1→RkW l k r.1:=by
  refine Classical.byContradiction fun hno => ?_
  have hstep:∀k,k≤8→∃r∈l,¬RkW l k r.1∧RkW l (k+1) r.1:=fun k hk=>by
   refine Classical.byContradiction fun h0=>hno ⟨k,hk,fun r hr h1 => ?_⟩
   refine Classical.byContradiction fun h2=>h0 ⟨r,hr,h2,h1⟩
  have hf:∀k,∃f:Rule→Bool,∀r,f r=true↔RkW l k r.1:=fun k=>⟨fun r=>@decide _ (Classical.propDecidable (RkW l k r.1)),fun r=>by rw[@decide_eq_true_iff _ (Classical.propDecidable _)]⟩
  have hcnt:∀k,k≤9→∃f:Rule→Bool,(∀r,f r=true↔RkW l k r.1)∧k≤cntB f l:=by
   intro k
   induction k with
   |zero =>
    intro _
    obtain⟨f,hf⟩:=hf 0
    exact⟨f,hf,Nat.zero_le _⟩
   |succ k ih =>
    intro hk
    obtain⟨f,hf1,hf2⟩:=ih (by omega)
    obtain⟨g,hg⟩:=hf (k+1)
    obtain⟨r,hr,r1,r2⟩:=hstep k (by omega)
    have:=cnt_lt (f:=f) (g:=g) (l:=l) (fun q _ hq=>(hg q).2 (RkW_up ((hf1 q).1 hq))) ⟨r,hr,by
     cases hfr:f r
     ·rfl
     ·exact absurd ((hf1 r).1 hfr) r1,(hg r).2 r2⟩
    exact⟨g,hg,by omega⟩
  obtain⟨f,_,hf2⟩:=hcnt 9 (Nat.le_refl _)
  have:=cntB_len (f:=f) (l:=l)
  omega
 obtain⟨k,hk,hcl⟩:=hc
 obtain⟨w',h1,h2⟩:=RkW_closed h4 hcl h
 exact⟨w',h1,Nat.le_trans h2 (Nat.le_trans (Nat.pow_le_pow_right (by omega) hk) (by decide))⟩
def prodG (g:Gram):Prop:=∃w,WordG g.2 g.1 w
theorem dist_some {g:Gram} {s:Str} (h:okG g=true) (hs:List.length s≤1000) (hp:prodG g):∃n,n<100000∧DistG s g.2 g.1 0 (s.length:Int) n:=by
 obtain⟨w,hw⟩:=hp
 obtain⟨_,h8,h3⟩:=okG_iff h
 obtain⟨w',h1,h2⟩:=short_word (fun r hr=>by
  have:=(areS_iff (h3 r hr).2).2
  omega) h8 hw
 obtain⟨n,n1,n2⟩:=word_dist (s:=s) h1 (i:=0) (j:=(s.length:Int)) (m:=s.length+w'.length) (Int.le_refl 0) (by omega) (Int.le_refl _) (by
  rw[sub_all]
  exact Ed.any)
 exact⟨n,by omega,n2⟩
theorem dist_prod {g:Gram} {s:Str} {n:Nat} (hd:DistG s g.2 g.1 0 (s.length:Int) n):prodG g:=by
 obtain⟨w,_,_,hw,_⟩:=dist_word hd (Int.le_refl 0) (by omega) (Int.le_refl _)
 exact⟨w,hw⟩
theorem far_both {g:Gram} {s:Str} (h:okG g=true) (hs:List.length s≤1000) (hp:prodG g):farV g s=startC g s∧0≤farV g s∧farV g s<100000∧(∃w,WordG g.2 g.1 w∧∃m:Nat,(m:Int)≤farV g s∧Ed s w m)∧∀w m,WordG g.2 g.1 w→Ed s w m→farV g s≤(m:Int):=by
 obtain⟨n,n1,n2⟩:=dist_some h hs hp
 obtain⟨a1,a2,a3,a4⟩:=far_start h hs n2 n1
 refine⟨a1,a2,by omega, ?_,fun w m hw hm => ?_⟩
 ·obtain ⟨w,m,m1,m2,m3⟩:=dist_word a4 (Int.le_refl 0) (by omega) (Int.le_refl _)
  rw[sub_all]at m3
  exact⟨w,m2,m,by omega,m3⟩
 ·obtain ⟨k,k1,k2⟩:=word_dist (s:=s) hw (i:=0) (j:=(s.length:Int)) (m:=m) (Int.le_refl 0) (by omega) (Int.le_refl _) (by rw[sub_all];exact hm)
  have hl:=distM_least hs (okRq_G h) (Int.le_refl 0) (by omega) (Int.le_refl _) k2
  rw[farV_eq h]
  omega
theorem far_step {g:Gram} {s x:Str} (h:okG g=true) (hs:List.length s≤1000) (hx:List.length x≤1000) (hp:prodG g) (he:Ed s x 1) (hb:Ed x s 1):farV g x≤farV g s+1∧farV g s≤farV g x+1:=by
 obtain⟨_,s0,_,⟨w,w1,m,m1,m2⟩,s2⟩:=far_both h hs hp
 obtain⟨_,x0,_,⟨v,v1,q,q1,q2⟩,x2⟩:=far_both h hx hp
 obtain⟨k,k1,k2⟩:=Ed.tri m2 hb
 obtain⟨k',k1',k2'⟩:=Ed.tri q2 he
 have h1:=x2 w k w1 k2
 have h2:=s2 v k' v1 k2'
 exact⟨by omega,by omega⟩
end Go.Proofs.YtmeiebnfmhddnaaGreatDoor.Ev
