/-
  Small things on signs, rules, passes.
-/
import Derived.Test.YtmeiebnfmhddnaaGreatDoorHa
namespace Go.Proofs.YtmeiebnfmhddnaaGreatDoor.Ev
open Go
theorem getD_mem {α:Type} {l:List α} {i:Nat} {d:α} (h:i<l.length):l.getD i d∈l:=by
 rw[List.getD_eq_getElem?_getD,List.getElem?_eq_getElem h];exact List.getElem_mem h
theorem big_not_small {a:Str} (h:bigS a=true):smallS a=false:=by
 obtain⟨c,e,hc⟩:=bigS_one h
 cases hs:smallS a
 ·rfl
 ·obtain ⟨c',e',hc'⟩:=smallS_one hs
  rw[e]at e'
  cases (List.cons.inj e').1
  exact absurd ⟨hc,hc'⟩ (big_small c)
theorem areSm_iff {s:Str} {n:Int}:areSm s n=true↔(s.length:Int)≤n∧s.all small=true:=by
 unfold areSm
 rw[b2,andd,dec_iff]
def signI (c:Int):Bool:=smallI c||(decide (65≤c)&&decide (c≤69))
theorem sign_I {c:UInt8} (h:sign c=true):signI (c.toNat:Int)=true:=by
 unfold sign at h
 unfold signI
 rw[smallI_nat]
 rcases Bool.or_eq_true_iff.1 h with h | h
 ·unfold bigc at h
  rw[andd,ble_iff,ble_iff]at h
  rw[Bool.or_eq_true,andd,dec_iff,dec_iff]
  exact .inr ⟨by omega,by omega⟩
 ·rw[h];rfl
theorem getD_set {α:Type} {l:List α} {i j:Nat} {x d:α} (h:i<l.length):(l.set i x).getD j d=if i=j then x else l.getD j d:=by
 rw[List.getD_eq_getElem?_getD,List.getElem?_set,List.getD_eq_getElem?_getD]
 by_cases e:i=j
 ·rw[if_pos e,if_pos e,if_pos h];rfl
 ·rw[if_neg e,if_neg e]
abbrev VisE:Type:=Int×Rule
def keyK (r:Rule):Int:=byteAt r.1 0-65
def okRp (l:List Rule):Bool:=Nat.ble (List.length l) 1000&&List.all l fun r=>bigS r.1&&(Nat.blt (List.length r.2) 5&&List.all r.2 sign)
def goodE (s:Str) (v:VisE):Prop:=0≤v.1∧v.1≤(s.length:Int)∧bigS v.2.1=true∧List.length v.2.2<5∧List.all v.2.2 sign=true
theorem keyK_in {r:Rule} (h:bigS r.1=true):0≤keyK r∧keyK r<5∧∃c:UInt8,r.1=[c]∧keyK r=(c.toNat:Int)-65:=by
 obtain⟨c,e,hc⟩:=bigS_one h
 unfold bigc at hc
 rw[andd,ble_iff,ble_iff]at hc
 have:keyK r=(c.toNat:Int)-65:=by unfold keyK;rw[e];rfl
 exact⟨by omega,by omega,c,e,this⟩
def fromsE (r:Rule):Nat→Int→List VisE
 |0,_=>[]
 |n+1,i=>(i,r)::fromsE r n (i+1)
def visE (n:Nat) (l:List Rule):List VisE:=l.flatMap fun r=>fromsE r n 0
theorem mem_fromsE {r:Rule} {v:VisE}:∀ {n:Nat} {i:Int},v∈fromsE r n i↔v.2=r∧i≤v.1∧v.1<i+n
 |0,i=>by
  unfold fromsE
  constructor
  ·intro h;cases h
  ·rintro ⟨_,h1,h2⟩;omega
 |n+1,i=>by
  unfold fromsE
  rw[List.mem_cons,mem_fromsE (n:=n) (i:=i+1)]
  constructor
  ·rintro (rfl | ⟨h1,h2,h3⟩)
   ·exact ⟨rfl,Int.le_refl _,by show i<i+_;omega⟩
   ·exact ⟨h1,by omega,by omega⟩
  ·rintro ⟨h1,h2,h3⟩
   by_cases h:v.1=i
   ·exact .inl (by rw[← h,← h1])
   ·exact .inr ⟨h1,by omega,by omega⟩
theorem mem_visE {v:VisE} {n:Nat} {l:List Rule}:v∈visE n l↔v.2∈l∧0≤v.1∧v.1<n:=by
 unfold visE
 rw[List.mem_flatMap]
 constructor
 ·rintro ⟨r,hr,h⟩
  obtain⟨rfl,h2,h3⟩:=mem_fromsE.1 h
  exact⟨hr,h2,by omega⟩
 ·rintro ⟨h1,h2,h3⟩
  exact⟨v.2,h1,mem_fromsE.2 ⟨rfl,h2,by omega⟩⟩
theorem okRp_iff {l:List Rule}:okRp l=true↔l.length≤1000∧∀r∈l,bigS r.1=true∧List.length r.2<5∧List.all r.2 sign=true:=by
 unfold okRp
 rw[andd,ble_iff,List.all_eq_true]
 constructor
 ·rintro ⟨h1,h2⟩
  refine⟨h1,fun r hr => ?_⟩
  have:=h2 r hr
  rw[andd,andd,blt_iff]at this
  exact this
 ·rintro ⟨h1,h2⟩
  refine⟨h1,fun r hr => ?_⟩
  rw[andd,andd,blt_iff]
  exact h2 r hr
theorem good_visE {s:Str} {l:List Rule} (h:okRp l=true):∀v∈visE (s.length+1) l,goodE s v:=fun v hv=>by
 obtain⟨h1,h2,h3⟩:=mem_visE.1 hv
 obtain⟨h4,h5,h6⟩:=(okRp_iff.1 h).2 _ h1
 exact⟨h2,by omega,h4,h5,h6⟩
theorem key_wrap {r:Rule} (h:bigS r.1=true):W64 (IntKind.u8.wrap (byteAt r.1 0-65))=keyK r:=by
 obtain⟨k0,k1,_⟩:=keyK_in h
 have k0:0≤byteAt r.1 0-65:=k0
 have k1:byteAt r.1 0-65<5:=k1
 have e1:IntKind.u8.wrap (byteAt r.1 0-65)=byteAt r.1 0-65:=by
  show(byteAt r.1 0-65) % 256=_
  exact Int.emod_eq_of_lt (by omega) (by omega)
 rw[e1]
 exact wrap_small (by omega) (by omega)
theorem ok_rp {g:Gram} (h:okG g=true):okRp g.2=true:=by
 obtain⟨_,h2,h3⟩:=okG_iff h
 refine okRp_iff.2 ⟨by omega,fun r hr => ?_⟩
 obtain⟨r1,r2⟩:=h3 r hr
 obtain⟨r3,r4⟩:=areS_iff r2
 exact⟨r1,by omega,List.all_eq_true.2 r3⟩
theorem visE_at {n:Nat} {l:List Rule} {i:Int} (h0:0≤i) (h1:i<(l.length:Int)):visE n (l.drop i.toNat)=fromsE (l.getD i.toNat d0) n 0++visE n (l.drop (i+1).toNat):=by
 have hn:i.toNat<l.length:=by omega
 unfold visE
 rw[List.drop_eq_getElem_cons hn,List.flatMap_cons,show (i+1).toNat=i.toNat+1 by omega,getD_at hn]
end Go.Proofs.YtmeiebnfmhddnaaGreatDoor.Ev
