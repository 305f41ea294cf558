/-
  Small things about texts and grammars.
-/
import Derived.Test.YtmeiebnfmhddnaaGreatDoorGg
namespace Go.Proofs.YtmeiebnfmhddnaaGreatDoor.Ev
open Go
abbrev TU8:Ty := .int .u8
theorem byteL_nat (b:UInt8):UInt8.ofNat ((b.toNat:Int)).toNat=b:=by
 rw[show ((b.toNat:Int)).toNat=b.toNat by omega]
 exact UInt8.ofNat_toNat
def inS (s:Str) (c:Int):Bool:=s.any fun b=>decide ((b.toNat:Int)=c)
theorem inS_at {s:Str} {i c:Int} (h0:0≤i) (h1:i<(s.length:Int)):inS (s.drop i.toNat) c=(decide (byteAt s i=c)||inS (s.drop (i+1).toNat) c):=by
 have hn:i.toNat<s.length:=by omega
 unfold inS
 rw[List.drop_eq_getElem_cons hn,List.any_cons,show (i+1).toNat=i.toNat+1 by omega,byteAt_get h0 hn]
theorem inS_mem {s:Str} {c:UInt8}:inS s (c.toNat:Int)=true↔c∈s:=by
 unfold inS
 rw[List.any_eq_true]
 constructor
 ·rintro ⟨x,h1,h2⟩
  have:x=c:=UInt8.toNat_inj.1 (by have:=of_decide_eq_true h2;omega)
  exact this ▸ h1
 ·intro h
  exact⟨c,h,decide_eq_true rfl⟩
theorem u8_nat {c:Int} (h:Fit TU8 c):((UInt8.ofNat c.toNat).toNat:Int)=c:=by
 have h1:IntKind.u8.wrap c=c:=h
 rw[IntKind.wrap_u8]at h1
 rw[UInt8.toNat_ofNat']
 omega
def sgsOf (l:List Rule):Str:=l.flatMap fun r=>r.1++r.2
def signsG (g:Gram):Str:=g.1++sgsOf g.2
theorem sgs_at {l:List Rule} {i:Int} (h0:0≤i) (h1:i<(l.length:Int)):sgsOf (l.drop i.toNat)=(l.getD i.toNat d0).1++(l.getD i.toNat d0).2++sgsOf (l.drop (i+1).toNat):=by
 have hn:i.toNat<l.length:=by omega
 unfold sgsOf
 rw[List.drop_eq_getElem_cons hn,List.flatMap_cons,show (i+1).toNat=i.toNat+1 by omega,getD_at hn]
theorem sgs_end {l:List Rule} {i:Int} (h:(l.length:Int)≤i):sgsOf (l.drop i.toNat)=[]:=by
 rw[List.drop_eq_nil_of_le (by omega)];rfl
theorem okAt_iff {l:List Rule} {i:Nat} (h:okAt l i=true):bigS (l.getD i d0).1=true∧areS (l.getD i d0).2 4=true:=by
 unfold okAt at h
 rw[andd,andd]at h
 exact⟨h.1,h.2.1⟩
theorem okG_iff {g:Gram} (h:okG g=true):bigS g.1=true∧g.2.length≤8∧∀r∈g.2,bigS r.1=true∧areS r.2 4=true:=by
 unfold okG at h
 rw[andd,andd]at h
 obtain⟨h1,h2,h3⟩:=h
 refine⟨h1,by have:=of_decide_eq_true h2;omega,fun r hr => ?_⟩
 obtain⟨i,hi,rfl⟩:=List.getElem_of_mem hr
 unfold okFrom at h3
 have:=okAt_iff (List.all_eq_true.1 h3 i (List.mem_range'.2 ⟨i,by omega,by omega⟩))
 rw[getD_at hi]at this
 exact this
theorem bigS_one {s:Str} (h:bigS s=true):∃c,s=[c]∧bigc c=true:=by
 unfold bigS at h
 split at h
 ·exact ⟨_,rfl,h⟩
 ·cases h
theorem areS_iff {s:Str} {n:Int} (h:areS s n=true):(∀c∈s,sign c=true)∧(s.length:Int)≤n:=by
 unfold areS at h
 rw[andd]at h
 exact⟨fun c hc=>List.all_eq_true.1 h.1 c hc,of_decide_eq_true h.2⟩
theorem sgs_len:∀ {l:List Rule},(∀r∈l,bigS r.1=true∧areS r.2 4=true)→(sgsOf l).length≤5*l.length
 | [],_=>Nat.zero_le _
 |r::l,h=>by
  obtain⟨h1,h2⟩:=h r List.mem_cons_self
  obtain⟨c,h1,_⟩:=bigS_one h1
  have h2:=(areS_iff h2).2
  have ih:=sgs_len (l:=l) fun r hr=>h r (List.mem_cons_of_mem _ hr)
  unfold sgsOf at *
  rw[List.flatMap_cons,List.length_append,List.length_append,h1]
  simp only[List.length_cons,List.length_nil]
  omega
theorem signs_len {g:Gram} (h:okG g=true):(signsG g).length≤41:=by
 obtain⟨h1,h2,h3⟩:=okG_iff h
 obtain⟨c,h1,_⟩:=bigS_one h1
 have:=sgs_len h3
 unfold signsG
 rw[List.length_append,h1]
 simp only[List.length_cons,List.length_nil]
 omega
theorem sign_big {c:UInt8} (h:bigc c=true):sign c=true:=by unfold sign;rw[h];rfl
theorem signs_all {g:Gram} (h:okG g=true):∀c∈signsG g,sign c=true:=by
 obtain⟨h1,h2,h3⟩:=okG_iff h
 obtain⟨c0,h1,h4⟩:=bigS_one h1
 intro c hc
 unfold signsG at hc
 rcases List.mem_append.1 hc with hc | hc
 ·rw[h1]at hc
  rw[List.mem_singleton.1 hc]
  exact sign_big h4
 ·unfold sgsOf at hc
  obtain⟨r,hr,hc⟩:=List.mem_flatMap.1 hc
  obtain⟨g1,g2⟩:=h3 r hr
  rcases List.mem_append.1 hc with hc | hc
  ·obtain ⟨c1,g1,g3⟩:=bigS_one g1
   rw[g1]at hc
   rw[List.mem_singleton.1 hc]
   exact sign_big g3
  ·exact (areS_iff g2).1 c hc
theorem big_small (c:UInt8):¬(bigc c=true∧small c=true):=by
 unfold bigc small
 rw[andd,andd,ble_iff,ble_iff,ble_iff,ble_iff]
 omega
theorem slice_one {s:Str} {i:Int} (h0:0≤i) (h1:i<(s.length:Int)):List.take ((i+1).toNat-i.toNat) (List.drop i.toNat s)=[s.getD i.toNat 0]:=by
 have hn:i.toNat<s.length:=by omega
 rw[show (i+1).toNat-i.toNat=1 by omega,List.drop_eq_getElem_cons hn,List.getD_eq_getElem?_getD,List.getElem?_eq_getElem hn];rfl
theorem okG_big {g:Gram} (h:okG g=true):bigS g.1=true:=(okG_iff h).1
end Go.Proofs.YtmeiebnfmhddnaaGreatDoor.Ev
