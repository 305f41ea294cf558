/-
  The program's chart: what a sign comes to, and signs.
-/
import Derived.Test.YtmeiebnfmhddnaaGreatDoorHp
namespace Go.Proofs.YtmeiebnfmhddnaaGreatDoor.Ev
open Go
noncomputable section
abbrev TP:Ty := .struct (.pair .str (.pair TI64 TI64))
abbrev Part:Type:=Str×Int×Int
def anyI (f:Int→Bool):Nat→Int→Bool
 |0,_=>false
 |n+1,a=>f a||anyI f n (a+1)
def okIJ (s:Str) (i j:Int):Bool:=decide (0≤i)&&(decide (i≤j)&&decide (j≤(s.length:Int)))
theorem okIJ_iff {s:Str} {i j:Int}:okIJ s i j=true↔0≤i∧i≤j∧j≤(s.length:Int):=by
 unfold okIJ
 rw[andd,andd,dec_iff,dec_iff,dec_iff]
noncomputable section
variable [Inhabited LevD]
theorem eqP_iff {x y:Part}:eqDen TP x y=true↔x=y:=by
 obtain⟨a,i,j⟩:=x
 obtain⟨b,k,n⟩:=y
 show(decide (a=b)&&(decide (i=k)&&decide (j=n)))=true↔_
 rw[andd,andd,dec_iff,dec_iff,dec_iff]
 constructor
 ·rintro ⟨rfl,rfl,rfl⟩;rfl
 ·intro h;cases h;exact ⟨rfl,rfl,rfl⟩
theorem eqP_dec {x y:Part}:eqDen TP x y=decide (x=y):=by
 by_cases h:x=y
 ·rw[decide_eq_true h,eqP_iff.2 h]
 ·rw[decide_eq_false h]
  cases e:eqDen TP x y
  ·rfl
  ·exact absurd (eqP_iff.1 e) h
abbrev Vis:Type:=Int×Int×Rule
def keyV (v:Vis):Part:=(v.2.2.1,v.1,v.2.1)
def visR (i j:Int) (l:List Rule):List Vis:=l.map fun r=>(i,j,r)
def visT (l:List Rule) (i:Int):Nat→Int→List Vis
 |0,_=>[]
 |n+1,j=>visR i j l++visT l i n (j+1)
def visF (s:Str) (l:List Rule):Nat→List Vis
 |0=>[]
 |n+1=>visT l (n:Int) (s.length+1-n) (n:Int)++visF s l n
theorem mem_visT {l:List Rule} {i:Int} {v:Vis}:∀ {n:Nat} {j:Int},v∈visT l i n j↔v.1=i∧j≤v.2.1∧v.2.1<j+n∧v.2.2∈l
 |0,j=>by
  unfold visT
  constructor
  ·intro h;cases h
  ·rintro ⟨_,h1,h2,_⟩;omega
 |n+1,j=>by
  unfold visT visR
  rw[List.mem_append,mem_visT (n:=n) (j:=j+1),List.mem_map]
  constructor
  ·rintro (⟨r,hr,rfl⟩ | ⟨h1,h2,h3,h4⟩)
   ·exact ⟨rfl,Int.le_refl _,by show j<j+_;omega,hr⟩
   ·exact ⟨h1,by omega,by omega,h4⟩
  ·rintro ⟨h1,h2,h3,h4⟩
   by_cases h:v.2.1=j
   ·exact .inl ⟨v.2.2,h4,by rw[← h1,← h]⟩
   ·exact .inr ⟨h1,by omega,by omega,h4⟩
theorem mem_visF {s:Str} {l:List Rule} {v:Vis}:∀ {n:Nat},n≤s.length+1→(v∈visF s l n↔0≤v.1∧v.1<n∧v.1≤v.2.1∧v.2.1≤(s.length:Int)∧v.2.2∈l)
 |0,_=>by
  unfold visF
  constructor
  ·intro h;cases h
  ·rintro ⟨h1,h2,_⟩;omega
 |n+1,hn=>by
  unfold visF
  rw[List.mem_append,mem_visT,mem_visF (n:=n) (by omega)]
  constructor
  ·rintro (⟨h1,h2,h3,h4⟩ | ⟨h1,h2,h3,h4,h5⟩)
   ·exact ⟨by omega,by omega,by omega,by omega,h4⟩
   ·exact ⟨by omega,by omega,by omega,by omega,h5⟩
  ·rintro ⟨h1,h2,h3,h4,h5⟩
   by_cases h:v.1=n
   ·exact .inl ⟨h,by omega,by omega,h5⟩
   ·exact .inr ⟨by omega,by omega,by omega,by omega,h5⟩
theorem anyI_iff {f:Int→Bool}:∀ {n:Nat} {a:Int},anyI f n a=true↔∃k,a≤k∧k<a+n∧f k=true
 |0,a=>by
  unfold anyI
  constructor
  ·intro h;cases h
  ·rintro ⟨k,h1,h2,_⟩;omega
 |n+1,a=>by
  unfold anyI
  rw[Bool.or_eq_true,anyI_iff (n:=n) (a:=a+1)]
  constructor
  ·rintro (h | ⟨k,h1,h2,h3⟩)
   ·exact ⟨a,Int.le_refl _,by omega,h⟩
   ·exact ⟨k,by omega,by omega,h3⟩
  ·rintro ⟨k,h1,h2,h3⟩
   by_cases h:k=a
   ·exact .inl (by rw[← h];exact h3)
   ·exact .inr ⟨k,by omega,by omega,h3⟩
end
end Go.Proofs.YtmeiebnfmhddnaaGreatDoor.Ev
