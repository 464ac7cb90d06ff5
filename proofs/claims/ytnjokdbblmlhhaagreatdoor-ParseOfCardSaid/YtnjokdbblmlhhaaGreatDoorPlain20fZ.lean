/- Lemmas of this claim. -/
import Derived.Test.YtnjokdbblmlhhaaGreatDoorGW20Z
import Derived.Test.YtnjokdbblmlhhaaGreatDoorGR18Z
import Derived.Test.YtnjokdbblmlhhaaGreatDoorGV17Z
import Derived.Test.YtnjokdbblmlhhaaGreatDoorGR17Z
import Derived.Test.YtnjokdbblmlhhaaGreatDoorGR20Z
import Derived.Test.YtnjokdbblmlhhaaGreatDoorWR20aZ
import Derived.Test.YtnjokdbblmlhhaaGreatDoorWR20wZ
namespace Go.Proofs.YtnjokdbblmlhhaaGreatDoor
set_option linter.unusedVariables false
set_option linter.unusedSimpArgs false
namespace P20
open P19 (line B5 close turn adds allR rowT toks)
theorem PaR.bad {s:List UInt8} {x:Int × Int} (h:PaR s (.error x)):x.1≠0:=by
 unfold PaR at h
 split at h
 ·rename_i h1;cases h;exact h1
 ·split at h
  ·cases h;decide
  ·obtain ⟨f,h⟩:=h
   cases h with
   | left h=>show (3:Int)≠0;decide
   | bad h=>exact (Rp _ _).1 _ _ _ _ h
end P20
end Go.Proofs.YtnjokdbblmlhhaaGreatDoor
namespace Go.Proofs.YtnjokdbblmlhhaaGreatDoor
set_option linter.unusedVariables false
set_option linter.unusedSimpArgs false
namespace P20
mutual
def T.nodes:T→Nat
 | .mk _ _ _ ds _=>1+E5 ds
def E5:List T→Nat
 | []=>0
 | d :: ds=>d.nodes+E5 ds
end
mutual
theorem T.size_nodes:∀ (d:T) (lv:Nat),(d.size lv).2≤d.nodes
 | .mk k t ks ds l,lv=>by
  have:=H7 ds (lv - 1)
  unfold T.size T.nodes
  split
  ·simp
  ·show _+1≤_;omega
theorem H7:∀ (ds:List T) (lv:Nat),(sizeL lv ds).2≤E5 ds
 | [],lv=>by simp [sizeL]
 | d :: ds,lv=>by
  have:=T.size_nodes d lv
  have:=H7 ds lv
  unfold sizeL E5
  show _+_≤_
  omega
end
theorem Jc:∀ ds:List T,ds.length≤E5 ds
 | []=>Nat.le_refl _
 | d :: ds=>by
  have h1:=Jc ds
  have h2:1≤d.nodes:=by cases d;unfold T.nodes;omega
  unfold E5
  simp only [List.length_cons]
  omega
mutual
def okF:T→Prop
 | .mk k t ks ds l=>t.length≤100000∧ks.length≤100000∧(∀ x∈ks,x.length≤100000)∧(T.mk k t ks ds l).nodes≤100000∧Ie ds
def Ie:List T→Prop
 | []=>True
 | d :: ds=>okF d∧Ie ds
end
theorem Me:∀ ds:List T,Ie ds↔∀ d∈ds,okF d
 | []=>by simp [Ie]
 | d :: ds=>by simp [Ie,Me ds]
theorem okF.kid {k:Nat} {t:List UInt8} {ks:List (List UInt8)} {ds:List T} {l:Int} (h:okF (.mk k t ks ds l)):t.length≤100000∧ks.length≤100000∧(∀ x∈ks,x.length≤100000)∧ds.length≤100000∧∀ d∈ds,okF d:=by
 unfold okF at h
 have h4:=h.2.2.2.1
 unfold T.nodes at h4
 have:=Jc ds
 exact ⟨h.1,h.2.1,h.2.2.1,by omega,(Me _).1 h.2.2.2.2⟩
theorem okF.size {d:T} (h:okF d) (lv:Nat):(d.size lv).2≤1000000000:=by
 have:=T.size_nodes d lv
 obtain ⟨k,t,ks,ds,l⟩:=d
 unfold okF at h
 have:=h.2.2.2.1
 omega
mutual
theorem okF.sk:∀ {d:T},okF d→Sk d
 | .mk k t ks ds l,h=>by
  obtain ⟨h1,h2,h3,h4,_⟩:=h.kid
  unfold okF at h
  unfold Sk
  exact ⟨by omega,by omega,fun x hx=>by have:=h3 x hx;omega,by omega,Ie.sk h.2.2.2.2⟩
theorem Ie.sk:∀ {ds:List T},Ie ds→Tu ds
 | [],h=>trivial
 | d :: ds,h=>by
  unfold Ie at h
  unfold Tu
  exact ⟨okF.sk h.1,Ie.sk h.2⟩
end
mutual
theorem T.small_okF:∀ (d:T) (lv n m:Nat),d.small lv n=some m→n≤100000→okF d∧n=m+d.nodes
 | .mk k t ks ds l,lv,n,m,h,hn=>by
  unfold T.small at h
  split at h
  ·cases h
  ·rename_i h0
   simp only [not_or] at h0
   obtain ⟨h1,h2,h3,h4,h5⟩:=h0
   obtain ⟨q1,q2⟩:=Je ds (lv - 1) (n - 1) m h (by omega)
   have e:(T.mk k t ks ds l).nodes=1+E5 ds:=by unfold T.nodes;rfl
   refine ⟨?_,by omega⟩
   unfold okF
   exact ⟨by omega,by omega,fun x hx=>by have:=Ke h5 x hx;omega,by omega,q1⟩
theorem Je:∀ (ds:List T) (lv n m:Nat),smallL lv ds n=some m→n≤100000→Ie ds∧n=m+E5 ds
 | [],lv,n,m,h,hn=>by
  simp only [smallL,Option.some.injEq] at h
  exact ⟨trivial,by unfold E5;omega⟩
 | d :: ds,lv,n,m,h,hn=>by
  unfold smallL at h
  split at h
  ·cases h
  ·rename_i m1 hm1
   obtain ⟨q1,q2⟩:=T.small_okF d lv n m1 hm1 hn
   obtain ⟨r1,r2⟩:=Je ds lv m1 m h (by omega)
   unfold Ie E5
   exact ⟨⟨q1,r1⟩,by omega⟩
end
end P20
end Go.Proofs.YtnjokdbblmlhhaaGreatDoor
