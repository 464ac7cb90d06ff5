/- Lemmas of this claim. -/
import Derived.Test.YtnjokdbblmlhhaaGreatDoorGPZ
import Derived.Test.YtnjokdbblmlhhaaGreatDoorGAZ
import Derived.Test.YtnjokdbblmlhhaaGreatDoorGW17Z
import Derived.Test.YtnjokdbblmlhhaaGreatDoorGV17Z
namespace Go.Proofs.YtnjokdbblmlhhaaGreatDoor
set_option linter.unusedVariables false
set_option linter.unusedSimpArgs false
open Go.RowKit
theorem Pq:(Tryz.prog.info? 9).map (fun i=>(i.zero,i.size,i.bytes))=some (some (.string ⟨#[]⟩),1,16):=by kernel_rfl
end Go.Proofs.YtnjokdbblmlhhaaGreatDoor
namespace Go.Proofs.YtnjokdbblmlhhaaGreatDoor
set_option linter.unusedVariables false
set_option linter.unusedSimpArgs false
open Go.RowKit
end Go.Proofs.YtnjokdbblmlhhaaGreatDoor
namespace Go.Proofs.YtnjokdbblmlhhaaGreatDoor
set_option linter.unusedVariables false
set_option linter.unusedSimpArgs false
open Go.RowKit
end Go.Proofs.YtnjokdbblmlhhaaGreatDoor
namespace Go.Proofs.YtnjokdbblmlhhaaGreatDoor
set_option linter.unusedVariables false
set_option linter.unusedSimpArgs false
open Go.RowKit
theorem Gn {B:Nat} {a w:World} (h:Below B a w) {g:Nat} (hg:g<B) (j:Nat):w.cell? ⟨g,j,none⟩=a.cell? ⟨g,j,none⟩:=by
 unfold World.cell?
 simp only [h.block g hg]
end Go.Proofs.YtnjokdbblmlhhaaGreatDoor
namespace Go.Proofs.YtnjokdbblmlhhaaGreatDoor
set_option linter.unusedVariables false
set_option linter.unusedSimpArgs false
open Go.RowKit Go.Shelf
def Vu (w:World) (B:Nat) (v:Value) (rs:List (Int × Int × ByteArray)):Prop:=
 ∃ ao cap,v=.slice ao rs.length cap∧∀ i r,rs[i]?=some r→∃ g o,ao=some ⟨g,o,none⟩∧g<B∧w.cell? ⟨g,o+i * 3,none⟩=some (.int .i64 r.1)∧w.cell? ⟨g,o+i * 3+1,none⟩=some (.int .i64 r.2.1)∧w.cell? ⟨g,o+i * 3+2,none⟩=some (.string r.2.2)
end Go.Proofs.YtnjokdbblmlhhaaGreatDoor
namespace Go.Proofs.YtnjokdbblmlhhaaGreatDoor
set_option linter.unusedVariables false
set_option linter.unusedSimpArgs false
open Go.RowKit Go.Shelf
end Go.Proofs.YtnjokdbblmlhhaaGreatDoor
namespace Go.Proofs.YtnjokdbblmlhhaaGreatDoor
set_option linter.unusedVariables false
set_option linter.unusedSimpArgs false
open Go.RowKit Go.Shelf
def Sc (r:Nat × Nat × List UInt8):Int × Int × ByteArray:=(r.1,r.2.1,⟨r.2.2.toArray⟩)
theorem Gi:∀ (rs:List (Nat × Nat × List UInt8)) (i:Nat) (r:Nat × Nat × List UInt8),rs[i]?=some r→(C2 rs)[i * 3]?=some (.int .i64 r.1)∧(C2 rs)[i * 3+1]?=some (.int .i64 r.2.1)∧(C2 rs)[i * 3+2]?=some (C0 r.2.2)
 | [],i,r,h=>by simp at h
 | a :: rs,0,r,h=>by
  simp at h
  subst h
  exact ⟨rfl,rfl,rfl⟩
 | a :: rs,i+1,r,h=>by
  have ih:=Gi rs i r (by simpa using h)
  have e:C2 (a :: rs)=Fx a ++ C2 rs:=rfl
  have l3:(Fx a).length=3:=rfl
  rw [e,List.getElem?_append_right (by omega),List.getElem?_append_right (by omega),List.getElem?_append_right (by omega),l3]
  rw [show (i+1) * 3 - 3=i * 3 from by omega,show (i+1) * 3+1 - 3=i * 3+1 from by omega,show (i+1) * 3+2 - 3=i * 3+2 from by omega]
  exact ih
theorem Nv {w:World} {B:Nat} {e:TypeId} {v:Value} {rs:List (Nat × Nat × List UInt8)} (h:Rk w B e v rs):Vu w w.heap.size v (rs.map Sc):=by
 unfold Rk at h
 rcases Nat.eq_zero_or_pos rs.length with h0 | h0
 ·have hnil:=List.eq_nil_of_length_eq_zero h0
  subst hnil
  obtain ⟨ao,m,cap,hv⟩:=E8 h
  rcases h.2 with ⟨hv,_⟩ | ⟨g,cap,cur,hv,_⟩
  ·exact ⟨_,_,hv,fun i r hr=>by simp at hr⟩
  ·exact ⟨_,_,hv,fun i r hr=>by simp at hr⟩
 ·obtain ⟨g,cap,hv,hb,hlt⟩:=h.form h0
  subst hv
  refine ⟨_,_,by rw [List.length_map],fun i r hr=>⟨g,0,rfl,hlt,?_⟩⟩
  rw [List.getElem?_map,Option.map_eq_some_iff] at hr
  obtain ⟨a,ha,rfl⟩:=hr
  obtain ⟨c0,c1,c2⟩:=Gi rs i a ha
  have hi:i<rs.length:=(List.getElem?_eq_some_iff.1 ha).1
  rw [Nat.zero_add,h.cellAt _ (by omega),h.cellAt _ (by omega),h.cellAt _ (by omega)]
  exact ⟨c0,c1,c2⟩
end Go.Proofs.YtnjokdbblmlhhaaGreatDoor
