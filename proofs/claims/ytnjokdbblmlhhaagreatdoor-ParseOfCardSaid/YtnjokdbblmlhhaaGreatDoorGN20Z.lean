/- Lemmas of this claim. -/
import Derived.Test.YtnjokdbblmlhhaaGreatDoorGPZ
import Derived.Test.YtnjokdbblmlhhaaGreatDoorGAZ
import Derived.Test.YtnjokdbblmlhhaaGreatDoorShelfZ
import Derived.Test.YtnjokdbblmlhhaaGreatDoorRows
import Derived.Sort.CutIn
import Derived.Sort.LoopGhostIn
import Derived.Maps.OwnIn
import Derived.Deep.CutRange
import Derived.Deep.CutBlock
import Derived.Deep.RegionWith
import Derived.Shelf.RegionOpenPlain
import Derived.Test.YtnjokdbblmlhhaaGreatDoorGW03Z
import Derived.Test.YtnjokdbblmlhhaaGreatDoorChecked
import Derived.Deep.Slices
import Derived.Deep.Strs
import Derived.Deep.Fields23
import Derived.Carry
import Derived.RangeFuncRecord
namespace Go.Proofs.YtnjokdbblmlhhaaGreatDoor
set_option linter.unusedVariables false
set_option linter.unusedSimpArgs false
open Go.RowKit
inductive Nd where
 | mk (kind:Nat) (text:List UInt8) (ka:Option Addr) (kc:Nat) (keys:List (List UInt8)) (da:Option Addr) (dc:Nat) (kids:List Nd) (line:Int)
def Nd.kind:Nd→Nat | .mk k _ _ _ _ _ _ _ _=>k
def Nd.text:Nd→List UInt8 | .mk _ t _ _ _ _ _ _ _=>t
def Nd.ka:Nd→Option Addr | .mk _ _ a _ _ _ _ _ _=>a
def Nd.kc:Nd→Nat | .mk _ _ _ c _ _ _ _ _=>c
def Nd.keys:Nd→List (List UInt8) | .mk _ _ _ _ ks _ _ _ _=>ks
def Nd.da:Nd→Option Addr | .mk _ _ _ _ _ a _ _ _=>a
def Nd.dc:Nd→Nat | .mk _ _ _ _ _ _ c _ _=>c
def Nd.kids:Nd→List Nd | .mk _ _ _ _ _ _ _ ds _=>ds
def Nd.line:Nd→Int | .mk _ _ _ _ _ _ _ _ l=>l
def Nd.kV (d:Nd):Value:=.slice d.ka d.keys.length d.kc
def Nd.dV (d:Nd):Value:=.slice d.da d.kids.length d.dc
def Nd.cs (d:Nd):List Value:=[.int .u8 d.kind,.string ⟨d.text.toArray⟩,d.kV,d.dV,.int .i64 d.line]
def Nd.val (d:Nd):Value:=.agg #[.int .u8 d.kind,.string ⟨d.text.toArray⟩,d.kV,d.dV,.int .i64 d.line]
mutual
def Nd.bare:Nd→P20.T
 | .mk k t _ _ ks _ _ ds l=>.mk k t ks (Am ds) l
def Am:List Nd→List P20.T
 | []=>[]
 | d :: ds=>d.bare :: Am ds
end
theorem Ci:∀ ds:List Nd,Am ds=ds.map Nd.bare
 | []=>rfl
 | d :: ds=>by simp [Am,Ci ds]
theorem Bs (ds:List Nd):(Am ds).length=ds.length:=by rw [Ci,List.length_map]
theorem Cu (a b:List Nd):Am (a ++ b)=Am a ++ Am b:=by simp [Ci]
def Eu (W:World) (a:Option Addr) (ks:List (List UInt8)):Prop:=∀ i x,ks[i]?=some x→∃ b o,a=some ⟨b,o,none⟩∧W.cell? ⟨b,o+i,none⟩=some (.string ⟨x.toArray⟩)
def Gu (W:World) (b o:Nat) (d:Nd):Prop:=
 W.cell? ⟨b,o,none⟩=some (.int .u8 d.kind)∧W.cell? ⟨b,o+1,none⟩=some (.string ⟨d.text.toArray⟩)∧W.cell? ⟨b,o+2,none⟩=some d.kV∧W.cell? ⟨b,o+3,none⟩=some d.dV∧W.cell? ⟨b,o+4,none⟩=some (.int .i64 d.line)
structure Ue (W:World) (d:Nd):Prop where
 kind:d.kind<256
 text:d.text.length≤maxLen
 keysL:d.keys.length≤maxLen
 kidsL:d.kids.length≤maxLen
 keysC:d.keys.length≤d.kc
 kidsC:d.kids.length≤d.dc
 keyL:∀ x∈d.keys,x.length≤maxLen
 keys:Eu W d.ka d.keys
mutual
def Nd.In (W:World):Nd→Prop
 | .mk k t ka kc ks da dc ds l=>Ue W (.mk k t ka kc ks da dc ds l)∧InL W da 0 ds
def InL (W:World) (a:Option Addr):Nat→List Nd→Prop
 | _,[]=>True
 | i,d :: ds=>(∃ b o,a=some ⟨b,o,none⟩∧Gu W b (o+i * 5) d)∧d.In W∧InL W a (i+1) ds
end
theorem Il {W:World} {a:Option Addr}:∀ {ds:List Nd} {i:Nat},InL W a i ds→∀ j d,ds[j]?=some d→(∃ b o,a=some ⟨b,o,none⟩∧Gu W b (o+(i+j) * 5) d)∧d.In W
 | [],i,h,j,d,hj=>by simp at hj
 | e :: ds,i,h,0,d,hj=>by
  simp only [List.getElem?_cons_zero,Option.some.injEq] at hj
  subst hj
  simp only [InL] at h
  exact ⟨by simpa using h.1,h.2.1⟩
 | e :: ds,i,h,j+1,d,hj=>by
  simp only [List.getElem?_cons_succ] at hj
  simp only [InL] at h
  have:=Il h.2.2 j d hj
  rw [show i+1+j=i+(j+1) from by omega] at this
  exact this
theorem Nh {W:World} {a:Option Addr}:∀ {ds:List Nd} {i:Nat},(∀ j d,ds[j]?=some d→(∃ b o,a=some ⟨b,o,none⟩∧Gu W b (o+(i+j) * 5) d)∧d.In W)→InL W a i ds
 | [],i,h=>trivial
 | e :: ds,i,h=>by
  have h0:=h 0 e rfl
  simp only [InL]
  refine ⟨h0.1,h0.2,Nh (fun j d hj=>?_)⟩
  have:=h (j+1) d (by simpa using hj)
  rw [show i+(j+1)=i+1+j from by omega] at this
  exact this
theorem Nd.In.fit {W:World} {d:Nd} (h:d.In W):Ue W d:=by
 cases d
 simp only [Nd.In] at h
 exact h.1
theorem Nd.In.kids {W:World} {d:Nd} (h:d.In W):InL W d.da 0 d.kids:=by
 cases d
 simp only [Nd.In] at h
 exact h.2
theorem Nd.In.mk {W:World} {d:Nd} (h:Ue W d) (hk:InL W d.da 0 d.kids):d.In W:=by
 cases d
 simp only [Nd.In]
 exact ⟨h,hk⟩
def Bj (a:Option Addr) (r:Nat):Prop:=∃ o,a=some ⟨r,o,none⟩
mutual
def Nd.blk (r:Nat):Nd→Prop
 | .mk _ _ ka _ ks da _ ds _=>(ks≠[]∧Bj ka r)∨(ds≠[]∧Bj da r)∨blkL r ds
def blkL (r:Nat):List Nd→Prop
 | []=>False
 | d :: ds=>d.blk r∨blkL r ds
end
theorem Eo (r:Nat):∀ ds:List Nd,blkL r ds↔∃ d∈ds,d.blk r
 | []=>by simp [blkL]
 | d :: ds=>by simp [blkL,Eo r ds]
theorem Es (r:Nat) (d:Nd):d.blk r↔((d.keys≠[]∧Bj d.ka r)∨(d.kids≠[]∧Bj d.da r)∨blkL r d.kids):=by cases d;simp [Nd.blk,Nd.keys,Nd.ka,Nd.kids,Nd.da]
theorem B3 {W:World} {b o:Nat} {v:Value} (h:W.cell? ⟨b,o,none⟩=some v):b<W.heap.size:=by
 rcases Nat.lt_or_ge b W.heap.size with h1 | h1
 ·exact h1
 ·have h9:W.heap[b]?=none:=Array.getElem?_eq_none h1
  simp [World.cell?,h9] at h
mutual
theorem Nd.In.lt {W:World} {r:Nat}:∀ {d:Nd},d.In W→d.blk r→r<W.heap.size
 | .mk k t ka kc ks da dc ds l,h,hr=>by
  simp only [Nd.blk] at hr
  simp only [Nd.In] at h
  rcases hr with ⟨hn,o,rfl⟩ | ⟨hn,o,rfl⟩ | hr
  ·cases ks with
   | nil=>exact absurd rfl hn
   | cons x ks=>
    obtain ⟨b,o',e,hc⟩:=h.1.keys 0 x rfl
    injection e with e
    injection e with e
    subst e
    exact B3 hc
  ·cases ds with
   | nil=>exact absurd rfl hn
   | cons x ds=>
    simp only [InL] at h
    obtain ⟨⟨b,o',e,hc⟩,_⟩:=h.2
    injection e with e
    injection e with e
    subst e
    exact B3 hc.1
  ·exact InL.lt h.2 hr
theorem InL.lt {W:World} {r:Nat} {a:Option Addr}:∀ {ds:List Nd} {i:Nat},InL W a i ds→blkL r ds→r<W.heap.size
 | [],i,h,hr=>by simp [blkL] at hr
 | d :: ds,i,h,hr=>by
  simp only [InL] at h
  simp only [blkL] at hr
  rcases hr with hr | hr
  ·exact Nd.In.lt h.2.1 hr
  ·exact InL.lt h.2.2 hr
end
theorem Ag {W W':World} {b:Nat} (h:W'.heap[b]?=W.heap[b]?) (o:Nat):W'.cell? ⟨b,o,none⟩=W.cell? ⟨b,o,none⟩:=World.cell?_of_block h
theorem Gu.keep {W W':World} {b o:Nat} {d:Nd} (h:Gu W b o d) (hb:W'.heap[b]?=W.heap[b]?):Gu W' b o d:=by
 obtain ⟨h0,h1,h2,h3,h4⟩:=h
 exact ⟨(Ag hb _).trans h0,(Ag hb _).trans h1,(Ag hb _).trans h2,(Ag hb _).trans h3,(Ag hb _).trans h4⟩
theorem Eu.keep {W W':World} {a:Option Addr} {ks:List (List UInt8)} (h:Eu W a ks) (hb:∀ r,ks≠[]→Bj a r→W'.heap[r]?=W.heap[r]?):Eu W' a ks:=by
 intro i x hx
 obtain ⟨b,o,rfl,hc⟩:=h i x hx
 refine ⟨b,o,rfl,(Ag (hb b ?_ ⟨o,rfl⟩) _).trans hc⟩
 rintro rfl
 simp at hx
theorem Ue.keep {W W':World} {d:Nd} (h:Ue W d) (hb:∀ r,d.keys≠[]→Bj d.ka r→W'.heap[r]?=W.heap[r]?):Ue W' d:=
 ⟨h.kind,h.text,h.keysL,h.kidsL,h.keysC,h.kidsC,h.keyL,h.keys.keep hb⟩
mutual
theorem Nd.In.keep {W W':World}:∀ {d:Nd},d.In W→(∀ r,d.blk r→W'.heap[r]?=W.heap[r]?)→d.In W'
 | .mk k t ka kc ks da dc ds l,h,hb=>by
  simp only [Nd.In] at h ⊢
  simp only [Nd.blk] at hb
  refine ⟨h.1.keep (fun r hn hr=>hb r (.inl ⟨hn,hr⟩)),InL.keep h.2 (fun r hr=>hb r (.inr (.inr hr))) (fun r hn hr=>hb r (.inr (.inl ⟨hn,hr⟩)))⟩
theorem InL.keep {W W':World} {a:Option Addr}:∀ {ds:List Nd} {i:Nat},InL W a i ds→(∀ r,blkL r ds→W'.heap[r]?=W.heap[r]?)→(∀ r,ds≠[]→Bj a r→W'.heap[r]?=W.heap[r]?)→InL W' a i ds
 | [],i,h,hb,ha=>trivial
 | d :: ds,i,h,hb,ha=>by
  simp only [InL] at h ⊢
  simp only [blkL] at hb
  obtain ⟨⟨b,o,rfl,hc⟩,h2,h3⟩:=h
  exact ⟨⟨b,o,rfl,hc.keep (ha b (by simp) ⟨o,rfl⟩)⟩,Nd.In.keep h2 (fun r hr=>hb r (.inl hr)),InL.keep h3 (fun r hr=>hb r (.inr hr)) (fun r _ hr=>ha r (by simp) hr)⟩
end
theorem Nd.In.below {W W':World} {d:Nd} (h:d.In W) (hb:Below W.heap.size W W'):d.In W':=h.keep (fun r hr=>hb.block r (h.lt hr))
theorem Nd.In.grown {W W':World} {d:Nd} {row:Option Nat} (h:d.In W) (hg:W.grownBy W' row) (hn:∀ r,row=some r→¬ d.blk r):d.In W':=h.keep (fun r hr=>hg.block r (h.lt hr) (fun e=>hn r e.symm hr))
theorem Nd.In.alloc {W:World} {d:Nd} (h:d.In W) (o:Obj):d.In (W.alloc o):=h.below ((Below.refl _ W).alloc (Nat.le_refl _) o)
theorem Nd.In.drew {W:World} {d:Nd} (h:d.In W):d.In W.drew:=h.keep (fun _ _=>rfl)
theorem Nd.In.setCell {W:World} {d:Nd} (h:d.In W) {b o:Nat} {v:Value} (hn:¬ d.blk b):d.In (W.setCell ⟨b,o,none⟩ v):=h.keep (fun r hr=>Below.heap_setCell _ _ _ _ (by rintro rfl;exact hn hr))
theorem Nd.val_eq (k:Nat) (t:List UInt8) (ka:Option Addr) (kc:Nat) (ks:List (List UInt8)) (da:Option Addr) (dc:Nat) (ds:List Nd) (l:Int):(Nd.mk k t ka kc ks da dc ds l).val=.agg #[.int .u8 k,.string ⟨t.toArray⟩,.slice ka ks.length kc,.slice da ds.length dc,.int .i64 l]:=rfl
def Nd.zero:Nd:=.mk 0 [] none 0 [] none 0 [] 0
theorem Nd.zero_in (W:World):Nd.zero.In W:=by
 refine .mk ⟨by decide,by simp [Nd.zero,Nd.text],by simp [Nd.zero,Nd.keys],by simp [Nd.zero,Nd.kids],by simp [Nd.zero,Nd.keys,Nd.kc],by simp [Nd.zero,Nd.kids,Nd.dc],by simp [Nd.zero,Nd.keys],?_⟩ trivial
 intro i x hx
 simp [Nd.zero,Nd.keys] at hx
theorem Nd.zero_blk (r:Nat):¬ Nd.zero.blk r:=by simp [Nd.zero,Nd.blk,blkL]
theorem B9 {W:World} {g:Nat} {t:TypeId} {a b c d e:Value} (h:W.heap[g]?=some (.cells #[a,b,c,d,e] t)) (v0 v1 v2 v3 v4:Value) :
  (((((W.setCell ⟨g,0,none⟩ v0).setCell ⟨g,1,none⟩ v1).setCell ⟨g,2,none⟩ v2).setCell ⟨g,3,none⟩ v3).setCell ⟨g,4,none⟩ v4).heap[g]?=some (.cells #[v0,v1,v2,v3,v4] t):=by
 simp [World.setCell,Array.getElem?_modify,h]
theorem Ad {W:World} {g:Nat} {t:TypeId} {a b c d e:Value} (h:W.heap[g]?=some (.cells #[a,b,c,d,e] t)) :
  (W.cell? ⟨g,0,none⟩=some a∧W.frozen? ⟨g,0,none⟩=false)∧(W.cell? ⟨g,1,none⟩=some b∧W.frozen? ⟨g,1,none⟩=false)∧(W.cell? ⟨g,2,none⟩=some c∧W.frozen? ⟨g,2,none⟩=false)∧(W.cell? ⟨g,3,none⟩=some d∧W.frozen? ⟨g,3,none⟩=false)∧(W.cell? ⟨g,4,none⟩=some e∧W.frozen? ⟨g,4,none⟩=false):=by
 simp [World.cell?,World.frozen?,h]
theorem Az {W:World} {g g':Nat} (h:g'≠g) (v0 v1 v2 v3 v4:Value):(((((W.setCell ⟨g,0,none⟩ v0).setCell ⟨g,1,none⟩ v1).setCell ⟨g,2,none⟩ v2).setCell ⟨g,3,none⟩ v3).setCell ⟨g,4,none⟩ v4).heap[g']?=W.heap[g']?:=by
 rw [Below.heap_setCell _ _ _ _ h,Below.heap_setCell _ _ _ _ h,Below.heap_setCell _ _ _ _ h,Below.heap_setCell _ _ _ _ h,Below.heap_setCell _ _ _ _ h]
theorem Af {W:World} {g:Nat} {t:TypeId} {a b:Value} (h:W.heap[g]?=some (.cells #[a,b] t)) :
  (W.cell? ⟨g,0,none⟩=some a∧W.frozen? ⟨g,0,none⟩=false)∧(W.cell? ⟨g,1,none⟩=some b∧W.frozen? ⟨g,1,none⟩=false):=by
 simp [World.cell?,World.frozen?,h]
theorem Nd.ind {p:Nd→Prop} (h:∀ k t ka kc ks da dc ds l,(∀ d∈ds,p d)→p (.mk k t ka kc ks da dc ds l)):∀ d,p d:=by
 have hm:∀ n:Nat,∀ d:Nd,SizeOf.sizeOf d≤n→p d:=by
  intro n
  induction n with
  | zero=>intro d hd;cases d;simp at hd
  | succ n ih=>
   intro d hd
   obtain ⟨k,t,ka,kc,ks,da,dc,ds,l⟩:=d
   refine h _ _ _ _ _ _ _ _ _ (fun e he=>ih e ?_)
   have:=List.sizeOf_lt_of_mem he
   simp only [Nd.mk.sizeOf_spec] at hd
   omega
 exact fun d=>hm _ d (Nat.le_refl _)
theorem Qk {W:World} {a:Option Addr} {ds:List Nd} (h:InL W a 0 ds) {j:Nat} {d:Nd} (hj:ds[j]?=some d):∃ b o,a=some ⟨b,o,none⟩∧Gu W b (o+j * 5) d∧d.In W:=by
 obtain ⟨⟨b,o,e,hc⟩,hi⟩:=Il h j d hj
 rw [Nat.zero_add] at hc
 exact ⟨b,o,e,hc,hi⟩
theorem InL.below {W W':World} {a:Option Addr} {ds:List Nd} (h:InL W a 0 ds) (hb:Below W.heap.size W W'):InL W' a 0 ds:=by
 refine Nh (fun j d hj=>?_)
 obtain ⟨⟨b,o,e,hc⟩,hi⟩:=Il h j d hj
 exact ⟨⟨b,o,e,hc.keep (hb.block b (B3 hc.1))⟩,hi.below hb⟩
theorem Eu.below {W W':World} {a:Option Addr} {ks:List (List UInt8)} (h:Eu W a ks) (hb:Below W.heap.size W W'):Eu W' a ks:=by
 intro i x hx
 obtain ⟨b,o,e,hc⟩:=h i x hx
 exact ⟨b,o,e,(Ag (hb.block b (B3 hc)) _).trans hc⟩
theorem Cg {ds:List Nd} {i:Nat} {d:Nd} (h:ds[i]?=some d):Am (ds.drop i)=d.bare :: Am (ds.drop (i+1)):=by
 obtain ⟨hl,rfl⟩:=List.getElem?_eq_some_iff.1 h
 rw [List.drop_eq_getElem_cons hl]
 rfl
theorem Ce {W:World} {a:Option Addr} {ds:List Nd} (h:InL W a 0 ds) {j:Nat} {d:Nd} (hj:ds[j]?=some d):∃ b o k t ka kc ks da dc es l,a=some ⟨b,o,none⟩∧d=.mk k t ka kc ks da dc es l ∧
  W.cell? ⟨b,o+j * 5,none⟩=some (.int .u8 k)∧W.cell? ⟨b,o+j * 5+1,none⟩=some (.string ⟨t.toArray⟩)∧W.cell? ⟨b,o+j * 5+2,none⟩=some (.slice ka ks.length kc)∧W.cell? ⟨b,o+j * 5+3,none⟩=some (.slice da es.length dc)∧W.cell? ⟨b,o+j * 5+4,none⟩=some (.int .i64 l) ∧
  (Nd.mk k t ka kc ks da dc es l).In W:=by
 obtain ⟨b,o,e,⟨c0,c1,c2,c3,c4⟩,hi⟩:=Qk h hj
 obtain ⟨k,t,ka,kc,ks,da,dc,es,l⟩:=d
 exact ⟨b,o,k,t,ka,kc,ks,da,dc,es,l,e,rfl,c0,c1,c2,c3,c4,hi⟩
theorem V3 {α:Type} {ds:List α} {i n:Nat} (hn:ds.length=n) (hi:i<n):∃ d,ds[i]?=some d:=⟨_,List.getElem?_eq_getElem (by omega)⟩
end Go.Proofs.YtnjokdbblmlhhaaGreatDoor
namespace Go.Proofs.YtnjokdbblmlhhaaGreatDoor
set_option linter.unusedVariables false
set_option linter.unusedSimpArgs false
open Go.RowKit
theorem Iu {w wx:World} {B b:Nat} (hb:Below B w wx) (h:B≤b) (v0 v1 v2 v3 v4:Value):Below B w (((((wx.setCell ⟨b,0,none⟩ v0).setCell ⟨b,1,none⟩ v1).setCell ⟨b,2,none⟩ v2).setCell ⟨b,3,none⟩ v3).setCell ⟨b,4,none⟩ v4):=
 ((((hb.setCell (p:=⟨b,0,none⟩) h v0).setCell (p:=⟨b,1,none⟩) h v1).setCell (p:=⟨b,2,none⟩) h v2).setCell (p:=⟨b,3,none⟩) h v3).setCell (p:=⟨b,4,none⟩) h v4
end Go.Proofs.YtnjokdbblmlhhaaGreatDoor
namespace Go.Proofs.YtnjokdbblmlhhaaGreatDoor
set_option linter.unusedVariables false
set_option linter.unusedSimpArgs false
open Go.RowKit
def bz (x:List UInt8):ByteArray:=⟨x.toArray⟩
theorem Tx {x y:List UInt8} (h:bz x=bz y):x=y:=by
 have:=congrArg (fun b:ByteArray=>b.data.toList) h
 simpa [bz] using this
theorem Ud (ks:List (List UInt8)) (x:List UInt8):bz x∈ks.map bz↔x∈ks:=by
 simp only [List.mem_map]
 constructor
 ·rintro ⟨y,hy,e⟩
  rw [← Tx e];exact hy
 ·intro h;exact ⟨x,h,rfl⟩
theorem Mk {W:World} {a:Option Addr} {ks:List (List UInt8)} (h:Eu W a ks) (hn:ks≠[]):∃ b o,a=some ⟨b,o,none⟩∧∀ j,j<(ks.map bz).length→W.cell? ⟨b,o+j,none⟩=some (.string ((ks.map bz).getD j ByteArray.empty)):=by
 cases ks with
 | nil=>exact absurd rfl hn
 | cons x ks=>
  obtain ⟨b,o,rfl,_⟩:=h 0 x rfl
  refine ⟨b,o,rfl,fun j hj=>?_⟩
  rw [List.length_map] at hj
  obtain ⟨b2,o2,e,hc⟩:=h j _ (List.getElem?_eq_getElem hj)
  injection e with e
  injection e with e1 e2
  subst e1
  subst e2
  rw [hc,List.getD_eq_getElem?_getD,List.getElem?_map,List.getElem?_eq_getElem hj]
  rfl
theorem Eh (a:Option Addr) (c:Nat) (ks:List (List UInt8)) (x:List UInt8) (w:World) (h:Eu w a ks) (hl:ks.length≤maxLen) :
  Calls Tryz.prog 83 #[.slice a ks.length c,.string ⟨x.toArray⟩] w fun e w'=>e=.returned (.bool (decide (x∈ks)))∧w=w':=by
 unfold maxLen at hl
 by_cases hn:ks=[]
 ·subst hn
  refine (Tryz.slices_Contains_string_empty a c (bz x) w).mono ?_
  rintro e w' ⟨rfl,rfl⟩
  exact ⟨rfl,rfl⟩
 ·obtain ⟨b,o,rfl,hc⟩:=Mk h hn
  refine (Tryz.slices_Contains_string b o ks.length c (ks.map bz) (bz x) w (by simp) (by omega) hc).mono ?_
  rintro e w' ⟨rfl,rfl⟩
  refine ⟨Bn ?_,rfl⟩
  rw [Bool.eq_iff_iff,Lib.containsS_iff,List.take_of_length_le (by simp),Ud,decide_eq_true_eq]
end Go.Proofs.YtnjokdbblmlhhaaGreatDoor
namespace Go.Proofs.YtnjokdbblmlhhaaGreatDoor
set_option linter.unusedVariables false
set_option linter.unusedSimpArgs false
open Go.RowKit
attribute [local go_sem] Oper.semAt_some
theorem RoundIn.anyD {F:Fence} (hd:F.depth=none) {m m':Nat} {P:Program} {l:Nat} {f:FuncId} {tmps:Array Value} {assign body:Code} {w:World} {R:Ending→World→Prop}
  (h:RoundIn F m P l f tmps assign body w R):RoundIn F m' P l f tmps assign body w R:=⟨h.1,fun c cs _=>h.2 c cs (fun d h=>by rw [hd] at h;cases h)⟩
theorem YieldAt.anyD {F:Fence} (hd:F.depth=none) {m:Nat} (m':Nat) {P:Program} {l:Nat} {args:Array Value} {W:World} {R:Ending→World→Prop} (h:YieldAt F m P l args W R):YieldAt F m' P l args W R:=by
 obtain ⟨fn,tmps,assign,body,hy,hR⟩:=h
 exact ⟨fn,tmps,assign,body,hy,RoundIn.anyD hd hR⟩
theorem F4 {P:Program} {w:World} {a:Addr} {m:Mode} {f:Fn} {x y:Array Value}:(store a (.func f x y) m).run P w=stored P w a (.func f x y) m:=run_store P w a _ m rfl
attribute [local go_sem] F4
mutual
def Nd.preN (most:Nat):Nat→Nd→List (Nat × Nd)
 | lv,.mk k t ka kc ks da dc ds l=>if most<lv then [] else (lv,.mk k t ka kc ks da dc ds l) :: Cn most (lv+1) ds
def Cn (most:Nat):Nat→List Nd→List (Nat × Nd)
 | lv,[]=>[]
 | lv,d :: ds=>d.preN most lv ++ Cn most lv ds
end
def Fq (x:Nat × Nd):Nat × P20.T:=(x.1,x.2.bare)
mutual
theorem Nd.preN_bare (most:Nat):∀ (d:Nd) (lv:Nat),(d.preN most lv).map Fq=d.bare.pre most lv
 | .mk k t ka kc ks da dc ds l,lv=>by
  unfold Nd.preN Nd.bare P20.T.pre
  split
  ·rfl
  ·rw [List.map_cons,Ip most ds (lv+1)];rfl
theorem Ip (most:Nat):∀ (ds:List Nd) (lv:Nat),(Cn most lv ds).map Fq=P20.preL most lv (Am ds)
 | [],lv=>rfl
 | d :: ds,lv=>by
  unfold Cn Am P20.preL
  rw [List.map_append,Nd.preN_bare most d lv,Ip most ds lv]
end
theorem Fg (most lv:Nat):∀ a b:List Nd,Cn most lv (a ++ b)=Cn most lv a ++ Cn most lv b
 | [],b=>rfl
 | d :: a,b=>by rw [List.cons_append,Cn,Cn,Fg most lv a b,List.append_assoc]
theorem Mq (most lv:Nat) {ds:List Nd} {j:Nat} {d:Nd} (h:ds[j]?=some d):Cn most lv ds=Cn most lv (ds.take j) ++ (d.preN most lv ++ Cn most lv (ds.drop (j+1))):=by
 obtain ⟨hl,rfl⟩:=List.getElem?_eq_some_iff.1 h
 conv=>lhs;rw [← List.take_append_drop j ds,List.drop_eq_getElem_cons hl]
 rw [Fg]
 rfl
theorem Oi (most lv:Nat) {ds:List Nd} {j:Nat} {d:Nd} (h:ds[j]?=some d):Cn most lv (ds.take (j+1))=Cn most lv (ds.take j) ++ d.preN most lv:=by
 obtain ⟨hl,rfl⟩:=List.getElem?_eq_some_iff.1 h
 rw [List.take_succ_eq_append_getElem hl,Fg]
 simp [Cn]
def N9 (x:Nat × Nd):Array Value:=#[.int .i64 x.1,x.2.val]
theorem Bp {W:World} {g:Nat} {t:TypeId} {a:Value} (h:W.heap[g]?=some (.cells #[a] t)):W.cell? ⟨g,0,none⟩=some a∧W.frozen? ⟨g,0,none⟩=false:=by
 simp [World.cell?,World.frozen?,h]
def Ss (W0:World) (l:Nat) (L:List (Nat × Nd)) (most b1 b3 b4:Nat) (R:Nat→Prop) (J Jx:Nat→(Nat→Prop)→World→Prop) (d:Nd):Prop:=
 ∀ (n lv i:Nat) (rest:List (Nat × Nd)) (M:Nat→Prop) (V:World),d.In V→(∀ r,d.blk r→R r)→L.drop i=d.preN most lv ++ rest→J i M V→W0.heap.size≤V.heap.size →
  V.heap[b1]?=some (.cells #[.int .i64 most] 3)→V.heap[b3]?=some (.cells #[.func (.yield l) #[] #[]] 136) →
  V.heap[b4]?=some (.cells #[.func (.func 81) #[] #[.pointer (some ⟨b1,0,none⟩),.pointer (some ⟨b3,0,none⟩),.pointer (some ⟨b4,0,none⟩)]] 137)→¬ M b1→¬ M b3→¬ M b4 →
  CallsIn Fence.wide n Tryz.prog 81 #[d.val,.int .i64 lv,.pointer (some ⟨b1,0,none⟩),.pointer (some ⟨b3,0,none⟩),.pointer (some ⟨b4,0,none⟩)] V fun e W'=>
   ∃ bb,e=.returned (.bool bb)∧Hid (∃ M',Au M V M' W'∧((bb=true∧J (i+(d.preN most lv).length) M' W')∨(bb=false∧∃ i',i'≤L.length∧Jx i' M' W')))
theorem Au.in {M M':Nat→Prop} {V W:World} {d:Nd} (h:Au M V M' W) (hd:d.In V) (hn:∀ r,d.blk r→¬ M r):d.In W:=hd.keep (fun r hr=>h.same r (hn r hr) (hd.lt hr))
set_option maxRecDepth 100000 in
set_option maxHeartbeats 8000000 in
theorem Qx (W0:World) (l:Nat) (L:List (Nat × Nd)) (most b1 b3 b4:Nat) (R:Nat→Prop) (J Jx:Nat→(Nat→Prop)→World→Prop) (hm:most≤1000) (hJ:Dg R J) (hJx:Dg R Jx)
  (hM:∀ i M V,J i M V→∀ r,M r→r<V.heap.size∧¬ R r) (hR:∀ r,R r→r<W0.heap.size)
  (hY:∀ m i x M V,L[i]?=some x→J i M V→W0.heap.size≤V.heap.size→YieldAt Fence.wide m Tryz.prog l (N9 x) V fun e W'=>
   ∃ M',Au M V M' W'∧((e=.returned (.bool true)∧J (i+1) M' W')∨(e=.returned (.bool false)∧Jx (i+1) M' W')))
  (k:Nat) (t:List UInt8) (ka:Option Addr) (kc:Nat) (ks:List (List UInt8)) (da:Option Addr) (dc:Nat) (ds:List Nd) (ln:Int) (hds:∀ d∈ds,Ss W0 l L most b1 b3 b4 R J Jx d) :
  Ss W0 l L most b1 b3 b4 R J Jx (.mk k t ka kc ks da dc ds ln):=by
 intro n lv i rest M V hin hblk hL hJ0 hWV h1 h3 h4 n1 n3 n4
 rw [Nd.val_eq]
 have l1:=(Array.getElem?_eq_some_iff.1 h1).1
 have l3:=(Array.getElem?_eq_some_iff.1 h3).1
 have l4:=(Array.getElem?_eq_some_iff.1 h4).1
 have hMlt:=fun r hr=>(hM i M V hJ0 r hr).1
 have hMR:=fun r hr=>(hM i M V hJ0 r hr).2
 have hnM:∀ r,(Nd.mk k t ka kc ks da dc ds ln).blk r→¬ M r:=fun r hr h=>hMR r h (hblk r hr)
 obtain ⟨V1,hV1⟩:∃ V1,V.alloc (.cells #[.int .u8 k,.string ⟨t.toArray⟩,.slice ka ks.length kc,.slice da ds.length dc,.int .i64 ln] 26)=V1:=⟨_,rfl⟩
 have hg1:V.grownBy V1 none:=by rw [← hV1];exact World.grownBy_alloc _ _ _
 have hs1:V1.heap.size=V.heap.size+1:=by rw [← hV1];simp
 have hk1:Au M V M V1:=.grown hg1 (fun r e=>by cases e)
 have g0:V1.heap[V.heap.size]?=some (.cells #[.int .u8 k,.string ⟨t.toArray⟩,.slice ka ks.length kc,.slice da ds.length dc,.int .i64 ln] 26):=by rw [← hV1];exact World.alloc_heap_new V _
 have hJ1:J i M V1:=hJ i M V V1 none hJ0 hg1 (fun r e=>by cases e)
 have k1:=(hk1.same b1 n1 l1).trans h1
 have k3:=(hk1.same b3 n3 l3).trans h3
 have hnH:¬ M V.heap.size:=fun h=>by have:=hMlt _ h;omega
 obtain ⟨x1,_⟩:=Bp k1
 obtain ⟨x3,_⟩:=Bp k3
 have HV1:=Ab hV1
 have HJ:=Ab hJ
 have HIN:=Ab hin
 have HBLK:=Ab hblk
 have HDS:=Ab hds
 have HM:=Ab hM
 have HNM:=Ab hnM
 have HK1:=Ab hk1
 have HJ1:=Ab hJ1
 have H1:=Ab h1
 have H3:=Ab h3
 have H4:=Ab h4
 have hkl:=hin.fit.kidsL
 simp only [Nd.kids] at hkl
 unfold maxLen at hkl
 clear hV1 hJ hJx hin hblk hds hM hnM h1 h3 h4 hMlt hMR hg1 hR
 rcases Nat.lt_or_ge most lv with hlv | hlv
 ·have jl:(most:Int)<(lv:Int):=by omega
  have he:(Nd.mk k t ka kc ks da dc ds ln).preN most lv=[]:=by unfold Nd.preN;rw [if_pos hlv]
  rw [he]
  clear hL hY he hlv
  refine callsIn_of_wp Tryz.func81 rfl trivial ?_ rfl
  simp only [Tryz.ntmps81,List.size_toArray,List.length_cons,List.length_nil,Nat.reduceAdd,Nat.reduceSub,Array.replicate_succ,Array.replicate_zero,List.push_toArray,List.append_toArray,List.nil_append,List.cons_append]
  gi_upto_region 1 with fail
  rw [Aa HV1]
  gi_wp2
  go_ret
  exact ⟨true,rfl,Ab ⟨M,Aa HK1,.inl ⟨rfl,Aa HJ1⟩⟩⟩
 have jl:(lv:Int)≤(most:Int):=by omega
 have hpre:(Nd.mk k t ka kc ks da dc ds ln).preN most lv=(lv,.mk k t ka kc ks da dc ds ln) :: Cn most (lv+1) ds:=by unfold Nd.preN;rw [if_neg (by omega)]
 rw [hpre] at hL ⊢
 have hLi:L[i]?=some (lv,.mk k t ka kc ks da dc ds ln):=by
  have:=congrArg (fun z=>z[0]?) hL
  simpa using this
 have hLd:L.drop (i+1)=Cn most (lv+1) ds ++ rest:=by
  have:=congrArg (fun z=>z.drop 1) hL
  simpa [List.drop_drop] using this
 have hil:=(List.getElem?_eq_some_iff.1 hLi).1
 have hYa:=(hY (n - 1) i _ M V1 hLi (Aa HJ1) (by omega)).mono
  (R':=fun e W'=>∃ bb,e=.returned (.bool bb)∧Hid (∃ M',Au M V1 M' W'∧((bb=true∧J (i+1) M' W')∨(bb=false∧Jx (i+1) M' W')))) (by
   rintro e W' ⟨M',hk,(⟨rfl,h⟩ | ⟨rfl,h⟩)⟩
   ·exact ⟨true,rfl,Ab ⟨M',hk,.inl ⟨rfl,h⟩⟩⟩
   ·exact ⟨false,rfl,Ab ⟨M',hk,.inr ⟨rfl,h⟩⟩⟩)
 have HLD:=Ab hLd
 have HIL:=Ab hil
 clear hY hL hpre hLi hLd hil
 obtain ⟨fn,tmps,assign,body,hy,hRd⟩:=hYa
 replace hy:(Instr.yield l #[.int .i64 lv,.agg #[.int .u8 k,.string ⟨t.toArray⟩,.slice ka ks.length kc,.slice da ds.length dc,.int .i64 ln]]).run Tryz.prog V1=.ok (.round l fn tmps assign body) V1:=hy
 obtain ⟨⟨y0,_⟩,⟨y1,_⟩,⟨y2,_⟩,⟨y3,_⟩,⟨y4,_⟩⟩:=Ad g0
 have G0:=Ab g0
 clear g0 k1 k3
 refine callsIn_of_wp Tryz.func81 rfl trivial ?_ rfl
 simp only [Tryz.ntmps81,List.size_toArray,List.length_cons,List.length_nil,Nat.reduceAdd,Nat.reduceSub,Array.replicate_succ,Array.replicate_zero,List.push_toArray,List.append_toArray,List.nil_append,List.cons_append]
 gi_upto_region 1 with fail
 rw [Aa HV1]
 gi_wp2
 refine ⟨fun h=>(by cases h),hRd.mono ?_⟩
 rintro e W3 ⟨bb,rfl,HB⟩
 clear hy hRd x1 x3 y0 y1 y2 y3 y4
 cases bb
 ·gi_wp2
  go_ret
  obtain ⟨M',hk,(⟨h,_⟩ | ⟨_,h⟩)⟩:=Aa HB
  ·cases h
  ·exact ⟨false,rfl,Ab ⟨M',(Aa HK1).trans hk,.inr ⟨rfl,i+1,Aa HIL,h⟩⟩⟩
 obtain ⟨M3,hk3,hJ3⟩:∃ M',Au M V M' W3∧J (i+1) M' W3:=by
  obtain ⟨M',hk,(⟨_,h⟩ | ⟨h,_⟩)⟩:=Aa HB
  ·exact ⟨M',(Aa HK1).trans hk,h⟩
  ·cases h
 have q0:W3.heap[V.heap.size]?=some (.cells #[.int .u8 k,.string ⟨t.toArray⟩,.slice ka ks.length kc,.slice da ds.length dc,.int .i64 ln] 26):=by
  obtain ⟨M',hk,_⟩:=Aa HB
  exact (hk.same _ hnH (by omega)).trans (Aa G0)
 obtain ⟨⟨y0,_⟩,⟨y1,_⟩,⟨y2,_⟩,⟨y3,_⟩,⟨y4,_⟩⟩:=Ad q0
 have HK3:=Ab hk3
 have HJ3:=Ab hJ3
 clear hk3 hJ3 q0 HB G0
 have hik:=(Aa HIN).kids
 simp only [Nd.da,Nd.kids] at hik
 have HCP:=Ab hik
 clear hik
 have hli:(lv:Int)+1<9223372036854775807:=by omega
 have hlw:IntKind.i64.wrap ((lv:Int)+1)=(lv:Int)+1:=IntWalk.i64_in _ (by omega)
 obtain ⟨nd,hnd⟩:∃ nd,ds.length=nd:=⟨_,rfl⟩
 rw [hnd] at y3 hkl
 have HND:=Ab hnd
 clear hnd
 gi_wp2
 gi_loopg [21] nd (fun g s21 wx=>∃ (j:Nat) (M2:Nat→Prop),j+g=nd∧s21=.int .i64 j∧Hid (Au M V M2 wx)∧Hid (J (i+1+(Cn most (lv+1) (ds.take j)).length) M2 wx))
 case atStart=>exact ⟨0,M3,by omega,by go_num,HK3,Ab (by simpa [Cn] using Aa HJ3)⟩
 case round=>
  obtain ⟨j,M2,hjg,rfl,HKR,HJR⟩:=hrel
  cases gk with
  | zero=>
   have e1:(nd:Int)=(j:Int):=by omega
   have HE:=Ab (show j=nd by omega)
   gi_wp2
   go_ret
   refine ⟨true,rfl,Ab ⟨M2,Aa HKR,.inl ⟨rfl,?_⟩⟩⟩
   have h1:=Aa HJR
   rw [Aa HE,← Aa HND,List.take_length] at h1
   show J (i+((Cn most (lv+1) ds).length+1)) M2 wr
   rw [show i+((Cn most (lv+1) ds).length+1)=i+1+(Cn most (lv+1) ds).length from by omega]
   exact h1
  | succ g'=>
   have hlt:(j:Int)<(nd:Int):=by omega
   have hki:IntKind.i64.wrap ((j:Int)+1)=(j:Int)+1:=IntWalk.i64_in _ (by omega)
   have hjl:j<ds.length:=by rw [Aa HND];omega
   obtain ⟨d,hgj⟩:=V3 (Aa HND) (show j<nd by omega)
   obtain ⟨b,o,k',t',ka',kc',ks',da',dc',ds',l',rfl,rfl,c0,c1,c2,c3,c4,hdin⟩:=Ce (Aa HCP) hgj
   have hbk:∀ r,(Nd.mk k' t' ka' kc' ks' da' dc' ds' l').blk r→(Nd.mk k t ka kc ks (some ⟨b,o,none⟩) dc ds ln).blk r:=fun r hr=>by
    rw [Es]
    exact .inr (.inr ((Eo r _).2 ⟨_,List.mem_of_getElem? hgj,hr⟩))
   have hbb:(Nd.mk k t ka kc ks (some ⟨b,o,none⟩) dc ds ln).blk b:=by
    rw [Es]
    exact .inr (.inl ⟨by rintro e;simp only [Nd.kids] at e;subst e;simp at hgj,o,rfl⟩)
   have hkr:=Aa HKR
   have hsb:=hkr.same b (Aa HNM b hbb) (B3 c0)
   replace c0:=(Ag hsb _).trans c0
   replace c1:=(Ag hsb _).trans c1
   replace c2:=(Ag hsb _).trans c2
   replace c3:=(Ag hsb _).trans c3
   replace c4:=(Ag hsb _).trans c4
   have hdr:=hkr.in hdin (fun r hr=>Aa HNM r (hbk r hr))
   obtain ⟨V5,hV5⟩:∃ V5,wr.alloc (.cells #[.int .u8 k',.string ⟨t'.toArray⟩,.slice ka' ks'.length kc',.slice da' ds'.length dc',.int .i64 l'] 26)=V5:=⟨_,rfl⟩
   have hg5:wr.grownBy V5 none:=by rw [← hV5];exact World.grownBy_alloc _ _ _
   have hk5:Au M V M2 V5:=hkr.trans (.grown hg5 (fun r e=>by cases e))
   have hJ5:=(Aa HJ) _ _ _ V5 none (Aa HJR) hg5 (fun r e=>by cases e)
   have hs5:=hk5.size
   have nn:∀ r,¬ M r→r<V.heap.size→¬ M2 r:=fun r h1 h2 h3=>(hkr.more r h3).elim h1 (by omega)
   have hLdj:L.drop (i+1+(Cn most (lv+1) (ds.take j)).length)=(Nd.mk k' t' ka' kc' ks' da' dc' ds' l').preN most (lv+1) ++ (Cn most (lv+1) (ds.drop (j+1)) ++ rest):=by
    rw [← List.drop_drop,Aa HLD,Mq most (lv+1) hgj,List.append_assoc,List.drop_left,List.append_assoc]
   have hcl:=fun m=>Aa HDS _ (List.mem_of_getElem? hgj) m (lv+1) _ _ M2 V5 (hdr.keep (fun r hr=>hg5.block r (hdr.lt hr) (by simp))) (fun r hr=>Aa HBLK r (hbk r hr)) hLdj hJ5 (by omega)
    ((hk5.same b1 n1 l1).trans (Aa H1)) ((hk5.same b3 n3 l3).trans (Aa H3)) ((hk5.same b4 n4 l4).trans (Aa H4)) (nn _ n1 l1) (nn _ n3 l3) (nn _ n4 l4)
   have hcl2:=fun m=>(hcl m).mono (R':=fun e W'=>∃ bb,e=.returned (.bool bb)∧Hid (∃ M',Au M V M' W'∧((bb=true∧J (i+1+(Cn most (lv+1) (ds.take (j+1))).length) M' W')∨(bb=false∧∃ i',i'≤L.length∧Jx i' M' W')))) (by
    rintro e W' ⟨bb,rfl,M',hk,h⟩
    refine ⟨bb,rfl,Ab ⟨M',hk5.trans hk,?_⟩⟩
    rw [Oi most (lv+1) hgj,List.length_append,← Nat.add_assoc]
    exact h)
   have k4:=(hk5.same b4 n4 l4).trans (Aa H4)
   obtain ⟨x4,_⟩:=Bp k4
   have h0:V5.heap[wr.heap.size]?=some (.cells #[.int .u8 k',.string ⟨t'.toArray⟩,.slice ka' ks'.length kc',.slice da' ds'.length dc',.int .i64 l'] 26):=by rw [← hV5];exact World.alloc_heap_new wr _
   obtain ⟨⟨z0,_⟩,⟨z1,_⟩,⟨z2,_⟩,⟨z3,_⟩,⟨z4,_⟩⟩:=Ad h0
   rw [show (((lv+1:Nat)):Int)=(lv:Int)+1 from by omega] at hcl2
   have HCL:=Ab hcl2
   have HV5:=Ab hV5
   have hbl:=B3 c0
   clear hcl hcl2 hV5 hdin hkr hdr hg5 hk5 hJ5 nn hLdj hgj hbk hbb k4 h0 hsb
   gi_upto_region 8 with fail
   rw [Aa HV5]
   have hdd:∀ k:Nat,(Fence.wide.depth.isSome=true→1≤k):=fun k h=>by cases h
   gi_wp2
   refine ⟨trivial,hdd _,(Aa HCL _).mono ?_⟩
   rintro e W6 ⟨bb,rfl,HB6⟩
   cases bb
   ·gi_wp2
    go_ret
    obtain ⟨M',hk,(⟨h,_⟩ | ⟨_,h⟩)⟩:=Aa HB6
    ·cases h
    ·exact ⟨false,rfl,Ab ⟨M',hk,.inr ⟨rfl,h⟩⟩⟩
   ·have hfin:Hid (∃ M',Au M V M' W6∧J (i+1+(Cn most (lv+1) (ds.take (j+1))).length) M' W6):=by
     obtain ⟨M',hk,(⟨_,h⟩ | ⟨h,_⟩)⟩:=Aa HB6
     ·exact Ab ⟨M',hk,h⟩
     ·cases h
    gi_wp2
    gi_roundg g'
    case measure=>omega
    case rel=>
     obtain ⟨M',hk,h⟩:=Aa hfin
     exact ⟨j+1,M',by omega,by go_num,Ab hk,Ab h⟩
set_option maxRecDepth 100000 in
set_option maxHeartbeats 4000000 in
theorem Gk (n most b1 b2:Nat) (k:Nat) (t:List UInt8) (ka:Option Addr) (kc:Nat) (ks:List (List UInt8)) (da:Option Addr) (dc:Nat) (ds:List Nd) (ln:Int) (R T:Nat→Prop) (W:World) (hm:most≤1000)
  (h1:W.heap[b1]?=some (.cells #[.int .i64 most] 3)) (h2:W.heap[b2]?=some (.cells #[.int .u8 k,.string ⟨t.toArray⟩,.slice ka ks.length kc,.slice da ds.length dc,.int .i64 ln] 26))
  (hin:(Nd.mk k t ka kc ks da dc ds ln).In W) (hblk:∀ r,(Nd.mk k t ka kc ks da dc ds ln).blk r→R r) (hR:∀ r,R r→r<W.heap.size) (hT:T b1) :
  Tb Fence.wide n Tryz.prog 80 #[.pointer (some ⟨b1,0,none⟩),.pointer (some ⟨b2,0,none⟩)] N9 ((Nd.mk k t ka kc ks da dc ds ln).preN most 1) R T W:=by
 intro l J Jx hJ hJx hM hY M0 hT0 h0
 have l1:=(Array.getElem?_eq_some_iff.1 h1).1
 have l2:=(Array.getElem?_eq_some_iff.1 h2).1
 have hY':∀ m i x M V,((Nd.mk k t ka kc ks da dc ds ln).preN most 1)[i]?=some x→J i M V→W.heap.size≤V.heap.size→YieldAt Fence.wide m Tryz.prog l (N9 x) V fun e W'=>
   ∃ M',Au M V M' W'∧((e=.returned (.bool true)∧J (i+1) M' W')∨(e=.returned (.bool false)∧Jx (i+1) M' W')):=
  fun m i x M V hx hj hs=>YieldAt.anyD rfl m (hY i x M V hx hj hs)
 obtain ⟨W1,hW1⟩:∃ W1,(W.alloc (.cells #[.func (.yield l) #[] #[]] 136)).alloc (.cells #[.nilFunc] 137)=W1:=⟨_,rfl⟩
 have hs1:W1.heap.size=W.heap.size+1+1:=by rw [← hW1];simp
 have hg1:W.grownBy W1 none:=by rw [← hW1];exact Cd (World.grownBy_alloc W _ none) (World.grownBy_alloc _ _ none)
 have g3:W1.heap[W.heap.size]?=some (.cells #[.func (.yield l) #[] #[]] 136):=by rw [← hW1];exact (Below.heap_alloc _ _ _ (by simp)).trans (World.alloc_heap_new W _)
 have g4:W1.heap[W.heap.size+1]?=some (.cells #[.nilFunc] 137):=by
  rw [← hW1]
  have:=World.alloc_heap_new (W.alloc (.cells #[.func (.yield l) #[] #[]] 136)) (.cells #[.nilFunc] 137)
  rw [World.size_alloc] at this
  exact this
 obtain ⟨W2,hW2⟩:∃ W2,W1.setCell ⟨W.heap.size+1,0,none⟩ (.func (.func 81) #[] #[.pointer (some ⟨b1,0,none⟩),.pointer (some ⟨W.heap.size,0,none⟩),.pointer (some ⟨W.heap.size+1,0,none⟩)])=W2:=⟨_,rfl⟩
 have hg2:W1.grownBy W2 (some (W.heap.size+1)):=by rw [← hW2];exact grownBy_setCell' W1 _ _
 have hs2:W2.heap.size=W.heap.size+1+1:=by rw [← hW2];simpa using hs1
 have q4:W2.heap[W.heap.size+1]?=some (.cells #[.func (.func 81) #[] #[.pointer (some ⟨b1,0,none⟩),.pointer (some ⟨W.heap.size,0,none⟩),.pointer (some ⟨W.heap.size+1,0,none⟩)]] 137):=by
  rw [← hW2];simp [World.setCell,Array.getElem?_modify,g4]
 have ho:∀ r,r<W.heap.size→W2.heap[r]?=W.heap[r]?:=fun r hr=>(hg2.block r (by omega) (by simp;omega)).trans (hg1.block r hr (by simp))
 have q3:W2.heap[W.heap.size]?=some (.cells #[.func (.yield l) #[] #[]] 136):=(hg2.block _ (by omega) (by simp)).trans g3
 have q1:=(ho b1 l1).trans h1
 have q2:=(ho b2 l2).trans h2
 have hM0:∀ r,M0 r→r<W.heap.size:=fun r hr=>(hM 0 M0 W h0 r hr).1
 have hJ1:J 0 M0 W1:=hJ 0 M0 W W1 none h0 hg1 (fun r e=>by cases e)
 have hJ2:J 0 M0 W2:=hJ 0 M0 W1 W2 _ hJ1 hg2 (fun r e=>by cases e;exact ⟨fun h=>by have:=hM0 _ h;omega,fun h=>by have:=hR _ h;omega⟩)
 have hdown:=fun m=>Nd.ind (p:=Ss W l ((Nd.mk k t ka kc ks da dc ds ln).preN most 1) most b1 W.heap.size (W.heap.size+1) R J Jx) (Qx W l _ most b1 _ _ R J Jx hm hJ hJx hM hR hY') (.mk k t ka kc ks da dc ds ln) m 1 0 [] M0 W2
  (hin.keep (fun r hr=>ho r (hin.lt hr))) hblk (by simp) hJ2 (by omega) q1 q3 q4 (hT0 _ hT).1 (fun h=>by have:=hM0 _ h;omega) (fun h=>by have:=hM0 _ h;omega)
 rw [Nd.val_eq] at hdown
 have hmf:∀ (fn:Fn) (first cap:Array Value) (w:World),(Instr.makeFunc fn first cap).run Tryz.prog w=.ok (.func fn first cap) w:=fun _ _ _ _=>rfl
 obtain ⟨x4,f4⟩:=Bp g4
 have HQ2:=Ab q2
 have HQ4:=Ab q4
 have HW1:=Ab hW1
 have HW2:=Ab hW2
 have HD:=Ab hdown
 clear hW1 hW2 hY hY' hJ hJx hM hT0 h0 h1 h2 hin hblk hR hs1 hg1 g3 g4 hg2 hs2 q4 ho q3 q1 q2 hM0 hJ1 hJ2 hdown
 refine callsIn_of_wp Tryz.func80 rfl trivial ?_ rfl
 simp only [Tryz.ntmps80,List.size_toArray,List.length_cons,List.length_nil,Nat.reduceAdd,Nat.reduceSub,Array.replicate_succ,Array.replicate_zero,List.push_toArray,List.append_toArray,List.nil_append,List.cons_append]
 gi_upto_region 2 with fail
 rw [Aa HW1]
 gi_upto_region 3 with fail
 rw [Aa HW2]
 obtain ⟨y4,_⟩:=Bp (Aa HQ4)
 obtain ⟨⟨z0,_⟩,⟨z1,_⟩,⟨z2,_⟩,⟨z3,_⟩,⟨z4,_⟩⟩:=Ad (Aa HQ2)
 gi_wp2
 refine ⟨trivial,fun h=>(by cases h),(Aa HD _).mono ?_⟩
 rintro e W6 ⟨bb,rfl,HB⟩
 gi_wp2
 go_end0
 obtain ⟨M',hk,(⟨_,h⟩ | ⟨_,h⟩)⟩:=Aa HB
 ·exact ⟨⟨_,rfl⟩,M',.inl (by rw [Nat.zero_add] at h;exact h)⟩
 ·exact ⟨⟨_,rfl⟩,M',.inr h⟩
set_option maxRecDepth 100000 in
theorem J6 (k:Nat) (t:List UInt8) (ka:Option Addr) (kc:Nat) (ks:List (List UInt8)) (da:Option Addr) (dc:Nat) (ds:List Nd) (ln:Int) (most:Int) (w:World) :
  Calls Tryz.prog 42 #[.agg #[.int .u8 k,.string ⟨t.toArray⟩,.slice ka ks.length kc,.slice da ds.length dc,.int .i64 ln],.int .i64 most] w fun e w'=>
   e=.returned (.func (.func 80) #[] #[.pointer (some ⟨w.heap.size+1,0,none⟩),.pointer (some ⟨w.heap.size,0,none⟩)]) ∧
   w'=(w.alloc (.cells #[.int .u8 k,.string ⟨t.toArray⟩,.slice ka ks.length kc,.slice da ds.length dc,.int .i64 ln] 26)).alloc (.cells #[.int .i64 most] 3):=by
 have hmf:∀ (fn:Fn) (first cap:Array Value) (w:World),(Instr.makeFunc fn first cap).run Tryz.prog w=.ok (.func fn first cap) w:=fun _ _ _ _=>rfl
 go_enter Tryz.func42,Tryz.ntmps42
 go_wp2
 go_ret
 exact ⟨rfl,rfl⟩
end Go.Proofs.YtnjokdbblmlhhaaGreatDoor
namespace Go.Proofs.YtnjokdbblmlhhaaGreatDoor
set_option linter.unusedVariables false
set_option linter.unusedSimpArgs false
open Go.RowKit
attribute [local go_sem] Oper.semAt_some
def Mv (L:List (Nat × Nd)):Nat:=(L.map (·.1)).foldl max 0
theorem Re {L:List (Nat × Nd)} {i:Nat} {x:Nat × Nd} (h:L[i]?=some x):Mv (L.take (i+1))=max (Mv (L.take i)) x.1:=by
 unfold Mv
 rw [List.take_add_one,h]
 simp [List.foldl_append]
structure Fs (h b:Nat) (w:World) (t:TypeId) (v:Value) (M:Nat→Prop) (V:World):Prop where
 m:M b
 ms:∀ r,M r→b≤r∧r<V.heap.size
 cell:V.heap[b]?=some (.cells #[v] t)
 below:Below h w V
theorem Fs.abides {h b:Nat} {w:World} {t:TypeId} {v:Value} {M:Nat→Prop} {V V':World} {row:Option Nat} (hi:Fs h b w t v M V) (hb:h≤b) (hg:V.grownBy V' row) (hr:∀ r,row=some r→¬ M r∧¬ r<h):Fs h b w t v M V':=
  ⟨hi.m,fun r h1=>⟨(hi.ms r h1).1,Nat.lt_of_lt_of_le (hi.ms r h1).2 hg.size⟩,(hg.block b (Array.getElem?_eq_some_iff.1 hi.cell).1 (fun e=>(hr b e.symm).1 hi.m)).trans hi.cell,
   hi.below.grown hg (by have:=(Array.getElem?_eq_some_iff.1 hi.cell).1;omega) (fun k e=>by have:=(hr k e).2;omega)⟩
theorem Fs.set {h b:Nat} {w:World} {t:TypeId} {v:Value} {M:Nat→Prop} {V:World} (hi:Fs h b w t v M V) (hb:h≤b) (v':Value):Fs h b w t v' M (V.setCell ⟨b,0,none⟩ v'):=
  ⟨hi.m,fun r h1=>⟨(hi.ms r h1).1,by simpa [World.setCell] using (hi.ms r h1).2⟩,by have h1:=hi.cell;simp [World.setCell,Array.getElem?_modify,h1],
   hi.below.grown (grownBy_setCell' V b v') (by have:=(Array.getElem?_eq_some_iff.1 hi.cell).1;omega) (fun k e=>by cases e;omega)⟩
theorem Nz (w:World) (o1 o2 o3 o4:Obj) (h:Nat) (hh:w.heap.size=h):∃ W2,(((w.alloc o1).alloc o2).alloc o3).alloc o4=W2∧W2.heap.size=h+4∧W2.heap[h]?=some o1∧W2.heap[h+1]?=some o2∧W2.heap[h+1+1]?=some o3∧W2.heap[h+1+1+1]?=some o4∧Below h w W2:=by
 subst hh
 have e1:=World.alloc_heap_new w o1
 have e2:=World.alloc_heap_new (w.alloc o1) o2
 have e3:=World.alloc_heap_new ((w.alloc o1).alloc o2) o3
 have e4:=World.alloc_heap_new (((w.alloc o1).alloc o2).alloc o3) o4
 simp only [World.size_alloc] at e2 e3 e4
 refine ⟨_,rfl,by simp,?_,?_,?_,e4,?_⟩
 ·exact (Below.heap_alloc _ _ _ (by simp<;>omega)).trans ((Below.heap_alloc _ _ _ (by simp<;>omega)).trans ((Below.heap_alloc _ _ _ (by simp)).trans e1))
 ·exact (Below.heap_alloc _ _ _ (by simp<;>omega)).trans ((Below.heap_alloc _ _ _ (by simp)).trans e2)
 ·exact (Below.heap_alloc _ _ _ (by simp)).trans e3
 ·exact ((((Below.refl _ w).alloc (Nat.le_refl _) _).alloc (by simp) _).alloc (by simp;omega) _).alloc (by simp;omega) _
set_option maxRecDepth 100000 in
set_option maxHeartbeats 4000000 in
theorem Qo (d:Nd) (w:World) (hin:d.In w) :
    Calls Tryz.prog 21 #[d.val] w fun e w'=>e=.returned (.int .i64 (Mv (d.preN 18 1)))∧Below w.heap.size w w':=by
  obtain ⟨k,t,ka,kc,ks,da,dc,ds,ln⟩:=d
  obtain ⟨L,hL⟩:∃ L,(Nd.mk k t ka kc ks da dc ds ln).preN 18 1=L:=⟨_,rfl⟩
  rw [hL]
  rw [Nd.val_eq]
  obtain ⟨b0,hh⟩:∃ b0,w.heap.size=b0:=⟨_,rfl⟩
  have HL:=Ab hL
  have hlt:=fun r (hr:(Nd.mk k t ka kc ks da dc ds ln).blk r)=>hin.lt hr
  rw [hh] at hlt
  have HIN:=Ab hin
  have HLT:=Ab hlt
  clear hL hin hlt
  obtain ⟨⟨k0,_⟩,⟨k1,_⟩,⟨k2,_⟩,⟨k3,_⟩,⟨k4,_⟩⟩:=Ad (World.alloc_heap_new w (.cells #[.int .u8 k,.string ⟨t.toArray⟩,.slice ka ks.length kc,.slice da ds.length dc,.int .i64 ln] 26))
  refine (callsIn_wide (n:=40)).1 ?_
  refine callsIn_of_wp_marks Tryz.func21 rfl trivial ?_ rfl
  simp only [Tryz.ntmps21,List.size_toArray,List.length_cons,List.length_nil,Nat.reduceAdd,Nat.reduceSub,Array.replicate_succ,Array.replicate_zero,List.push_toArray,List.append_toArray,List.nil_append,List.cons_append]
  gi_wp2_with (refine ⟨trivial,?_⟩;gi_at_call 42;refine (callsIn_wide.2 (J6 k t ka kc ks da dc ds ln 18 _)).mono ?_;rintro e w' ⟨rfl,rfl⟩)
  obtain ⟨W2,hW2,hs2,g0,g1,g2,g3,hb2⟩:=Nz w (.cells #[.int .u8 k,.string ⟨t.toArray⟩,.slice ka ks.length kc,.slice da ds.length dc,.int .i64 ln] 26) (.cells #[.int .i64 0] 3)
    (.cells #[.int .u8 k,.string ⟨t.toArray⟩,.slice ka ks.length kc,.slice da ds.length dc,.int .i64 ln] 26) (.cells #[.int .i64 18] 3) b0 hh
  rw [hW2]
  clear hW2 k0 k1 k2 k3 k4
  have hinW:(Nd.mk k t ka kc ks da dc ds ln).In W2:=(Aa HIN).below (by rw [hh];exact hb2)
  have hcst:=fun (V:World) (hg:W2.grownBy V none)=>by
    have:=Gk (40 - 1) 18 (b0+1+1+1) (b0+1+1) k t ka kc ks da dc ds ln (fun r=>r<b0) (fun r=>r=b0+1+1+1) V (by omega) ((hg.block _ (by omega) (by simp)).trans g3) ((hg.block _ (by omega) (by simp)).trans g2)
      (hinW.grown hg (fun r e=>by cases e)) (fun r hr=>(Aa HLT) r hr) (fun r hr=>by have:=hg.size;omega) rfl
    rw [Aa HL] at this
    exact this
  refine Hq rfl (by omega) (gf:=80) (lb:=#[.pointer (some ⟨b0+1+1+1,0,none⟩),.pointer (some ⟨b0+1+1,0,none⟩)]) rfl trivial (enters_of Tryz.func80 (by kernel_rfl) rfl)
    (encs:=N9) L (fun r=>r<b0) (fun r=>r=b0+1+1+1) (fun r hr=>by omega)
    (fun V hg _=>hcst V hg) (fun _=>rfl)
    (fun i M V=>Fs b0 (b0+1) w 3 (.int .i64 (Mv (L.take i))) M V) (fun _ _ _ _=>False)
    (fun i M V V' row hi hg hr=>hi.abides (by omega) hg hr) (fun _ _ _ _ _ _ h1 _ _=>h1.elim)
    (fun i M V hi r hr=>⟨(hi.ms r hr).2,by have:=(hi.ms r hr).1;omega⟩)
    (fun r=>r=b0+1) (fun r hr=>by subst hr;exact ⟨by omega,by omega,by omega⟩)
    ⟨rfl,fun r hr=>by subst hr;exact ⟨Nat.le_refl _,by omega⟩,by simpa [Mv] using g1,hb2⟩
    (fun x=>{ tmps:=#[.agg #[.int .u8 k,.string ⟨t.toArray⟩,.slice ka ks.length kc,.slice da ds.length dc,.int .i64 ln],.pointer (some ⟨b0,0,none⟩),.int .i64 0,.pointer (some ⟨b0+1,0,none⟩),.int .i64 x.1,.agg #[.int .u8 k,.string ⟨t.toArray⟩,.slice ka ks.length kc,.slice da ds.length dc,.int .i64 ln],
      .func (.func 80) #[] #[.pointer (some ⟨b0+1+1+1,0,none⟩),.pointer (some ⟨b0+1+1,0,none⟩)],.int .i64 x.1,x.2.val,undef,undef,undef,undef],defers:=[] }) ?assign ?body ?done ?stop
  case assign=>
    intro l x W K hK
    unfold N9
    gi_wp2
    exact hK
  case body=>
    rintro l i ⟨lv,nd⟩ M V hx hi hV
    have hmx:=Re hx
    simp only at hmx
    obtain ⟨c0,f0⟩:=Bp hi.cell
    have hkp:∀ v,Au M V M (V.setCell ⟨b0+1,0,none⟩ v):=fun v=>Au.grown (grownBy_setCell' V (b0+1) v) (fun r e=>by cases e;exact .inl hi.m)
    have HKP:=Ab hkp
    have HI:=Ab hi
    have HMX:=Ab hmx
    clear hi hmx hx hkp
    gi_wp2
    all_goals
      refine ⟨M,Aa HKP _,?_⟩
      have e:=Aa HMX
      first
        | (have e2:Mv (L.take (i+1))=lv:=by omega
           show Fs b0 (b0+1) w 3 (.int .i64 (Mv (L.take (i+1)):Nat)) M _
           rw [e2]
           exact (Aa HI).set (by omega) _)
        | (have e2:Mv (L.take (i+1))=Mv (L.take i):=by omega
           show Fs b0 (b0+1) w 3 (.int .i64 (Mv (L.take (i+1)):Nat)) M _
           rw [e2]
           exact (Aa HI).set (by omega) _)
        | (have e3:((Mv (L.take (i+1)):Nat):Int)=max ((Mv (L.take i):Nat):Int) (lv:Int):=by omega
           show Fs b0 (b0+1) w 3 (.int .i64 ((Mv (L.take (i+1)):Nat):Int)) M _
           rw [e3]
           exact (Aa HI).set (by omega) _)
  case done=>
    rintro D M V rfl hMD hi hK
    rw [List.take_of_length_le (Nat.le_refl _)] at hi
    obtain ⟨c0,f0⟩:=Bp hi.cell
    have HI:=Ab hi
    clear hi
    gi_wp2
    have hI:=Aa HI
    refine ⟨by simp,.inl ⟨_,_,rfl,run_takeDeferred hK,?_⟩⟩
    refine ⟨_,results_tmp rfl _ _ _,rfl,?_⟩
    rw [hh]
    exact hI.below.grown (grownBy_putObj' V W2.heap.size (.deferred none)) (by have:=(Array.getElem?_eq_some_iff.1 hI.cell).1;omega) (fun k e=>by cases e;omega)
  case stop=>
    rintro D c i M V _ _ _ h1 _
    exact h1.elim
end Go.Proofs.YtnjokdbblmlhhaaGreatDoor
namespace Go.Proofs.YtnjokdbblmlhhaaGreatDoor
set_option linter.unusedVariables false
set_option linter.unusedSimpArgs false
open Go.RowKit
attribute [local go_sem] Oper.semAt_some
mutual
def E6:P20.T→Prop
 | .mk k t ks ds l=>t.length≤1000000∧ks.length≤1000000000∧(∀ x∈ks,x.length≤1000000)∧ds.length≤1000000000∧Hn ds
def Hn:List P20.T→Prop
 | []=>True
 | d :: ds=>E6 d∧Hn ds
end
theorem Hf:∀ ds:List P20.T,Hn ds↔∀ d∈ds,E6 d
 | []=>by simp [Hn]
 | d :: ds=>by simp [Hn,Hf ds]
theorem Ck (t:List UInt8):(⟨t.toArray⟩:ByteArray).toList.isEmpty=t.isEmpty:=by rw [Lib.toList_data]
set_option maxRecDepth 100000 in
set_option maxHeartbeats 1600000 in
theorem P7 (k:Nat) (t:List UInt8) (ka:Option Addr) (kc nk:Nat) (da:Option Addr) (dc nd:Nat) (ln:Int) (w:World) (h1:nk≤1000000000) (h2:nd≤1000000000) :
  Calls Tryz.prog 43 #[.agg #[.int .u8 k,.string ⟨t.toArray⟩,.slice ka nk kc,.slice da nd dc,.int .i64 ln]] w fun e w'=>e=.returned (.bool (P20.oddB k t nk nd))∧Below w.heap.size w w':=by
 have hb:Below w.heap.size w (w.alloc (.cells #[.int .u8 k,.string ⟨t.toArray⟩,.slice ka nk kc,.slice da nd dc,.int .i64 ln] 26)):=(Below.refl _ w).alloc (Nat.le_refl _) _
 obtain ⟨⟨c0,_⟩,⟨c1,_⟩,⟨c2,_⟩,⟨c3,_⟩,⟨c4,_⟩⟩:=Ad (World.alloc_heap_new w (.cells #[.int .u8 k,.string ⟨t.toArray⟩,.slice ka nk kc,.slice da nd dc,.int .i64 ln] 26))
 have hw:IntKind.i64.wrap ((nk:Int)+nd)=(nk:Int)+nd:=IntWalk.i64_in _ (by omega)
 unfold P20.oddB
 by_cases k1:k=1
 ·subst k1
  go_enter Tryz.func43,Tryz.ntmps43
  go_wp2
  go_ret
  refine ⟨Bn ?_,hb⟩
  simp
  omega
 ·have j1:((k:Int) == 1)=false:=by rw [beq_eq_false_iff_ne];omega
  rw [if_neg k1]
  by_cases k2:k=2
  ·subst k2
   cases hte:t.isEmpty
   ·have jt:(⟨t.toArray⟩:ByteArray).toList.isEmpty=false:=(Ck t).trans hte
    go_enter Tryz.func43,Tryz.ntmps43
    go_wp2
    go_ret
    exact ⟨Bn (by simp),hb⟩
   ·have jt:(⟨t.toArray⟩:ByteArray).toList.isEmpty=true:=(Ck t).trans hte
    go_enter Tryz.func43,Tryz.ntmps43
    go_wp2
    go_ret
    exact ⟨Bn (by simp),hb⟩
  ·have j2:((k:Int) == 2)=false:=by rw [beq_eq_false_iff_ne];omega
   rw [if_neg k2]
   cases hte:t.isEmpty
   ·have jt:(⟨t.toArray⟩:ByteArray).toList.isEmpty=false:=(Ck t).trans hte
    go_enter Tryz.func43,Tryz.ntmps43
    go_wp2
    go_ret
    exact ⟨Bn (by simp),hb⟩
   ·have jt:(⟨t.toArray⟩:ByteArray).toList.isEmpty=true:=(Ck t).trans hte
    go_enter Tryz.func43,Tryz.ntmps43
    go_wp2
    go_ret
    refine ⟨Bn ?_,hb⟩
    rw [Bool.eq_iff_iff]
    simp
    omega
set_option maxRecDepth 100000 in
set_option maxHeartbeats 1600000 in
theorem N5 (a:Option Addr) (c:Nat) (ks:List (List UInt8)) (w:World) (h:Eu w a ks) (hcc:ks.length≤c) (hl:ks.length≤1000000000) (hx:∀ x∈ks,x.length≤1000000) :
  Calls Tryz.prog 45 #[.slice a ks.length c] w fun e w'=>e=.returned (.int .i64 (P20.keysE [] ks))∧Below w.heap.size w w':=by
 obtain ⟨n,hn⟩:∃ n,ks.length=n:=⟨_,rfl⟩
 rw [hn] at hl hcc ⊢
 have HN:=Ab hn
 have HI:=Ab h
 have HX:=Ab hx
 clear hn h hx
 go_enter Tryz.func45,Tryz.ntmps45
 go_wp2
 go_loopg [8] n (fun g s8 wx=>∃ i:Nat,i+g=n∧s8=.int .i64 i∧Hid (P20.keysE [] ks=P20.keysE (ks.take i) (ks.drop i))∧Hid (Below w.heap.size w wx))
 case atStart=>exact ⟨0,by omega,by go_num,Ab rfl,Ab (Below.refl _ _)⟩
 case round=>
  obtain ⟨i,hig,rfl,HD,HB⟩:=hrel
  cases gk with
  | zero=>
   have e1:(n:Int)=(i:Int):=by omega
   have HE:=Ab (show i=n by omega)
   go_wp2
   go_ret
   refine ⟨De ?_,Aa HB⟩
   rw [Aa HD,List.drop_of_length_le (by rw [Aa HN];have:=Aa HE;omega)]
   rfl
  | succ g'=>
   have hlt:(i:Int)<(n:Int):=by omega
   have hic:(i:Int)≤(c:Int):=by omega
   have hc00:c≠0:=by omega
   have hki:IntKind.i64.wrap ((i:Int)+1)=(i:Int)+1:=IntWalk.i64_in _ (by omega)
   obtain ⟨x,hgx⟩:=V3 (Aa HN) (show i<n by omega)
   have hxl:=Aa HX x (List.mem_of_getElem? hgx)
   have hd:ks.drop i=x :: ks.drop (i+1):=by
    obtain ⟨hl2,rfl⟩:=List.getElem?_eq_some_iff.1 hgx
    exact List.drop_eq_getElem_cons hl2
   have ht:ks.take (i+1)=ks.take i ++ [x]:=by rw [List.take_add_one,hgx];rfl
   have hD:=Aa HD
   rw [hd,P20.keysE] at hD
   obtain ⟨b,o,rfl,hc⟩:=Eu.below (Aa HI) (Aa HB) i x hgx
   have hck:=fun W=>Fa ⟨x.toArray⟩ 64 W (by rw [Lib.size_eq];show x.length≤1100000;omega)
   have hil:(ks.take i).length=i:=by rw [List.length_take,Aa HN];omega
   have hcn:=fun W (hb:Below wr.heap.size wr W)=>Eh (some ⟨b,o,none⟩) c (ks.take i) x W (fun j y hy=>by
    rw [List.getElem?_take] at hy
    split at hy
    ·exact Eu.below (Eu.below (Aa HI) (Aa HB)) hb j y hy
    ·cases hy) (by rw [hil];unfold maxLen;omega)
   rw [hil] at hcn
   simp only [Vv] at hck
   rw [← ht] at hD
   have HT:=Ab hil
   have HCK:=Ab hck
   have HCN:=Ab hcn
   have hbl:=B3 hc
   clear hck hcn hd ht hgx hxl hil HD
   by_cases hc0:P03.check x 64=0
   ·rw [if_neg (by simpa using hc0)] at hD
    have HC0:=Ab hc0
    by_cases hm:x∈ks.take i
    ·rw [if_pos hm] at hD
     have HDD:=Ab hD
     have HM:=Ab hm
     clear hD hm hc0
     go_wp2_with (first
      | (go_at_call 44;refine (Aa HCK _).mono ?_;rintro e w1 ⟨rfl,hb1⟩;rw [Aa HC0])
      | (go_at_call 83;refine (Aa HCN _ hb1).mono ?_;rintro e w2 ⟨rfl,rfl⟩;rw [decide_eq_true (Aa HM)]))
     go_ret
     exact ⟨De (Aa HDD).symm,(Aa HB).trans (hb1.mono (Aa HB).size)⟩
    ·rw [if_neg hm] at hD
     have HDD:=Ab hD
     have HM:=Ab hm
     clear hD hm hc0
     go_wp2_with (first
      | (go_at_call 44;refine (Aa HCK _).mono ?_;rintro e w1 ⟨rfl,hb1⟩;rw [Aa HC0])
      | (go_at_call 83;refine (Aa HCN _ hb1).mono ?_;rintro e w2 ⟨rfl,rfl⟩;rw [decide_eq_false (Aa HM)]))
     go_roundg g'
     case measure=>omega
     case rel=>exact ⟨i+1,by omega,by go_num,HDD,Ab ((Aa HB).trans (hb1.mono (Aa HB).size))⟩
   ·rw [if_pos hc0] at hD
    obtain ⟨e,he⟩:∃ e,P03.check x 64=e:=⟨_,rfl⟩
    rw [he] at hD hc0
    have jne:(e != 0)=true:=by simpa using hc0
    have HE:=Ab he
    have HDD:=Ab hD
    clear hD hc0 he
    go_wp2_with (first
     | (go_at_call 44;refine (Aa HCK _).mono ?_;rintro e' w1 ⟨rfl,hb1⟩;rw [Aa HE]))
    go_ret
    exact ⟨De (Aa HDD).symm,(Aa HB).trans (hb1.mono (Aa HB).size)⟩
mutual
theorem Nd.preN_in {W:World} (most:Nat):∀ (d:Nd) (lv:Nat),d.In W→E6 d.bare→∀ x∈d.preN most lv,x.2.In W∧(∀ r,x.2.blk r→d.blk r)∧E6 x.2.bare
 | .mk k t ka kc ks da dc ds l,lv,h,ho,x,hx=>by
  unfold Nd.preN at hx
  split at hx
  ·simp at hx
  ·rcases List.mem_cons.1 hx with rfl | hx
   ·exact ⟨h,fun r hr=>hr,ho⟩
   ·have hk:=h.kids
    simp only [Nd.da,Nd.kids] at hk
    unfold Nd.bare E6 at ho
    obtain ⟨a,b,c⟩:=Lq most ds (lv+1) da 0 hk ho.2.2.2.2 x hx
    exact ⟨a,fun r hr=>by rw [Es];exact .inr (.inr (b r hr)),c⟩
theorem Lq {W:World} (most:Nat):∀ (ds:List Nd) (lv:Nat) (a:Option Addr) (i:Nat),InL W a i ds→Hn (Am ds)→∀ x∈Cn most lv ds,x.2.In W∧(∀ r,x.2.blk r→blkL r ds)∧E6 x.2.bare
 | [],lv,a,i,h,ho,x,hx=>by simp [Cn] at hx
 | d :: ds,lv,a,i,h,ho,x,hx=>by
  unfold Cn at hx
  simp only [InL] at h
  unfold Am Hn at ho
  rcases List.mem_append.1 hx with hx | hx
  ·obtain ⟨p,q,r⟩:=Nd.preN_in most d lv h.2.1 ho.1 x hx
   exact ⟨p,fun g hg=>.inl (q g hg),r⟩
  ·obtain ⟨p,q,r⟩:=Lq most ds lv a (i+1) h.2.2 ho.2 x hx
   exact ⟨p,fun g hg=>.inr (q g hg),r⟩
end
theorem L4 {L:List (Nat × P20.T)} {i:Nat} {x:Nat × P20.T} (h:P20.firstE (L.take i)=0) (hx:L[i]?=some x) (hn:P20.nodeE x.1 x.2≠0):P20.firstE L=P20.nodeE x.1 x.2:=by
 obtain ⟨hl,he⟩:=List.getElem?_eq_some_iff.1 hx
 have e:L=L.take i ++ x :: L.drop (i+1):=by
  have h2:=List.take_append_drop i L
  rw [List.drop_eq_getElem_cons hl,he] at h2
  exact h2.symm
 rw [e,P20.firstE_append,if_neg (by simpa using h)]
 simp only [P20.firstE]
 rw [if_pos hn]
theorem Py {L:List (Nat × P20.T)} {i:Nat} {x:Nat × P20.T} (h:P20.firstE (L.take i)=0) (hx:L[i]?=some x) (hn:P20.nodeE x.1 x.2=0):P20.firstE (L.take (i+1))=0:=by
 rw [List.take_add_one,hx,P20.firstE_append,if_neg (by simpa using h)]
 simp [P20.firstE,hn]
theorem Gj {P:Program} (w:World) (a:Addr) (ty:TypeId) (v:Value) (d:TypeDesc) (hu:P.underlying ty=some d) (hd:(match d with | .struct _ | .array _ _=>true | _=>false)=false) (hc:w.cell? a=some v) :
  (loadVar ty a).run P w=.ok v w:=by
 have hagg:(isAgg ty).run P w=.ok false w:=by
  unfold isAgg
  rw [Sem.run_bind,run_underlying hu w]
  cases d<;>simp_all
 simp [loadVar,Sem.run_bind,hagg,hc,go_sem]
theorem Av {fn:Func} {p:Tmp} {t:TypeId} (h:fn.results=#[.cell p t]) (tmps:Array Value) (P:Program) (w:World) (g:Nat) (v:Value)
  (hp:tmps.getD p undef=.pointer (some ⟨g,0,none⟩)) (hl:(loadVar t ⟨g,0,none⟩).run P w=.ok v w):(results fn tmps).run P w=.ok v w:=by
 have hp':tmps[p]?.getD undef=.pointer (some ⟨g,0,none⟩):=by simpa using hp
 simp [results,h,hp',asAddr,Sem.run_bind,Result.andThen,hl]
set_option maxRecDepth 100000 in
set_option maxHeartbeats 8000000 in
theorem Lv (d:Nd) (w:World) (hin:d.In w) (hok:E6 d.bare) :
  Calls Tryz.prog 16 #[d.val] w fun e w'=>e=.returned (.int .i64 (d.bare.check 1))∧Below w.heap.size w w':=by
 obtain ⟨k,t,ka,kc,ks,da,dc,ds,ln⟩:=d
 obtain ⟨L,hL⟩:∃ L,(Nd.mk k t ka kc ks da dc ds ln).preN 17 1=L:=⟨_,rfl⟩
 have hspec:(Nd.mk k t ka kc ks da dc ds ln).bare.check 1=P20.firstE (L.map Fq):=by rw [← P20.T.check_pre _ 1 (by omega),← Nd.preN_bare,hL]
 have hpre:=Nd.preN_in 17 _ 1 hin hok
 rw [hL] at hpre
 rw [hspec,Nd.val_eq]
 obtain ⟨b0,hh⟩:∃ b0,w.heap.size=b0:=⟨_,rfl⟩
 have HL:=Ab hL
 have hlt:=fun r (hr:(Nd.mk k t ka kc ks da dc ds ln).blk r)=>hin.lt hr
 rw [hh] at hlt
 have HIN:=Ab hin
 have HLT:=Ab hlt
 have HPRE:=Ab hpre
 clear hL hin hlt hspec hpre hok
 obtain ⟨⟨k0,_⟩,⟨k1,_⟩,⟨k2,_⟩,⟨k3,_⟩,⟨k4,_⟩⟩:=Ad (World.alloc_heap_new w (.cells #[.int .u8 k,.string ⟨t.toArray⟩,.slice ka ks.length kc,.slice da ds.length dc,.int .i64 ln] 26))
 refine (callsIn_wide (n:=40)).1 ?_
 refine callsIn_of_wp_marks Tryz.func16 rfl trivial ?_ rfl
 simp only [Tryz.ntmps16,List.size_toArray,List.length_cons,List.length_nil,Nat.reduceAdd,Nat.reduceSub,Array.replicate_succ,Array.replicate_zero,List.push_toArray,List.append_toArray,List.nil_append,List.cons_append]
 gi_wp2_with (refine ⟨trivial,?_⟩;gi_at_call 42;refine (callsIn_wide.2 (J6 k t ka kc ks da dc ds ln 17 _)).mono ?_;rintro e w' ⟨rfl,rfl⟩)
 obtain ⟨W2,hW2,hs2,g0,g1,g2,g3,hb2⟩:=Nz w (.cells #[.int .u8 k,.string ⟨t.toArray⟩,.slice ka ks.length kc,.slice da ds.length dc,.int .i64 ln] 26) (.cells #[.int .i64 0] 27)
  (.cells #[.int .u8 k,.string ⟨t.toArray⟩,.slice ka ks.length kc,.slice da ds.length dc,.int .i64 ln] 26) (.cells #[.int .i64 17] 3) b0 hh
 rw [hW2]
 clear hW2 k0 k1 k2 k3 k4
 have hinW:(Nd.mk k t ka kc ks da dc ds ln).In W2:=(Aa HIN).below (by rw [hh];exact hb2)
 have hcst:=fun (V:World) (hg:W2.grownBy V none)=>by
  have:=Gk (40 - 1) 17 (b0+1+1+1) (b0+1+1) k t ka kc ks da dc ds ln (fun r=>r<b0) (fun r=>r=b0+1+1+1) V (by omega) ((hg.block _ (by omega) (by simp)).trans g3) ((hg.block _ (by omega) (by simp)).trans g2)
   (hinW.grown hg (fun r e=>by cases e)) (fun r hr=>(Aa HLT) r hr) (fun r hr=>by have:=hg.size;omega) rfl
  rw [Aa HL] at this
  exact this
 refine Dp rfl (by omega) (gf:=80) (lb:=#[.pointer (some ⟨b0+1+1+1,0,none⟩),.pointer (some ⟨b0+1+1,0,none⟩)]) rfl trivial (enters_of Tryz.func80 (by kernel_rfl) rfl)
  (encs:=N9) L (fun r=>r<b0) (fun r=>r=b0+1+1+1) (fun r hr=>by omega)
  (fun V hg _=>hcst V hg) (fun _=>rfl)
  (fun i M V=>Fs b0 (b0+1) w 27 (.int .i64 0) M V∧P20.firstE ((L.map Fq).take i)=0)
  (fun c i M V=>c=.ret∧Fs b0 (b0+1) w 27 (.int .i64 (P20.firstE (L.map Fq))) M V)
  (fun i M V V' row hi hg hr=>⟨hi.1.abides (by omega) hg hr,hi.2⟩) (fun c i M V V' row hi hg hr=>⟨hi.1,hi.2.abides (by omega) hg hr⟩)
  (fun i M V hi r hr=>⟨(hi.1.ms r hr).2,by have:=(hi.1.ms r hr).1;omega⟩)
  (fun r=>r=b0+1) (fun r hr=>by subst hr;exact ⟨by omega,by omega,by omega⟩)
  ⟨⟨rfl,fun r hr=>by subst hr;exact ⟨Nat.le_refl _,by omega⟩,g1,hb2⟩,rfl⟩
  (fun i x M a' V=>Fs b0 (b0+1) w 27 (.int .i64 0) M V∧P20.firstE ((L.map Fq).take i)=0∧∃ g,M g∧b0+4≤g∧V.heap[g]?=some (.cells #[.int .u8 x.2.kind,.string ⟨x.2.text.toArray⟩,x.2.kV,x.2.dV,.int .i64 x.2.line] 26) ∧
   a'={ tmps:=#[.agg #[.int .u8 k,.string ⟨t.toArray⟩,.slice ka ks.length kc,.slice da ds.length dc,.int .i64 ln],.pointer (some ⟨b0,0,none⟩),.pointer (some ⟨b0+1,0,none⟩),.int .i64 x.1,.pointer (some ⟨g,0,none⟩),undef,undef,.agg #[.int .u8 k,.string ⟨t.toArray⟩,.slice ka ks.length kc,.slice da ds.length dc,.int .i64 ln],
    .func (.func 80) #[] #[.pointer (some ⟨b0+1+1+1,0,none⟩),.pointer (some ⟨b0+1+1,0,none⟩)],.int .i64 x.1,x.2.val,undef,undef,undef,undef,undef,undef,undef,undef,undef,undef,undef,undef,undef,undef,undef,undef,undef,undef,undef,undef,undef,undef,undef,undef,undef,undef,undef],defers:=[] })
  ?hB ?assign ?body ?done ?stop
 case hB=>
  rintro i x M a' V V' row ⟨hi,h0,g,hMg,hg4,hgc,rfl⟩ hg hr
  exact ⟨hi.abides (by omega) hg hr,h0,g,hMg,hg4,(hg.block g (Array.getElem?_eq_some_iff.1 hgc).1 (fun e=>(hr g e.symm).1 hMg)).trans hgc,rfl⟩
 case assign=>
  rintro l2 i ⟨lv,nd⟩ M V K hx ⟨hi,h0⟩ hV hK
  obtain ⟨k',t',ka',kc',ks',da',dc',ds',ln'⟩:=nd
  unfold N9
  simp only [Nd.val_eq]
  have hgr:=World.grownBy_alloc V (.cells #[.int .u8 k',.string ⟨t'.toArray⟩,.slice ka' ks'.length kc',.slice da' ds'.length dc',.int .i64 ln'] 26) none
  have hKK:=hK (fun r=>M r∨r=V.heap.size) _ (V.alloc (.cells #[.int .u8 k',.string ⟨t'.toArray⟩,.slice ka' ks'.length kc',.slice da' ds'.length dc',.int .i64 ln'] 26)) hgr (fun r hr=>hr.imp id (fun e=>by omega))
   ⟨⟨.inl hi.m,fun r hr=>by
     rcases hr with hr | rfl
     ·have:=hi.ms r hr;simp;omega
     ·have:=(Array.getElem?_eq_some_iff.1 hi.cell).1;simp;omega,(hgr.block _ (Array.getElem?_eq_some_iff.1 hi.cell).1 (by simp)).trans hi.cell,hi.below.grown hgr (by have:=(Array.getElem?_eq_some_iff.1 hi.cell).1;omega) (fun k e=>by cases e)⟩,h0,
    V.heap.size,.inr rfl,by omega,World.alloc_heap_new V _,rfl⟩
  have HK:=Ab hKK
  clear hKK hK hgr
  gi_wp2
  exact Aa HK
 case body=>
  rintro l2 i ⟨lv,nd⟩ M a' V hx ⟨hi,h0,g,hMg,hg4,hgc,rfl⟩ hV
  obtain ⟨hndIn,hndb,hndo⟩:=Aa HPRE _ (List.mem_of_getElem? hx)
  obtain ⟨k',t',ka',kc',ks',da',dc',ds',ln'⟩:=nd
  simp only [Nd.kind,Nd.text,Nd.kV,Nd.dV,Nd.keys,Nd.kids,Nd.ka,Nd.kc,Nd.da,Nd.dc,Nd.line] at hgc
  simp only [Nd.val_eq]
  obtain ⟨⟨c0,_⟩,⟨c1,_⟩,⟨c2,_⟩,⟨c3,_⟩,⟨c4,_⟩⟩:=Ad hgc
  obtain ⟨e0,f0⟩:=Bp hi.cell
  have hbx:(L.map Fq)[i]?=some (lv,(Nd.mk k' t' ka' kc' ks' da' dc' ds' ln').bare):=by rw [List.getElem?_map,hx];rfl
  have hInV:(Nd.mk k' t' ka' kc' ks' da' dc' ds' ln').In V:=hndIn.keep (fun r hr=>hi.below.block r (Aa HLT r (hndb r hr)))
  have hkeep:∀ V',Below V.heap.size V V'→Fs b0 (b0+1) w 27 (.int .i64 0) M V'∧Au M V M V':=fun V' hb=>
   ⟨hi.abides (by omega) (Aj hb none) (fun r e=>by cases e),.grown (Aj hb none) (fun r e=>by cases e)⟩
  have hstop:∀ (A:Act) V' e,e=P20.nodeE lv (Nd.mk k' t' ka' kc' ks' da' dc' ds' ln').bare→e≠0→Below V.heap.size V V'→Po (fun i M V=>Fs b0 (b0+1) w 27 (.int .i64 0) M V∧P20.firstE ((L.map Fq).take i)=0)
    (fun c i M V=>c=.ret∧Fs b0 (b0+1) w 27 (.int .i64 (P20.firstE (L.map Fq))) M V) i M V .ret A (V'.setCell ⟨b0+1,0,none⟩ (.int .i64 e)):=fun A V' e he hn hb=>by
   obtain ⟨h1,h2⟩:=hkeep V' hb
   refine ⟨M,h2.trans (.grown (grownBy_setCell' V' (b0+1) _) (fun r e=>by cases e;exact .inl h1.m)),rfl,?_⟩
   rw [L4 h0 hbx (by rw [← he];exact hn),← he]
   exact h1.set (by omega) _
  have hon:P20.nodeE lv (Nd.mk k' t' ka' kc' ks' da' dc' ds' ln').bare=0→∀ (A:Act) V',Below V.heap.size V V'→Po (fun i M V=>Fs b0 (b0+1) w 27 (.int .i64 0) M V∧P20.firstE ((L.map Fq).take i)=0)
    (fun c i M V=>c=.ret∧Fs b0 (b0+1) w 27 (.int .i64 (P20.firstE (L.map Fq))) M V) i M V .normal A V':=fun he A V' hb=>by
   obtain ⟨h1,h2⟩:=hkeep V' hb
   exact ⟨M,h2,h1,Py h0 hbx he⟩
  have hnode:P20.nodeE lv (Nd.mk k' t' ka' kc' ks' da' dc' ds' ln').bare=if 16<lv then 11 else if k'<1∨3<k' then 7 else if P20.oddB k' t' ks'.length ds'.length=true then 3 else if P03.check t' 4096≠0 then P03.check t' 4096 else P20.keysE [] ks':=by
   simp only [Nd.bare,P20.nodeE,Bs]
  rw [hnode] at hstop hon
  unfold Nd.bare E6 at hndo
  obtain ⟨o1,o2,o3,o4,_⟩:=hndo
  rw [Bs] at o4
  have hfit:=hInV.fit
  have hkeys:=hfit.keys
  have hkc:=hfit.keysC
  simp only [Nd.keys,Nd.ka,Nd.kc] at hkeys hkc
  have hod:=fun V=>P7 k' t' ka' kc' ks'.length da' dc' ds'.length ln' V o2 o4
  have hcx:=fun V=>Fa ⟨t'.toArray⟩ 4096 V (by rw [Lib.size_eq];show t'.length≤1100000;omega)
  simp only [Vv] at hcx
  have hky:=fun V' (hb:Below V.heap.size V V')=>N5 ka' kc' ks' V' (hkeys.below hb) hkc o2 o3
  have hgl:=(Array.getElem?_eq_some_iff.1 hgc).1
  have hke:=fun V' (hb:Below V.heap.size V V')=>(hkeep V' hb).1.cell
  have HS:=Ab hstop
  have HON:=Ab hon
  have HOD:=Ab hod
  have HCX:=Ab hcx
  have HKY:=Ab hky
  have HGC:=Ab hgc
  have HKE:=Ab hke
  clear hstop hon hod hcx hky hgc hke hkeep hnode hfit hkeys hkc hInV hbx hndIn hndb h0 hi hx o1 o2 o3 o4
  by_cases n1:16<lv
  ·have j1:(16:Int)<(lv:Int):=by omega
   have hn:16<lv:=n1
   clear n1
   gi_wp2
   exact Aa HS _ V 11 (by rw [if_pos hn]) (by decide) (Below.refl _ _)
  have j1:(lv:Int)≤16:=by omega
  have HN1:=Ab n1
  clear n1
  by_cases n2:k'<1∨3<k'
  ·have HN2:=Ab n2
   rcases n2 with n2 | n2
   ·have j2:(k':Int)<1:=by omega
    clear n2
    gi_wp2
    exact Aa HS _ V 7 (by rw [if_neg (Aa HN1),if_pos (Aa HN2)]) (by decide) (Below.refl _ _)
   ·have j2:(1:Int)≤(k':Int):=by omega
    have j3:(3:Int)<(k':Int):=by omega
    clear n2
    gi_wp2
    exact Aa HS _ V 7 (by rw [if_neg (Aa HN1),if_pos (Aa HN2)]) (by decide) (Below.refl _ _)
  have j2:(1:Int)≤(k':Int):=by omega
  have j3:(k':Int)≤3:=by omega
  have HN2:=Ab n2
  clear n2
  obtain ⟨bo,hbo⟩:∃ bo,P20.oddB k' t' ks'.length ds'.length=bo:=⟨_,rfl⟩
  have HO:=Ab hbo
  clear hbo
  cases bo
  rotate_left
  ·gi_wp2_with (first
    | (refine ⟨trivial,?_⟩;gi_at_call 43;refine (CallsIn.inRound l2 (callsIn_wide.2 (Aa HOD _))).mono ?_;rintro e w1 ⟨rfl,hb1⟩;rw [Aa HO];obtain ⟨⟨q0,_⟩,⟨q1,_⟩,⟨q2,_⟩,⟨q3,_⟩,⟨q4,_⟩⟩:=Ad ((hb1.block g hgl).trans (Aa HGC));obtain ⟨p0,p1⟩:=Bp (Aa HKE _ hb1)))
   exact Aa HS _ w1 3 (by rw [if_neg (Aa HN1),if_neg (Aa HN2),if_pos (Aa HO)]) (by decide) hb1
  have HO2:=Ab (nb (Aa HO))
  obtain ⟨ec,hec⟩:∃ ec,P03.check t' 4096=ec:=⟨_,rfl⟩
  by_cases n4:ec=0
  rotate_left
  ·have j4:(ec != 0)=true:=by simpa using n4
   have HC:=Ab hec
   have HN4:=Ab n4
   clear hec n4
   gi_wp2_with (first
    | (refine ⟨trivial,?_⟩;gi_at_call 43;refine (CallsIn.inRound l2 (callsIn_wide.2 (Aa HOD _))).mono ?_;rintro e w1 ⟨rfl,hb1⟩;rw [Aa HO];obtain ⟨⟨q0,_⟩,⟨q1,_⟩,⟨q2,_⟩,⟨q3,_⟩,⟨q4,_⟩⟩:=Ad ((hb1.block g hgl).trans (Aa HGC));obtain ⟨p0,p1⟩:=Bp (Aa HKE _ hb1))
    | (refine ⟨trivial,?_⟩;gi_at_call 44;refine (CallsIn.inRound l2 (callsIn_wide.2 (Aa HCX _))).mono ?_;rintro e w2 ⟨rfl,hb2⟩;rw [Aa HC];have hb12:=hb1.trans (hb2.mono hb1.size);obtain ⟨⟨q0,_⟩,⟨q1,_⟩,⟨q2,_⟩,⟨q3,_⟩,⟨q4,_⟩⟩:=Ad ((hb12.block g hgl).trans (Aa HGC));obtain ⟨p0,p1⟩:=Bp (Aa HKE _ hb12)))
   exact Aa HS _ w2 ec (by rw [if_neg (Aa HN1),if_neg (Aa HN2),if_neg (Aa HO2),if_pos (by rw [Aa HC];exact Aa HN4),Aa HC]) (Aa HN4) hb12
  subst n4
  have HC:=Ab hec
  clear hec
  have HC2:=Ab (show ¬ P03.check t' 4096≠0 by rw [Aa HC];simp)
  obtain ⟨ek,hek⟩:∃ ek,P20.keysE [] ks'=ek:=⟨_,rfl⟩
  by_cases n5:ek=0
  rotate_left
  ·have j5:(ek != 0)=true:=by simpa using n5
   have HK:=Ab hek
   have HN5:=Ab n5
   clear hek n5
   gi_wp2_with (first
    | (refine ⟨trivial,?_⟩;gi_at_call 43;refine (CallsIn.inRound l2 (callsIn_wide.2 (Aa HOD _))).mono ?_;rintro e w1 ⟨rfl,hb1⟩;rw [Aa HO];obtain ⟨⟨q0,_⟩,⟨q1,_⟩,⟨q2,_⟩,⟨q3,_⟩,⟨q4,_⟩⟩:=Ad ((hb1.block g hgl).trans (Aa HGC));obtain ⟨p0,p1⟩:=Bp (Aa HKE _ hb1))
    | (refine ⟨trivial,?_⟩;gi_at_call 44;refine (CallsIn.inRound l2 (callsIn_wide.2 (Aa HCX _))).mono ?_;rintro e w2 ⟨rfl,hb2⟩;rw [Aa HC];have hb12:=hb1.trans (hb2.mono hb1.size);obtain ⟨⟨q0,_⟩,⟨q1,_⟩,⟨q2,_⟩,⟨q3,_⟩,⟨q4,_⟩⟩:=Ad ((hb12.block g hgl).trans (Aa HGC));obtain ⟨p0,p1⟩:=Bp (Aa HKE _ hb12))
    | (refine ⟨trivial,?_⟩;gi_at_call 45;refine (CallsIn.inRound l2 (callsIn_wide.2 (Aa HKY _ hb12))).mono ?_;rintro e w3 ⟨rfl,hb3⟩;rw [Aa HK];have hb13:=hb12.trans (hb3.mono hb12.size);obtain ⟨p0,p1⟩:=Bp (Aa HKE _ hb13)))
   exact Aa HS _ w3 ek (by rw [if_neg (Aa HN1),if_neg (Aa HN2),if_neg (Aa HO2),if_neg (Aa HC2),Aa HK]) (Aa HN5) hb13
  subst n5
  have HK:=Ab hek
  clear hek
  gi_wp2_with (first
   | (refine ⟨trivial,?_⟩;gi_at_call 43;refine (CallsIn.inRound l2 (callsIn_wide.2 (Aa HOD _))).mono ?_;rintro e w1 ⟨rfl,hb1⟩;rw [Aa HO];obtain ⟨⟨q0,_⟩,⟨q1,_⟩,⟨q2,_⟩,⟨q3,_⟩,⟨q4,_⟩⟩:=Ad ((hb1.block g hgl).trans (Aa HGC));obtain ⟨p0,p1⟩:=Bp (Aa HKE _ hb1))
   | (refine ⟨trivial,?_⟩;gi_at_call 44;refine (CallsIn.inRound l2 (callsIn_wide.2 (Aa HCX _))).mono ?_;rintro e w2 ⟨rfl,hb2⟩;rw [Aa HC];have hb12:=hb1.trans (hb2.mono hb1.size);obtain ⟨⟨q0,_⟩,⟨q1,_⟩,⟨q2,_⟩,⟨q3,_⟩,⟨q4,_⟩⟩:=Ad ((hb12.block g hgl).trans (Aa HGC));obtain ⟨p0,p1⟩:=Bp (Aa HKE _ hb12))
   | (refine ⟨trivial,?_⟩;gi_at_call 45;refine (CallsIn.inRound l2 (callsIn_wide.2 (Aa HKY _ hb12))).mono ?_;rintro e w3 ⟨rfl,hb3⟩;rw [Aa HK];have hb13:=hb12.trans (hb3.mono hb12.size);obtain ⟨p0,p1⟩:=Bp (Aa HKE _ hb13)))
  exact Aa HON (by rw [if_neg (Aa HN1),if_neg (Aa HN2),if_neg (Aa HO2),if_neg (Aa HC2),Aa HK]) _ w3 hb13
 case done=>
  rintro D M V rfl hMD ⟨hi,h0⟩ hK
  have hz:P20.firstE (L.map Fq)=0:=by rw [← h0,List.take_of_length_le (by simp)]
  have HZ:=Ab hz
  obtain ⟨c0,f0⟩:=Bp hi.cell
  have HI:=Ab hi
  clear hi hz h0
  gi_wp2
  have hI:=(Aa HI).set (by omega) (.int .i64 0)
  have hK2:(V.setCell ⟨b0+1,0,none⟩ (.int .i64 0)).heap[W2.heap.size]?=some (.deferred (some [])):=(Below.heap_setCell _ _ _ _ (by show W2.heap.size≠b0+1;omega)).trans hK
  refine ⟨by simp,.inl ⟨_,_,rfl,run_takeDeferred hK2,?_⟩⟩
  have hcell:=(World.putObj_heap_other (o:=.deferred none) (show b0+1≠W2.heap.size by omega)).trans hI.cell
  refine ⟨_,Av rfl _ _ _ (b0+1) _ rfl (Gj _ _ _ _ _ Tryz.underlying27 rfl (Bp hcell).1),by rw [Aa HZ],?_⟩
  rw [hh]
  exact hI.below.grown (grownBy_putObj' _ W2.heap.size (.deferred none)) (by have:=(Array.getElem?_eq_some_iff.1 hI.cell).1;omega) (fun k e=>by cases e;omega)
 case stop=>
  rintro D c i M V rfl hMD hi ⟨rfl,hI⟩ hK
  gi_wp2
  refine ⟨by simp,.inl ⟨_,_,rfl,run_takeDeferred hK,?_⟩⟩
  have hcell:=(World.putObj_heap_other (o:=.deferred none) (show b0+1≠W2.heap.size by omega)).trans hI.cell
  refine ⟨_,Av rfl _ _ _ (b0+1) _ rfl (Gj _ _ _ _ _ Tryz.underlying27 rfl (Bp hcell).1),rfl,?_⟩
  rw [hh]
  exact hI.below.grown (grownBy_putObj' _ W2.heap.size (.deferred none)) (by have:=(Array.getElem?_eq_some_iff.1 hI.cell).1;omega) (fun k e=>by cases e;omega)
end Go.Proofs.YtnjokdbblmlhhaaGreatDoor
namespace Go.Proofs.YtnjokdbblmlhhaaGreatDoor
set_option linter.unusedVariables false
set_option linter.unusedSimpArgs false
open Go.RowKit Go.Deep Go.ChangeShapes
end Go.Proofs.YtnjokdbblmlhhaaGreatDoor
namespace Go.Proofs.YtnjokdbblmlhhaaGreatDoor
set_option linter.unusedVariables false
set_option linter.unusedSimpArgs false
open Go.RowKit
end Go.Proofs.YtnjokdbblmlhhaaGreatDoor
