/- Lemmas of this claim. -/
import Derived.Test.YtnjokdbblmlhhaaGreatDoorPlain22Z
import Derived.Test.YtnjokdbblmlhhaaGreatDoorGN20Z
import Derived.Test.YtnjokdbblmlhhaaGreatDoorGW20Z
import Derived.Test.YtnjokdbblmlhhaaGreatDoorGR17Z
import Derived.Test.YtnjokdbblmlhhaaGreatDoorGW18Z
import Derived.Test.YtnjokdbblmlhhaaGreatDoorGR18Z
import Derived.Laws.Concat
import Derived.Deep.CutRange
import Derived.Deep.CutBlock
import Derived.Deep.RegionWith
import Derived.Shelf.RegionOpenPlain
import Derived.RangeFuncRecord
import Derived.Test.YtnjokdbblmlhhaaGreatDoorGP20Z
import Derived.Test.YtnjokdbblmlhhaaGreatDoorGR20Z
import Derived.Test.YtnjokdbblmlhhaaGreatDoorGL20Z
namespace Go.Proofs.YtnjokdbblmlhhaaGreatDoor
set_option linter.unusedVariables false
set_option linter.unusedSimpArgs false
open Go.RowKit
abbrev fV (e l:Int):Value:=.agg #[.int .i64 e,.int .i64 l]
theorem Ai {W:World} {g:Nat} {a b:Value} (h:W.heap[g]?=some (.cells #[a,b] 29)):(loadVar 29 ⟨g,0,none⟩).run Tryz.prog W=.ok (.agg #[a,b]) W:=run_loadVar_row _ _ _ _ _ _ _ h Tryz.underlying29 rfl (by kernel_rfl)
theorem A0 (w:World) (o1 o2:Obj) (H:Nat) (hH:w.heap.size=H):∃ W,(w.alloc o1).alloc o2=W∧Below H w W∧W.heap[H]?=some o1∧W.heap[H+1]?=some o2∧W.heap.size=H+1+1:=by
 subst hH
 exact Pc w o1 o2
theorem Ax {B g:Nat} {w W:World} (h:Below B w W) (hg:B≤g) (v0 v1:Value):Below B w ((W.setCell ⟨g,0,none⟩ v0).setCell ⟨g,1,none⟩ v1):=
 (h.setCell (p:=⟨g,0,none⟩) hg _).setCell (p:=⟨g,1,none⟩) hg _
set_option maxRecDepth 100000 in
set_option maxHeartbeats 4000000 in
theorem Fu (k:Nat) (t:List UInt8) (ka:Option Addr) (kc:Nat) (ks:List (List UInt8)) (da:Option Addr) (dc:Nat) (ds:List Nd) (l:Int) (e:Int) (w:World) :
  Calls Tryz.prog 91 #[.agg #[.int .u8 k,.string ⟨t.toArray⟩,.slice ka ks.length kc,.slice da ds.length dc,.int .i64 l],.int .i64 e] w fun x w'=>x=.returned (if e=0 then fV 0 0 else fV e l)∧Below w.heap.size w w':=by
 obtain ⟨H,hH⟩:∃ H,w.heap.size=H:=⟨_,rfl⟩
 obtain ⟨W0,hW0,hb0,g0,g1,hs0⟩:=A0 w (.cells #[.int .u8 k,.string ⟨t.toArray⟩,.slice ka ks.length kc,.slice da ds.length dc,.int .i64 l] 26) (.cells #[.int .i64 0,.int .i64 0] 29) H hH
 have x0:=Ad g0
 have y0:=Af g1
 have HW0:=Ab hW0
 have HB0:=Ab hb0
 have HG1:=Ab g1
 clear hW0 hb0 g0 g1
 by_cases he:e=0
 ·subst he
  rw [if_pos rfl]
  go_enter Tryz.func91,Tryz.ntmps91
  go_upto_region 1 with fail
  try rw [hH]
  rw [Aa HW0]
  go_wp2
  exact bodyPost_ret (Av rfl _ _ _ (H+1) _ rfl (Ai (A3 (Aa HG1) _ _))) rfl ⟨rfl,by rw [hH];exact Ax (Aa HB0) (by omega) _ _⟩
 ·rw [if_neg he]
  have je:(e == 0)=false:=by rw [beq_eq_false_iff_ne];exact he
  clear he
  go_enter Tryz.func91,Tryz.ntmps91
  go_upto_region 1 with fail
  try rw [hH]
  rw [Aa HW0]
  go_wp2
  exact bodyPost_ret (Av rfl _ _ _ (H+1) _ rfl (Ai (A3 (Aa HG1) _ _))) rfl ⟨rfl,by rw [hH];exact Ax (Aa HB0) (by omega) _ _⟩
theorem Ct (k:Nat) (t:List UInt8) (ka:Option Addr) (kc:Nat) (ks:List (List UInt8)) (da:Option Addr) (dc:Nat) (ds:List Nd) (l:Int) (e:Int):∃ e' l',(∀ w:World,Calls Tryz.prog 91 #[.agg #[.int .u8 k,.string ⟨t.toArray⟩,.slice ka ks.length kc,.slice da ds.length dc,.int .i64 l],.int .i64 e] w fun x w'=>x=.returned (fV e' l')∧Below w.heap.size w w')∧((e=0∧e'=0∧l'=0)∨(e≠0∧e'=e∧l'=l)):=by
 have h:=Fu k t ka kc ks da dc ds l e
 by_cases he:e=0
 ·rw [if_pos he] at h
  exact ⟨0,0,h,.inl ⟨he,rfl,rfl⟩⟩
 ·rw [if_neg he] at h
  exact ⟨e,l,h,.inr ⟨he,rfl,rfl⟩⟩
def Vq (w:World) (tb:Nat) (T:TypeId) (old:Array Value→Prop) (x:Except P22.F (Array Value)) (e:Ending) (w':World):Prop:=
 w.grownBy w' (some tb)∧match x with
 | .ok cs=>e=.returned (fV 0 0)∧w'.heap[tb]?=some (.cells cs T)
 | .error f=>e=.returned (fV f.1 f.2)∧∃ cs,old cs∧w'.heap[tb]?=some (.cells cs T)
def Fv (l:List UInt8):Array Value:=#[.string ⟨l.toArray⟩]
def Gy (n:Int):Array Value:=#[.int .i64 n]
theorem B4 {w W:World} {r:Option Nat} (h:w.grownBy W r) {g:Nat} (hg:w.heap.size≤g) (v0 v1:Value):w.grownBy ((W.setCell ⟨g,0,none⟩ v0).setCell ⟨g,1,none⟩ v1) r:=
 ⟨h.os,h.tape,h.output,by simpa using h.size,fun i hi hne=>(Ar (by omega) _ _).trans (h.block i hi hne)⟩
theorem Gb {W:World} {g:Nat} {T:TypeId} {a:Value} (h:W.heap[g]?=some (.cells #[a] T)) (v:Value):(W.setCell ⟨g,0,none⟩ v).heap[g]?=some (.cells #[v] T):=by
 simp [World.setCell,Array.getElem?_modify,h]
theorem Aq {W:World} {g:Nat} {T:TypeId} {a:Value} (h:W.heap[g]?=some (.cells #[a] T)):W.cell? ⟨g,0,none⟩=some a∧W.frozen? ⟨g,0,none⟩=false:=by
 simp [World.cell?,World.frozen?,h]
theorem Gc {w W:World} {tb:Nat} (h:w.grownBy W (some tb)) (v:Value):w.grownBy (W.setCell ⟨tb,0,none⟩ v) (some tb):=
 ⟨h.os,h.tape,h.output,by simpa using h.size,fun i hi hne=>(Below.heap_setCell _ _ _ _ (by show i≠tb;rintro rfl;exact hne rfl)).trans (h.block i hi hne)⟩
theorem Vd {W:World} {g g':Nat} {a b c d e a':Value} (h:(W.cell? ⟨g,0,none⟩=some a∧W.frozen? ⟨g,0,none⟩=false)∧(W.cell? ⟨g,1,none⟩=some b∧W.frozen? ⟨g,1,none⟩=false)∧(W.cell? ⟨g,2,none⟩=some c∧W.frozen? ⟨g,2,none⟩=false)∧(W.cell? ⟨g,3,none⟩=some d∧W.frozen? ⟨g,3,none⟩=false)∧(W.cell? ⟨g,4,none⟩=some e∧W.frozen? ⟨g,4,none⟩=false))
  (h':W.cell? ⟨g',0,none⟩=some a'∧W.frozen? ⟨g',0,none⟩=false) :
  W.cell? ⟨g,0,none⟩=some a∧W.cell? ⟨g,1,none⟩=some b∧W.cell? ⟨g,2,none⟩=some c∧W.cell? ⟨g,3,none⟩=some d∧W.cell? ⟨g,4,none⟩=some e∧W.cell? ⟨g',0,none⟩=some a':=⟨h.1.1,h.2.1.1,h.2.2.1.1,h.2.2.2.1.1,h.2.2.2.2.1,h'.1⟩
theorem Tp {W:World} {g g' g2:Nat} {a b c d e a':Value} (h:W.cell? ⟨g,0,none⟩=some a∧W.cell? ⟨g,1,none⟩=some b∧W.cell? ⟨g,2,none⟩=some c∧W.cell? ⟨g,3,none⟩=some d∧W.cell? ⟨g,4,none⟩=some e∧W.cell? ⟨g',0,none⟩=some a') (h1:g≠g2) (h2:g'≠g2) (v0 v1:Value) :
  ((W.setCell ⟨g2,0,none⟩ v0).setCell ⟨g2,1,none⟩ v1).cell? ⟨g,0,none⟩=some a∧((W.setCell ⟨g2,0,none⟩ v0).setCell ⟨g2,1,none⟩ v1).cell? ⟨g,1,none⟩=some b∧((W.setCell ⟨g2,0,none⟩ v0).setCell ⟨g2,1,none⟩ v1).cell? ⟨g,2,none⟩=some c∧((W.setCell ⟨g2,0,none⟩ v0).setCell ⟨g2,1,none⟩ v1).cell? ⟨g,3,none⟩=some d∧((W.setCell ⟨g2,0,none⟩ v0).setCell ⟨g2,1,none⟩ v1).cell? ⟨g,4,none⟩=some e∧((W.setCell ⟨g2,0,none⟩ v0).setCell ⟨g2,1,none⟩ v1).cell? ⟨g',0,none⟩=some a':=by
 have e1:=Ar (W:=W) h1 v0 v1
 have e2:=Ar (W:=W) h2 v0 v1
 exact ⟨(Ag e1 _).trans h.1,(Ag e1 _).trans h.2.1,(Ag e1 _).trans h.2.2.1,(Ag e1 _).trans h.2.2.2.1,(Ag e1 _).trans h.2.2.2.2.1,(Ag e2 _).trans h.2.2.2.2.2⟩
set_option maxRecDepth 100000 in
set_option maxHeartbeats 4000000 in
theorem J5 (k:Nat) (t:List UInt8) (ka:Option Addr) (kc:Nat) (ks:List (List UInt8)) (da:Option Addr) (dc:Nat) (ds:List Nd) (l:Int) (c1 c2 tb:Nat) (most:Int) (s0:List UInt8) (w:World) (hok:t.length≤1000000)
  (h1:w.heap[c1]?=some (.cells #[.pointer (some ⟨tb,0,none⟩)] 94)) (h2:w.heap[c2]?=some (.cells #[.int .i64 most] 3)) (hb:w.heap[tb]?=some (.cells (Fv s0) 9)) :
  Calls Tryz.prog 93 #[.agg #[.int .u8 k,.string ⟨t.toArray⟩,.slice ka ks.length kc,.slice da ds.length dc,.int .i64 l],.pointer (some ⟨c1,0,none⟩),.pointer (some ⟨c2,0,none⟩)] w
   (Vq w tb 9 (fun cs=>∃ s,cs=Fv s) ((P22.textE most (Nd.mk k t ka kc ks da dc ds l).bare).map Fv)):=by
 unfold Fv at hb
 obtain ⟨H,hH⟩:∃ H,w.heap.size=H:=⟨_,rfl⟩
 obtain ⟨W0,hW0,hb0,g0,g1,hs0⟩:=A0 w (.cells #[.int .u8 k,.string ⟨t.toArray⟩,.slice ka ks.length kc,.slice da ds.length dc,.int .i64 l] 26) (.cells #[.int .i64 0,.int .i64 0] 29) H hH
 have x0:=Ad g0
 have y0:=Af g1
 have hwr:=Fu k t ka kc ks da dc ds l
 have p1:=(hb0.block c1 (by have:=(Array.getElem?_eq_some_iff.1 h1).1;omega)).trans h1
 have p2:=(hb0.block c2 (by have:=(Array.getElem?_eq_some_iff.1 h2).1;omega)).trans h2
 have p3:=(hb0.block tb (by have:=(Array.getElem?_eq_some_iff.1 hb).1;omega)).trans hb
 have c12:c1≠tb:=by rintro rfl;rw [h1] at hb;simp at hb
 have c22:c2≠tb:=by rintro rfl;rw [h2] at hb;simp at hb
 have htl:tb<H:=by have:=(Array.getElem?_eq_some_iff.1 hb).1;omega
 have hc1:c1<H:=by have:=(Array.getElem?_eq_some_iff.1 h1).1;omega
 have hc2:c2<H:=by have:=(Array.getElem?_eq_some_iff.1 h2).1;omega
 have u1:=Aq p1
 have u2:=Aq p2
 have u3:=Aq p3
 have HW0:=Ab hW0
 have HB0:=Ab (show w.grownBy W0 (some tb) from Aj (hb0.mono (by omega)) _)
 have HG0:=Ab g0
 have HG1:=Ab g1
 have HP2:=Ab p2
 have HP3:=Ab p3
 have HWR:=Ab hwr
 have hmx:=Dl
 clear hW0 hb0 g0 g1 h1 h2 hb p1 p2 p3 hwr
 have hsp:P22.textE most (Nd.mk k t ka kc ks da dc ds l).bare=(if k≠1 then .error (7,l) else if P03.check t most≠0 then .error (P03.check t most,l) else .ok t):=by
  simp only [Nd.bare]
  rfl
 rw [hsp]
 clear hsp
 by_cases hk:k=1
 ·rw [if_neg (by simpa using hk)]
  have jk:((k:Int) != 1)=false:=by simp;omega
  have jk2:((k:Int) == 1)=true:=by simp;omega
  clear hk
  obtain ⟨W1,hW1⟩:∃ W1,W0.setCell ⟨tb,0,none⟩ (.string ⟨t.toArray⟩)=W1:=⟨_,rfl⟩
  have q0:=(show W1.heap[H]?=W0.heap[H]? by rw [← hW1];exact Below.heap_setCell _ _ _ _ (by show H≠tb;omega)).trans (Aa HG0)
  have q1:=(show W1.heap[H+1]?=W0.heap[H+1]? by rw [← hW1];exact Below.heap_setCell _ _ _ _ (by show H+1≠tb;omega)).trans (Aa HG1)
  have q2:=(show W1.heap[c2]?=W0.heap[c2]? by rw [← hW1];exact Below.heap_setCell _ _ _ _ (by show c2≠tb;omega)).trans (Aa HP2)
  have q3:W1.heap[tb]?=some (.cells (Fv t) 9):=by rw [← hW1];exact Gb (Aa HP3) _
  have hgw:w.grownBy W1 (some tb):=by rw [← hW1];exact Gc (Aa HB0) _
  have hs1:W1.heap.size=H+1+1:=by rw [← hW1];simpa using hs0
  have v0:=Ad q0
  have v1:=Af q1
  have v2:=Aq q2
  have hck:=Fa ⟨t.toArray⟩ most W1.drew (by rw [Lib.size_eq];show t.length≤1100000;omega)
  simp only [Vv] at hck
  obtain ⟨e,he⟩:∃ e,P03.check t most=e:=⟨_,rfl⟩
  rw [he] at hck ⊢
  obtain ⟨R,hRR⟩:∃ R:Except P22.F (List UInt8),(if e≠0 then .error (e,l) else .ok t)=R:=⟨_,rfl⟩
  rw [hRR]
  have HRR:=Ab hRR
  clear hRR
  obtain ⟨e',l',hwe,hel⟩:=Ct k t ka kc ks da dc ds l e
  have HWE:=Ab hwe
  have HEL:=Ab hel
  clear hwe hel
  have HCK:=Ab hck
  have HQ0:=Ab q0
  have HQ2:=Ab q2
  have HQ1:=Ab q1
  have HQ3:=Ab q3
  have HGW:=Ab hgw
  clear hck q0 q1 q2 q3 hgw
  go_enter Tryz.func93,Tryz.ntmps93
  go_upto_region 1 with fail
  try rw [hH]
  rw [Aa HW0]
  go_upto_region 4 with fail
  try rw [hW1]
  clear hW1
  have S1:=Vd (W:=W1) v0 v2
  go_region_held3 (fun w'=>w'.cell? ⟨H,0,none⟩=some (.int .u8 k)∧w'.cell? ⟨H,1,none⟩=some (.string ⟨t.toArray⟩)∧w'.cell? ⟨H,2,none⟩=some (.slice ka ks.length kc)∧w'.cell? ⟨H,3,none⟩=some (.slice da ds.length dc)∧w'.cell? ⟨H,4,none⟩=some (.int .i64 l)∧w'.cell? ⟨c2,0,none⟩=some (.int .i64 most)) (first | exact S1 | exact S2 | exact S3 | exact Tp S3 (by omega) (by omega) _ _) (first
   | (go_at_call 44;refine (Aa HCK).mono ?_;rintro x2 w2 ⟨rfl,hb2⟩;have hb2:Below W1.heap.size W1 w2:=⟨hb2.os,hb2.tape,hb2.output,hb2.size,hb2.block⟩;have r0:=(hb2.block (H+1) (by omega)).trans (Aa HQ1);have S2:=Vd (Ad ((hb2.block H (by omega)).trans (Aa HQ0))) (Aq ((hb2.block c2 (by omega)).trans (Aa HQ2)));have HR0:=Ab r0;have hl2:=hb2.size;have HB2:=Ab hb2;clear r0 hb2)
   | (go_at_call 91;refine (Aa HWE w2).mono ?_;rintro x3 w3 ⟨rfl,hb3⟩;have r1:=(hb3.block (H+1) (by omega)).trans (Aa HR0);have S3:=Vd (Ad ((hb3.block H (by omega)).trans (((Aa HB2).block H (by omega)).trans (Aa HQ0)))) (Aq ((hb3.block c2 (by omega)).trans (((Aa HB2).block c2 (by omega)).trans (Aa HQ2))));have rr1:=Af r1;have HR1:=Ab r1;have HB3:=Ab hb3;clear r1 hb3))
  all_goals go_wp2
  all_goals
   have hg3:=Ah (Aa HGW) (Ah (Aj (Aa HB2) _) (Aj (Aa HB3) _))
   have hl2:=(Aa HB2).size
   have hq:=((Aa HB3).block tb (by omega)).trans (((Aa HB2).block tb (by omega)).trans (Aa HQ3))
   have hg4:=B4 hg3 (show w.heap.size≤H+1 by omega) (.int .i64 e') (.int .i64 l')
   have hq2:=(Ar (W:=w3) (g:=H+1) (g':=tb) (by omega) (.int .i64 e') (.int .i64 l')).trans hq
   refine bodyPost_ret (Av rfl _ _ _ (H+1) _ rfl (Ai (A3 (Aa HR1) _ _))) rfl ⟨?_,?_⟩
   ·exact hg4
   ·rcases Aa HEL with ⟨h0,rfl,rfl⟩ | ⟨h0,rfl,rfl⟩
    ·have hR:=Aa HRR
     rw [if_neg (by simpa using h0)] at hR
     subst hR
     exact ⟨rfl,hq2⟩
    ·have hR:=Aa HRR
     rw [if_pos h0] at hR
     subst hR
     exact ⟨rfl,_,⟨t,rfl⟩,hq2⟩
 ·rw [if_pos hk]
  have jk:((k:Int) != 1)=true:=by simp;omega
  have jk2:((k:Int) == 1)=false:=by rw [beq_eq_false_iff_ne];omega
  have HWQ:=Ab (Aa HWR 7 W0)
  clear hk
  go_enter Tryz.func93,Tryz.ntmps93
  go_upto_region 1 with fail
  try rw [hH]
  rw [Aa HW0]
  go_wp2_with (go_at_call 91;refine (Aa HWQ).mono ?_;rintro x3 w3 ⟨rfl,hb3⟩;have r1:=(hb3.block (H+1) (by omega)).trans (Aa HG1);have rr1:=Af r1;have HR1:=Ab r1;have HB3:=Ab hb3;clear r1 hb3)
  refine bodyPost_ret (Av rfl _ _ _ (H+1) _ rfl (Ai (A3 (Aa HR1) _ _))) rfl ⟨?_,rfl,_,⟨s0,rfl⟩,?_⟩
  ·exact B4 (Ah (Aa HB0) (Aj (Aa HB3) _)) (by omega) _ _
  ·exact (Ar (by omega) _ _).trans (((Aa HB3).block tb (by omega)).trans (Aa HP3))
set_option maxRecDepth 100000 in
set_option maxHeartbeats 4000000 in
theorem Lw (k:Nat) (t:List UInt8) (ka:Option Addr) (kc:Nat) (ks:List (List UInt8)) (da:Option Addr) (dc:Nat) (ds:List Nd) (l:Int) (c1 tb:Nat) (n0:Int) (w:World) (hok:t.length≤1000000)
  (h1:w.heap[c1]?=some (.cells #[.pointer (some ⟨tb,0,none⟩)] 65)) (hb:w.heap[tb]?=some (.cells (Gy n0) 3)) :
  Calls Tryz.prog 127 #[.agg #[.int .u8 k,.string ⟨t.toArray⟩,.slice ka ks.length kc,.slice da ds.length dc,.int .i64 l],.pointer (some ⟨c1,0,none⟩)] w
   (Vq w tb 3 (fun cs=>∃ s,cs=Gy s) ((P22.numE (Nd.mk k t ka kc ks da dc ds l).bare).map Gy)):=by
 unfold Gy at hb
 obtain ⟨H,hH⟩:∃ H,w.heap.size=H:=⟨_,rfl⟩
 obtain ⟨W0,hW0,hb0,g0,g1,hs0⟩:=A0 w (.cells #[.int .u8 k,.string ⟨t.toArray⟩,.slice ka ks.length kc,.slice da ds.length dc,.int .i64 l] 26) (.cells #[.int .i64 0,.int .i64 0] 29) H hH
 have x0:=Ad g0
 have y0:=Af g1
 have hwr:=Fu k t ka kc ks da dc ds l
 have p1:=(hb0.block c1 (by have:=(Array.getElem?_eq_some_iff.1 h1).1;omega)).trans h1
 have p3:=(hb0.block tb (by have:=(Array.getElem?_eq_some_iff.1 hb).1;omega)).trans hb
 have c12:c1≠tb:=by rintro rfl;rw [h1] at hb;simp at hb
 have htl:tb<H:=by have:=(Array.getElem?_eq_some_iff.1 hb).1;omega
 have hc1:c1<H:=by have:=(Array.getElem?_eq_some_iff.1 h1).1;omega
 have u1:=Aq p1
 have u3:=Aq p3
 have HW0:=Ab hW0
 have HB0:=Ab (show w.grownBy W0 (some tb) from Aj (hb0.mono (by omega)) _)
 have HG0:=Ab g0
 have HG1:=Ab g1
 have HP1:=Ab p1
 have HP3:=Ab p3
 have HWR:=Ab hwr
 have hmx:=Dl
 clear hW0 hb0 g0 g1 h1 hb p1 p3 hwr
 have hsp:P22.numE (Nd.mk k t ka kc ks da dc ds l).bare=(if k≠1 then .error (7,l) else if (P18.number t).2≠0 then .error ((P18.number t).2,l) else .ok (P18.number t).1):=by
  simp only [Nd.bare]
  rfl
 rw [hsp]
 clear hsp
 by_cases hk:k=1
 ·rw [if_neg (by simpa using hk)]
  have jk:((k:Int) != 1)=false:=by simp;omega
  have jk2:((k:Int) == 1)=true:=by simp;omega
  clear hk
  have hnu:=Np ⟨t.toArray⟩ W0 (by rw [Lib.size_eq];show t.length≤9223372036854775807;omega)
  simp only [Vv] at hnu
  obtain ⟨⟨nq,e⟩,hq⟩:∃ q,P18.number t=q:=⟨_,rfl⟩
  simp only [hq] at hnu ⊢
  obtain ⟨R,hRR⟩:∃ R:Except P22.F Int,(if e≠0 then .error (e,l) else .ok nq)=R:=⟨_,rfl⟩
  rw [hRR]
  have HRR:=Ab hRR
  clear hRR
  obtain ⟨e',l',hwe,hel⟩:=Ct k t ka kc ks da dc ds l e
  have HWE:=Ab hwe
  have HEL:=Ab hel
  have HNU:=Ab hnu
  clear hwe hel hnu hq
  go_enter Tryz.func127,Tryz.ntmps127
  go_upto_region 1 with fail
  try rw [hH]
  rw [Aa HW0]
  go_upto_region 4 with (go_at_call 52;refine (Aa HNU).mono ?_;rintro x2 w2 ⟨rfl,hb2⟩)
  have q0:=(hb2.block H (by omega)).trans (Aa HG0)
  have q1:=(hb2.block (H+1) (by omega)).trans (Aa HG1)
  have q3:=(hb2.block c1 (by omega)).trans (Aa HP1)
  have q4:=(hb2.block tb (by omega)).trans (Aa HP3)
  have hl2:=hb2.size
  have hg2:=Ah (Aa HB0) (Aj hb2 _)
  clear x0 y0 u1 u3
  have x0:=Ad q0
  have u1:=Aq q3
  have u3:=Aq q4
  obtain ⟨W1,hW1⟩:∃ W1,w2.setCell ⟨tb,0,none⟩ (.int .i64 nq)=W1:=⟨_,rfl⟩
  have r0:=(show W1.heap[H]?=w2.heap[H]? by rw [← hW1];exact Below.heap_setCell _ _ _ _ (by show H≠tb;omega)).trans q0
  have r1:=(show W1.heap[H+1]?=w2.heap[H+1]? by rw [← hW1];exact Below.heap_setCell _ _ _ _ (by show H+1≠tb;omega)).trans q1
  have r3:W1.heap[tb]?=some (.cells (Gy nq) 3):=by rw [← hW1];exact Gb q4 _
  have hgw:w.grownBy W1 (some tb):=by rw [← hW1];exact Gc hg2 _
  have hs1:H+1+1≤W1.heap.size:=by rw [← hW1];simp;omega
  have v0:=Ad r0
  have v1:=Af r1
  have HR1:=Ab r1
  have HR3:=Ab r3
  have HGW:=Ab hgw
  have HW1:=Ab hW1
  clear q0 q1 q3 q4 hg2 r0 r1 r3 hgw hW1 hb2
  go_upto_region 5 with fail
  rw [Aa HW1]
  go_wp2_with (go_at_call 91;refine (Aa HWE W1).mono ?_;rintro x3 w3 ⟨rfl,hb3⟩;have t1:=(hb3.block (H+1) (by omega)).trans (Aa HR1);have tt1:=Af t1;have HT1:=Ab t1;have HB3:=Ab hb3;clear t1 hb3)
  have hg3:=Ah (Aa HGW) (Aj (Aa HB3) _)
  have hq:=((Aa HB3).block tb (by omega)).trans (Aa HR3)
  have hg4:=B4 hg3 (show w.heap.size≤H+1 by omega) (.int .i64 e') (.int .i64 l')
  have hq2:=(Ar (W:=w3) (g:=H+1) (g':=tb) (by omega) (.int .i64 e') (.int .i64 l')).trans hq
  refine bodyPost_ret (Av rfl _ _ _ (H+1) _ rfl (Ai (A3 (Aa HT1) _ _))) rfl ⟨?_,?_⟩
  ·exact hg4
  ·rcases Aa HEL with ⟨h0,rfl,rfl⟩ | ⟨h0,rfl,rfl⟩
   ·have hR:=Aa HRR
    rw [if_neg (by simpa using h0)] at hR
    subst hR
    exact ⟨rfl,hq2⟩
   ·have hR:=Aa HRR
    rw [if_pos h0] at hR
    subst hR
    exact ⟨rfl,_,⟨nq,rfl⟩,hq2⟩
 ·rw [if_pos hk]
  have jk:((k:Int) != 1)=true:=by simp;omega
  have jk2:((k:Int) == 1)=false:=by rw [beq_eq_false_iff_ne];omega
  have HWQ:=Ab (Aa HWR 7 W0)
  clear hk
  go_enter Tryz.func127,Tryz.ntmps127
  go_upto_region 1 with fail
  try rw [hH]
  rw [Aa HW0]
  go_wp2_with (go_at_call 91;refine (Aa HWQ).mono ?_;rintro x3 w3 ⟨rfl,hb3⟩;have r1:=(hb3.block (H+1) (by omega)).trans (Aa HG1);have rr1:=Af r1;have HR1:=Ab r1;have HB3:=Ab hb3;clear r1 hb3)
  refine bodyPost_ret (Av rfl _ _ _ (H+1) _ rfl (Ai (A3 (Aa HR1) _ _))) rfl ⟨?_,rfl,_,⟨n0,rfl⟩,?_⟩
  ·exact B4 (Ah (Aa HB0) (Aj (Aa HB3) _)) (by omega) _ _
  ·exact (Ar (by omega) _ _).trans (((Aa HB3).block tb (by omega)).trans (Aa HP3))
end Go.Proofs.YtnjokdbblmlhhaaGreatDoor
