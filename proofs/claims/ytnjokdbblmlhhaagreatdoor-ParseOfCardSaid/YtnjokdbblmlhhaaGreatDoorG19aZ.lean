/- Lemmas of this claim. -/
import Derived.Test.YtnjokdbblmlhhaaGreatDoorGAZ
import Derived.Test.YtnjokdbblmlhhaaGreatDoorGT19Z
import Derived.Test.YtnjokdbblmlhhaaGreatDoorGW18Z
import Derived.Test.YtnjokdbblmlhhaaGreatDoorGR17Z
import Derived.Deep.CutRange
import Derived.Deep.CutBlock
import Derived.Deep.RegionWith
import Derived.Shelf.RegionOpenPlain
import Derived.Test.YtnjokdbblmlhhaaGreatDoorGPZ
import Derived.Test.YtnjokdbblmlhhaaGreatDoorGV17Z
import Derived.RangeFuncNested
import Derived.RangeFuncBound
import Derived.RangeFuncCalls
import Derived.RangeFuncLeaves
import Derived.Shelf.Abstract
import Derived.Shelf.RegionOpen
import Derived.WalkKit
import Derived.OwnWalkIn
import Derived.TacticsInMore
import Derived.LoopNIn
import Derived.LoopIn
namespace Go.Proofs.YtnjokdbblmlhhaaGreatDoor
set_option linter.unusedVariables false
set_option linter.unusedSimpArgs false
open Go.RowKit Go.Shelf
def Vm (p:P19.Pt):Value:=.agg #[.int .i64 p.1,.int .i64 p.2.1,C0 p.2.2]
theorem Bx {W:World} {g:Nat} {t:TypeId} {a b c:Value} (h:W.heap[g]?=some (.cells #[a,b,c] t)) (v0 v1 v2:Value) :
  (((W.setCell ⟨g,0,none⟩ v0).setCell ⟨g,1,none⟩ v1).setCell ⟨g,2,none⟩ v2).heap[g]?=some (.cells #[v0,v1,v2] t):=by
 simp [World.setCell,Array.getElem?_modify,h]
theorem Ay {W:World} {g:Nat} {t:TypeId} {a b c:Value} (h:W.heap[g]?=some (.cells #[a,b,c] t)) :
  (W.cell? ⟨g,0,none⟩=some a∧W.frozen? ⟨g,0,none⟩=false)∧(W.cell? ⟨g,1,none⟩=some b∧W.frozen? ⟨g,1,none⟩=false)∧(W.cell? ⟨g,2,none⟩=some c∧W.frozen? ⟨g,2,none⟩=false):=by
 simp [World.cell?,World.frozen?,h]
theorem A6 {W:World} {g g':Nat} (h:g'≠g) (v0 v1 v2:Value):(((W.setCell ⟨g,0,none⟩ v0).setCell ⟨g,1,none⟩ v1).setCell ⟨g,2,none⟩ v2).heap[g']?=W.heap[g']?:=by
 rw [Below.heap_setCell _ _ _ _ h,Below.heap_setCell _ _ _ _ h,Below.heap_setCell _ _ _ _ h]
theorem Bg {W:World} {g g':Nat} (h:g'≠g) (v0 v1 v2 v3:Value):((((W.setCell ⟨g,0,none⟩ v0).setCell ⟨g,1,none⟩ v1).setCell ⟨g,2,none⟩ v2).setCell ⟨g,3,none⟩ v3).heap[g']?=W.heap[g']?:=by
 rw [Below.heap_setCell _ _ _ _ h,Below.heap_setCell _ _ _ _ h,Below.heap_setCell _ _ _ _ h,Below.heap_setCell _ _ _ _ h]
theorem Bb {w W:World} {g:Nat} (h:Below w.heap.size w W) (hg:w.heap.size≤g) (v0 v1 v2:Value):Below w.heap.size w (((W.setCell ⟨g,0,none⟩ v0).setCell ⟨g,1,none⟩ v1).setCell ⟨g,2,none⟩ v2):=
 Bq (Bq (Bq h 0 _ hg) 1 _ hg) 2 _ hg
theorem C4 {X:World} {g:Nat} {o:Option Obj} (h:X.heap[g]?=o):X.drew.heap[g]?=o:=h
theorem Bd {fn:Func} {p q u:Tmp} {tp tq:TypeId} (h:fn.results=#[.cell p tp,.cell q tq,.tmp u]) (tmps:Array Value) (P:Program) (w:World) (g1 g2:Nat) (v1 v2:Value)
  (hp:tmps.getD p undef=.pointer (some ⟨g1,0,none⟩)) (hl:(loadVar tp ⟨g1,0,none⟩).run P w=.ok v1 w)
  (hq:tmps.getD q undef=.pointer (some ⟨g2,0,none⟩)) (hm:(loadVar tq ⟨g2,0,none⟩).run P w=.ok v2 w) :
  (results fn tmps).run P w=.ok (.tuple #[v1,v2,tmps.getD u undef]) w:=by
 have hp':tmps[p]?.getD undef=.pointer (some ⟨g1,0,none⟩):=by simpa using hp
 have hq':tmps[q]?.getD undef=.pointer (some ⟨g2,0,none⟩):=by simpa using hq
 simp [results,h,hp',hq',asAddr,Sem.run_bind,Result.andThen,hl,hm]
theorem Kp (n col:Int) (s:ByteArray) (k q:Nat) (z:Int) (hz:z=(k:Int)) (w:World) (hs:s.size≤1100000) (hk:k≤s.size) (hc0:0≤col) (hc1:col≤1000000000) (hq:k+P19.skip (s.data.toList.drop k)=q) :
  Calls Tryz.prog 166 #[.agg #[.int .i64 n,.int .i64 col,.string s],.int .i64 z] w fun e w'=>e=.returned (.agg #[.int .i64 n,.int .i64 (col+(q:Nat)),.string ⟨(s.data.toList.drop q).toArray⟩])∧Below w.heap.size w w':=by
 subst hz
 refine (Mr n col s k w hs hk hc0 hc1).mono ?_
 rintro e w' ⟨b,rfl,hb,hbl⟩
 rw [hq] at hb ⊢
 obtain rfl:=K5 hb
 exact ⟨rfl,hbl⟩
theorem N2 (s:ByteArray) (k:Nat) (x:List UInt8 × Int) (w:World) (h:s.size≤1100000) (hk:k≤s.size) (hx:P18.read (s.data.toList.take k)=x) :
  Calls Tryz.prog 169 #[.string (s.extract 0 k)] w fun e w'=>e=.returned (.tuple #[.string ⟨x.1.toArray⟩,.int .i64 x.2])∧Below w.heap.size w w':=by
 have hd:(s.extract 0 k).data.toList=s.data.toList.take k:=by rw [Lib.extract_data,List.drop_zero,Nat.sub_zero]
 have h1:=R4 (s.extract 0 k) w (by rw [ByteArray.size_extract];omega)
 rw [hd,hx] at h1
 refine h1.mono ?_
 rintro e w' ⟨b,rfl,hb,hbl⟩
 obtain rfl:=K5 hb
 exact ⟨rfl,hbl⟩
theorem S9 (l:List UInt8):(P18.cut l).1≤l.length:=by
 unfold P18.cut
 split
 ·split
  ·rename_i n h
   have:=P18.cutQ_bd l 0 false n h
   simpa using this.2
  ·simp
 ·split
  ·simp
  ·exact P18.plainLen_le l false
set_option maxRecDepth 100000 in
set_option maxHeartbeats 20000000 in
theorem Rs (v:Bool) (n col:Int) (s:ByteArray) (w:World) (hs:s.size≤1100000) (hc0:0≤col) (hc1:col≤1000000000) :
  Calls Tryz.prog 140 #[.agg #[.int .i64 n,.int .i64 col,.string s],.bool v] w fun e w'=>
   e=.returned (.tuple #[Ug (P19.next v n col s.data.toList).1,Vm (P19.next v n col s.data.toList).2.1,.int .i64 (P19.next v n col s.data.toList).2.2])∧Below w.heap.size w w':=by
 have hmx:Tryz.prog.follows .mixedOrders=true:=by kernel_rfl
 obtain ⟨⟨T,PT,E⟩,hR⟩:∃ x,P19.next v n col s.data.toList=x:=⟨_,rfl⟩
 rw [hR]
 have HR:=Ab hR
 clear hR
 go_enter Tryz.func140,Tryz.ntmps140
 go_upto_region 1 with fail
 obtain ⟨W0,hW0⟩:∃ W0,((w.alloc (.cells #[.int .i64 n,.int .i64 col,.string s] 187)).alloc (.cells #[.int .u8 0,.string ⟨#[]⟩,.int .i64 0,.int .i64 0] 124)).alloc (.cells #[.int .i64 0,.int .i64 0,.string ⟨#[]⟩] 187)=W0:=⟨_,rfl⟩
 have hb0:Below w.heap.size w W0:=by rw [← hW0];exact (((Below.refl _ w).alloc (Nat.le_refl _) _).alloc (by simp) _).alloc (by simp;omega) _
 have g0:W0.heap[w.heap.size]?=some (.cells #[.int .i64 n,.int .i64 col,.string s] 187):=by
  rw [← hW0]
  exact (Below.heap_alloc _ _ _ (by simp;omega)).trans ((Below.heap_alloc _ _ _ (by simp)).trans (World.alloc_heap_new w _))
 have g1:W0.heap[w.heap.size+1]?=some (.cells #[.int .u8 0,.string ⟨#[]⟩,.int .i64 0,.int .i64 0] 124):=by
  rw [← hW0]
  exact (Below.heap_alloc _ _ _ (by simp)).trans (Cy w _ _)
 have g2:W0.heap[w.heap.size+1+1]?=some (.cells #[.int .i64 0,.int .i64 0,.string ⟨#[]⟩] 187):=by
  rw [← hW0]
  have h:=World.alloc_heap_new ((w.alloc (.cells #[.int .i64 n,.int .i64 col,.string s] 187)).alloc (.cells #[.int .u8 0,.string ⟨#[]⟩,.int .i64 0,.int .i64 0] 124)) (.cells #[.int .i64 0,.int .i64 0,.string ⟨#[]⟩] 187)
  rw [World.size_alloc,World.size_alloc] at h
  exact h
 rw [hW0]
 clear hW0
 obtain ⟨B,hB⟩:∃ B,w.heap.size=B:=⟨_,rfl⟩
 rw [hB] at g0 g1 g2 hb0 ⊢
 have hs0:B+1+1<W0.heap.size:=(Array.getElem?_eq_some_iff.1 g2).1
 obtain ⟨⟨x0,_⟩,⟨x1,_⟩,⟨x2,_⟩⟩:=Ay g0
 go_cut [20] from 14 to 20 (fun c wx=>c=.bool (P19.signB 45 s.data.toList && !v)∧W0=wx)
 case first=>
  obtain ⟨sg,hsg⟩:∃ b,P19.signB 45 s.data.toList=b:=⟨_,rfl⟩
  have hsa:=fun W=>L2 s 45 W (by omega)
  rw [hsg] at hsa
  have HSA:=Ab hsa
  have HSG:=Ab hsg
  clear hsa hsg
  cases sg
  ·go_wp2_with (go_at_call 164;refine (Aa HSA _).mono ?_;rintro e w' ⟨rfl,hw⟩;rw [hw];clear hw)
   go_meet
   exact ⟨by rw [Aa HSG];rfl,rfl⟩
  ·go_wp2_with (go_at_call 164;refine (Aa HSA _).mono ?_;rintro e w' ⟨rfl,hw⟩;rw [hw];clear hw)
   go_meet
   exact ⟨by rw [Aa HSG];rfl,rfl⟩
 case rest=>
  obtain ⟨rfl,rfl⟩:=hcut
  have hr:=Aa HR
  rw [P19.next] at hr
  by_cases hd:(P19.signB 45 s.data.toList && !v)=true
  ·rw [if_pos hd] at hr
   rw [hd]
   obtain ⟨q,hq⟩:∃ q,1+P19.skip (s.data.toList.drop 1)=q:=⟨_,rfl⟩
   have hsp:1≤s.size:=by
    rcases Nat.eq_zero_or_pos s.size with h | h
    ·have hn:s.data.toList=[]:=List.eq_nil_of_length_eq_zero (by rw [← Lib.size_eq];exact h)
     rw [hn] at hd
     cases hd
    ·exact h
   rw [hq] at hr
   injection hr with hr1 hr2
   injection hr2 with hr2 hr3
   subst hr1
   subst hr2
   subst hr3
   have HBA:=Ab (fun W=>Kp n col s 1 q 1 rfl W (by omega) hsp hc0 hc1 hq)
   clear hd hq
   go_wp2
   go_region_with_o (first
    | (have hqq:=hbT;clear hqq;go_at_call 166;refine (Aa HBA _).mono ?_;rintro e w2 ⟨rfl,hb2⟩;have hbw:Below B w w2:=hbT'.trans (hb2.mono (by have:=hbT'.size;omega));have f1:=(hb2.block _ (Array.getElem?_eq_some_iff.1 fT1).1).trans fT1;have f2:=(hb2.block _ (Array.getElem?_eq_some_iff.1 fT2).1).trans fT2;obtain ⟨⟨y0,z0⟩,⟨y1,z1⟩,⟨y2,z2⟩,⟨y3,z3⟩⟩:=A1 f1;obtain ⟨⟨y4,z4⟩,⟨y5,z5⟩,⟨y6,z6⟩⟩:=Ay f2)
    | (have hqq:=hbB;clear hqq;go_at_call 165;refine (Di _ _ _ _ _ _).mono ?_;rintro e w2 ⟨rfl,hb2⟩;have hbw:Below B w w2:=hbB'.trans (hb2.mono (by have:=hbB'.size;omega));have f1:=(hb2.block _ (Array.getElem?_eq_some_iff.1 fB1).1).trans fB1;have f2:=(hb2.block _ (Array.getElem?_eq_some_iff.1 fB2).1).trans fB2;obtain ⟨⟨y0,z0⟩,⟨y1,z1⟩,⟨y2,z2⟩,⟨y3,z3⟩⟩:=A1 f1;obtain ⟨⟨y4,z4⟩,⟨y5,z5⟩,⟨y6,z6⟩⟩:=Ay f2)
    | (go_at_call 165;refine (Di _ _ _ _ _ _).mono ?_;rintro e wT ⟨rfl,hbT⟩;have hbT':Below B w wT:=(hb0.drew).trans (hbT.mono (show B≤W0.heap.size by omega));have fT0:=(hbT.block _ (show B<W0.heap.size by omega)).trans g0;have fT1:=(hbT.block _ (show B+1<W0.heap.size by omega)).trans g1;have fT2:=(hbT.block _ (show B+1+1<W0.heap.size by omega)).trans g2;obtain ⟨⟨u0,_⟩,⟨u1,_⟩,⟨u2,_⟩⟩:=Ay fT0)
    | (go_at_call 166;refine (Aa HBA _).mono ?_;rintro e wB ⟨rfl,hbB⟩;have hbB':Below B w wB:=(hb0.drew).trans (hbB.mono (show B≤W0.heap.size by omega));have fB0:=(hbB.block _ (show B<W0.heap.size by omega)).trans g0;have fB1:=(hbB.block _ (show B+1<W0.heap.size by omega)).trans g1;have fB2:=(hbB.block _ (show B+1+1<W0.heap.size by omega)).trans g2;obtain ⟨⟨u0,_⟩,⟨u1,_⟩,⟨u2,_⟩⟩:=Ay fB0))
   all_goals go_wp2
   all_goals subst hB
   all_goals (first
     | (refine bodyPost_ret (Bd rfl _ _ _ _ _ _ _ rfl (run_loadVar_row _ _ _ _ _ _ _ ((A6 (by omega) _ _ _).trans (Bu f1 _ _ _ _)) Tryz.underlying124 rfl (by kernel_rfl)) rfl (run_loadVar_row _ _ _ _ _ _ _ (Bx ((Bg (by omega) _ _ _ _).trans f2) _ _ _) Tryz.underlying187 rfl (by kernel_rfl))) rfl ⟨rfl,Bb (Be hbw (by omega) _ _ _ _) (by omega) _ _ _⟩)
     | (refine bodyPost_ret (Bd rfl _ _ _ _ _ _ _ rfl (run_loadVar_row _ _ _ _ _ _ _ (Bu ((A6 (by omega) _ _ _).trans f1) _ _ _ _) Tryz.underlying124 rfl (by kernel_rfl)) rfl (run_loadVar_row _ _ _ _ _ _ _ ((Bg (by omega) _ _ _ _).trans (Bx f2 _ _ _)) Tryz.underlying187 rfl (by kernel_rfl))) rfl ⟨rfl,Be (Bb hbw (by omega) _ _ _) (by omega) _ _ _ _⟩))
  ·rw [if_neg hd] at hr
   have hd':(P19.signB 45 s.data.toList && !v)=false:=by simpa using hd
   rw [hd']
   clear hd hd'
   by_cases h1:s.data.toList=[91,93]∨s.data.toList=[123,125]
   ·obtain ⟨kk,hkk,hkr⟩:∃ kk:Nat,(s=⟨#[91,93]⟩∧kk=6∨s=⟨#[123,125]⟩∧kk=7)∧(T,PT,E)=((kk,[],n,col),(0,0,[]),0):=by
     rcases h1 with h1 | h1
     ·rw [if_pos h1] at hr
      exact ⟨6,.inl ⟨K5 h1,rfl⟩,hr.symm⟩
     ·rw [if_neg (by rw [h1];decide),if_pos h1] at hr
      exact ⟨7,.inr ⟨K5 h1,rfl⟩,hr.symm⟩
    injection hkr with hr1 hr2
    injection hr2 with hr2 hr3
    subst hr1
    subst hr2
    subst hr3
    have HNY:=Ab (fun W=>Rv n col s kk W hkk)
    clear hr h1 hkk
    go_wp2_with (go_at_call 167;refine (Aa HNY _).mono ?_;rintro e w2 ⟨rfl,hb2⟩;have hbw:Below B w (w2.alloc (.cells #[.int .u8 kk,.string ⟨#[]⟩,.int .i64 n,.int .i64 col] 124)):=(hb0.trans (hb2.mono (by omega))).alloc (by have:=hb2.size;omega) _;have f1:=(Below.heap_alloc w2 (.cells #[.int .u8 kk,.string ⟨#[]⟩,.int .i64 n,.int .i64 col] 124) (B+1) (by have:=hb2.size;omega)).trans ((hb2.block _ (by omega)).trans g1);have f2:=(Below.heap_alloc w2 (.cells #[.int .u8 kk,.string ⟨#[]⟩,.int .i64 n,.int .i64 col] 124) (B+1+1) (by have:=hb2.size;omega)).trans ((hb2.block _ (by omega)).trans g2);obtain ⟨⟨y0,z0⟩,⟨y1,z1⟩,⟨y2,z2⟩,⟨y3,z3⟩⟩:=A1 f1;obtain ⟨⟨y4,z4⟩,⟨y5,z5⟩,⟨y6,z6⟩⟩:=Ay f2;obtain ⟨⟨c0,_⟩,⟨c1,_⟩,⟨c2,_⟩,⟨c3,_⟩⟩:=A1 (World.alloc_heap_new w2 (.cells #[.int .u8 kk,.string ⟨#[]⟩,.int .i64 n,.int .i64 col] 124)))
    all_goals subst hB
    all_goals (first
     | (refine bodyPost_ret (Bd rfl _ _ _ _ _ _ _ rfl (run_loadVar_row _ _ _ _ _ _ _ ((A6 (by omega) _ _ _).trans (Bu f1 _ _ _ _)) Tryz.underlying124 rfl (by kernel_rfl)) rfl (run_loadVar_row _ _ _ _ _ _ _ (Bx ((Bg (by omega) _ _ _ _).trans f2) _ _ _) Tryz.underlying187 rfl (by kernel_rfl))) rfl ⟨rfl,Bb (Be hbw (by omega) _ _ _ _) (by omega) _ _ _⟩)
     | (refine bodyPost_ret (Bd rfl _ _ _ _ _ _ _ rfl (run_loadVar_row _ _ _ _ _ _ _ (Bu ((A6 (by omega) _ _ _).trans f1) _ _ _ _) Tryz.underlying124 rfl (by kernel_rfl)) rfl (run_loadVar_row _ _ _ _ _ _ _ ((Bg (by omega) _ _ _ _).trans (Bx f2 _ _ _)) Tryz.underlying187 rfl (by kernel_rfl))) rfl ⟨rfl,Be (Bb hbw (by omega) _ _ _) (by omega) _ _ _ _⟩))
   ·have h1a:s.data.toList≠[91,93]:=fun e=>h1 (.inl e)
    have h1b:s.data.toList≠[123,125]:=fun e=>h1 (.inr e)
    rw [if_neg h1a,if_neg h1b] at hr
    have HNN:=Ab (fun W=>Ta n col s W h1a h1b)
    clear h1 h1a h1b
    go_upto_region 6 with (go_at_call 167;refine (Aa HNN _).mono ?_;rintro e w2 ⟨rfl,hb2⟩)
    have hl2:=hb2.size
    obtain ⟨W2,hW2⟩:∃ W2,w2.alloc (.cells #[.int .u8 0,.string ⟨#[]⟩,.int .i64 0,.int .i64 0] 124)=W2:=⟨_,rfl⟩
    have hB2:Below B w W2:=by rw [← hW2];exact (hb0.trans (hb2.mono (by omega))).alloc (by omega) _
    have k0:W2.heap[B]?=some (.cells #[.int .i64 n,.int .i64 col,.string s] 187):=by rw [← hW2];exact (Below.heap_alloc w2 _ _ (by omega)).trans ((hb2.block _ (by omega)).trans g0)
    have k1:W2.heap[B+1]?=some (.cells #[.int .u8 0,.string ⟨#[]⟩,.int .i64 0,.int .i64 0] 124):=by rw [← hW2];exact (Below.heap_alloc w2 _ _ (by omega)).trans ((hb2.block _ (by omega)).trans g1)
    have k2:W2.heap[B+1+1]?=some (.cells #[.int .i64 0,.int .i64 0,.string ⟨#[]⟩] 187):=by rw [← hW2];exact (Below.heap_alloc w2 _ _ (by omega)).trans ((hb2.block _ (by omega)).trans g2)
    rw [hW2]
    clear hW2 x0 x1 x2 g0 g1 g2 hb0 hb2 hl2
    have hs2:B+1+1<W2.heap.size:=(Array.getElem?_eq_some_iff.1 k2).1
    obtain ⟨⟨x0,_⟩,⟨x1,_⟩,⟨x2,_⟩⟩:=Ay k0
    obtain ⟨⟨y0,z0⟩,⟨y1,z1⟩,⟨y2,z2⟩,⟨y3,z3⟩⟩:=A1 k1
    obtain ⟨⟨y4,z4⟩,⟨y5,z5⟩,⟨y6,z6⟩⟩:=Ay k2
    have hcut:=Pb s
    have hkle:=S9 s.data.toList
    obtain ⟨⟨k,c⟩,hkc⟩:∃ x,P18.cut s.data.toList=x:=⟨_,rfl⟩
    rw [hkc] at hr hkle
    simp only [hkc] at hcut
    simp only at hr hkle
    rw [← Lib.size_eq] at hkle
    have HCUT:=Ab hcut
    clear hcut hkc
    by_cases hc:c=0
    rotate_left
    ·rw [if_pos hc] at hr
     injection hr with hr1 hr2
     injection hr2 with hr2 hr3
     subst hr1
     subst hr2
     subst hr3
     have jc:((c:Int) != 0)=true:=by simp;omega
     clear hc
     go_wp2_with (go_at_call 168;refine (Aa HCUT _ (by unfold maxLen;omega)).mono ?_;rintro e w' ⟨rfl,hww⟩;rw [hww];clear hww)
     go_region_with_o (fail)
     all_goals go_wp2
     all_goals subst hB
     all_goals (first
      | (refine bodyPost_ret (Bd rfl _ _ _ _ _ _ _ rfl (run_loadVar_row _ _ _ _ _ _ _ (C4 ((A6 (by omega) _ _ _).trans (Bu k1 _ _ _ _))) Tryz.underlying124 rfl (by kernel_rfl)) rfl (run_loadVar_row _ _ _ _ _ _ _ (C4 (Bx ((Bg (by omega) _ _ _ _).trans k2) _ _ _)) Tryz.underlying187 rfl (by kernel_rfl))) rfl ⟨rfl,(Bb (Be hB2 (by omega) _ _ _ _) (by omega) _ _ _).drew⟩)
      | (refine bodyPost_ret (Bd rfl _ _ _ _ _ _ _ rfl (run_loadVar_row _ _ _ _ _ _ _ (C4 (Bu ((A6 (by omega) _ _ _).trans k1) _ _ _ _)) Tryz.underlying124 rfl (by kernel_rfl)) rfl (run_loadVar_row _ _ _ _ _ _ _ (C4 ((Bg (by omega) _ _ _ _).trans (Bx k2 _ _ _))) Tryz.underlying187 rfl (by kernel_rfl))) rfl ⟨rfl,(Be (Bb hB2 (by omega) _ _ _) (by omega) _ _ _ _).drew⟩))
    rw [if_neg (by simpa using hc)] at hr
    have jc:((c:Int) != 0)=false:=by simp;omega
    clear hc
    have HR2:=Ab hr
    clear hr
    have hki:(k:Int)≤(s.size:Int):=by omega
    go_upto_region 10 with (go_at_call 168;refine (Aa HCUT _ (by unfold maxLen;omega)).mono ?_;rintro e w' ⟨rfl,hww⟩;rw [hww];clear hww)
    go_cut [12] from 48 to 53 (fun c wx=>c=.bool (P19.signB 58 (s.data.toList.drop k) && !v)∧W2=wx)
    case first=>
     obtain ⟨sg,hsg⟩:∃ b,P19.signB 58 (s.data.toList.drop k)=b:=⟨_,rfl⟩
     have hsa:=fun W=>L2 (s.extract k s.size) 58 W (by rw [ByteArray.size_extract];omega)
     rw [E7,hsg] at hsa
     have HSA:=Ab hsa
     have HSG:=Ab hsg
     clear hsa hsg
     cases sg
     ·go_wp2_with (go_at_call 164;refine (Aa HSA _).mono ?_;rintro e w' ⟨rfl,hw⟩;rw [hw];clear hw)
      go_meet
      exact ⟨by rw [Aa HSG];rfl,rfl⟩
     ·go_wp2_with (go_at_call 164;refine (Aa HSA _).mono ?_;rintro e w' ⟨rfl,hw⟩;rw [hw];clear hw)
      go_meet
      exact ⟨by rw [Aa HSG];rfl,rfl⟩
    case rest=>
     obtain ⟨rfl,rfl⟩:=hcut
     have hr:=Aa HR2
     obtain ⟨key,hkey⟩:∃ b,(P19.signB 58 (s.data.toList.drop k) && !v)=b:=⟨_,rfl⟩
     rw [hkey] at hr ⊢
     have hdk:s.data.toList.drop k≠[]↔k<s.size:=by
      rw [ne_eq,List.drop_eq_nil_iff,← Lib.size_eq]
      omega
     have hemp:(s.extract k s.size).toList.isEmpty=decide (k=s.size):=by
      rw [Lib.toList_data,E7]
      by_cases h:k<s.size
      ·rw [decide_eq_false (by omega)]
       have:=hdk.2 h
       simpa using this
      ·rw [decide_eq_true (by omega)]
       have h2:s.data.toList.drop k=[]:=List.drop_eq_nil_of_le (by rw [← Lib.size_eq];omega)
       rw [h2]
       rfl
     by_cases hbad:k<s.size∧key=false
     ·obtain ⟨hks,rfl⟩:=hbad
      rw [if_pos ⟨hdk.2 hks,rfl⟩] at hr
      injection hr with hr1 hr2
      injection hr2 with hr2 hr3
      subst hr1
      subst hr2
      subst hr3
      rw [decide_eq_false (by omega)] at hemp
      clear hdk hkey hks
      go_wp2
      go_region_with_o (fail)
      all_goals go_wp2
      all_goals subst hB
      all_goals (first
       | (refine bodyPost_ret (Bd rfl _ _ _ _ _ _ _ rfl (run_loadVar_row _ _ _ _ _ _ _ ((C4 ((A6 (by omega) _ _ _).trans (Bu k1 _ _ _ _)))) Tryz.underlying124 rfl (by kernel_rfl)) rfl (run_loadVar_row _ _ _ _ _ _ _ ((C4 (Bx ((Bg (by omega) _ _ _ _).trans k2) _ _ _))) Tryz.underlying187 rfl (by kernel_rfl))) rfl ⟨rfl,(Bb (Be hB2 (by omega) _ _ _ _) (by omega) _ _ _).drew⟩)
       | (refine bodyPost_ret (Bd rfl _ _ _ _ _ _ _ rfl (run_loadVar_row _ _ _ _ _ _ _ ((C4 (Bu ((A6 (by omega) _ _ _).trans k1) _ _ _ _))) Tryz.underlying124 rfl (by kernel_rfl)) rfl (run_loadVar_row _ _ _ _ _ _ _ ((C4 ((Bg (by omega) _ _ _ _).trans (Bx k2 _ _ _)))) Tryz.underlying187 rfl (by kernel_rfl))) rfl ⟨rfl,(Be (Bb hB2 (by omega) _ _ _) (by omega) _ _ _ _).drew⟩))
     rw [if_neg (fun h=>hbad ⟨hdk.1 h.1,h.2⟩)] at hr
     obtain ⟨⟨t,e⟩,hte⟩:∃ x,P18.read (s.data.toList.take k)=x:=⟨_,rfl⟩
     rw [hte] at hr
     have HRD:=Ab (fun W=>N2 s k (t,e) W hs hkle hte)
     clear hte
     have hkk:(k=s.size∧key=false)∨(k<s.size∧key=true):=by
      rcases Nat.lt_or_ge k s.size with h | h
      ·right
       cases hk2:key with
       | true=>exact ⟨h,rfl⟩
       | false=>exact absurd ⟨h,hk2⟩ hbad
      ·left
       have hk3:k=s.size:=by omega
       refine ⟨hk3,?_⟩
       have h2:s.data.toList.drop k=[]:=List.drop_eq_nil_of_le (by rw [← Lib.size_eq];omega)
       rw [← hkey,h2]
       rfl
     have HKEY:=Ab hkey
     clear hbad hdk hkey
     rcases hkk with ⟨hks,rfl⟩ | ⟨hks,rfl⟩
     ·rw [decide_eq_true hks] at hemp
      rw [if_neg (show ¬ (false=true) by simp)] at hr
      clear hks
      by_cases he:e=0
      ·rw [if_neg (by simpa using he)] at hr
       injection hr with hr1 hr2
       injection hr2 with hr2 hr3
       subst hr1
       subst hr2
       subst hr3
       have je:(e != 0)=false:=by simpa using he
       clear he
       go_wp2_with (first
        | (go_at_call 169;refine (Aa HRD _).mono ?_;rintro e' w3 ⟨rfl,hb3⟩;have hB3:Below B w w3:=hB2.trans (hb3.mono (by omega));have f0:=(hb3.block _ (by omega)).trans k0;have f1:=(hb3.block _ (by omega)).trans k1;have f2:=(hb3.block _ (by omega)).trans k2;obtain ⟨⟨a0,_⟩,⟨a1,_⟩,⟨a2,_⟩⟩:=Ay f0)
        | (go_at_call 165;refine (Di _ _ _ _ _ _).mono ?_;rintro e' w4 ⟨rfl,hb4⟩;have hB4:Below B w w4:=hB3.trans (hb4.mono (by have:=hb3.size;omega));have l1:=(hb4.block _ (Array.getElem?_eq_some_iff.1 f1).1).trans f1;have l2:=(hb4.block _ (Array.getElem?_eq_some_iff.1 f2).1).trans f2;obtain ⟨⟨b0,d0⟩,⟨b1,d1⟩,⟨b2,d2⟩,⟨b3,d3⟩⟩:=A1 l1;obtain ⟨⟨b4,d4⟩,⟨b5,d5⟩,⟨b6,d6⟩⟩:=Ay l2))
       all_goals subst hB
       all_goals (first
        | (refine bodyPost_ret (Bd rfl _ _ _ _ _ _ _ rfl (run_loadVar_row _ _ _ _ _ _ _ (((A6 (by omega) _ _ _).trans (Bu l1 _ _ _ _))) Tryz.underlying124 rfl (by kernel_rfl)) rfl (run_loadVar_row _ _ _ _ _ _ _ ((Bx ((Bg (by omega) _ _ _ _).trans l2) _ _ _)) Tryz.underlying187 rfl (by kernel_rfl))) rfl ⟨rfl,(Bb (Be hB4 (by omega) _ _ _ _) (by omega) _ _ _)⟩)
        | (refine bodyPost_ret (Bd rfl _ _ _ _ _ _ _ rfl (run_loadVar_row _ _ _ _ _ _ _ ((Bu ((A6 (by omega) _ _ _).trans l1) _ _ _ _)) Tryz.underlying124 rfl (by kernel_rfl)) rfl (run_loadVar_row _ _ _ _ _ _ _ (((Bg (by omega) _ _ _ _).trans (Bx l2 _ _ _))) Tryz.underlying187 rfl (by kernel_rfl))) rfl ⟨rfl,(Be (Bb hB4 (by omega) _ _ _) (by omega) _ _ _ _)⟩))
      ·rw [if_pos (by simpa using he)] at hr
       injection hr with hr1 hr2
       injection hr2 with hr2 hr3
       subst hr1
       subst hr2
       subst hr3
       have je:(e != 0)=true:=by simpa using he
       clear he
       go_wp2_with (go_at_call 169;refine (Aa HRD _).mono ?_;rintro e' w3 ⟨rfl,hb3⟩;have hB3:Below B w w3:=hB2.trans (hb3.mono (by omega));have f0:=(hb3.block _ (by omega)).trans k0;have f1:=(hb3.block _ (by omega)).trans k1;have f2:=(hb3.block _ (by omega)).trans k2;obtain ⟨⟨a0,_⟩,⟨a1,_⟩,⟨a2,_⟩⟩:=Ay f0;obtain ⟨⟨p0,m0⟩,⟨p1,m1⟩,⟨p2,m2⟩,⟨p3,m3⟩⟩:=A1 f1;obtain ⟨⟨p4,m4⟩,⟨p5,m5⟩,⟨p6,m6⟩⟩:=Ay f2;have hs3:B+1+1<w3.heap.size:=(Array.getElem?_eq_some_iff.1 f2).1;clear hb3)
       go_region_with_o (fail)
       all_goals go_wp2
       all_goals subst hB
       all_goals (first
        | (refine bodyPost_ret (Bd rfl _ _ _ _ _ _ _ rfl (run_loadVar_row _ _ _ _ _ _ _ ((C4 ((A6 (by omega) _ _ _).trans (Bu f1 _ _ _ _)))) Tryz.underlying124 rfl (by kernel_rfl)) rfl (run_loadVar_row _ _ _ _ _ _ _ ((C4 (Bx ((Bg (by omega) _ _ _ _).trans f2) _ _ _))) Tryz.underlying187 rfl (by kernel_rfl))) rfl ⟨rfl,(Bb (Be hB3 (by omega) _ _ _ _) (by omega) _ _ _).drew⟩)
        | (refine bodyPost_ret (Bd rfl _ _ _ _ _ _ _ rfl (run_loadVar_row _ _ _ _ _ _ _ ((C4 (Bu ((A6 (by omega) _ _ _).trans f1) _ _ _ _))) Tryz.underlying124 rfl (by kernel_rfl)) rfl (run_loadVar_row _ _ _ _ _ _ _ ((C4 ((Bg (by omega) _ _ _ _).trans (Bx f2 _ _ _)))) Tryz.underlying187 rfl (by kernel_rfl))) rfl ⟨rfl,(Be (Bb hB3 (by omega) _ _ _) (by omega) _ _ _ _).drew⟩))
     ·rw [decide_eq_false (by omega)] at hemp
      by_cases he:e=0
      rotate_left
      ·rw [if_pos (by simpa using he)] at hr
       injection hr with hr1 hr2
       injection hr2 with hr2 hr3
       subst hr1
       subst hr2
       subst hr3
       have je:(e != 0)=true:=by simpa using he
       clear he
       go_wp2_with (go_at_call 169;refine (Aa HRD _).mono ?_;rintro e' w3 ⟨rfl,hb3⟩;have hB3:Below B w w3:=hB2.trans (hb3.mono (by omega));have f0:=(hb3.block _ (by omega)).trans k0;have f1:=(hb3.block _ (by omega)).trans k1;have f2:=(hb3.block _ (by omega)).trans k2;obtain ⟨⟨a0,_⟩,⟨a1,_⟩,⟨a2,_⟩⟩:=Ay f0;obtain ⟨⟨p0,m0⟩,⟨p1,m1⟩,⟨p2,m2⟩,⟨p3,m3⟩⟩:=A1 f1;obtain ⟨⟨p4,m4⟩,⟨p5,m5⟩,⟨p6,m6⟩⟩:=Ay f2;have hs3:B+1+1<w3.heap.size:=(Array.getElem?_eq_some_iff.1 f2).1;clear hb3)
       go_region_with_o (fail)
       all_goals go_wp2
       all_goals subst hB
       all_goals (first
        | (refine bodyPost_ret (Bd rfl _ _ _ _ _ _ _ rfl (run_loadVar_row _ _ _ _ _ _ _ ((C4 ((A6 (by omega) _ _ _).trans (Bu f1 _ _ _ _)))) Tryz.underlying124 rfl (by kernel_rfl)) rfl (run_loadVar_row _ _ _ _ _ _ _ ((C4 (Bx ((Bg (by omega) _ _ _ _).trans f2) _ _ _))) Tryz.underlying187 rfl (by kernel_rfl))) rfl ⟨rfl,(Bb (Be hB3 (by omega) _ _ _ _) (by omega) _ _ _).drew⟩)
        | (refine bodyPost_ret (Bd rfl _ _ _ _ _ _ _ rfl (run_loadVar_row _ _ _ _ _ _ _ ((C4 (Bu ((A6 (by omega) _ _ _).trans f1) _ _ _ _))) Tryz.underlying124 rfl (by kernel_rfl)) rfl (run_loadVar_row _ _ _ _ _ _ _ ((C4 ((Bg (by omega) _ _ _ _).trans (Bx f2 _ _ _)))) Tryz.underlying187 rfl (by kernel_rfl))) rfl ⟨rfl,(Be (Bb hB3 (by omega) _ _ _) (by omega) _ _ _ _).drew⟩))
      rw [if_neg (by simpa using he),if_pos rfl] at hr
      obtain ⟨q,hq⟩:∃ q,k+1+P19.skip (s.data.toList.drop (k+1))=q:=⟨_,rfl⟩
      rw [hq] at hr
      injection hr with hr1 hr2
      injection hr2 with hr2 hr3
      subst hr1
      subst hr2
      subst hr3
      have je:(e != 0)=false:=by simpa using he
      have jw:IntKind.i64.wrap ((k:Int)+1)=(k:Int)+1:=IntWalk.i64_in _ (by omega)
      have HBA:=Ab (fun W=>Kp n col s (k+1) q ((k:Int)+1) (by omega) W (by omega) hks hc0 hc1 hq)
      clear he hq
      go_wp2_with (go_at_call 169;refine (Aa HRD _).mono ?_;rintro e' w3 ⟨rfl,hb3⟩;have hB3:Below B w w3:=hB2.trans (hb3.mono (by omega));have f0:=(hb3.block _ (by omega)).trans k0;have f1:=(hb3.block _ (by omega)).trans k1;have f2:=(hb3.block _ (by omega)).trans k2;obtain ⟨⟨a0,_⟩,⟨a1,_⟩,⟨a2,_⟩⟩:=Ay f0;obtain ⟨⟨p0,m0⟩,⟨p1,m1⟩,⟨p2,m2⟩,⟨p3,m3⟩⟩:=A1 f1;obtain ⟨⟨p4,m4⟩,⟨p5,m5⟩,⟨p6,m6⟩⟩:=Ay f2;have hs3:B+1+1<w3.heap.size:=(Array.getElem?_eq_some_iff.1 f2).1;clear hb3)
      go_region_with_o (first
       | (have hqq:=hbT;clear hqq;go_at_call 166;refine (Aa HBA _).mono ?_;rintro e' w4 ⟨rfl,hb4⟩;have hbw:Below B w w4:=hbT'.trans (hb4.mono (by have:=hbT'.size;omega));have l1:=(hb4.block _ (Array.getElem?_eq_some_iff.1 fT1).1).trans fT1;have l2:=(hb4.block _ (Array.getElem?_eq_some_iff.1 fT2).1).trans fT2;obtain ⟨⟨b0,d0⟩,⟨b1,d1⟩,⟨b2,d2⟩,⟨b3,d3⟩⟩:=A1 l1;obtain ⟨⟨b4,d4⟩,⟨b5,d5⟩,⟨b6,d6⟩⟩:=Ay l2)
       | (have hqq:=hbB;clear hqq;go_at_call 165;refine (Di _ _ _ _ _ _).mono ?_;rintro e' w4 ⟨rfl,hb4⟩;have hbw:Below B w w4:=hbB'.trans (hb4.mono (by have:=hbB'.size;omega));have l1:=(hb4.block _ (Array.getElem?_eq_some_iff.1 fB1).1).trans fB1;have l2:=(hb4.block _ (Array.getElem?_eq_some_iff.1 fB2).1).trans fB2;obtain ⟨⟨b0,d0⟩,⟨b1,d1⟩,⟨b2,d2⟩,⟨b3,d3⟩⟩:=A1 l1;obtain ⟨⟨b4,d4⟩,⟨b5,d5⟩,⟨b6,d6⟩⟩:=Ay l2)
       | (go_at_call 165;refine (Di _ _ _ _ _ _).mono ?_;rintro e' wT ⟨rfl,hbT⟩;have hbT':Below B w wT:=(hB3.drew).trans (hbT.mono (show B≤w3.heap.size by omega));have fT0:=(hbT.block _ (show B<w3.heap.size by omega)).trans f0;have fT1:=(hbT.block _ (show B+1<w3.heap.size by omega)).trans f1;have fT2:=(hbT.block _ (show B+1+1<w3.heap.size by omega)).trans f2;obtain ⟨⟨u0,_⟩,⟨u1,_⟩,⟨u2,_⟩⟩:=Ay fT0)
       | (go_at_call 166;refine (Aa HBA _).mono ?_;rintro e' wB ⟨rfl,hbB⟩;have hbB':Below B w wB:=(hB3.drew).trans (hbB.mono (show B≤w3.heap.size by omega));have fB0:=(hbB.block _ (show B<w3.heap.size by omega)).trans f0;have fB1:=(hbB.block _ (show B+1<w3.heap.size by omega)).trans f1;have fB2:=(hbB.block _ (show B+1+1<w3.heap.size by omega)).trans f2;obtain ⟨⟨u0,_⟩,⟨u1,_⟩,⟨u2,_⟩⟩:=Ay fB0))
      all_goals go_wp2
      all_goals subst hB
      all_goals (first
       | (refine bodyPost_ret (Bd rfl _ _ _ _ _ _ _ rfl (run_loadVar_row _ _ _ _ _ _ _ (((A6 (by omega) _ _ _).trans (Bu l1 _ _ _ _))) Tryz.underlying124 rfl (by kernel_rfl)) rfl (run_loadVar_row _ _ _ _ _ _ _ ((Bx ((Bg (by omega) _ _ _ _).trans l2) _ _ _)) Tryz.underlying187 rfl (by kernel_rfl))) rfl ⟨rfl,(Bb (Be hbw (by omega) _ _ _ _) (by omega) _ _ _)⟩)
       | (refine bodyPost_ret (Bd rfl _ _ _ _ _ _ _ rfl (run_loadVar_row _ _ _ _ _ _ _ ((Bu ((A6 (by omega) _ _ _).trans l1) _ _ _ _)) Tryz.underlying124 rfl (by kernel_rfl)) rfl (run_loadVar_row _ _ _ _ _ _ _ (((Bg (by omega) _ _ _ _).trans (Bx l2 _ _ _))) Tryz.underlying187 rfl (by kernel_rfl))) rfl ⟨rfl,(Be (Bb hbw (by omega) _ _ _) (by omega) _ _ _ _)⟩))
end Go.Proofs.YtnjokdbblmlhhaaGreatDoor
namespace Go.Proofs.YtnjokdbblmlhhaaGreatDoor
set_option linter.unusedVariables false
set_option linter.unusedSimpArgs false
namespace P19
def steps:Nat→Bool→Int→Int→List UInt8→List (Tk × Int)
 | 0,_,_,_,_=>[]
 | f+1,v,n,col,s=>((next v n col s).1,(next v n col s).2.2) ::
  if (next v n col s).2.2≠0∨(next v n col s).2.1.2.2=[] then [] else steps f ((next v n col s).1.1 == 4) (next v n col s).2.1.1 (next v n col s).2.1.2.1 (next v n col s).2.1.2.2
def gather:List (Tk × Int)→List Tk × Int
 | []=>([],0)
 | (t,e) :: r=>if e≠0 then ([],e) else if (gather r).2≠0 then ([],(gather r).2) else (t :: (gather r).1,0)
theorem O9 (s:List UInt8) (h:(P18.cut s).2≠0):(P18.cut s).2=3:=by
 unfold P18.cut at h ⊢
 repeat' split at h
 all_goals first | (exact absurd rfl h) | skip
 all_goals (repeat' split)
 all_goals first | rfl | simp_all
theorem Io (l:List UInt8):(P18.cut l).1≤l.length:=by
 unfold P18.cut
 split
 ·split
  ·rename_i n h
   have:=P18.cutQ_bd l 0 false n h
   simpa using this.2
  ·simp
 ·split
  ·simp
  ·exact P18.plainLen_le l false
theorem Q4 (n col:Int) (s:List UInt8):(next true n col s).2.2=(B5 n col s).2∧((B5 n col s).2=0→(next true n col s).1=(B5 n col s).1∧(next true n col s).2.1.2.2=[]):=by
 have hs:¬ (signB 45 s && !true)=true:=by simp
 have hk:∀ x,(signB 58 x && !true)=false:=by simp
 have hk2:∀ x,¬ (signB 58 x && !true)=true:=by simp
 by_cases h1:s=[91,93]
 ·rw [next,B5,if_neg hs,if_pos h1,if_pos h1];exact ⟨rfl,fun _=>⟨rfl,rfl⟩⟩
 by_cases h2:s=[123,125]
 ·rw [next,B5,if_neg hs,if_neg h1,if_neg h1,if_pos h2,if_pos h2];exact ⟨rfl,fun _=>⟨rfl,rfl⟩⟩
 by_cases h3:(P18.cut s).2≠0
 ·rw [next,B5,if_neg hs,if_neg h1,if_neg h1,if_neg h2,if_neg h2,if_pos h3,if_pos (.inl h3),O9 s h3]
  exact ⟨rfl,fun h=>by simp at h⟩
 by_cases h4:(P18.cut s).1=s.length
 ·have hd:¬ (s.drop (P18.cut s).1≠[]∧(signB 58 (s.drop (P18.cut s).1) && !true)=false):=by
   rintro ⟨h,_⟩
   exact h (List.drop_eq_nil_of_le (by omega))
  have hv:¬ ((P18.cut s).2≠0∨(P18.cut s).1≠s.length):=by
   rintro (h | h)
   ·exact h3 h
   ·exact h h4
  have ht:s.take (P18.cut s).1=s:=List.take_of_length_le (by omega)
  by_cases h5:(P18.read s).2≠0
  ·have e1:next true n col s=((0,[],0,0),(n,col,s),(P18.read s).2):=by
    rw [next,if_neg hs,if_neg h1,if_neg h2,if_neg h3,if_neg hd,ht,if_pos h5]
   have e2:B5 n col s=((5,(P18.read s).1,n,col),(P18.read s).2):=by
    rw [B5,if_neg h1,if_neg h2,if_neg hv]
   rw [e1,e2]
   exact ⟨rfl,fun h=>absurd h h5⟩
  ·have e1:next true n col s=((5,(P18.read s).1,n,col),(0,0,[]),0):=by
    rw [next,if_neg hs,if_neg h1,if_neg h2,if_neg h3,if_neg hd,ht,if_neg h5,if_neg (hk2 _)]
   have e2:B5 n col s=((5,(P18.read s).1,n,col),(P18.read s).2):=by
    rw [B5,if_neg h1,if_neg h2,if_neg hv]
   have h6:(P18.read s).2=0:=by simpa using h5
   rw [e1,e2,h6]
   exact ⟨rfl,fun _=>⟨rfl,rfl⟩⟩
 ·have hd:s.drop (P18.cut s).1≠[]:=by
   have:=Io s
   rw [ne_eq,List.drop_eq_nil_iff]
   omega
  rw [next,B5,if_neg hs,if_neg h1,if_neg h1,if_neg h2,if_neg h2,if_neg h3,if_pos ⟨hd,hk _⟩,if_pos (.inr h4)]
  exact ⟨rfl,fun h=>by simp at h⟩
theorem Nn (f:Nat) (n col:Int) (s:List UInt8):gather (steps (f+1) true n col s)=if (B5 n col s).2≠0 then ([],(B5 n col s).2) else ([(B5 n col s).1],0):=by
 obtain ⟨h1,h2⟩:=Q4 n col s
 unfold steps gather
 rw [h1]
 by_cases he:(B5 n col s).2≠0
 ·rw [if_pos he,if_pos he]
 ·have he0:(B5 n col s).2=0:=by simpa using he
  obtain ⟨h3,h4⟩:=h2 he0
  rw [if_neg he,if_neg he,if_pos (show (B5 n col s).2≠0∨(next true n col s).2.1.2.2=[] from .inr h4),h3]
  rfl
theorem steps_line:∀ (f:Nat) (n col:Int) (s:List UInt8),s.length<f→gather (steps f false n col s)=line f n col s
 | 0,n,col,s,h=>absurd h (Nat.not_lt_zero _)
 | f+1,n,col,s,h=>by
  have ih:=steps_line f n
  by_cases hs:signB 45 s=true
  ·have hn:next false n col s=((3,[],n,col),(n,col+(1+skip (s.drop 1):Nat),s.drop (1+skip (s.drop 1))),0):=by
    rw [next,if_pos (by rw [hs];rfl)]
   have hd:=He s hs
   rw [steps,gather,line,if_pos hs,hn]
   simp only
   rw [if_neg (by simp)]
   by_cases hk:1+skip (s.drop 1)=s.length
   ·have he:s.drop (1+skip (s.drop 1))=[]:=List.drop_eq_nil_of_le (by omega)
    rw [if_pos hk,if_pos (show (0:Int)≠0∨s.drop (1+skip (s.drop 1))=[] from .inr he)]
    rfl
   ·have he:s.drop (1+skip (s.drop 1))≠[]:=by
     have h1:=skip_le (s.drop 1)
     rw [List.length_drop] at h1
     rw [ne_eq,List.drop_eq_nil_iff]
     have h2:1≤s.length:=by
      cases s with
      | nil=>cases hs
      | cons a r=>simp
     omega
    rw [if_neg hk,if_neg (show ¬ ((0:Int)≠0∨s.drop (1+skip (s.drop 1))=[]) by rw [not_or];exact ⟨by simp,he⟩)]
    rw [show ((3:Nat) == 4)=false from rfl,ih _ _ (by omega)]
  ·have hs2:¬ (signB 45 s && !false)=true:=by simpa using hs
   rw [line,if_neg hs]
   by_cases h1:s=[91,93]
   ·have hn:next false n col s=((6,[],n,col),(0,0,[]),0):=by rw [next,if_neg hs2,if_pos h1]
    rw [steps,gather,hn,if_pos h1]
    rfl
   by_cases h2:s=[123,125]
   ·have hn:next false n col s=((7,[],n,col),(0,0,[]),0):=by rw [next,if_neg hs2,if_neg h1,if_pos h2]
    rw [steps,gather,hn,if_neg h1,if_pos h2]
    rfl
   rw [if_neg h1,if_neg h2]
   by_cases h3:(P18.cut s).2≠0
   ·have hn:next false n col s=((0,[],0,0),(n,col,s),3):=by rw [next,if_neg hs2,if_neg h1,if_neg h2,if_pos h3,O9 s h3];rfl
    rw [steps,gather,hn,if_pos h3]
    rfl
   rw [if_neg h3]
   have hcl:=Io s
   have hkey:(signB 58 (s.drop (P18.cut s).1) && !false)=signB 58 (s.drop (P18.cut s).1):=by simp
   have hdk:s.drop (P18.cut s).1≠[]↔(P18.cut s).1<s.length:=by
    rw [ne_eq,List.drop_eq_nil_iff]
    omega
   by_cases h4:(P18.cut s).1<s.length∧signB 58 (s.drop (P18.cut s).1)=false
   ·have hn:next false n col s=((0,[],0,0),(n,col,s),3):=by rw [next,if_neg hs2,if_neg h1,if_neg h2,if_neg h3,if_pos ⟨hdk.2 h4.1,by rw [hkey];exact h4.2⟩]
    rw [steps,gather,hn,if_pos h4]
    rfl
   rw [if_neg h4]
   have h4':¬ (s.drop (P18.cut s).1≠[]∧(signB 58 (s.drop (P18.cut s).1) && !false)=false):=by
    rw [hkey]
    exact fun x=>h4 ⟨hdk.1 x.1,x.2⟩
   by_cases h5:(P18.read (s.take (P18.cut s).1)).2≠0
   ·have hn:next false n col s=((0,[],0,0),(n,col,s),(P18.read (s.take (P18.cut s).1)).2):=by rw [next,if_neg hs2,if_neg h1,if_neg h2,if_neg h3,if_neg h4',if_pos h5]
    rw [steps,gather,hn,if_pos h5]
    simp only
    rw [if_pos h5]
   rw [if_neg h5]
   by_cases h6:(P18.cut s).1=s.length
   ·have hsg:signB 58 (s.drop (P18.cut s).1)=false:=by
     rw [List.drop_eq_nil_of_le (by omega)]
     rfl
    have hn:next false n col s=((5,(P18.read (s.take (P18.cut s).1)).1,n,col),(0,0,[]),0):=by rw [next,if_neg hs2,if_neg h1,if_neg h2,if_neg h3,if_neg h4',if_neg h5,if_neg (by rw [hkey,hsg];simp)]
    rw [steps,gather,hn,if_pos h6]
    rfl
   ·have hsg:signB 58 (s.drop (P18.cut s).1)=true:=by
     cases hx:signB 58 (s.drop (P18.cut s).1) with
     | true=>rfl
     | false=>exact absurd ⟨by omega,hx⟩ h4
    have hn:next false n col s=((4,(P18.read (s.take (P18.cut s).1)).1,n,col),(n,col+((P18.cut s).1+1+skip (s.drop ((P18.cut s).1+1)):Nat),s.drop ((P18.cut s).1+1+skip (s.drop ((P18.cut s).1+1)))),0):=by
     rw [next,if_neg hs2,if_neg h1,if_neg h2,if_neg h3,if_neg h4',if_neg h5,if_pos (by rw [hkey,hsg])]
    rw [steps,gather,hn,if_neg h6]
    simp only
    rw [if_neg (by simp)]
    have hsk:=skip_le (s.drop ((P18.cut s).1+1))
    rw [List.length_drop] at hsk
    by_cases h7:(P18.cut s).1+1+skip (s.drop ((P18.cut s).1+1))=s.length
    ·have he:s.drop ((P18.cut s).1+1+skip (s.drop ((P18.cut s).1+1)))=[]:=List.drop_eq_nil_of_le (by omega)
     rw [if_pos h7,if_pos (show (0:Int)≠0∨s.drop ((P18.cut s).1+1+skip (s.drop ((P18.cut s).1+1)))=[] from .inr he)]
     rfl
    ·have he:s.drop ((P18.cut s).1+1+skip (s.drop ((P18.cut s).1+1)))≠[]:=by
      rw [ne_eq,List.drop_eq_nil_iff]
      omega
     rw [if_neg h7,if_neg (show ¬ ((0:Int)≠0∨s.drop ((P18.cut s).1+1+skip (s.drop ((P18.cut s).1+1)))=[]) by rw [not_or];exact ⟨by simp,he⟩)]
     obtain ⟨f',rfl⟩:∃ f',f=f'+1:=⟨f - 1,by omega⟩
     rw [show ((4:Nat) == 4)=true from rfl,Nn]
     by_cases h8:(B5 n (col+((P18.cut s).1+1+skip (s.drop ((P18.cut s).1+1)):Nat)) (s.drop ((P18.cut s).1+1+skip (s.drop ((P18.cut s).1+1))))).2≠0
     ·rw [if_pos h8,if_pos h8]
      simp only
      rw [if_pos h8]
     ·rw [if_neg h8,if_neg h8]
      rfl
end P19
end Go.Proofs.YtnjokdbblmlhhaaGreatDoor
namespace Go.Proofs.YtnjokdbblmlhhaaGreatDoor
set_option linter.unusedVariables false
set_option linter.unusedSimpArgs false
namespace P19
def close (n col tc:Int):List Int→List Tk × List Int
 | []=>([],[])
 | x :: st=>if col<x then ((2,[],n,tc) :: (close n col tc st).1,(close n col tc st).2) else ([],x :: st)
def U1 (st:List Int):Int:=st.headD 0
def turn (b:Bool) (k:Nat) (n:Int) (t:Tk) (out:List Tk) (st:List Int):Int × List Tk × List Int:=
 if b=true∧t.2.2.2<U1 st then
  if U1 (close n t.2.2.2 t.2.2.2 st).2≠t.2.2.2 then (3,[],[]) else (0,out ++ (close n t.2.2.2 t.2.2.2 st).1 ++ [t],(close n t.2.2.2 t.2.2.2 st).2)
 else if (b=true∧U1 st<t.2.2.2)∨(b=false∧k=3) then
  if 16≤st.length then (11,[],[]) else (0,out ++ [(1,[],n,t.2.2.2)] ++ [t],t.2.2.2 :: st)
 else (0,out ++ [t],st)
def adds (n:Int):Bool→Nat→List Tk→List Tk→List Int→Int × List Tk × List Int
 | _,_,[],out,st=>(0,out,st)
 | b,k,t :: r,out,st=>if (turn b k n t out st).1≠0 then ((turn b k n t out st).1,[],[]) else adds n false t.1 r (turn b k n t out st).2.1 (turn b k n t out st).2.2
abbrev rowT (r:Nat × Nat × List UInt8):List Tk × Int:=toks r.1 r.2.1 r.2.2
def allR:Bool→List (Nat × Nat × List UInt8)→List Tk→List Int→Int→List Tk × Int × Int
 | _,[],out,st,last=>(out ++ (close last 0 0 st).1,0,0)
 | b,r :: rs,out,st,last=>
  if (rowT r).2≠0 then ([],(rowT r).2,r.1)
  else if b=true∧0<r.2.1 then ([],3,r.1)
  else if (adds r.1 true 0 (rowT r).1 out st).1≠0 then ([],(adds r.1 true 0 (rowT r).1 out st).1,r.1)
  else allR false rs (adds r.1 true 0 (rowT r).1 out st).2.1 (adds r.1 true 0 (rowT r).1 out st).2.2 r.1
def all (s:List UInt8):List Tk × Int × Int:=
 if (Bv s).1≠0 then ([],(Bv s).1,(Bv s).2) else allR true (Dz s) [] [0] 0
def Row (st:List Int):Prop:=∃ l,st=l ++ [0]∧∀ x∈l,0<x
theorem row_zero:Row [0]:=⟨[],rfl,by simp⟩
theorem row_ne {st:List Int} (h:Row st):st≠[]:=by
 obtain ⟨l,rfl,_⟩:=h
 simp
theorem R8 {st:List Int} {x:Int} (h:Row st) (hx:0<x):Row (x :: st):=by
 obtain ⟨l,rfl,hl⟩:=h
 exact ⟨x :: l,rfl,by simpa [hx] using hl⟩
theorem Tm {st:List Int} (h:Row st):0≤U1 st:=by
 obtain ⟨l,rfl,hl⟩:=h
 cases l with
 | nil=>exact Int.le_refl _
 | cons a r=>exact Int.le_of_lt (hl a (by simp))
theorem row_pop {x:Int} {st:List Int} (h:Row (x :: st)) (hx:0<x):Row st:=by
 obtain ⟨l,hl,h2⟩:=h
 cases l with
 | nil=>simp at hl;omega
 | cons a r=>
  simp at hl
  exact ⟨r,hl.2,fun y hy=>h2 y (by simp [hy])⟩
theorem close_row {n col tc:Int} (hc:0≤col):∀ {st:List Int},Row st→Row (close n col tc st).2
 | [],h=>absurd rfl (row_ne h)
 | x :: st,h=>by
  unfold close
  by_cases hx:col<x
  ·rw [if_pos hx]
   exact close_row hc (row_pop h (by omega))
  ·rw [if_neg hx]
   exact h
theorem close_len (n col tc:Int):∀ st:List Int,(close n col tc st).1.length+(close n col tc st).2.length=st.length
 | []=>rfl
 | x :: st=>by
  have ih:=close_len n col tc st
  unfold close
  by_cases hx:col<x
  ·rw [if_pos hx]
   simp only [List.length_cons]
   omega
  ·rw [if_neg hx]
   simp
def LineOk (n col:Int) (k:Nat) (p:List Tk × Int):Prop:=(∀ t∈p.1,t.2.2.1=n∧col≤t.2.2.2∧t.2.2.2≤col+k∧t.1<8)∧(∀ t∈p.1.head?,t.2.2.2=col)∧(∀ t∈p.1.tail,col<t.2.2.2)
theorem line_at:∀ (f:Nat) (n col:Int) (s:List UInt8),LineOk n col s.length (line f n col s)
 | 0,n,col,s=>by simp [line,LineOk]
 | f+1,n,col,s=>by
  have hv:∀ (c:Int) (x:List UInt8),(B5 n c x).2=0→(B5 n c x).1.2.2.1=n∧(B5 n c x).1.2.2.2=c∧(B5 n c x).1.1<8:=by
   intro c x h
   unfold B5 at h ⊢
   split
   ·exact ⟨rfl,rfl,by simp⟩
   ·rename_i h1
    rw [if_neg h1] at h
    split
    ·exact ⟨rfl,rfl,by simp⟩
    ·rename_i h2
     rw [if_neg h2] at h
     split
     ·rename_i h3
      rw [if_pos h3] at h
      simp at h
     ·exact ⟨rfl,rfl,by simp⟩
  unfold line
  by_cases hs:signB 45 s=true
  ·rw [if_pos hs]
   have ih:=line_at f n (col+(1+skip (s.drop 1):Nat)) (s.drop (1+skip (s.drop 1)))
   have hsk:=skip_le (s.drop 1)
   have hlen:1≤s.length:=by
    cases s with
    | nil=>cases hs
    | cons a r=>simp
   rw [List.length_drop] at hsk
   split
   ·simp [LineOk];omega
   ·split
    ·simp [LineOk]
    ·refine ⟨?_,?_,?_⟩
     ·intro t ht
      rcases List.mem_cons.1 ht with rfl | ht
      ·exact ⟨rfl,Int.le_refl _,by simp;omega,by simp⟩
      ·have h1:=ih.1 t ht
       rw [List.length_drop] at h1
       refine ⟨h1.1,by omega,by omega,h1.2.2.2⟩
     ·simp
     ·intro t ht
      have h1:=ih.1 t (by simpa using ht)
      omega
  ·rw [if_neg hs]
   repeat' split
   all_goals try (simp [LineOk];done)
   all_goals try (simp [LineOk];omega)
   rename_i h8
   have hk:=skip_le (s.drop ((P18.cut s).1+1))
   rw [List.length_drop] at hk
   have hcl:=Io s
   have hv2:=hv _ _ (Decidable.not_not.1 h8)
   refine ⟨?_,by simp,?_⟩
   ·intro t ht
    simp only [List.mem_cons,List.not_mem_nil,or_false] at ht
    rcases ht with rfl | rfl
    ·exact ⟨rfl,Int.le_refl _,by simp;omega,by simp⟩
    ·rw [hv2.1,hv2.2.1]
     refine ⟨rfl,by omega,by omega,hv2.2.2⟩
   ·intro t ht
    simp only [List.tail_cons,List.mem_cons,List.not_mem_nil,or_false] at ht
    subst ht
    rw [hv2.2.1]
    omega
theorem toks_len (n col:Int) (s:List UInt8):(toks n col s).1.length≤s.length+1:=by
 have key:∀ (f:Nat) (n col:Int) (s:List UInt8),1≤s.length∨(line f n col s).1.length≤1→(line f n col s).1.length≤s.length+1:=by
  intro f
  induction f with
  | zero=>intro n col s _;simp [line]
  | succ f ih=>
   intro n col s h0
   rcases h0 with h0 | h0
   ·unfold line
    by_cases hs:signB 45 s=true
    ·have h2:=He s hs
     have hsk:=skip_le (s.drop 1)
     rw [List.length_drop] at hsk
     rw [if_pos hs]
     split
     ·simp
     ·rename_i hk
      split
      ·simp
      ·have h1:=ih n (col+(1+skip (s.drop 1):Nat)) (s.drop (1+skip (s.drop 1))) (.inl (by rw [List.length_drop];omega))
       rw [List.length_cons]
       omega
    ·rw [if_neg hs]
     repeat' split
     all_goals simp
     all_goals omega
   ·omega
 unfold toks
 refine key _ _ _ _ ?_
 rcases Nat.eq_zero_or_pos s.length with h | h
 ·right
  obtain rfl:=List.eq_nil_of_length_eq_zero h
  unfold line
  rw [if_neg (by decide),if_neg (by decide),if_neg (by decide)]
  repeat' split
  all_goals try simp
  rename_i h1 h2 h3 h4 h5 h6
  have:=Io []
  exact absurd (by simpa using this) h4
 ·exact .inl h
theorem turn_row {b:Bool} {k:Nat} {n:Int} {t:Tk} {out:List Tk} {st:List Int} (h:Row st) (hc:0≤t.2.2.2) (hk:b=false→0<t.2.2.2) (h0:(turn b k n t out st).1=0) (hl:st.length≤16) :
  Row (turn b k n t out st).2.2∧(turn b k n t out st).2.2.length≤16∧(turn b k n t out st).2.1.length≤out.length+(if b=true then 17 else 2):=by
 have h3:=close_len n t.2.2.2 t.2.2.2 st
 unfold turn at h0 ⊢
 split
 ·rename_i h1
  rw [if_pos h1] at h0
  split
  ·rename_i h2
   rw [if_pos h2] at h0
   simp at h0
  ·have h4:(close n t.2.2.2 t.2.2.2 st).2≠[]:=row_ne (close_row hc h)
   have h5:0<(close n t.2.2.2 t.2.2.2 st).2.length:=List.length_pos_iff.2 h4
   refine ⟨close_row hc h,by simp only;omega,?_⟩
   simp only [List.length_append,List.length_cons,List.length_nil]
   rw [if_pos h1.1]
   omega
 ·rename_i h1
  rw [if_neg h1] at h0
  split
  ·rename_i h2
   rw [if_pos h2] at h0
   split
   ·rename_i h3
    rw [if_pos h3] at h0
    simp at h0
   ·have ht:=Tm h
    refine ⟨R8 h ?_,by simp;omega,?_⟩
    ·rcases h2 with h2 | h2
     ·omega
     ·exact hk h2.1
    ·simp only [List.length_append,List.length_cons,List.length_nil]
     split<;>omega
  ·refine ⟨h,hl,?_⟩
   simp only [List.length_append,List.length_cons,List.length_nil]
   split<;>omega
theorem adds_row {n:Int}:∀ (ts:List Tk) (b:Bool) (k:Nat) (out:List Tk) (st:List Int),Row st→st.length≤16→(∀ t∈ts,0≤t.2.2.2)→(b=false→∀ t∈ts,0<t.2.2.2)→(∀ t∈ts.tail,0<t.2.2.2)→(adds n b k ts out st).1=0 →
  Row (adds n b k ts out st).2.2∧(adds n b k ts out st).2.2.length≤16∧(adds n b k ts out st).2.1.length≤out.length+2 * ts.length+(if b=true then 15 else 0)
 | [],b,k,out,st,h,hl,_,_,_,_=>by
  refine ⟨h,hl,?_⟩
  show out.length≤_
  omega
 | t :: r,b,k,out,st,h,hl,hc,hb,ht,h0=>by
  unfold adds at h0 ⊢
  by_cases h1:(turn b k n t out st).1≠0
  ·rw [if_pos h1] at h0
   exact absurd h0 h1
  ·rw [if_neg h1] at h0 ⊢
   have h2:=turn_row h (hc t (by simp)) (fun e=>hb e t (by simp)) (by simpa using h1) hl
   have ih:=adds_row r false t.1 _ _ h2.1 h2.2.1 (fun x hx=>hc x (by simp [hx])) (fun _ x hx=>ht x (by simpa using hx)) (fun x hx=>ht x (List.mem_of_mem_tail hx)) h0
   refine ⟨ih.1,ih.2.1,?_⟩
   have h3:=h2.2.2
   have h4:=ih.2.2
   simp only [List.length_cons]
   revert h3 h4
   cases b<;>simp<;>omega
def weight (rs:List (Nat × Nat × List UInt8)):Nat:=(rs.map (fun r=>r.2.2.length+1)).sum
theorem Hz:∀ (k:Nat) (ls:List (List UInt8)),weight (Bh k ls)≤(ls.map (fun l=>l.length+1)).sum
 | k,[]=>Nat.le_refl _
 | k,l :: ls=>by
  have ih:=Hz (k+1) ls
  unfold Bh
  unfold weight at ih ⊢
  cases hr:Dv k l with
  | none=>
   simp only [List.map_cons,List.sum_cons]
   omega
  | some r=>
   have h1:r.2.2.length≤l.length:=by
    unfold Dv at hr
    split at hr
    ·cases hr
    ·injection hr with hr
     subst hr
     exact Nat.le_trans (Hr _) (Hv _)
   simp only [List.map_cons,List.sum_cons]
   omega
theorem Md:∀ s:List UInt8,((C7 s).map List.length).sum=s.length
 | []=>rfl
 | c :: r=>by
  have ih:=Md r
  unfold C7
  split
  ·simp [ih];omega
  ·split
   ·rename_i h
    rw [h] at ih
    simp at ih
    simp [List.eq_nil_of_length_eq_zero ih.symm]
   ·rename_i l ls h
    rw [h] at ih
    simp at ih ⊢
    omega
theorem weight_le (s:List UInt8):weight (Dz s)≤2 * s.length:=by
 have h1:=Hz 0 (Bk s)
 have h2:∀ ls:List (List UInt8),((ls.map Ib).map (fun l=>l.length+1)).sum≤(ls.map List.length).sum+ls.length:=by
  intro ls
  induction ls with
  | nil=>exact Nat.le_refl _
  | cons a r ih=>
   have hc:(Ib a).length≤a.length:=by
    unfold Ib
    split
    ·simp
    ·exact Nat.le_refl _
   simp only [List.map_cons,List.sum_cons,List.length_cons] at ih ⊢
   omega
 have h3:=h2 (C7 s)
 have h4:=Ii s
 rw [Md] at h3
 unfold Dz
 unfold Bk at h1 ⊢
 omega
end P19
end Go.Proofs.YtnjokdbblmlhhaaGreatDoor
