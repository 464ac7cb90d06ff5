/- Lemmas of this claim. -/
import Derived.Test.YtnjokdbblmlhhaaGreatDoorGPZ
import Derived.Test.YtnjokdbblmlhhaaGreatDoorGR17Z
import Derived.Test.YtnjokdbblmlhhaaGreatDoorGAZ
import Derived.Test.YtnjokdbblmlhhaaGreatDoorGR18Z
import Derived.Test.YtnjokdbblmlhhaaGreatDoorGW03Z
import Derived.StillTailTactics
import Derived.Test.YtnjokdbblmlhhaaGreatDoorShelfZ
import Derived.Test.YtnjokdbblmlhhaaGreatDoorGV17Z
namespace Go.Proofs.YtnjokdbblmlhhaaGreatDoor
set_option linter.unusedVariables false
set_option linter.unusedSimpArgs false
open Go.RowKit
def Ug (t:Tk):Value:=.agg #[.int .u8 t.1,C0 t.2.1,.int .i64 t.2.2.1,.int .i64 t.2.2.2]
def Df (t:Tk):List Value:=[.int .u8 t.1,C0 t.2.1,.int .i64 t.2.2.1,.int .i64 t.2.2.2]
theorem Bu {W:World} {g:Nat} {t:TypeId} {a b c d:Value} (h:W.heap[g]?=some (.cells #[a,b,c,d] t)) (v0 v1 v2 v3:Value) :
  ((((W.setCell ⟨g,0,none⟩ v0).setCell ⟨g,1,none⟩ v1).setCell ⟨g,2,none⟩ v2).setCell ⟨g,3,none⟩ v3).heap[g]?=some (.cells #[v0,v1,v2,v3] t):=by
 simp [World.setCell,Array.getElem?_modify,h]
theorem A1 {W:World} {g:Nat} {t:TypeId} {a b c d:Value} (h:W.heap[g]?=some (.cells #[a,b,c,d] t)) :
  (W.cell? ⟨g,0,none⟩=some a∧W.frozen? ⟨g,0,none⟩=false)∧(W.cell? ⟨g,1,none⟩=some b∧W.frozen? ⟨g,1,none⟩=false)∧(W.cell? ⟨g,2,none⟩=some c∧W.frozen? ⟨g,2,none⟩=false)∧(W.cell? ⟨g,3,none⟩=some d∧W.frozen? ⟨g,3,none⟩=false):=by
 simp [World.cell?,World.frozen?,h]
def A5 (ts:List Tk):List Value:=ts.flatMap Df
theorem Ec (a b:List Tk):A5 (a ++ b)=A5 a ++ A5 b:=by simp [A5]
def Fc (W:World) (B:Nat) (v:Value) (ts:List Tk):Prop:=W.ownsRow B 124 4 v ts.length (A5 ts)
theorem Lk:(Tryz.prog.info? 124).map (fun i=>(i.zero,i.size,i.bytes))=some (some (.agg #[.int .u8 0,.string ⟨#[]⟩,.int .i64 0,.int .i64 0]),4,40):=by kernel_rfl
theorem Rr:∀ (ts:List Tk),∀ u∈A5 ts,u.oneCell'=true:=by
 intro ts u hu
 simp only [A5,List.mem_flatMap] at hu
 obtain ⟨t,_,ht⟩:=hu
 simp only [Df,List.mem_cons,List.not_mem_nil,or_false] at ht
 rcases ht with rfl | rfl | rfl | rfl<;>rfl
end Go.Proofs.YtnjokdbblmlhhaaGreatDoor
namespace Go.Proofs.YtnjokdbblmlhhaaGreatDoor
set_option linter.unusedVariables false
set_option linter.unusedSimpArgs false
open Go.RowKit
set_option maxRecDepth 100000 in
set_option maxHeartbeats 800000 in
theorem Oq (k:Nat) (t:ByteArray) (n col:Int) (w:World) :
  Calls Tryz.prog 72 #[.int .u8 k,.string t,.int .i64 n,.int .i64 col] w fun e w'=>e=.returned (.agg #[.int .u8 k,.string t,.int .i64 n,.int .i64 col])∧Below w.heap.size w w':=by
 go_enter Tryz.func72,Tryz.ntmps72
 go_wp2
 refine bodyPost_ret (results_cell_row rfl _ _ _ _ _ _ _ rfl (World.alloc_heap_new w (.cells #[.int .u8 k,.string t,.int .i64 n,.int .i64 col] 124)) Tryz.underlying124 rfl (by kernel_rfl)) rfl ⟨rfl,?_⟩
 exact (Below.refl _ w).alloc (Nat.le_refl _) _
theorem Nt (s:ByteArray) (l:List UInt8):(s.toList == l)=decide (s.data.toList=l):=by
 rw [Lib.toList_data]
 by_cases h:s.data.toList=l
 ·rw [h];simp
 ·rw [decide_eq_false h];simpa using h
theorem K5 {s:ByteArray} {l:List UInt8} (h:s.data.toList=l):s=⟨l.toArray⟩:=P18.bytes_ext h
theorem Sh {s:ByteArray} {l:List UInt8} (h:s.data.toList≠l):(s.toList == l)=false:=by rw [Nt,decide_eq_false h]
theorem Pp {s:ByteArray} {l:List UInt8} (h:s.data.toList≠l):(s.toList == (⟨l.toArray⟩:ByteArray).toList)=false:=by
 rw [Lib.toList_data,Lib.toList_data,beq_eq_false_iff_ne]
 simpa using h
theorem D4 {fn:Func} {p u:Tmp} {ty:TypeId} (h:fn.results=#[.cell p ty,.tmp u]) (tmps:Array Value) (P:Program) (w:World) (g:Nat) (v:Value)
  (hp:tmps.getD p undef=.pointer (some ⟨g,0,none⟩)) (hl:(loadVar ty ⟨g,0,none⟩).run P w=.ok v w) :
  (results fn tmps).run P w=.ok (.tuple #[v,tmps.getD u undef]) w:=by
 have hp':tmps[p]?.getD undef=.pointer (some ⟨g,0,none⟩):=by simpa using hp
 simp [results,h,hp',asAddr,Sem.run_bind,Result.andThen,hl]
theorem Be {w W:World} {g:Nat} (h:Below w.heap.size w W) (hg:w.heap.size≤g) (v0 v1 v2 v3:Value):Below w.heap.size w ((((W.setCell ⟨g,0,none⟩ v0).setCell ⟨g,1,none⟩ v1).setCell ⟨g,2,none⟩ v2).setCell ⟨g,3,none⟩ v3):=
 Bq (Bq (Bq (Bq h 0 _ hg) 1 _ hg) 2 _ hg) 3 _ hg
set_option maxRecDepth 100000 in
set_option maxHeartbeats 1600000 in
theorem Sx (s:ByteArray) (k:Nat) (n col:Int) (w:World) (h:s=⟨#[91,93]⟩∧k=6∨s=⟨#[123,125]⟩∧k=7) :
  Calls Tryz.prog 115 #[.string s,.int .i64 n,.int .i64 col] w fun e w'=>e=.returned (.tuple #[.agg #[.int .u8 k,.string ⟨#[]⟩,.int .i64 n,.int .i64 col],.int .i64 0])∧Below w.heap.size w w':=by
 rcases h with ⟨rfl,rfl⟩ | ⟨rfl,rfl⟩
 all_goals
  go_enter Tryz.func115,Tryz.ntmps115
  go_wp2_with (go_at_call 72;refine (Oq _ _ _ _ _).mono ?_;rintro e w' ⟨rfl,hb⟩;have hbx:w'.heap[w.heap.size]?=some (.cells #[.int .u8 0,.string ⟨#[]⟩,.int .i64 0,.int .i64 0] 124):=(hb.block _ (by simp)).trans (World.alloc_heap_new w _);have hbw:Below w.heap.size w w':=((Below.refl _ w).alloc (Nat.le_refl _) _).trans (hb.mono (by simp));obtain ⟨⟨x0,y0⟩,⟨x1,y1⟩,⟨x2,y2⟩,⟨x3,y3⟩⟩:=A1 hbx)
  refine bodyPost_ret (D4 rfl _ _ _ _ _ rfl (run_loadVar_row _ _ _ _ _ _ _ (Bu hbx _ _ _ _) Tryz.underlying124 rfl (by kernel_rfl))) rfl ⟨rfl,?_⟩
  exact Be hbw (Nat.le_refl _) _ _ _ _
end Go.Proofs.YtnjokdbblmlhhaaGreatDoor
namespace Go.Proofs.YtnjokdbblmlhhaaGreatDoor
set_option linter.unusedVariables false
set_option linter.unusedSimpArgs false
open Go.RowKit Go.Shelf
theorem E7 (s:ByteArray) (k:Nat):(s.extract k s.size).data.toList=s.data.toList.drop k:=by
 rw [Lib.extract_data,List.take_of_length_le (by rw [List.length_drop,← Lib.size_eq];exact Nat.le_refl _)]
theorem Cy (w:World) (o1 o2:Obj):((w.alloc o1).alloc o2).heap[w.heap.size+1]?=some o2:=by
 have h:=World.alloc_heap_new (w.alloc o1) o2
 rw [World.size_alloc] at h
 exact h
theorem D5 (a c:UInt8) (r:List UInt8):Lib.hasPrefix (a :: r) [c]=(a == c):=by
 show (List.isPrefixOf [c] (a :: r))=_
 simp only [List.isPrefixOf,Bool.and_true]
 by_cases h:a=c
 ·subst h;simp
 ·rw [beq_eq_false_iff_ne.2 h,beq_eq_false_iff_ne.2 (fun e=>h e.symm)]
theorem Jh (c:UInt8) (r:List UInt8):Lib.trimPrefix (c :: r) [c]=r:=by
 unfold Lib.trimPrefix
 rw [D5]
 simp
theorem Ju {l:List UInt8} {c:UInt8} (h:Lib.hasPrefix l [c]=false):Lib.trimPrefix l [c]=l:=by
 unfold Lib.trimPrefix
 rw [h]
 simp
set_option maxRecDepth 100000 in
set_option maxHeartbeats 800000 in
theorem Di (n col:Int) (s t:ByteArray) (k:Nat) (w:World) :
  Calls Tryz.prog 165 #[.agg #[.int .i64 n,.int .i64 col,.string s],.int .u8 k,.string t] w fun e w'=>e=.returned (.agg #[.int .u8 k,.string t,.int .i64 n,.int .i64 col])∧Below w.heap.size w w':=by
 go_enter Tryz.func165,Tryz.ntmps165
 go_wp2
 have h0:=World.alloc_heap_new (w.alloc (.cells #[.int .i64 n,.int .i64 col,.string s] 187)) (.cells #[.int .u8 k,.string t,.int .i64 n,.int .i64 col] 124)
 rw [World.size_alloc] at h0
 refine bodyPost_ret (results_cell_row rfl _ _ _ _ _ _ _ rfl h0 Tryz.underlying124 rfl (by kernel_rfl)) rfl ⟨rfl,?_⟩
 exact ((Below.refl _ w).alloc (Nat.le_refl _) _).alloc (by simp) _
set_option maxRecDepth 100000 in
set_option maxHeartbeats 800000 in
theorem L2 (s:ByteArray) (c:UInt8) (w:World) (h:s.size≤1100000) :
  Calls Tryz.prog 164 #[.string s,.string ⟨#[c]⟩] w fun e w'=>e=.returned (.bool (P19.signB c s.data.toList))∧w'=w:=by
 have hcp:=Tryz.strings_CutPrefix s ⟨#[c]⟩ w
 have hx:(⟨#[c]⟩:ByteArray).data.toList=[c]:=rfl
 rw [hx] at hcp
 clear hx
 cases hp:Lib.hasPrefix s.data.toList [c] with
 | false=>
  have hs:P19.signB c s.data.toList=false:=by
   cases hl:s.data.toList with
   | nil=>rfl
   | cons a r=>
    rw [hl,D5] at hp
    simp [P19.signB,hp]
  rw [hs]
  rw [hp,Ju hp] at hcp
  have HCP:=Ab hcp
  clear hcp hs hp
  go_enter Tryz.func164,Tryz.ntmps164
  go_wp2_with (go_at_call 180;refine (Aa HCP).mono ?_;rintro e w' ⟨rfl,hw⟩;rw [hw];clear hw)
  go_ret
  exact ⟨rfl,rfl⟩
 | true=>
  obtain ⟨r,hl⟩:∃ r,s.data.toList=c :: r:=by
   cases hl:s.data.toList with
   | nil=>rw [hl] at hp;cases hp
   | cons a r=>
    rw [hl,D5] at hp
    exact ⟨r,by rw [show a=c from by simpa using hp]⟩
  rw [hp,hl,Jh] at hcp
  rw [hl]
  cases r with
  | nil=>
   rw [show P19.signB c [c]=true from by simp [P19.signB]]
   have HCP:=Ab hcp
   clear hcp hp hl
   go_enter Tryz.func164,Tryz.ntmps164
   go_wp2_with (go_at_call 180;refine (Aa HCP).mono ?_;rintro e w' ⟨rfl,hw⟩;rw [hw];clear hw)
   go_ret
   exact ⟨rfl,rfl⟩
  | cons b r=>
   rw [show P19.signB c (c :: b :: r)=(b == 32) from by simp [P19.signB]]
   have hhp:=Tryz.strings_HasPrefix ⟨(b :: r).toArray⟩ ⟨#[32]⟩ w
   have hx:Lib.hasPrefix (⟨(b :: r).toArray⟩:ByteArray).data.toList (⟨#[32]⟩:ByteArray).data.toList=(b == 32):=D5 b 32 r
   rw [hx] at hhp
   have HHP:=Ab hhp
   have hne:(⟨(b :: r).toArray⟩:ByteArray).toList.isEmpty=false:=by rw [Lib.toList_data];rfl
   obtain ⟨lb,hlb⟩:∃ lb:ByteArray,(⟨(b :: r).toArray⟩:ByteArray)=lb:=⟨_,rfl⟩
   rw [hlb] at hcp HHP hne
   have HCP:=Ab hcp
   clear hcp hp hl hhp hx hlb
   go_enter Tryz.func164,Tryz.ntmps164
   go_wp2_with (first
    | (go_at_call 180;refine (Aa HCP).mono ?_;rintro e w' ⟨rfl,hw⟩;rw [hw];clear hw)
    | (go_at_call 149;refine (Aa HHP).mono ?_;rintro e w' ⟨rfl,hw⟩;rw [hw];clear hw))
   go_ret
   exact ⟨rfl,rfl⟩
theorem Om (s:ByteArray) (k:Nat):Fo (s.data.toList.drop k)=s.data.toList.drop (k+P19.skip (s.data.toList.drop k)):=by
 rw [← P19.skip_drop,List.drop_drop]
set_option maxRecDepth 100000 in
set_option maxHeartbeats 800000 in
theorem Mr (n col:Int) (s:ByteArray) (k:Nat) (w:World) (hs:s.size≤1100000) (hk:k≤s.size) (hc0:0≤col) (hc1:col≤1000000000) :
  Calls Tryz.prog 166 #[.agg #[.int .i64 n,.int .i64 col,.string s],.int .i64 k] w fun e w'=>∃ b:ByteArray,e=.returned (.agg #[.int .i64 n,.int .i64 (col+(k+P19.skip (s.data.toList.drop k):Nat)),.string b])∧b.data.toList=s.data.toList.drop (k+P19.skip (s.data.toList.drop k))∧Below w.heap.size w w':=by
 obtain ⟨q,hq⟩:∃ q,P19.skip (s.data.toList.drop k)=q:=⟨_,rfl⟩
 have hql:k+q≤s.size:=by
  have h1:=P19.skip_le (s.data.toList.drop k)
  rw [hq,List.length_drop,← Lib.size_eq] at h1
  omega
 have htr:=Iw (s.extract k s.size)
 rw [E7,Om,hq] at htr
 rw [hq]
 have HTR:=Ab htr
 have hk':(k:Int)≤(s.size:Int):=by omega
 clear htr hq
 go_enter Tryz.func166,Tryz.ntmps166
 go_wp2_with (go_at_call 101;refine (Aa HTR _).mono ?_;rintro e w1 ⟨o,rfl,HO,hw⟩;rw [hw];clear hw;have hos:o.size=s.size - (k+q):=(by rw [Lib.size_eq,Aa HO,List.length_drop,← Lib.size_eq]);have hz:IntKind.i64.wrap (IntKind.i64.wrap (col+(s.size:Int)) - (o.size:Int))=col+((k+q:Nat):Int):=(by rw [IntWalk.i64_in (col+(s.size:Int)) (by omega),IntWalk.i64_in _ (by omega)];omega))
 have hzz:col+(s.size:Int) - ((s.size - (k+q):Nat):Int)=col+((k+q:Nat):Int):=by omega
 have h0:=World.alloc_heap_new (w.alloc (.cells #[.int .i64 n,.int .i64 col,.string s] 187)) (.cells #[.int .i64 n,.int .i64 (col+(s.size:Int) - ((s.size - (k+q):Nat):Int)),.string o] 187)
 rw [World.size_alloc] at h0
 refine bodyPost_ret (results_cell_row rfl _ _ _ _ _ _ _ rfl h0 Tryz.underlying187 rfl (by kernel_rfl)) rfl ⟨o,?_,Aa HO,?_⟩
 ·rw [hzz]
 ·exact ((Below.refl _ w).alloc (Nat.le_refl _) _).alloc (by simp) _
set_option maxRecDepth 100000 in
set_option maxHeartbeats 1600000 in
theorem Rv (n col:Int) (s:ByteArray) (k:Nat) (w:World) (h:s=⟨#[91,93]⟩∧k=6∨s=⟨#[123,125]⟩∧k=7) :
  Calls Tryz.prog 167 #[.agg #[.int .i64 n,.int .i64 col,.string s]] w fun e w'=>e=.returned (.tuple #[.agg #[.int .u8 k,.string ⟨#[]⟩,.int .i64 n,.int .i64 col],.bool true])∧Below w.heap.size w w':=by
 rcases h with ⟨rfl,rfl⟩ | ⟨rfl,rfl⟩
 all_goals
  go_enter Tryz.func167,Tryz.ntmps167
  go_wp2_with (go_at_call 165;refine (Di _ _ _ _ _ _).mono ?_;rintro e w' ⟨rfl,hb⟩;have hbx:w'.heap[w.heap.size+1]?=some (.cells #[.int .u8 0,.string ⟨#[]⟩,.int .i64 0,.int .i64 0] 124):=(hb.block _ (by simp)).trans (Cy _ _ _);have hbw:Below w.heap.size w w':=(((Below.refl _ w).alloc (Nat.le_refl _) _).alloc (by simp) _).trans (hb.mono (by simp;omega));obtain ⟨⟨x0,y0⟩,⟨x1,y1⟩,⟨x2,y2⟩,⟨x3,y3⟩⟩:=A1 hbx)
  refine bodyPost_ret (D4 rfl _ _ _ _ _ rfl (run_loadVar_row _ _ _ _ _ _ _ (Bu hbx _ _ _ _) Tryz.underlying124 rfl (by kernel_rfl))) rfl ⟨rfl,?_⟩
  exact Be hbw (by omega) _ _ _ _
set_option maxRecDepth 100000 in
set_option maxHeartbeats 1600000 in
theorem Ta (n col:Int) (s:ByteArray) (w:World) (h1:s.data.toList≠[91,93]) (h2:s.data.toList≠[123,125]) :
  Calls Tryz.prog 167 #[.agg #[.int .i64 n,.int .i64 col,.string s]] w fun e w'=>e=.returned (.tuple #[.agg #[.int .u8 0,.string ⟨#[]⟩,.int .i64 0,.int .i64 0],.bool false])∧Below w.heap.size w w':=by
 have n1:=Pp h1
 have n2:=Pp h2
 have n3:=Sh h1
 have n4:=Sh h2
 clear h1 h2
 go_enter Tryz.func167,Tryz.ntmps167
 go_wp2
 refine bodyPost_ret (D4 rfl _ _ _ _ _ rfl (run_loadVar_row _ _ _ _ _ _ _ (Cy w (.cells #[.int .i64 n,.int .i64 col,.string s] 187) (.cells #[.int .u8 0,.string ⟨#[]⟩,.int .i64 0,.int .i64 0] 124)) Tryz.underlying124 rfl (by kernel_rfl))) rfl ⟨rfl,?_⟩
 exact ((Below.refl _ w).alloc (Nat.le_refl _) _).alloc (by simp) _
end Go.Proofs.YtnjokdbblmlhhaaGreatDoor
