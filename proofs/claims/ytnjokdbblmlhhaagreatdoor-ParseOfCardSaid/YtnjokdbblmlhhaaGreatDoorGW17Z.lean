/- Lemmas of this claim. -/
import Derived.Test.YtnjokdbblmlhhaaGreatDoorGAZ
import Derived.Test.YtnjokdbblmlhhaaGreatDoorGPZ
import Derived.Test.YtnjokdbblmlhhaaGreatDoorShelfZ
namespace Go.Proofs.YtnjokdbblmlhhaaGreatDoor
set_option linter.unusedVariables false
set_option linter.unusedSimpArgs false
open Go.RowKit Go.Shelf
attribute [local go_sem] Oper.semAt_some
def K6 (b:Nat) (w:World):Nat:=match w.cell? ⟨b,0,none⟩ with
 | some (.string x)=>x.size
 | _=>0
theorem Gw {b:Nat} {w:World} {x:ByteArray} (h:w.cell? ⟨b,0,none⟩=some (.string x)):K6 b w=x.size:=by unfold K6;rw [h]
def C0 (l:List UInt8):Value:=.string ⟨l.toArray⟩
theorem P3 (x:ByteArray) (q:Nat):C0 (x.data.toList.take q)=.string (x.extract 0 q):=by
 unfold C0;rw [Lib.extract_eq,List.drop_zero,Nat.sub_zero]
theorem R3 (x:ByteArray):C0 x.data.toList=.string x:=rfl
theorem Ou {l:List UInt8} {q:Nat} (h:C5 l=some q):Lib.indexByte l 10=(q:Int)∧q<l.length:=by
 induction l generalizing q with
 | nil=>simp [C5] at h
 | cons c r ih=>
  unfold C5 at h
  rw [List.findIdx?_cons] at h
  by_cases hc:c=10
  ·subst hc
   simp at h
   subst h
   exact ⟨rfl,by simp⟩
  ·simp [hc] at h
   obtain ⟨j,hj,rfl⟩:=h
   obtain ⟨h1,h2⟩:=ih hj
   refine ⟨?_,Nat.succ_lt_succ h2⟩
   unfold Lib.indexByte
   rw [if_neg (by simpa using hc),h1,if_neg (by simp)]
   omega
theorem Nj {l:List UInt8} (h:C5 l=none):Lib.indexByte l 10=-1:=by
 induction l with
 | nil=>rfl
 | cons c r ih=>
  unfold C5 at h
  rw [List.findIdx?_cons] at h
  by_cases hc:c=10
  ·simp [hc] at h
  ·simp [hc] at h
   have h2:C5 r=none:=by unfold C5;simp;exact h
   unfold Lib.indexByte
   rw [if_neg (by simpa using hc),ih h2]
   rfl
theorem Dh (w:World) (b:Nat) (v:Value):w.grownBy (w.setCell ⟨b,0,none⟩ v).drew (some b):=
 ⟨(grownBy_setCell' w b v).os,(grownBy_setCell' w b v).tape,(grownBy_setCell' w b v).output,(grownBy_setCell' w b v).size,(grownBy_setCell' w b v).block⟩
theorem Pf {w:World} {b:Nat} {v:Value} (h:w.cell? ⟨b,0,none⟩=some v):b<w.heap.size:=by
 obtain ⟨o,ho,_⟩:=cells_of_cell h
 exact (Array.getElem?_eq_some_iff.1 ho).1
set_option maxRecDepth 100000 in
set_option maxHeartbeats 2000000 in
theorem Jp (n:Nat) (s:ByteArray) (b:Nat) (T:Nat→Prop) (W:World) (hc:W.cell? ⟨b,0,none⟩=some (.string s)) (hf:W.frozen? ⟨b,0,none⟩=false) (hT:T b) (hs:s.size≤1099511627776)
  (hn:8≤n):Tv Fence.wide n Tryz.prog 155 #[.pointer (some ⟨b,0,none⟩)] (fun l=>#[C0 l]) (C7 s.data.toList) T 0 W:=by
 intro l J Jx hJ hJx hY h0
 have h1:1≤n:=by omega
 refine callsIn_of_wp Tryz.func155 rfl trivial ?_ rfl
 simp only [Tryz.ntmps155,List.size_toArray,List.length_cons,List.length_nil,Nat.reduceAdd,Nat.reduceSub,Array.replicate_succ,Array.replicate_zero,List.push_toArray,List.append_toArray,List.nil_append,List.cons_append]
 gi_wp2
 gi_loopw [] (fun wr=>∃ (i:Nat) (x:ByteArray),wr.cell? ⟨b,0,none⟩=some (.string x)∧wr.frozen? ⟨b,0,none⟩=false∧x.size≤s.size∧W.heap.size≤wr.heap.size∧i≤(C7 s.data.toList).length∧Hid ((C7 s.data.toList).drop i=C7 x.data.toList)∧Hid (J i wr))
  (fun wr=>K6 b wr)
 case atStart=>exact ⟨0,s,hc,hf,Nat.le_refl _,Nat.le_refl _,Nat.zero_le _,Ab rfl,Ab h0⟩
 case round=>
  obtain ⟨i,x,hc,hf,hx,hsz,hil,HR,hJi⟩:=hrel
  by_cases hx0:x.size=0
  ·have e1:x.data.toList=[]:=List.eq_nil_of_length_eq_zero (by rw [← Lib.size_eq];exact hx0)
   gi_wp2
   go_end0
   refine ⟨⟨_,rfl⟩,.inl ?_⟩
   have e2:=Aa HR
   rw [e1,show C7 []=[] from rfl,List.drop_eq_nil_iff] at e2
   rw [show (C7 s.data.toList).length=i from by omega]
   exact Aa hJi
  ·have hx1:(0:Int)<(x.size:Int):=by omega
   have hcl:=Gw hc
   have hbl:=Pf hc
   cases hq:C5 x.data.toList with
   | some q=>
    obtain ⟨hix,hql⟩:=Ou hq
    rw [← Lib.size_eq] at hql
    have hqi:((q:Int)+1)≤(x.size:Int):=by omega
    have hw1:IntKind.i64.wrap ((q:Int)+1)=(q:Int)+1:=IntWalk.i64_in _ (by omega)
    have h0q:(0:Int)≤(q:Int)+1:=by omega
    have hqq:(0:Int)≤(q:Int):=by omega
    have htn:((q:Int)+1).toNat=q+1:=by omega
    have hraw:=Ki _ _ hq
    have hLi:(C7 s.data.toList)[i]?=some (x.data.toList.take (q+1)):=by
     have:=congrArg (fun z=>z[0]?) ((Aa HR).trans hraw)
     simpa using this
    have hil2:i<(C7 s.data.toList).length:=(List.getElem?_eq_some_iff.1 hLi).1
    obtain ⟨fn,tmps,assign,body,hy,hR⟩:=hY i _ _ hLi (hJ i wr _ (some b) (Aa hJi) (Dh wr b (.string (x.extract (q+1) x.size))) (fun r e=>by cases e;exact hT)) (by have:=(Dh wr b (.string (x.extract (q+1) x.size))).size;omega)
    rw [P3] at hy
    have HI:=Ab hix
    have HW:=Ab hraw
    clear hix hraw hLi
    gi_wp2_with (refine ⟨trivial,?_⟩;gi_at_call 156;refine (callsIn_wide.2 (Tryz.strings_IndexByte x 10 _)).mono ?_;rintro e w' ⟨rfl,rfl⟩;rw [show Int.toNat 10=10 from rfl,show (Nat.toUInt8 10)=10 from rfl,Aa HI])
    gi_region
    gi_wp2
    refine hR.mono ?_
    rintro e W3 (⟨rfl,hJ3,hk3⟩ | ⟨rfl,hJx3,_⟩)
    ·have hb3:W3.heap[b]?=(w'.setCell ⟨b,0,none⟩ (.string (x.extract (q+1) x.size))).heap[b]?:=hk3.same b hT (by have:=(grownBy_setCell' w' b (.string (x.extract (q+1) x.size))).size;exact Nat.lt_of_lt_of_le hbl this)
     have hc3:W3.cell? ⟨b,0,none⟩=some (.string (x.extract (q+1) x.size)):=(World.cell?_of_block (a:=⟨b,0,none⟩) hb3).trans (World.cell?_setCell_same' _ _ _ (by rw [hc];rfl))
     have hf3:W3.frozen? ⟨b,0,none⟩=false:=(World.frozen?_of_block (a:=⟨b,0,none⟩) hb3).trans (by rw [World.frozen?_setCell];exact hf)
     have hs3:W.heap.size≤W3.heap.size:=Nat.le_trans hsz (Nat.le_trans (Dh w' b (.string (x.extract (q+1) x.size))).size hk3.size)
     have hz3:(x.extract (q+1) x.size).size=x.size - (q+1):=by simp [ByteArray.size_extract]
     have hcl3:=Gw hc3
     gi_wp2
     go_roundw
     case rel=>
      refine ⟨i+1,_,hc3,hf3,by omega,hs3,hil2,Ab ?_,Ab hJ3⟩
      have:=congrArg (List.drop 1) ((Aa HR).trans (Aa HW))
      rw [List.drop_drop,List.drop_one,List.tail_cons] at this
      rw [this,Lib.extract_data,List.take_of_length_le (by rw [List.length_drop,← Lib.size_eq];omega)]
     case measure=>rw [hcl3,hcl];omega
    ·gi_wp2
     refine bodyPost_ret (results_none rfl _ _ _) rfl ?_
     exact ⟨⟨_,rfl⟩,.inr ⟨i+1,hil2,hJx3⟩⟩
   | none=>
    have hix:=Nj hq
    have hraw:=J0 _ (fun e=>hx0 (by rw [Lib.size_eq,e];rfl)) hq
    have hLi:(C7 s.data.toList)[i]?=some x.data.toList:=by
     have:=congrArg (fun z=>z[0]?) ((Aa HR).trans hraw)
     simpa using this
    have hil2:i<(C7 s.data.toList).length:=(List.getElem?_eq_some_iff.1 hLi).1
    obtain ⟨fn,tmps,assign,body,hy,hR⟩:=hY i _ _ hLi (hJ i wr _ (some b) (Aa hJi) (grownBy_setCell' wr b (.string ⟨#[]⟩)) (fun r e=>by cases e;exact hT)) (by have:=(grownBy_setCell' wr b (.string ⟨#[]⟩)).size;omega)
    rw [R3] at hy
    have HI:=Ab hix
    have HW:=Ab hraw
    clear hix hraw hLi
    gi_wp2_with (refine ⟨trivial,?_⟩;gi_at_call 156;refine (callsIn_wide.2 (Tryz.strings_IndexByte x 10 _)).mono ?_;rintro e w' ⟨rfl,rfl⟩;rw [show Int.toNat 10=10 from rfl,show (Nat.toUInt8 10)=10 from rfl,Aa HI])
    refine hR.mono ?_
    rintro e W3 (⟨rfl,hJ3,hk3⟩ | ⟨rfl,hJx3,_⟩)
    ·have hb3:W3.heap[b]?=(w'.setCell ⟨b,0,none⟩ (.string ⟨#[]⟩)).heap[b]?:=hk3.same b hT (by have:=(grownBy_setCell' w' b (.string ⟨#[]⟩)).size;exact Nat.lt_of_lt_of_le hbl this)
     have hc3:W3.cell? ⟨b,0,none⟩=some (.string ⟨#[]⟩):=(World.cell?_of_block (a:=⟨b,0,none⟩) hb3).trans (World.cell?_setCell_same' _ _ _ (by rw [hc];rfl))
     have hf3:W3.frozen? ⟨b,0,none⟩=false:=(World.frozen?_of_block (a:=⟨b,0,none⟩) hb3).trans (by rw [World.frozen?_setCell];exact hf)
     have hs3:W.heap.size≤W3.heap.size:=Nat.le_trans hsz (Nat.le_trans (grownBy_setCell' w' b (.string ⟨#[]⟩)).size hk3.size)
     have hcl3:=Gw hc3
     have hz3:(⟨#[]⟩:ByteArray).size=0:=rfl
     gi_wp2
     go_roundw
     case rel=>
      refine ⟨i+1,_,hc3,hf3,by omega,hs3,hil2,Ab ?_,Ab hJ3⟩
      have:=congrArg (List.drop 1) ((Aa HR).trans (Aa HW))
      rw [List.drop_drop] at this
      exact this
     case measure=>rw [hcl3,hcl];omega
    ·gi_wp2
     refine bodyPost_ret (results_none rfl _ _ _) rfl ?_
     exact ⟨⟨_,rfl⟩,.inr ⟨i+1,hil2,hJx3⟩⟩
end Go.Proofs.YtnjokdbblmlhhaaGreatDoor
namespace Go.Proofs.YtnjokdbblmlhhaaGreatDoor
set_option linter.unusedVariables false
set_option linter.unusedSimpArgs false
open Go.RowKit Go.Shelf
attribute [local go_sem] Oper.semAt_some
theorem Qq (s:ByteArray) (w:World) :
  Calls Tryz.prog 132 #[.string s] w fun e w'=>e=.returned (.func (.func 155) #[] #[.pointer (some ⟨w.heap.size,0,none⟩)])∧w'=w.alloc (.cells #[.string s] 9):=by
 go_enter Tryz.func132,Tryz.ntmps132
 go_wp2
 go_ret
 exact ⟨rfl,rfl⟩
theorem Kn (s:ByteArray) (w:World) :
  Calls Tryz.prog 99 #[.string s] w fun e w'=>e=.returned (.func (.func 131) #[] #[.pointer (some ⟨w.heap.size,0,none⟩)])∧w'=w.alloc (.cells #[.string s] 9):=by
 go_enter Tryz.func99,Tryz.ntmps99
 go_wp2
 go_ret
 exact ⟨rfl,rfl⟩
def Cz (s:List UInt8):List (Nat × List UInt8):=(C7 s).zipIdx.map (fun x=>(x.2+1,Ib x.1))
def Se (x:Nat × List UInt8):Array Value:=#[.int .i64 x.1,C0 x.2]
theorem Ff (s:List UInt8):(Cz s).length=(C7 s).length:=by simp [Cz]
theorem La {s:List UInt8} {i:Nat} {l:List UInt8} (h:(C7 s)[i]?=some l):(Cz s)[i]?=some (i+1,Ib l):=by
 unfold Cz
 rw [List.getElem?_map,List.getElem?_zipIdx,h]
 simp
theorem Ng {m:Nat} (m' l₂:Nat) {P:Program} {l:Nat} {args:Array Value} {W:World} {R:Ending→World→Prop} (h:YieldAt Fence.wide m P l args W R):YieldAt (Fence.wide.inRound l₂) m' P l args W R:=by
 obtain ⟨fn,tmps,assign,body,hy,hR⟩:=h
 exact ⟨fn,tmps,assign,body,hy,⟨hR.1,fun c cs _=>hR.2 c cs (room_wide _)⟩⟩
theorem Ii:∀ (s:List UInt8),(C7 s).length≤s.length
 | []=>Nat.le_refl _
 | c :: r=>by
  have:=Ii r
  unfold C7
  split
  ·simp;omega
  ·split
   ·simp
   ·rename_i h;rw [h] at this;simp at this ⊢;omega
theorem Ia (l:List UInt8):Lib.trimSuffix l [10]=Ib l:=by
 unfold Lib.trimSuffix Ib Lib.hasSuffix
 by_cases h:l.getLast?=some 10
 ·obtain ⟨ys,rfl⟩:=List.getLast?_eq_some_iff.1 h
  rw [if_pos (by simp),if_pos h]
  simp
 ·rw [if_neg h,if_neg]
  intro h2
  obtain ⟨ys,hy⟩:=List.isSuffixOf_iff_suffix.1 h2
  exact h (by rw [← hy];simp)
theorem Nl (x:List UInt8) (w:World) (hx:x.length≤1099511627776) :
  Calls Tryz.prog 133 #[.string ⟨x.toArray⟩,.string ⟨#[10]⟩] w fun e w'=>e=.returned (.string ⟨(Ib x).toArray⟩)∧w'=w:=by
 have:=Tryz.strings_TrimSuffix ⟨x.toArray⟩ ⟨#[10]⟩ w (by rw [Lib.size_eq];simp;omega)
 rw [show Lib.trimSuffix (⟨x.toArray⟩:ByteArray).data.toList (⟨#[10]⟩:ByteArray).data.toList=Ib x from Ia x] at this
 exact this
theorem Iv:∀ (s l:List UInt8),l∈C7 s→l.length≤s.length
 | [],l,h=>by cases h
 | c :: r,l,h=>by
  have ih:=Iv r
  unfold C7 at h
  split at h
  ·rcases List.mem_cons.1 h with rfl | h
   ·simp
   ·have:=ih l h;simp;omega
  ·split at h
   ·simp at h;subst h;simp
   ·rename_i l1 ls he
    rcases List.mem_cons.1 h with rfl | h
    ·have:=ih l1 (by rw [he];simp);simp;omega
    ·have:=ih l (by rw [he];simp [h]);simp;omega
set_option maxRecDepth 100000 in
set_option maxHeartbeats 2000000 in
theorem Gh (n:Nat) (s:ByteArray) (b:Nat) (T:Nat→Prop) (W:World) (hc:W.cell? ⟨b,0,none⟩=some (.string s)) (hT:∀ r,W.heap.size≤r→r<W.heap.size+5→T r) (hs:s.size≤1099511627776)
  (hn:20≤n):Tv Fence.wide n Tryz.prog 131 #[.pointer (some ⟨b,0,none⟩)] Se (Cz s.data.toList) T 5 W:=by
 intro l J Jx hJ hJx hY h0
 have h1:1≤n:=by omega
 have hbl:=Pf hc
 refine callsIn_of_wp_marks Tryz.func131 rfl trivial ?_ rfl
 simp only [Tryz.ntmps131,List.size_toArray,List.length_cons,List.length_nil,Nat.reduceAdd,Nat.reduceSub,Array.replicate_succ,Array.replicate_zero,List.push_toArray,List.append_toArray,List.nil_append,List.cons_append]
 gi_wp2_with (refine ⟨trivial,?_⟩;gi_at_call 132;refine (callsIn_wide.2 (Qq s _)).mono ?_;rintro e w' ⟨rfl,rfl⟩)
 obtain ⟨W2,hW2⟩:∃ W2,(((W.alloc (.cells #[.func (.yield l) #[] #[]] 174)).alloc (.cells #[.int .i64 0] 3)).alloc (.cells #[.string s] 9))=W2:=⟨_,rfl⟩
 rw [hW2]
 have hsz:W2.heap.size=W.heap.size+3:=by rw [← hW2];simp
 have b0:Boxed W2 W.heap.size 174 (.func (.yield l) #[] #[]):=by rw [← hW2];exact ((Boxed.new _ _ _).alloc _).alloc _
 have b1:Boxed W2 (W.heap.size+1) 3 (.int .i64 0):=by
  rw [← hW2];have:=Boxed.new (W.alloc (.cells #[.func (.yield l) #[] #[]] 174)) 3 (.int .i64 0);rw [World.size_alloc] at this;exact this.alloc _
 have b2:Boxed W2 (W.heap.size+1+1) 9 (.string s):=by
  rw [← hW2];have:=Boxed.new ((W.alloc (.cells #[.func (.yield l) #[] #[]] 174)).alloc (.cells #[.int .i64 0] 3)) 9 (.string s);rw [World.size_alloc,World.size_alloc] at this;exact this
 have hJ2:J 0 W2:=by rw [← hW2];exact hJ.alloc _ (hJ.alloc _ (hJ.alloc _ h0))
 clear hW2
 refine Dy rfl h1 (gf:=155) (lb:=#[.pointer (some ⟨W.heap.size+1+1,0,none⟩)]) rfl trivial (enters_of Tryz.func155 (by kernel_rfl) rfl)
  (encs:=fun l=>#[C0 l]) (C7 s.data.toList) (fun r=>r=W.heap.size+1+1) 0 (fun r hr=>by omega)
  (fun V hg hV=>Jp (n - 1) s _ _ V (b2.kept hg (by simp)).cell (b2.kept hg (by simp)).frozen (.inl rfl) hs (by omega)) (fun _=>rfl)
  (fun i V=>Hid (J i V)∧Boxed V W.heap.size 174 (.func (.yield l) #[] #[])∧Boxed V (W.heap.size+1) 3 (.int .i64 i))
  (fun c i V=>c=.ret∧Hid (Jx i V))
  (fun i V V' row h hg hr=>⟨Ab (hJ i V V' row (Aa h.1) hg (fun r e=>by rcases hr r e with h3 | h3<;>exact hT r (by omega) (by omega))),h.2.1.kept hg (fun e=>by rcases hr _ e.symm with h3 | h3<;>omega),h.2.2.kept hg (fun e=>by rcases hr _ e.symm with h3 | h3<;>omega)⟩)
  (fun c i V V' row h hg hr=>⟨h.1,Ab (hJx i V V' row (Aa h.2) hg (fun r e=>by rcases hr r e with h3 | h3<;>exact hT r (by omega) (by omega)))⟩)
  ⟨Ab hJ2,b0,b1⟩
  (fun x=>{ tmps:=#[.func (.yield l) #[] #[],.pointer (some ⟨b,0,none⟩),.pointer (some ⟨W.heap.size,0,none⟩),.pointer (some ⟨W.heap.size+1,0,none⟩),C0 x,.string s,
   .func (.func 155) #[] #[.pointer (some ⟨W.heap.size+1+1,0,none⟩)],C0 x,undef,undef,undef,undef,undef,undef,undef,undef],defers:=[] }) ?assign ?body ?done ?stop
 case assign=>
  intro l2 x V K hK
  unfold C0 at hK ⊢
  gi_wp2
  exact hK
 case body=>
  rintro l2 i x V hx ⟨hJi,hb1,hb2⟩ hV
  have hil:i<(C7 s.data.toList).length:=(List.getElem?_eq_some_iff.1 hx).1
  have hle:=Ii s.data.toList
  have hxs:x.length≤1099511627776:=Nat.le_trans (Iv _ _ (List.mem_of_getElem? hx)) (by rw [← Lib.size_eq];exact hs)
  rw [← Lib.size_eq] at hle
  have hw1:IntKind.i64.wrap ((i:Int)+1)=(i:Int)+1:=IntWalk.i64_in _ (by omega)
  have c1:=hb1.cell
  have c2:=hb2.cell
  have f2:=hb2.frozen
  unfold C0
  have hn2:1≤n - 1 - 1:=by omega
  gi_wp2
  obtain ⟨V1,hV1⟩:∃ V1,V.setCell ⟨W.heap.size+1,0,none⟩ (.int .i64 ((i:Int)+1))=V1:=⟨_,rfl⟩
  rw [hV1]
  have hg1:V.grownBy V1 (some (W.heap.size+1)):=by rw [← hV1];exact grownBy_setCell' _ _ _
  have hb2':Boxed V1 (W.heap.size+1) 3 (.int .i64 ((i:Int)+1)):=by rw [← hV1];exact hb2.set _
  have hb1':Boxed V1 W.heap.size 174 (.func (.yield l) #[] #[]):=hb1.kept hg1 (by simp)
  have d1:=hb1'.cell
  have d2:=hb2'.cell
  clear c1 c2 f2 hV1
  have hgr:V.grownBy V1.drew (some (W.heap.size+1)):=⟨hg1.os,hg1.tape,hg1.output,hg1.size,hg1.block⟩
  have hJd:J i V1.drew:=hJ i V V1.drew _ (Aa hJi) hgr (fun r e=>by cases e;exact hT _ (by omega) (by omega))
  have hYa:=Ng (n - 1 - 1 - 1) l2 ((hY i _ _ (La hx) hJd (by have:=hgr.size;omega)).mono
   (R':=fun e W'=>∃ bb,e=.returned (.bool bb)∧Hid ((bb=true∧J (i+1) W'∧Bo T V1.drew W')∨(bb=false∧Jx (i+1) W'∧Bo T V1.drew W'))) (by
    rintro e W' (⟨rfl,h⟩ | ⟨rfl,h⟩)
    ·exact ⟨true,rfl,Ab (.inl ⟨rfl,h⟩)⟩
    ·exact ⟨false,rfl,Ab (.inr ⟨rfl,h⟩)⟩))
  clear hJd hx
  obtain ⟨fn,tmps,assign,body,hy,hR⟩:=hYa
  replace hy:(Instr.yield l #[.int .i64 ((i:Int)+1),.string ⟨(Ib x).toArray⟩]).run Tryz.prog V1.drew=.ok (.round l fn tmps assign body) V1.drew:=hy
  have hmx:Tryz.prog.follows .mixedOrders=true:=by kernel_rfl
  gi_region_with_o (first
   | (refine ⟨trivial,?_⟩;gi_at_call 133;refine (CallsIn.inRound l2 (callsIn_wide.2 (Nl x _ hxs))).mono ?_;rintro e w' ⟨rfl,rfl⟩)
   | (refine hR.mono ?_;rintro e w' ⟨bb,rfl,HB⟩))
  all_goals (
   have hkV:Bo T V1.drew w':=(Aa HB).elim (fun h=>h.2.2) (fun h=>h.2.2)
   have hsub:∀ r,Ge (fun r=>r=W.heap.size+1+1) (W.heap.size+3) (W.heap.size+5) r→T r:=fun r hr=>by rcases hr with hr | hr<;>exact hT r (by omega) (by omega)
   have hkS:Bo (Ge (fun r=>r=W.heap.size+1+1) (W.heap.size+3) (W.heap.size+5)) V w':=
    (Bo.of_grownBy hgr (fun r e hr=>by cases e;rcases hr with hr | hr<;>omega)).trans (hkV.mono hsub)
   cases bb
   ·gi_wp2
    refine ⟨hkS,rfl,?_⟩
    rcases Aa HB with h | h
    ·cases h.1
    ·exact Ab h.2.1
   ·gi_wp2
    refine ⟨hkS,?_,?_,?_⟩
    ·rcases Aa HB with h | h
     ·exact Ab h.2.1
     ·cases h.1
    ·exact (hkV.same _ (hT _ (by omega) (by omega)) hb1'.lt).trans hb1'
    ·exact (hkV.same _ (hT _ (by omega) (by omega)) hb2'.lt).trans hb2')
 case done=>
  rintro D V rfl ⟨hJd,hb1,hb2⟩ hK
  gi_wp2
  refine ⟨by simp,.inl ⟨_,_,rfl,run_takeDeferred hK,?_⟩⟩
  refine ⟨_,results_none rfl _ _ _,⟨_,rfl⟩,.inl ?_⟩
  rw [Ff]
  exact hJ.putObj _ (Aa hJd) (hT _ (by omega) (by omega))
 case stop=>
  rintro D c i V rfl hi ⟨rfl,hJx1⟩ hK
  gi_wp2
  refine ⟨by simp,.inl ⟨_,_,rfl,run_takeDeferred hK,?_⟩⟩
  refine ⟨_,results_none rfl _ _ _,⟨_,rfl⟩,.inr ⟨i,by rw [Ff];exact hi,?_⟩⟩
  exact hJx.putObj _ (Aa hJx1) (hT _ (by omega) (by omega))
end Go.Proofs.YtnjokdbblmlhhaaGreatDoor
namespace Go.Proofs.YtnjokdbblmlhhaaGreatDoor
set_option linter.unusedVariables false
set_option linter.unusedSimpArgs false
open Go.RowKit Go.Shelf
attribute [local go_sem] Oper.semAt_some
theorem Fj {w V:World} (h:Below w.heap.size w V) (o:Obj) {D:Nat} (hD:w.heap.size≤D):Below w.heap.size w (V.putObj D o):=
 h.grown (grownBy_putObj' V D o) h.size (fun k e=>by cases e;exact hD)
theorem Oj {w V:World} (h:Below w.heap.size w V) (v:Value) {D:Nat} (hD:w.heap.size≤D):Below w.heap.size w (V.setCell ⟨D,0,none⟩ v):=
 h.grown (grownBy_setCell' V D v) h.size (fun k e=>by cases e;exact hD)
end Go.Proofs.YtnjokdbblmlhhaaGreatDoor
