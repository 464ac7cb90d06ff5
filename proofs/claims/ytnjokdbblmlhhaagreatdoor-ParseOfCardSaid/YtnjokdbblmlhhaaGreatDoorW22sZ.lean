/- Lemmas of this claim. -/
import Derived.Test.YtnjokdbblmlhhaaGreatDoorW22aZ
import Derived.Test.YtnjokdbblmlhhaaGreatDoorElZ
namespace Go.Proofs.YtnjokdbblmlhhaaGreatDoor
set_option linter.unusedVariables false
set_option linter.unusedSimpArgs false
open Go.RowKit
theorem Cf:∀ (os:List Obj) (w:World),Below w.heap.size w (os.foldl World.alloc w)∧(os.foldl World.alloc w).heap.size=w.heap.size+os.length∧∀ i o,os[i]?=some o→(os.foldl World.alloc w).heap[w.heap.size+i]?=some o
 | [],w=>⟨Below.refl _ w,rfl,fun i o h=>by simp at h⟩
 | x :: xs,w=>by
  obtain ⟨h1,h2,h3⟩:=Cf xs (w.alloc x)
  have hz:(w.alloc x).heap.size=w.heap.size+1:=World.size_alloc _ _
  rw [hz] at h1 h2 h3
  refine ⟨((Below.refl _ w).alloc (Nat.le_refl _) x).trans (h1.mono (by omega)),by rw [List.foldl_cons,h2,List.length_cons];omega,fun i o h=>?_⟩
  rw [List.foldl_cons]
  match i,h with
  | 0,h=>
   simp at h
   subst h
   rw [h1.block _ (by omega)]
   exact World.alloc_heap_new _ _
  | i+1,h=>
   have:=h3 i o (by simpa using h)
   rw [show w.heap.size+(i+1)=w.heap.size+1+i by omega]
   exact this
structure Q8 (x y:Nat) (V w:World):Prop where
 size:V.heap.size≤w.heap.size
 same:∀ g,g≠x→g≠y→w.heap[g]?=V.heap[g]?
 os:w.os=V.os
 tape:w.tape=V.tape
 output:w.output=V.output
theorem Q8.step {x y:Nat} {V w w':World} (h:Q8 x y V w) (hz:w.heap.size≤w'.heap.size) (hs:∀ g,g≠x→g≠y→w'.heap[g]?=w.heap[g]?) (h1:w'.os=w.os) (h2:w'.tape=w.tape) (h3:w'.output=w.output):Q8 x y V w':=⟨Nat.le_trans h.size hz,fun g a b=>(hs g a b).trans (h.same g a b),h1.trans h.os,h2.trans h.tape,h3.trans h.output⟩
theorem A2 {W:World} {g:Nat} {T:TypeId} {u0 u1 u2 u3 u4 u5 u6 u7 u8 u9 u10 u11 u12:Value} (h:W.heap[g]?=some (.cells #[u0,u1,u2,u3,u4,u5,u6,u7,u8,u9,u10,u11,u12] T)):(W.cell? ⟨g,0,none⟩=some u0∧W.frozen? ⟨g,0,none⟩=false)∧(W.cell? ⟨g,1,none⟩=some u1∧W.frozen? ⟨g,1,none⟩=false)∧(W.cell? ⟨g,2,none⟩=some u2∧W.frozen? ⟨g,2,none⟩=false)∧(W.cell? ⟨g,3,none⟩=some u3∧W.frozen? ⟨g,3,none⟩=false)∧(W.cell? ⟨g,4,none⟩=some u4∧W.frozen? ⟨g,4,none⟩=false)∧(W.cell? ⟨g,5,none⟩=some u5∧W.frozen? ⟨g,5,none⟩=false)∧(W.cell? ⟨g,6,none⟩=some u6∧W.frozen? ⟨g,6,none⟩=false)∧(W.cell? ⟨g,7,none⟩=some u7∧W.frozen? ⟨g,7,none⟩=false)∧(W.cell? ⟨g,8,none⟩=some u8∧W.frozen? ⟨g,8,none⟩=false)∧(W.cell? ⟨g,9,none⟩=some u9∧W.frozen? ⟨g,9,none⟩=false)∧(W.cell? ⟨g,10,none⟩=some u10∧W.frozen? ⟨g,10,none⟩=false)∧(W.cell? ⟨g,11,none⟩=some u11∧W.frozen? ⟨g,11,none⟩=false)∧(W.cell? ⟨g,12,none⟩=some u12∧W.frozen? ⟨g,12,none⟩=false):=by
 simp [World.cell?,World.frozen?,h]
theorem Br {W:World} {g g':Nat} {cs:Array Value} (h:g'≠g):(W.setRow g cs).heap[g']?=W.heap[g']?:=by
 unfold World.setRow
 rw [Array.getElem?_modify,if_neg (Ne.symm h)]
theorem Cc {W:World} {g:Nat} {u0 u1 u2 u3 u4 u5 u6 u7 u8 u9 u10 u11 u12:Value} (h:W.heap[g]?=some (.cells #[u0,u1,u2,u3,u4,u5,u6,u7,u8,u9,u10,u11,u12] 86)):(loadVar 86 ⟨g,0,none⟩).run Tryz.prog W=.ok (.agg #[u0,u1,u2,u3,u4,u5,u6,u7,u8,u9,u10,u11,u12]) W:=run_loadVar_row _ _ _ _ _ _ _ h Tryz.underlying86 rfl (by kernel_rfl)
theorem Cq {W:World} {g:Nat} {a b c:Value} (h:W.heap[g]?=some (.cells #[a,b,c] 50)):(loadVar 50 ⟨g,0,none⟩).run Tryz.prog W=.ok (.agg #[a,b,c]) W:=run_loadVar_row _ _ _ _ _ _ _ h Tryz.underlying50 rfl (by kernel_rfl)
theorem Bc.val_eq (n a u:List UInt8) (aa:Option Addr) (ac:Nat) (af:List (List UInt8)) (m fi fa li:Int) (k:Nat) (t:List UInt8) (ka:Option Addr) (kc:Nat) (ks:List (List UInt8)) (da:Option Addr) (dc:Nat) (ds:List Nd) (l:Int) :
  (⟨n,a,u,aa,ac,af,m,fi,fa,li,.mk k t ka kc ks da dc ds l⟩:Bc).val=.agg #[.string ⟨n.toArray⟩,.string ⟨a.toArray⟩,.string ⟨u.toArray⟩,.slice aa af.length ac,.int .i64 m,.int .i64 fi,.int .i64 fa,.int .i64 li,.int .u8 k,.string ⟨t.toArray⟩,.slice ka ks.length kc,.slice da ds.length dc,.int .i64 l]:=rfl
theorem Hb {W:World} {B:Nat} {a:Option Addr} {n c:Nat} {ls:List (List UInt8)} (h:Strs W B (.slice a n c) ls):Eu W a ls∧ls.length≤c∧c≤maxLen∧∀ g,ls≠[]→Bj a g→B≤g:=by
 obtain ⟨a',c',e,h1,h2,h3,h4⟩:=h.slice
 cases e
 exact ⟨h3,h1,h2,h4⟩
def Vs (w:World) (res:Except P22.F P22.Step) (e:Ending) (w':World):Prop:=
 Below w.heap.size w w'∧∃ (x:Bc) (ec el:Int),e=.returned (.tuple #[x.val,fV ec el])∧x.In w'∧(∀ g,x.blk g→w.heap.size≤g)∧((res=.ok x.bare∧ec=0∧el=0)∨(res=.error (ec,el)∧ec≠0))
end Go.Proofs.YtnjokdbblmlhhaaGreatDoor
