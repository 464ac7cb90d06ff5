/- Lemmas of this claim. -/
import Derived.Test.YtnjokdbblmlhhaaGreatDoorG19aZ
import Derived.Test.YtnjokdbblmlhhaaGreatDoorGPZ
import Derived.Test.YtnjokdbblmlhhaaGreatDoorGN20Z
import Derived.Test.YtnjokdbblmlhhaaGreatDoorGT19Z
import Derived.Deep.CutRange
import Derived.Deep.CutBlock
import Derived.Deep.RegionWith
import Derived.Shelf.RegionOpenPlain
import Derived.Test.YtnjokdbblmlhhaaGreatDoorGR17Z
import Derived.Test.YtnjokdbblmlhhaaGreatDoorShelfZ
import Derived.Deep.RegionLaw
namespace Go.Proofs.YtnjokdbblmlhhaaGreatDoor
set_option linter.unusedVariables false
set_option linter.unusedSimpArgs false
namespace P20
open P19 (line B5 close turn adds allR rowT toks)
theorem Kl {s:List UInt8} (h:(P18.read s).2=0):P03.check (P18.read s).1 4096=0:=by
 have hc:∀ t:List UInt8,(P18.chk t).2=0→P03.check (P18.chk t).1 4096=0:=fun t ht=>by
  unfold P18.chk at ht ⊢
  split
  ·rename_i h1
   rw [if_pos h1] at ht
   simp at h1
   exact absurd ht h1
  ·rename_i h1
   simpa using h1
 unfold P18.read P18.readF at h ⊢
 split
 ·rename_i h1;rw [if_pos h1] at h;exact absurd h (by decide)
 ·rename_i h1
  rw [if_neg h1] at h
  split
  ·rename_i h2
   rw [if_pos h2] at h
   split
   ·rename_i h3;rw [h3] at h;exact absurd h (by decide)
   ·rename_i h3;rw [h3] at h;exact hc _ h
  ·rename_i h2
   rw [if_neg h2] at h
   exact hc _ h
def Gg (t:Tk):Prop:=t.1<8∧(if t.1=4∨t.1=5 then P03.check t.2.1 4096=0 else t.2.1=[])
theorem Ft {k:Nat} {n c:Int} (h:k<8) (h2:¬ (k=4∨k=5)):Gg (k,[],n,c):=⟨h,by rw [if_neg h2]⟩
theorem Rf (n c:Int) (s:List UInt8) (h:(B5 n c s).2=0):Gg (B5 n c s).1:=by
 unfold B5 at h ⊢
 split
 ·exact Ft (by decide) (by decide)
 ·rename_i h1
  rw [if_neg h1] at h
  split
  ·exact Ft (by decide) (by decide)
  ·rename_i h2
   rw [if_neg h2] at h
   split
   ·rename_i h3;rw [if_pos h3] at h;exact absurd h (by decide)
   ·rename_i h3
    rw [if_neg h3] at h
    exact ⟨by show 5<8;omega,by rw [if_pos (.inr rfl)];exact Kl h⟩
theorem O0:∀ (f:Nat) (n c:Int) (s:List UInt8),∀ t∈(line f n c s).1,Gg t
 | 0,n,c,s,t,h=>by simp [line] at h
 | f+1,n,c,s,t,h=>by
  unfold line at h
  split at h
  ·split at h
   ·rw [List.mem_singleton.1 h];exact Ft (by decide) (by decide)
   ·split at h
    ·simp at h
    ·rcases List.mem_cons.1 h with rfl | h
     ·exact Ft (by decide) (by decide)
     ·exact O0 f n _ _ t h
  ·split at h
   ·rw [List.mem_singleton.1 h];exact Ft (by decide) (by decide)
   ·split at h
    ·rw [List.mem_singleton.1 h];exact Ft (by decide) (by decide)
    ·split at h
     ·simp at h
     ·split at h
      ·simp at h
      ·split at h
       ·simp at h
       ·rename_i hr
        have hg:=Kl (s:=s.take (P18.cut s).1) (by simpa using hr)
        split at h
        ·rw [List.mem_singleton.1 h];exact ⟨by show 5<8;omega,by rw [if_pos (.inr rfl)];exact hg⟩
        ·split at h
         ·rw [List.mem_singleton.1 h];exact ⟨by show 4<8;omega,by rw [if_pos (.inl rfl)];exact hg⟩
         ·split at h
          ·simp at h
          ·rename_i hv
           rcases List.mem_cons.1 h with rfl | h
           ·exact ⟨by show 4<8;omega,by rw [if_pos (.inl rfl)];exact hg⟩
           ·rw [List.mem_singleton.1 h];exact Rf _ _ _ (by simpa using hv)
theorem I3 (n c tc:Int):∀ st:List Int,∀ t∈(close n c tc st).1,Gg t
 | [],t,h=>by simp [close] at h
 | x :: st,t,h=>by
  unfold close at h
  split at h
  ·rcases List.mem_cons.1 h with rfl | h
   ·exact Ft (by decide) (by decide)
   ·exact I3 n c tc st t h
  ·simp at h
theorem S8 {b:Bool} {k:Nat} {n:Int} {t:Tk} {out:List Tk} {st:List Int} (ht:Gg t) (ho:∀ x∈out,Gg x):∀ x∈(turn b k n t out st).2.1,Gg x:=by
 intro x hx
 have h1:∀ y∈out ++ [t],Gg y:=fun y hy=>by
  rcases List.mem_append.1 hy with h | h
  ·exact ho y h
  ·rw [List.mem_singleton.1 h];exact ht
 unfold turn at hx
 split at hx
 ·split at hx
  ·simp at hx
  ·simp only [List.mem_append,List.mem_singleton] at hx
   rcases hx with (hx | hx) | rfl
   ·exact ho x hx
   ·exact I3 _ _ _ _ x hx
   ·exact ht
 ·split at hx
  ·split at hx
   ·simp at hx
   ·simp only [List.mem_append,List.mem_singleton] at hx
    rcases hx with (hx | rfl) | rfl
    ·exact ho x hx
    ·exact Ft (by decide) (by decide)
    ·exact ht
  ·exact h1 x hx
theorem Pm {n:Int}:∀ (ts:List Tk) (b:Bool) (k:Nat) (out:List Tk) (st:List Int),(∀ t∈ts,Gg t)→(∀ x∈out,Gg x)→∀ x∈(adds n b k ts out st).2.1,Gg x
 | [],b,k,out,st,ht,ho,x,hx=>ho x hx
 | t :: r,b,k,out,st,ht,ho,x,hx=>by
  unfold adds at hx
  split at hx
  ·simp at hx
  ·exact Pm r _ _ _ _ (fun y hy=>ht y (List.mem_cons_of_mem _ hy)) (S8 (ht t List.mem_cons_self) ho) x hx
theorem O8:∀ (rs:List (Nat × Nat × List UInt8)) (b:Bool) (out:List Tk) (st:List Int) (last:Int),(∀ x∈out,Gg x)→∀ x∈(allR b rs out st last).1,Gg x
 | [],b,out,st,last,ho,x,hx=>by
  unfold allR at hx
  rcases List.mem_append.1 hx with h | h
  ·exact ho x h
  ·exact I3 _ _ _ _ x h
 | r :: rs,b,out,st,last,ho,x,hx=>by
  unfold allR at hx
  split at hx
  ·simp at hx
  ·split at hx
   ·simp at hx
   ·split at hx
    ·simp at hx
    ·exact O8 rs _ _ _ _ (Pm _ _ _ _ _ (O0 _ _ _ _) ho) x hx
theorem all_ok (s:List UInt8):∀ x∈(P19.all s).1,Gg x:=by
 intro x hx
 unfold P19.all at hx
 split at hx
 ·simp at hx
 ·exact O8 _ _ _ _ _ (by simp) x hx
theorem Gg.len {t:Tk} (h:Gg t):t.2.1.length≤4096:=by
 obtain ⟨h1,h2⟩:=h
 split at h2
 ·unfold P03.check at h2
  split at h2
  ·exact absurd h2 (by decide)
  ·omega
 ·rw [h2];simp
theorem I4:∀ (rs:List (Nat × Nat × List UInt8)) (b:Bool) (out:List Tk) (st:List Int) (last:Int),P19.Row st→st.length≤16→(P19.allR b rs out st last).1.length≤out.length+40 * P19.weight rs+16
 | [],b,out,st,last,hr,hl=>by
  have h1:=P19.close_len last 0 0 st
  unfold P19.allR
  rw [List.length_append]
  omega
 | r :: rs,b,out,st,last,hr,hl=>by
  have hla:P19.LineOk r.1 r.2.1 r.2.2.length (P19.toks r.1 r.2.1 r.2.2):=P19.line_at _ _ _ _
  have htl:=P19.toks_len r.1 r.2.1 r.2.2
  have hw:P19.weight (r :: rs)=r.2.2.length+1+P19.weight rs:=by unfold P19.weight;rw [List.map_cons,List.sum_cons]
  unfold P19.allR
  split
  ·simp
  ·split
   ·simp
   ·split
    ·simp
    ·rename_i h3
     have h4:=P19.adds_row (n:=(r.1:Int)) (P19.rowT r).1 true 0 out st hr hl (fun t ht=>by have:=(hla.1 t ht).2.1;omega) (fun h=>by cases h) (fun t ht=>by have:=hla.2.2 t ht;omega) (by simpa using h3)
     have h5:=I4 rs false (P19.adds r.1 true 0 (P19.rowT r).1 out st).2.1 (P19.adds r.1 true 0 (P19.rowT r).1 out st).2.2 r.1 h4.1 h4.2.1
     have h6:=h4.2.2
     rw [if_pos rfl] at h6
     have h7:(P19.rowT r).1.length≤r.2.2.length+1:=htl
     omega
theorem all_len20 (s:List UInt8):(P19.all s).1.length≤80 * s.length+16:=by
 unfold P19.all
 split
 ·simp
 ·have h1:=I4 (Dz s) true [] [0] 0 P19.row_zero (by decide)
  have h2:=P19.weight_le s
  simp only [List.length_nil] at h1
  omega
def Ui (all:List Tk):Int:=(all.getLastD (0,[],0,0)).2.2.1
def PaR (s:List UInt8) (o:Except (Int × Int) T):Prop:=
 if (P19.all s).2.1≠0 then o=.error (P19.all s).2 else if (P19.all s).1=[] then o=.error (17,0) else∃f,Rd (Ui (P19.all s).1) f (P19.all s).1 o
end P20
end Go.Proofs.YtnjokdbblmlhhaaGreatDoor
namespace Go.Proofs.YtnjokdbblmlhhaaGreatDoor
set_option linter.unusedVariables false
set_option linter.unusedSimpArgs false
namespace P20
open P19 (turn close U1 adds)
end P20
end Go.Proofs.YtnjokdbblmlhhaaGreatDoor
namespace Go.Proofs.YtnjokdbblmlhhaaGreatDoor
set_option linter.unusedVariables false
set_option linter.unusedSimpArgs false
open Go.RowKit
def K9 (W:World) (a:Option Addr) (ts:List Tk):Prop:=∀ i t,ts[i]?=some t→∃ b o,a=some ⟨b,o,none⟩ ∧
 W.cell? ⟨b,o+i * 4,none⟩=some (.int .u8 t.1)∧W.cell? ⟨b,o+i * 4+1,none⟩=some (.string ⟨t.2.1.toArray⟩)∧W.cell? ⟨b,o+i * 4+2,none⟩=some (.int .i64 t.2.2.1)∧W.cell? ⟨b,o+i * 4+3,none⟩=some (.int .i64 t.2.2.2)
theorem K9.keep {W W':World} {a:Option Addr} {ts:List Tk} (h:K9 W a ts) (hb:∀ r,ts≠[]→Bj a r→W'.heap[r]?=W.heap[r]?):K9 W' a ts:=by
 intro i t ht
 obtain ⟨b,o,rfl,h0,h1,h2,h3⟩:=h i t ht
 have hk:=hb b (by rintro rfl;simp at ht) ⟨o,rfl⟩
 exact ⟨b,o,rfl,(Ag hk _).trans h0,(Ag hk _).trans h1,(Ag hk _).trans h2,(Ag hk _).trans h3⟩
structure D6 (W:World) (B rb:Nat) (all ts:List Tk):Prop where
 ex:∃ (a a':Option Addr) (c c':Nat),W.heap[rb]?=some (.cells #[.slice a all.length c,.slice a' ts.length c'] 115)∧K9 W a all∧K9 W a' ts∧all.length≤c∧ts.length≤c'∧c≤maxLen∧c'≤maxLen ∧
  ¬ Bj a rb∧¬ Bj a' rb∧(∀ g,Bj a g→g<B)∧(∀ g,Bj a' g→g<B)
 lt:rb<B
 ne:all≠[]
 k8:∀ t∈all,t.1<256∧t.2.1.length≤maxLen
 k8':∀ t∈ts,t.1<256∧t.2.1.length≤maxLen
theorem D6.far {W W':World} {B rb:Nat} {all ts:List Tk} (h:D6 W B rb all ts) (hb:∀ g,g<B→W'.heap[g]?=W.heap[g]?):D6 W' B rb all ts:=by
 obtain ⟨⟨a,a',c,c',g,hi,hi',h1,h2,h3,h4,h5,h6,h7,h8⟩,hlt,hne,k8,k8'⟩:=h
 exact ⟨⟨a,a',c,c',(hb _ hlt).trans g,hi.keep (fun r _ ho=>hb r (h7 r ho)),hi'.keep (fun r _ ho=>hb r (h8 r ho)),h1,h2,h3,h4,h5,h6,h7,h8⟩,hlt,hne,k8,k8'⟩
theorem D6.keep {W W':World} {B rb:Nat} {all ts:List Tk} (h:D6 W B rb all ts) (hB:B≤W.heap.size) (hb:Below W.heap.size W W'):D6 W' B rb all ts:=h.far (fun g hg=>hb.block g (by omega))
theorem D6.alloc {W:World} {B rb:Nat} {all ts:List Tk} (h:D6 W B rb all ts) (hB:B≤W.heap.size) (o:Obj):D6 (W.alloc o) B rb all ts:=h.keep hB ((Below.refl _ W).alloc (Nat.le_refl _) o)
theorem D6.setCell {W:World} {B rb:Nat} {all ts:List Tk} (h:D6 W B rb all ts) {D:Nat} (hD:B≤D) (i:Nat) (v:Value):D6 (W.setCell ⟨D,i,none⟩ v) B rb all ts:=h.far (fun g hg=>Below.heap_setCell _ _ _ _ (by show g≠D;omega))
def Fl (all:List Tk):Int:=(all.getLastD (0,[],0,0)).2.2.1
abbrev Jm (e l:Int):Ending:=.panicked [{ v:=.iface 29 (.agg #[.int .i64 e,.int .i64 l]),recovered:=false }]
theorem Dl:Tryz.prog.follows .mixedOrders=true:=by kernel_rfl
theorem Jz (a b c d:Value) (W:World):(Instr.field 124 (.agg #[a,b,c,d]) 1).run Tryz.prog W=.ok b W:=by kernel_rfl
theorem Ka (a b c d:Value) (W:World):(Instr.field 124 (.agg #[a,b,c,d]) 2).run Tryz.prog W=.ok c W:=by kernel_rfl
attribute [local go_sem] Jz Ka
theorem L0 (e l:Int) (w:World):Calls Tryz.prog 110 #[.int .i64 e,.int .i64 l] w fun x w'=>x=Jm e l∧w=w':=by
 go_enter Tryz.func110,Tryz.ntmps110
 go_wp2
 exact ⟨rfl,rfl,rfl⟩
theorem Fd (B rb:Nat) (all ts:List Tk) (w:World) (h:D6 w B rb all ts):Calls Tryz.prog 106 #[.pointer (some ⟨rb,0,none⟩)] w fun e w'=>e=.returned (.int .u8 (P20.kindOf ts))∧w=w':=by
 obtain ⟨⟨a,a',c,c',hb,hi,hi',hc1,hc2,hc3,hc4,hn,hn',hl1,hl2⟩,hrb,hne,h8,h8'⟩:=h
 unfold maxLen at hc3 hc4
 obtain ⟨⟨x0,_⟩,⟨x1,_⟩⟩:=Af hb
 cases ts with
 | nil=>
  simp only [List.length_nil] at x1
  go_enter Tryz.func106,Tryz.ntmps106
  go_wp2
  go_ret
  exact ⟨rfl,rfl⟩
 | cons t r=>
  obtain ⟨b,o,rfl,c0,_⟩:=hi' 0 t rfl
  rw [Nat.zero_mul,Nat.add_zero] at c0
  simp only [List.length_cons] at x1 hc2
  have hpos:((r.length+1:Nat):Int)≠0:=by omega
  go_enter Tryz.func106,Tryz.ntmps106
  go_wp2
  go_ret
  exact ⟨rfl,rfl⟩
def Km (all:List Tk):List Tk→Tk
 | []=>all.getLastD (0,[],0,0)
 | t :: _=>t
theorem F6 (all ts:List Tk):(Km all ts).2.2.1=P20.hereL (Fl all) ts:=by cases ts<;>rfl
set_option maxRecDepth 100000 in
set_option maxHeartbeats 800000 in
theorem Ep (B rb:Nat) (all ts:List Tk) (k:Nat) (x:List UInt8) (n cl:Int) (w:World) (h:D6 w B rb all ts) (ht:Km all ts=(k,x,n,cl)) :
  Calls Tryz.prog 105 #[.pointer (some ⟨rb,0,none⟩)] w fun e w'=>e=.returned (.agg #[.int .u8 k,.string ⟨x.toArray⟩,.int .i64 n,.int .i64 cl])∧Below w.heap.size w w':=by
 obtain ⟨⟨a,a',c,c',hb,hi,hi',hc1,hc2,hc3,hc4,hn,hn',hl1,hl2⟩,hrb,hne,h8,h8'⟩:=h
 unfold maxLen at hc3 hc4
 obtain ⟨⟨x0,_⟩,⟨x1,_⟩⟩:=Af hb
 have hrl:rb<w.heap.size:=(Array.getElem?_eq_some_iff.1 hb).1
 have h0:=World.alloc_heap_new w (.cells #[.int .u8 k,.string ⟨x.toArray⟩,.int .i64 n,.int .i64 cl] 124)
 have hb0:Below w.heap.size w (w.alloc (.cells #[.int .u8 k,.string ⟨x.toArray⟩,.int .i64 n,.int .i64 cl] 124)):=(Below.refl _ w).alloc (Nat.le_refl _) _
 have H0:=Ab h0
 clear h0
 cases ts with
 | nil=>
  simp only [List.length_nil] at x1
  obtain ⟨m,hm⟩:∃ m,all.length=m+1:=⟨all.length - 1,by have:=List.length_pos_iff.2 hne;omega⟩
  have hl:all[m]?=some (k,x,n,cl):=by
   rw [← ht]
   simp only [Km,List.getLastD_eq_getLast?]
   rw [List.getLast?_eq_getElem?,hm]
   simp only [Nat.add_sub_cancel]
   rw [List.getElem?_eq_getElem (by omega)]
   rfl
  obtain ⟨b,o,rfl,c0,c1,c2,c3⟩:=hi m _ hl
  simp only at c0 c1 c2 c3
  rw [hm] at x0
  have hmx:=Dl
  have hmb:(m:Int)+1≤9223372036854775807:=by omega
  have hbl:=B3 c0
  clear hm hl hb hi hi' ht
  have hz:IntKind.i64.wrap ((m:Int)+1 - 1)=(m:Int):=by rw [IntWalk.i64_in _ (by omega)];omega
  go_enter Tryz.func105,Tryz.ntmps105
  go_wp2
  go_region
  go_wp2
  exact bodyPost_ret (results_cell_row rfl _ _ _ _ _ _ _ rfl (C4 (Aa H0)) Tryz.underlying124 rfl (by kernel_rfl)) rfl ⟨rfl,hb0.drew⟩
 | cons t r=>
  obtain rfl:t=(k,x,n,cl):=ht
  obtain ⟨b,o,rfl,c0,c1,c2,c3⟩:=hi' 0 _ rfl
  simp only [Nat.zero_mul,Nat.add_zero] at c0 c1 c2 c3
  simp only [List.length_cons] at x1 hc2
  have hpos:((r.length+1:Nat):Int)≠0:=by omega
  have hbl:=B3 c0
  go_enter Tryz.func105,Tryz.ntmps105
  go_wp2
  refine bodyPost_ret (results_cell_row rfl _ _ _ _ _ _ _ rfl (Aa H0) Tryz.underlying124 rfl (by kernel_rfl)) rfl ⟨rfl,hb0⟩
set_option maxRecDepth 100000 in
set_option maxHeartbeats 800000 in
theorem D0 (B rb:Nat) (all ts:List Tk) (e:Int) (w:World) (h:D6 w B rb all ts) :
  Calls Tryz.prog 69 #[.pointer (some ⟨rb,0,none⟩),.int .i64 e] w fun x w'=>x=Jm e (P20.hereL (Fl all) ts)∧Below w.heap.size w w':=by
 obtain ⟨⟨k,x,n,cl⟩,ht⟩:∃ t,Km all ts=t:=⟨_,rfl⟩
 have hl:=F6 all ts
 rw [ht] at hl
 simp only at hl
 rw [← hl]
 have H:=Ab (Ep B rb all ts k x n cl w h ht)
 clear ht hl h
 go_enter Tryz.func69,Tryz.ntmps69
 go_wp2_with (first
  | (go_at_call 105;refine (Aa H).mono ?_;rintro e w' ⟨rfl,hb⟩)
  | (go_at_call 110;refine (L0 _ _ _).mono ?_;rintro e w' ⟨rfl,rfl⟩))
 exact ⟨rfl,rfl,hb⟩
theorem Ti {W:World} {a':Option Addr} {t:Tk} {r:List Tk} {c':Nat} (h:K9 W a' (t :: r)) (hc:(t :: r).length≤c') {b o:Nat} (he:a'=some ⟨b,o,none⟩) :
  K9 W (if c'=1 then some ⟨b,o,none⟩ else some ⟨b,o+4,none⟩) r:=by
 intro i u hu
 obtain ⟨b2,o2,e,h0,h1,h2,h3⟩:=h (i+1) u (by simpa using hu)
 rw [he] at e
 injection e with e
 injection e with e1 e2
 subst e1
 subst e2
 have hl:0<r.length:=by have:=(List.getElem?_eq_some_iff.1 hu).1;omega
 simp only [List.length_cons] at hc
 rw [if_neg (by omega)]
 refine ⟨b,o+4,rfl,?_⟩
 rw [show o+(i+1) * 4=o+4+i * 4 from by omega] at h0 h1 h2 h3
 exact ⟨h0,h1,h2,h3⟩
theorem K9.lt {W:World} {a:Option Addr} {l:List Tk} (hi:K9 W a l):∀ r,l≠[]→Bj a r→r<W.heap.size:=by
 intro r hn ho
 cases l with
 | nil=>exact absurd rfl hn
 | cons t l=>
  obtain ⟨b,o,e,c0,_⟩:=hi 0 t rfl
  obtain ⟨o',e'⟩:=ho
  rw [e] at e'
  injection e' with e'
  injection e' with e'
  subst e'
  exact B3 c0
theorem K9.grown {W W':World} {a:Option Addr} {l:List Tk} {rb:Nat} (hi:K9 W a l) (hg:W.grownBy W' (some rb)) (hn:¬ Bj a rb):K9 W' a l:=
 hi.keep (fun r hr ho=>hg.block r (hi.lt r hr ho) (fun e=>by cases e;exact hn ho))
theorem Ah {A B C:World} {row:Option Nat} (h:A.grownBy B row) (k:B.grownBy C row):A.grownBy C row:=
 ⟨k.os.trans h.os,k.tape.trans h.tape,k.output.trans h.output,Nat.le_trans h.size k.size,fun i hi hne=>(k.block i (Nat.lt_of_lt_of_le hi h.size) hne).trans (h.block i hi hne)⟩
theorem Nw {A B:World} {row:Option Nat} (h:A.grownBy B row):A.grownBy B.drew row:=⟨h.os,h.tape,h.output,h.size,h.block⟩
theorem Bf {A B:World} {row:Option Nat} (h:A.grownBy B row) {g i:Nat} (hg:A.heap.size≤g) (v:Value):A.grownBy (B.setCell ⟨g,i,none⟩ v) row:=
 ⟨h.os,h.tape,h.output,by simpa [World.setCell] using h.size,fun j hj hne=>(Below.heap_setCell _ _ _ _ (by show j≠g;omega)).trans (h.block j hj hne)⟩
set_option maxRecDepth 100000 in
set_option maxHeartbeats 1600000 in
theorem Dc (B rb:Nat) (all r:List Tk) (k:Nat) (x:List UInt8) (n cl:Int) (w:World) (h:D6 w B rb all ((k,x,n,cl) :: r)) (hB:B≤w.heap.size) :
  Calls Tryz.prog 107 #[.pointer (some ⟨rb,0,none⟩)] w fun e w'=>e=.returned (.agg #[.int .u8 k,.string ⟨x.toArray⟩,.int .i64 n,.int .i64 cl])∧D6 w' B rb all r∧w.grownBy w' (some rb):=by
 have hW:=h.alloc hB (.cells #[.int .u8 0,.string ⟨#[]⟩,.int .i64 0,.int .i64 0] 124)
 have H:=Ab (Ep B rb all ((k,x,n,cl) :: r) k x n cl _ hW rfl)
 have h2:=World.alloc_heap_new w (.cells #[.int .u8 0,.string ⟨#[]⟩,.int .i64 0,.int .i64 0] 124)
 obtain ⟨⟨a,a',c,c',hb,hi,hi',hc1,hc2,hc3,hc4,hn,hn',hl1,hl2⟩,hrb,hne,h8,h8'⟩:=h
 obtain ⟨b,o,rfl,_⟩:=hi' 0 _ rfl
 simp only [List.length_cons] at hb
 have hrl:rb<w.heap.size:=(Array.getElem?_eq_some_iff.1 hb).1
 have hta:=Ti hi' hc2 rfl
 simp only [List.length_cons] at hc2
 obtain ⟨A,hA⟩:∃ A,(if c'=1 then some (⟨b,o,none⟩:Addr) else some ⟨b,o+4,none⟩)=A:=⟨_,rfl⟩
 have hAb:¬ Bj A rb:=by
  rintro ⟨o2,e⟩
  apply hn'
  rw [← hA] at e
  split at e
  ·injection e with e;injection e with e;subst e;exact ⟨o,rfl⟩
  ·injection e with e;injection e with e;subst e;exact ⟨o,rfl⟩
 have hAl:∀ g,Bj A g→g<B:=by
  rintro g ⟨o2,e⟩
  rw [← hA] at e
  split at e
  ·injection e with e;injection e with e;subst e;exact hl2 _ ⟨o,rfl⟩
  ·injection e with e;injection e with e;subst e;exact hl2 _ ⟨o,rfl⟩
 have hfin:Hid (∀ W':World,w.grownBy W' (some rb)→W'.heap[rb]?=some (.cells #[.slice a all.length c,.slice A r.length (c' - 1)] 115)→D6 W' B rb all r):=by
  intro W' hg hr
  rw [hA] at hta
  exact ⟨⟨a,A,c,c' - 1,hr,hi.grown hg hn,hta.grown hg hAb,hc1,by omega,hc3,by omega,hn,hAb,hl1,hAl⟩,hrb,hne,h8,fun t ht=>h8' t (List.mem_cons_of_mem _ ht)⟩
 have HA:=Ab hA
 have H2:=Ab h2
 have HB:=Ab hb
 unfold maxLen at hc3 hc4
 clear hW h2 hA hta hAb hi hi' hn hn' hne h8 h8' hb hl1 hl2 hAl
 go_enter Tryz.func107,Tryz.ntmps107
 go_upto_region 2 with (go_at_call 105;refine (Aa H).mono ?_;rintro e w1 ⟨rfl,hb1⟩)
 obtain ⟨W1,hW1⟩:∃ W1,w1.alloc (.cells #[.int .u8 k,.string ⟨x.toArray⟩,.int .i64 n,.int .i64 cl] 124)=W1:=⟨_,rfl⟩
 have hs1:=hb1.size
 rw [World.size_alloc] at hs1
 have hT:W1.heap[w1.heap.size]?=some (.cells #[.int .u8 k,.string ⟨x.toArray⟩,.int .i64 n,.int .i64 cl] 124):=by rw [← hW1];exact World.alloc_heap_new w1 _
 have h0:W1.heap[w.heap.size]?=some (.cells #[.int .u8 0,.string ⟨#[]⟩,.int .i64 0,.int .i64 0] 124):=by
  rw [← hW1];exact (Below.heap_alloc _ _ _ (by omega)).trans ((hb1.block _ (by simp)).trans (Aa H2))
 have hbel:Below w.heap.size w W1:=by
  rw [← hW1];exact (((Below.refl _ w).alloc (Nat.le_refl _) _).trans (hb1.mono (by simp))).alloc (by omega) _
 rw [hW1]
 clear hW1 hb1 H H2
 obtain ⟨D,hD⟩:∃ D,w1.heap.size=D:=⟨_,rfl⟩
 rw [hD] at hT hs1 ⊢
 have hb:=(hbel.block rb hrl).trans (Aa HB)
 obtain ⟨⟨x0,f0⟩,⟨x1,f1⟩⟩:=Af hb
 obtain ⟨⟨y0,_⟩,⟨y1,_⟩,⟨y2,_⟩,⟨y3,_⟩⟩:=A1 hT
 obtain ⟨⟨z0,g0⟩,⟨z1,g1⟩,⟨z2,g2⟩,⟨z3,g3⟩⟩:=A1 h0
 have HB1:=Ab hb
 have HT:=Ab hT
 have HH:=Ab h0
 have hrw:rb≠D:=by omega
 have hrw2:rb≠w.heap.size:=by omega
 clear hD hb hT h0 HB
 go_region
 have hmin:min 1 ((r.length:Int)+1)=1:=by omega
 simp only [hmin,show (1:Int).toNat=1 from rfl,show r.length+1 - 1=r.length from by omega,Nat.one_mul]
 rw [Aa HA]
 obtain ⟨W2,hW2⟩:∃ W2,(W1.setCell ⟨rb,1,none⟩ (.slice A r.length (c' - 1))).drew=W2:=⟨_,rfl⟩
 have hr2:W2.heap[rb]?=some (.cells #[.slice a all.length c,.slice A r.length (c' - 1)] 115):=by
  rw [← hW2];exact C4 (by have h:=Aa HB1;simp [World.setCell,Array.getElem?_modify,h])
 have ho2:∀ g,g≠rb→W2.heap[g]?=W1.heap[g]?:=fun g hg=>by rw [← hW2];exact C4 (Below.heap_setCell _ _ _ _ hg)
 have hT2:=(ho2 D (fun e=>hrw e.symm)).trans (Aa HT)
 have hH2:=(ho2 w.heap.size (fun e=>hrw2 e.symm)).trans (Aa HH)
 have hgr:w.grownBy W2 (some rb):=by
  rw [← hW2]
  exact Nw (Ah (Aj hbel (some rb)) (Ap W1 rb 1 (.slice A r.length (c' - 1))))
 rw [hW2]
 have HGR:=Ab hgr
 have HR2:=Ab hr2
 clear hmin hW2 ho2 x0 f0 x1 f1 y0 y1 y2 y3 z0 g0 z1 g1 z2 g2 z3 g3 HB1 HT HH hr2 hgr
 obtain ⟨⟨y0,_⟩,⟨y1,_⟩,⟨y2,_⟩,⟨y3,_⟩⟩:=A1 hT2
 obtain ⟨⟨z0,g0⟩,⟨z1,g1⟩,⟨z2,g2⟩,⟨z3,g3⟩⟩:=A1 hH2
 have HH2:=Ab hH2
 clear hT2 hH2
 go_wp2
 have hgf:=Bf (i:=3) (Bf (i:=2) (Bf (i:=1) (Bf (i:=0) (Aa HGR) (Nat.le_refl _) (.int .u8 k)) (Nat.le_refl _) (.string ⟨x.toArray⟩)) (Nat.le_refl _) (.int .i64 n)) (Nat.le_refl _) (.int .i64 cl)
 exact bodyPost_ret (results_cell_row rfl _ _ _ _ _ _ _ rfl (Bu (Aa HH2) _ _ _ _) Tryz.underlying124 rfl (by kernel_rfl)) rfl ⟨rfl,Aa hfin _ hgf ((Bg hrw2 _ _ _ _).trans (Aa HR2)),hgf⟩
set_option maxRecDepth 100000 in
set_option maxHeartbeats 800000 in
theorem Jd (B rb:Nat) (all ts:List Tk) (line:Int) (w:World) (h:D6 w B rb all ts) :
  Calls Tryz.prog 142 #[.pointer (some ⟨rb,0,none⟩),.int .i64 line] w fun e w'=>e=.returned (.bool (decide (5≤P20.kindOf ts∧P20.kindOf ts≤7∧P20.hereL (Fl all) ts=line)))∧Below w.heap.size w w':=by
 obtain ⟨⟨k,x,n,cl⟩,ht⟩:∃ t,Km all ts=t:=⟨_,rfl⟩
 have hl:=F6 all ts
 rw [ht] at hl
 simp only at hl
 rw [← hl]
 have H:=Ab (Ep B rb all ts k x n cl w h ht)
 have HK:=Ab (Fd B rb all ts w h)
 obtain ⟨q,hq⟩:∃ q,P20.kindOf ts=q:=⟨_,rfl⟩
 rw [hq] at HK ⊢
 clear ht hl h hq
 have hcase:q=5∨q=6∨q=7∨(q<5∨7<q):=by omega
 rcases hcase with rfl | rfl | rfl | hq
 rotate_right
 ·have j5:((q:Int) == 5)=false:=by simp;omega
  have j6:((q:Int) == 6)=false:=by simp;omega
  have j7:((q:Int) == 7)=false:=by simp;omega
  rw [decide_eq_false (by omega)]
  clear hq
  go_enter Tryz.func142,Tryz.ntmps142
  go_wp2_with (first
   | (go_at_call 106;refine (Aa HK).mono ?_;rintro e w' ⟨rfl,rfl⟩))
  go_ret
  exact ⟨rfl,Below.refl _ _⟩
 all_goals
  have e:(n == line)=decide (n=line):=rfl
  have HE:=Ab e
  clear e
  go_enter Tryz.func142,Tryz.ntmps142
  go_wp2_with (first
   | (go_at_call 106;refine (Aa HK).mono ?_;rintro e w' ⟨rfl,rfl⟩)
   | (go_at_call 105;refine (Aa H).mono ?_;rintro e w' ⟨rfl,hb⟩))
  go_ret
  refine ⟨Bn ?_,by assumption⟩
  rw [Bool.eq_iff_iff]
  simp
end Go.Proofs.YtnjokdbblmlhhaaGreatDoor
namespace Go.Proofs.YtnjokdbblmlhhaaGreatDoor
set_option linter.unusedVariables false
set_option linter.unusedSimpArgs false
open Go.RowKit
def B6 (ds:List Nd):List Value:=ds.flatMap Nd.cs
theorem F0 (a b:List Nd):B6 (a ++ b)=B6 a ++ B6 b:=by simp [B6]
theorem Su:(Tryz.prog.info? 26).map (fun i=>(i.zero,i.size,i.bytes))=some (some (.agg #[.int .u8 0,.string ⟨#[]⟩,.slice none 0 0,.slice none 0 0,.int .i64 0]),5,80):=by kernel_rfl
theorem Ru:∀ (ds:List Nd),∀ u∈B6 ds,u.oneCell'=true:=by
 intro ds u hu
 simp only [B6,List.mem_flatMap] at hu
 obtain ⟨d,_,hd⟩:=hu
 simp only [Nd.cs,List.mem_cons,List.not_mem_nil,or_false] at hd
 rcases hd with rfl | rfl | rfl | rfl | rfl<;>rfl
theorem Hw:∀ (ds:List Nd) (i:Nat) (d:Nd),ds[i]?=some d→∀ j,j<5→(B6 ds)[i * 5+j]?=d.cs[j]?
 | [],i,d,h,j,hj=>by simp at h
 | e :: ds,0,d,h,j,hj=>by
  simp only [List.getElem?_cons_zero,Option.some.injEq] at h
  subst h
  have e1:B6 (e :: ds)=e.cs ++ B6 ds:=rfl
  rw [e1,Nat.zero_mul,Nat.zero_add,List.getElem?_append_left (by show j<5;exact hj)]
 | e :: ds,i+1,d,h,j,hj=>by
  have ih:=Hw ds i d (by simpa using h) j hj
  have e1:B6 (e :: ds)=e.cs ++ B6 ds:=rfl
  have el:e.cs.length=5:=rfl
  rw [e1,List.getElem?_append_right (by omega),el,show (i+1) * 5+j - 5=i * 5+j from by omega]
  exact ih
structure Dt (W:World) (B:Nat) (v:Value) (ds:List Nd):Prop where
 own:W.ownsRow B 26 5 v ds.length (B6 ds)
 ins:∀ d∈ds,d.In W
 new:∀ d∈ds,∀ g,d.blk g→B≤g
 sep:∀ d∈ds,∀ g,d.blk g→v.ownBlock≠some g
theorem Ao {W:World} {B size n:Nat} {e:TypeId} {v:Value} {xs:List Value} (h:W.ownsRow B e size v n xs):∀ g,v.ownBlock=some g→B≤g∧g<W.heap.size:=by
 intro g hg
 rcases h.2 with ⟨rfl,_⟩ | ⟨g2,cap,cur,rfl,hb,hh,_⟩
 ·cases hg
 ·cases hg
  exact ⟨hb,(Array.getElem?_eq_some_iff.1 hh).1⟩
theorem Ds {W W':World} {B size n:Nat} {e:TypeId} {v:Value} {xs:List Value} (h:W.ownsRow B e size v n xs) (hk:∀ g,v.ownBlock=some g→W'.heap[g]?=W.heap[g]?):W'.ownsRow B e size v n xs:=by
 refine ⟨h.1,?_⟩
 rcases h.2 with h0 | ⟨g,cap,cur,rfl,hb,hh,hr⟩
 ·exact .inl h0
 ·exact .inr ⟨g,cap,cur,rfl,hb,(hk g rfl).trans hh,hr⟩
theorem Dt.nil (W:World) (B:Nat):Dt W B (.slice none 0 0) []:=⟨⟨rfl,.inl ⟨rfl,rfl⟩⟩,by simp,by simp,by simp⟩
theorem Dt.keep {W W':World} {B:Nat} {v:Value} {ds:List Nd} (h:Dt W B v ds) (hr:∀ g,v.ownBlock=some g→W'.heap[g]?=W.heap[g]?) (hd:∀ d∈ds,∀ g,d.blk g→W'.heap[g]?=W.heap[g]?):Dt W' B v ds:=
 ⟨Ds h.own hr,fun d hm=>(h.ins d hm).keep (hd d hm),h.new,h.sep⟩
theorem Dt.grown {W W':World} {B:Nat} {v:Value} {ds:List Nd} {row:Option Nat} (h:Dt W B v ds) (hg:W.grownBy W' row) (hr:∀ g,row=some g→v.ownBlock≠some g∧∀ d∈ds,¬ d.blk g):Dt W' B v ds:=
 h.keep (fun g hv=>hg.block g (Ao h.own g hv).2 (fun e=>(hr g e.symm).1 hv)) (fun d hm g hb=>hg.block g ((h.ins d hm).lt hb) (fun e=>(hr g e.symm).2 d hm hb))
theorem Dt.old {W W':World} {B:Nat} {v:Value} {ds:List Nd} {rb:Nat} (h:Dt W B v ds) (hg:W.grownBy W' (some rb)) (hr:rb<B):Dt W' B v ds:=
 h.grown hg (fun g e=>by cases e;exact ⟨fun e=>by have:=(Ao h.own _ e).1;omega,fun d hm hb=>by have:=h.new d hm _ hb;omega⟩)
theorem Dt.alloc {W:World} {B:Nat} {v:Value} {ds:List Nd} (h:Dt W B v ds) (o:Obj):Dt (W.alloc o) B v ds:=h.grown (World.grownBy_alloc W o none) (fun g e=>by cases e)
theorem Dt.slice {W:World} {B:Nat} {v:Value} {ds:List Nd} (h:Dt W B v ds):∃ a c,v=.slice a ds.length c∧ds.length≤c∧c≤maxLen∧InL W a 0 ds∧(∀ g,blkL g ds→B≤g)∧(∀ g,ds≠[]→Bj a g→B≤g):=by
 obtain ⟨ho,hi,hn,hs⟩:=h
 have hnew:∀ g,blkL g ds→B≤g:=fun g hb=>by obtain ⟨d,hm,hd⟩:=(Eo g ds).1 hb;exact hn d hm g hd
 rcases ho.2 with ⟨rfl,h0⟩ | ⟨g,cap,cur,rfl,hb,hh,hc,hm,hsz,htk⟩
 ·have:ds=[]:=List.eq_nil_of_length_eq_zero h0
  subst this
  exact ⟨none,0,rfl,Nat.le_refl _,Nat.zero_le _,trivial,hnew,fun g hn=>absurd rfl hn⟩
 ·refine ⟨_,cap,rfl,hc,hm,Nh (fun j d hj=>⟨⟨g,0,rfl,?_⟩,hi d (List.mem_of_getElem? hj)⟩),hnew,fun g' _ ho=>?_⟩
  ·have hcell:∀ i,i<5→W.cell? ⟨g,j * 5+i,none⟩=d.cs[i]?:=by
    intro i hi5
    have hjl:=(List.getElem?_eq_some_iff.1 hj).1
    have h1:=Hw ds j d hj i hi5
    rw [← htk,List.getElem?_take_of_lt (by omega)] at h1
    rw [← h1]
    rw [cell_of_row W g (j * 5+i) cur _ (0,0) hh]
    simp
   simp only [Nat.zero_add]
   exact ⟨hcell 0 (by omega),hcell 1 (by omega),hcell 2 (by omega),hcell 3 (by omega),hcell 4 (by omega)⟩
  ·obtain ⟨o,e⟩:=ho
   cases e
   exact hb
theorem Ek {w:World} {B:Nat} {v:Value} {ds:List Nd} {nd:Nd} {cs:Array Value} {ops:Array Oper} {rest:List Oper} {o:Oper} {a:Act} {Q:Exit→Act→World→Prop} (hgd:o.guard=none) (s x:Operand)
  (ho:o.op=.call { callee:=.builtin .append,args:=#[s,x],argTypes:=#[24,24] })
  (hs:a.eval s=v) (hk:Dt w B v ds) (hcs:cs.toList=nd.cs) (hin:nd.In w) (hnew:∀ g,nd.blk g→B≤g) (hsep:∀ g,nd.blk g→v.ownBlock≠some g)
  (hx:a.eval x=.slice (some ⟨w.heap.size,0,none⟩) 1 1) (hlen:ds.length+1≤1000000000) (hB:B≤w.heap.size)
  (h:∀ v' w',Dt w' B v' (ds ++ [nd])→w.grownBy w' v.ownBlock→(v'.ownBlock=v.ownBlock∨∃ g,v'.ownBlock=some g∧w.heap.size≤g)→wpList Tryz.prog ops Q rest (a.put o.dst v') w') :
  wpList Tryz.prog ops Q (o :: rest) a (w.alloc (.cells cs 26)):=by
 obtain ⟨i,hi,hz,hsz,hby⟩:=info_parts Su
 have hk1:=hk.alloc (.cells cs 26)
 refine wpList_append_own_at (w:=w.alloc (.cells cs 26)) (P:=Tryz.prog) hgd s x 24 ho B 26 i (.agg #[.int .u8 0,.string ⟨#[]⟩,.slice none 0 0,.slice none 0 0,.int .i64 0]) 5 80 Tryz.underlying24 hi hz hsz hby rfl (by decide) v ds.length (B6 ds) hs hk1.own
  ⟨w.heap.size,0,none⟩ 1 1 nd.cs hx rfl ?_ ?_ (by unfold maxLen;omega) (by omega) (by simp;omega) ?_
 ·intro j u hj
  have hn:=World.alloc_heap_new w (.cells cs 26)
  have hc:=cell_of_row (w.alloc (.cells cs 26)) w.heap.size j cs _ (0,0) hn
  have ea:((⟨w.heap.size,0,none⟩:Addr).add j)=⟨w.heap.size,j,none⟩:=by unfold Addr.add;split<;>simp_all
  rw [ea,hc,← hj,← hcs]
  simp
 ·intro u hu
  exact Ru [nd] u (by simpa [B6] using hu)
 ·intro v' w' h2 h3 _ h5
  have hg:w.grownBy w' v.ownBlock:=Ah (World.grownBy_alloc w _ _) h3
  have hlt:∀ g,v.ownBlock=some g→g<w.heap.size:=fun g e=>(Ao hk.own g e).2
  have hsep':∀ d,d∈ds ++ [nd]→∀ g,d.blk g→g<w.heap.size∧v.ownBlock≠some g∧d.In w:=by
   intro d hm g hb
   rcases List.mem_append.1 hm with hm | hm
   ·exact ⟨(hk.ins d hm).lt hb,hk.sep d hm g hb,hk.ins d hm⟩
   ·obtain rfl:=List.mem_singleton.1 hm
    exact ⟨hin.lt hb,hsep g hb,hin⟩
  have hin':∀ d∈ds ++ [nd],d.In w:=by
   intro d hm
   rcases List.mem_append.1 hm with hm | hm
   ·exact hk.ins d hm
   ·obtain rfl:=List.mem_singleton.1 hm
    exact hin
  refine h v' w' ⟨?_,fun d hm=>(hin' d hm).keep (fun g hb=>?_),fun d hm g hb=>?_,fun d hm g hb e=>?_⟩ hg ?_
  ·rw [F0,List.length_append]
   have e:B6 [nd]=nd.cs:=by simp [B6]
   rw [e]
   exact h2
  ·obtain ⟨h6,h7,_⟩:=hsep' d hm g hb
   exact hg.block g h6 (fun e=>h7 e.symm)
  ·rcases List.mem_append.1 hm with hm | hm
   ·exact hk.new d hm g hb
   ·obtain rfl:=List.mem_singleton.1 hm
    exact hnew g hb
  ·obtain ⟨h6,h7,_⟩:=hsep' d hm g hb
   rcases h5 with h5 | h5
   ·exact h7 (h5.symm.trans e)
   ·rw [h5,World.size_alloc] at e
    injection e with e
    omega
  ·rcases h5 with h5 | h5
   ·exact .inl h5
   ·exact .inr ⟨_,h5,by simp⟩
structure Strs (W:World) (B:Nat) (v:Value) (ls:List (List UInt8)):Prop where
 own:W.ownsRow B 9 1 v ls.length (ls.map C0)
theorem Strs.nil (W:World) (B:Nat):Strs W B (.slice none 0 0) []:=⟨⟨rfl,.inl ⟨rfl,rfl⟩⟩⟩
theorem Strs.grown {W W':World} {B:Nat} {v:Value} {ls:List (List UInt8)} {row:Option Nat} (h:Strs W B v ls) (hg:W.grownBy W' row) (hr:∀ g,row=some g→v.ownBlock≠some g):Strs W' B v ls:=
 ⟨Ds h.own (fun g hv=>hg.block g (Ao h.own g hv).2 (fun e=>hr g e.symm hv))⟩
theorem Strs.old {W W':World} {B:Nat} {v:Value} {ls:List (List UInt8)} {rb:Nat} (h:Strs W B v ls) (hg:W.grownBy W' (some rb)) (hr:rb<B):Strs W' B v ls:=
 h.grown hg (fun g e=>by cases e;exact fun e=>by have:=(Ao h.own _ e).1;omega)
theorem Strs.alloc {W:World} {B:Nat} {v:Value} {ls:List (List UInt8)} (h:Strs W B v ls) (o:Obj):Strs (W.alloc o) B v ls:=h.grown (World.grownBy_alloc W o none) (fun g e=>by cases e)
theorem Strs.slice {W:World} {B:Nat} {v:Value} {ls:List (List UInt8)} (h:Strs W B v ls):∃ a c,v=.slice a ls.length c∧ls.length≤c∧c≤maxLen∧Eu W a ls∧(∀ g,ls≠[]→Bj a g→B≤g):=by
 rcases h.own.2 with ⟨rfl,h0⟩ | ⟨g,cap,cur,rfl,hb,hh,hc,hm,hsz,htk⟩
 ·have:ls=[]:=List.eq_nil_of_length_eq_zero h0
  subst this
  exact ⟨none,0,rfl,Nat.le_refl _,Nat.zero_le _,fun i x hx=>by simp at hx,fun g hn=>absurd rfl hn⟩
 ·refine ⟨_,cap,rfl,hc,hm,fun i x hx=>⟨g,0,rfl,?_⟩,fun g' _ ho=>?_⟩
  ·have hil:=(List.getElem?_eq_some_iff.1 hx).1
   have h1:(ls.map C0)[i]?=some (C0 x):=by rw [List.getElem?_map,hx];rfl
   rw [← htk,List.getElem?_take_of_lt (by omega)] at h1
   rw [Nat.zero_add,cell_of_row W g i cur _ (0,0) hh]
   simpa [C0] using h1
  ·obtain ⟨o,e⟩:=ho
   cases e
   exact hb
theorem Fz {w:World} {B:Nat} {v:Value} {ls:List (List UInt8)} {ops:Array Oper} {rest:List Oper} {o:Oper} {a:Act} {Q:Exit→Act→World→Prop} (hgd:o.guard=none) (s x:Operand)
  (ho:o.op=.call { callee:=.builtin .append,args:=#[s,x],argTypes:=#[23,23] })
  (hs:a.eval s=v) (hk:Strs w B v ls) (l:List UInt8)
  (hx:a.eval x=.slice (some ⟨w.heap.size,0,none⟩) 1 1) (hlen:ls.length+1≤1000000000) (hB:B≤w.heap.size)
  (h:∀ v' w',Strs w' B v' (ls ++ [l])→w.grownBy w' v.ownBlock→(v'.ownBlock=v.ownBlock∨∃ g,v'.ownBlock=some g∧w.heap.size≤g)→wpList Tryz.prog ops Q rest (a.put o.dst v') w') :
  wpList Tryz.prog ops Q (o :: rest) a (w.alloc (.cells #[.string ⟨l.toArray⟩] 9)):=by
 obtain ⟨i,hi,hz,hsz,hby⟩:=info_parts Pq
 have hk1:=hk.alloc (.cells #[.string ⟨l.toArray⟩] 9)
 refine wpList_append_own_at (w:=w.alloc (.cells #[.string ⟨l.toArray⟩] 9)) (P:=Tryz.prog) hgd s x 23 ho B 9 i (.string ⟨#[]⟩) 1 16 Tryz.underlying23 hi hz hsz hby rfl (by decide) v ls.length (ls.map C0) hs hk1.own
  ⟨w.heap.size,0,none⟩ 1 1 [.string ⟨l.toArray⟩] hx rfl (cell_one_new _ _ _) (by simp [Value.oneCell']) (by unfold maxLen;omega) (by omega) (by simp;omega) ?_
 intro v' w' h2 h3 _ h5
 refine h v' w' ⟨?_⟩ (Ah (World.grownBy_alloc w _ _) h3) ?_
 ·rw [List.map_append,List.length_append]
  exact h2
 ·rcases h5 with h5 | h5
  ·exact .inl h5
  ·exact .inr ⟨_,h5,by simp⟩
end Go.Proofs.YtnjokdbblmlhhaaGreatDoor
namespace Go.Proofs.YtnjokdbblmlhhaaGreatDoor
set_option linter.unusedVariables false
set_option linter.unusedSimpArgs false
open Go.RowKit
theorem P0 (a:Option Addr) (c:Nat) (ks:List (List UInt8)) (w:World) (h:Eu w a ks) (hl:ks.length≤1000000000) :
  Calls Tryz.prog 85 #[.slice a ks.length c] w fun e w'=>∃ a' c',e=.returned (.slice a' ks.length c')∧Hid (Strs w' w.heap.size (.slice a' ks.length c') ks)∧Below w.heap.size w w':=by
 by_cases hn:ks=[]
 ·subst hn
  cases a with
  | none=>
   refine (Tryz.slices_Clone_string_nil 0 c w).mono ?_
   rintro e w' ⟨rfl,rfl⟩
   exact ⟨none,0,rfl,Ab (Strs.nil _ _),Below.refl _ _⟩
  | some ad=>
   refine (Tryz.slices_Clone_string_zero ad c w).mono ?_
   rintro e w' ⟨v,rfl,hown,_,hb⟩
   have hs:Strs w' w.heap.size v []:=⟨hown⟩
   obtain ⟨a',c',rfl,_⟩:=hs.slice
   exact ⟨a',c',rfl,Ab hs,hb⟩
 ·obtain ⟨b,o,rfl,hc⟩:=Mk h hn
  refine (Tryz.slices_Clone_string b o ks.length c (ks.map bz) w (by simp) (by omega) hc).mono ?_
  rintro e w' ⟨v,rfl,hown,_,hb⟩
  rw [List.take_of_length_le (by simp)] at hown
  have hs:Strs w' w.heap.size v ks:=⟨by rw [List.map_map] at hown;exact hown⟩
  obtain ⟨a',c',rfl,_⟩:=hs.slice
  exact ⟨a',c',rfl,Ab hs,hb⟩
end Go.Proofs.YtnjokdbblmlhhaaGreatDoor
namespace Go.Proofs.YtnjokdbblmlhhaaGreatDoor
set_option linter.unusedVariables false
set_option linter.unusedSimpArgs false
open Go.RowKit
attribute [local go_sem] Jz Ka
def Q9 (w:World) (B rb:Nat) (all r:List Tk) (d:P20.T) (nd:Nd) (w':World):Prop:=nd.bare=d∧nd.In w'∧(∀ g,nd.blk g→w.heap.size≤g)∧D6 w' B rb all r∧w.grownBy w' (some rb)
def O6 (w:World) (B rb:Nat) (all:List Tk):P20.Out P20.T→Ending→World→Prop
 | .ok d r,e,w'=>∃ (k:Nat) (t:List UInt8) (ka:Option Addr) (kc:Nat) (ks:List (List UInt8)) (da:Option Addr) (dc:Nat) (ds:List Nd) (l:Int),
   e=.returned (.agg #[.int .u8 k,.string ⟨t.toArray⟩,.slice ka ks.length kc,.slice da ds.length dc,.int .i64 l])∧Hid (Q9 w B rb all r d (.mk k t ka kc ks da dc ds l) w')
 | .bad x l,e,w'=>e=Jm x l∧Hid (w.grownBy w' (some rb))
def Te (last:Int) (f:Nat):Prop:=∀ (lv:Nat) (ts:List Tk) (B rb:Nat) (all:List Tk) (o:P20.Out P20.T) (w:World),D6 w B rb all ts→B≤w.heap.size→Fl all=last→lv≤17→ts.length≤100000000→P20.Val last f lv ts o →
 Calls Tryz.prog 68 #[.pointer (some ⟨rb,0,none⟩),.int .i64 lv] w (O6 w B rb all o)
def U9 (last:Int) (f:Nat):Prop:=∀ (lv:Nat) (line:Int) (ts:List Tk) (B rb:Nat) (all:List Tk) (o:P20.Out P20.T) (k0:Nat) (x0:List UInt8) (c0:Int) (w:World),D6 w B rb all ts→B≤w.heap.size→Fl all=last→lv≤17→ts.length≤100000000→P20.Wi last f lv line ts o →
 Calls Tryz.prog 141 #[.pointer (some ⟨rb,0,none⟩),.agg #[.int .u8 k0,.string ⟨x0.toArray⟩,.int .i64 line,.int .i64 c0],.int .i64 lv] w (O6 w B rb all o)
theorem B0 (B rb:Nat) (all ts:List Tk) (q:Int) (w:World) (h:D6 w B rb all ts) (hq:((P20.kindOf ts:Nat):Int)=q):Calls Tryz.prog 106 #[.pointer (some ⟨rb,0,none⟩)] w fun e w'=>e=.returned (.int .u8 q)∧w=w':=by
 rw [← hq]
 exact Fd B rb all ts w h
theorem Jf {A W:World} {row:Option Nat} (h:A.grownBy W row) {g:Nat} (hg:A.heap.size≤g) (v0 v1 v2 v3 v4:Value):A.grownBy (((((W.setCell ⟨g,0,none⟩ v0).setCell ⟨g,1,none⟩ v1).setCell ⟨g,2,none⟩ v2).setCell ⟨g,3,none⟩ v3).setCell ⟨g,4,none⟩ v4) row:=
 Bf (Bf (Bf (Bf (Bf h hg v0) hg v1) hg v2) hg v3) hg v4
theorem Sm {w w1 w2 w4:World} {B rb:Nat} {all ts r:List Tk} {d:P20.T} {nd:Nd} {o:Obj} (h:Q9 w1 B rb all ts d nd w2) (hw:w.grownBy w1 (some rb)) (h4:(w2.alloc o).grownBy w4 (some rb)) (hR4:D6 w4 B rb all r) (hB:B≤w.heap.size)
  {H:Nat} (hH:w.heap.size≤H) (hH2:H<w1.heap.size) (v0 v1 v2 v3 v4:Value) :
  Q9 w B rb all r d nd (((((w4.setCell ⟨H,0,none⟩ v0).setCell ⟨H,1,none⟩ v1).setCell ⟨H,2,none⟩ v2).setCell ⟨H,3,none⟩ v3).setCell ⟨H,4,none⟩ v4):=by
 obtain ⟨h1,h2,h3,h5,h6⟩:=h
 have hz1:=hw.size
 have hz2:=h6.size
 have hlt:=hR4.lt
 refine ⟨h1,h2.keep (fun g hg=>?_),fun g hg=>Nat.le_trans hw.size (h3 g hg),(((((hR4.setCell (by omega) _ _).setCell (by omega) _ _).setCell (by omega) _ _).setCell (by omega) _ _).setCell (by omega) _ _),?_⟩
 ·have hg1:=h3 g hg
  have hg2:=h2.lt hg
  rw [Az (by omega)]
  exact (h4.block g (by simp;omega) (fun e=>by injection e;omega)).trans (Below.heap_alloc _ _ _ hg2)
 ·exact Jf (Ah (Ah hw h6) (Ah (World.grownBy_alloc w2 o _) h4)) hH _ _ _ _ _
set_option maxRecDepth 100000 in
set_option maxHeartbeats 4000000 in
theorem Mt (last:Int) (f:Nat) (hV:Te last f):U9 last (f+1):=by
 intro lv line ts B rb all o k0 x0 c0 w h hB hla hlv hn hd
 obtain ⟨W0,hW0⟩:∃ W0,(w.alloc (.cells #[.int .u8 k0,.string ⟨x0.toArray⟩,.int .i64 line,.int .i64 c0] 124)).alloc (.cells #[.int .u8 0,.string ⟨#[]⟩,.slice none 0 0,.slice none 0 0,.int .i64 0] 26)=W0:=⟨_,rfl⟩
 have hR0:D6 W0 B rb all ts:=by rw [← hW0];exact (h.alloc hB _).alloc (by simp;omega) _
 have hb0:Below w.heap.size w W0:=by rw [← hW0];exact ((Below.refl _ w).alloc (Nat.le_refl _) _).alloc (by simp) _
 have hs0:W0.heap.size=w.heap.size+1+1:=by rw [← hW0];simp
 have g0:W0.heap[w.heap.size]?=some (.cells #[.int .u8 k0,.string ⟨x0.toArray⟩,.int .i64 line,.int .i64 c0] 124):=by
  rw [← hW0];exact (Below.heap_alloc _ _ _ (by simp)).trans (World.alloc_heap_new w _)
 have g1:W0.heap[w.heap.size+1]?=some (.cells #[.int .u8 0,.string ⟨#[]⟩,.slice none 0 0,.slice none 0 0,.int .i64 0] 26):=by
  rw [← hW0];exact Cy w _ _
 obtain ⟨⟨x0,_⟩,⟨x1,_⟩,⟨x2,_⟩,⟨x3,_⟩⟩:=A1 g0
 have HW0:=Ab hW0
 have HS0:=Ab hs0
 have HG1:=Ab g1
 have HLA:=Ab hla
 clear hW0 g0 g1 h hs0 hla
 have hd':=hd
 cases hd with
 | empty hk=>
  have jk:((P20.kindOf ts:Nat):Int)≠1:=by omega
  have jk2:(((P20.kindOf ts:Nat):Int) != 1)=true:=by simpa using jk
  clear hk jk hd'
  go_enter Tryz.func141,Tryz.ntmps141
  go_upto_region 1 with fail
  rw [Aa HW0]
  go_wp2_with (first
   | (go_at_call 106;refine (Fd B rb all ts _ hR0).mono ?_;rintro e w' ⟨rfl,rfl⟩)
   | (go_at_call 110;refine (L0 _ _ _).mono ?_;rintro e w' ⟨rfl,rfl⟩))
  exact ⟨rfl,rfl,Ab (Aj hb0 _)⟩
 | @ok _ _ _ n c n' c' x x' ts r d hv=>
  simp only [List.length_cons] at hn
  have hles:=((P20.less last f).1 _ _ _ _ hv)
  simp only [List.length_cons] at hles
  clear hd'
  go_enter Tryz.func141,Tryz.ntmps141
  go_upto_region 1 with fail
  rw [Aa HW0]
  go_upto_region 4 with (first
   | (go_at_call 106;refine (B0 B rb all _ 1 _ hR0 rfl).mono ?_;rintro e w' ⟨rfl,rfl⟩)
   | (go_at_call 107;refine (Dc B rb all _ _ _ _ _ _ hR0 (by have:=hb0.size;omega)).mono ?_;rintro e w1 ⟨rfl,hR1,hg1⟩))
  have hz1:=hg1.size
  have hz0:=hb0.size
  have hBw1:B≤w1.heap.size:=by omega
  have hl1:ts.length≤100000000:=by omega
  go_upto_region 5 with (go_at_call 68;refine (hV lv ts B rb all _ _ hR1 hBw1 (Aa HLA) hlv hl1 hv).mono ?_;rintro e w2 ⟨k,t,ka,kc,ks,da,dc,ds,l,rfl,HN⟩)
  have HN':=Aa HN
  obtain ⟨hbare,hin,hnew,hR2,hg2⟩:=HN'
  have hz2:=hg2.size
  have hrb:=hR2.lt
  obtain ⟨W3,hW3⟩:∃ W3,w2.alloc (.cells #[.int .u8 k,.string ⟨t.toArray⟩,.slice ka ks.length kc,.slice da ds.length dc,.int .i64 l] 26)=W3:=⟨_,rfl⟩
  have hR3:D6 W3 B rb all ((2,x',n',c') :: r):=by rw [← hW3];exact hR2.alloc (by omega) _
  have hz3:W3.heap.size=w2.heap.size+1:=by rw [← hW3];simp
  have g3:W3.heap[w2.heap.size]?=some (.cells #[.int .u8 k,.string ⟨t.toArray⟩,.slice ka ks.length kc,.slice da ds.length dc,.int .i64 l] 26):=by rw [← hW3];exact World.alloc_heap_new w2 _
  have HS:=Aa HS0
  have g4:W3.heap[w.heap.size+1]?=some (.cells #[.int .u8 0,.string ⟨#[]⟩,.slice none 0 0,.slice none 0 0,.int .i64 0] 26):=by
   rw [← hW3]
   exact (Below.heap_alloc _ _ _ (by omega)).trans ((hg2.block _ (by omega) (fun e=>by injection e;omega)).trans ((hg1.block _ (by omega) (fun e=>by injection e;omega)).trans (Aa HG1)))
  rw [hW3]
  have HW3:=Ab hW3
  have HZ3:=Ab hz3
  have HSZ:=Ab HS
  clear hW3 hbare hin hnew hR2 x0 x1 x2 x3 hR0 hR1 hz3 HS
  obtain ⟨D,hD⟩:∃ D,w2.heap.size=D:=⟨_,rfl⟩
  rw [hD] at g3 ⊢
  have HD:=Ab hD
  clear hD
  go_upto_region 8 with (first
   | (go_at_call 106;refine (B0 B rb all _ 2 _ hR3 rfl).mono ?_;rintro e w' ⟨rfl,rfl⟩)
   | (go_at_call 107;refine (Dc B rb all _ _ _ _ _ _ hR3 (by have:=Aa HZ3;omega)).mono ?_;rintro e w4 ⟨rfl,hR4,hg4⟩))
  have hDz:=Aa HZ3
  rw [Aa HD] at hDz
  have hHz:=Aa HSZ
  have hDD:=Aa HD
  have k3:=(hg4.block _ (by omega) (fun e=>by injection e;omega)).trans g3
  have k4:=(hg4.block _ (by omega) (fun e=>by injection e;omega)).trans g4
  obtain ⟨⟨y0,_⟩,⟨y1,_⟩,⟨y2,_⟩,⟨y3,_⟩,⟨y4,_⟩⟩:=Ad k3
  obtain ⟨⟨z0,q0⟩,⟨z1,q1⟩,⟨z2,q2⟩,⟨z3,q3⟩,⟨z4,q4⟩⟩:=Ad k4
  have HK4:=Ab k4
  have hne:D≠w.heap.size+1:=by omega
  clear g3 g4 k3 k4 hDz hHz hDD
  go_wp2
  rw [← Aa HW3] at hg4
  refine bodyPost_ret (results_cell_row rfl _ _ _ _ _ _ _ rfl (B9 (Aa HK4) _ _ _ _ _) Tryz.underlying26 rfl (by kernel_rfl)) rfl ⟨k,t,ka,kc,ks,da,dc,ds,l,rfl,Ab ?_⟩
  exact Sm (Aa HN) (Ah (Aj hb0 _) hg1) hg4 hR4 hB (by omega) (by have:=Aa HSZ;omega) _ _ _ _ _
 | @form _ _ _ n c x ts r d hv hk=>
  simp only [List.length_cons] at hn
  have jk:((P20.kindOf r:Nat):Int)≠2:=by omega
  have jk2:(((P20.kindOf r:Nat):Int) != 2)=true:=by simpa using jk
  clear hd' jk hk
  go_enter Tryz.func141,Tryz.ntmps141
  go_upto_region 1 with fail
  rw [Aa HW0]
  go_upto_region 4 with (first
   | (go_at_call 106;refine (B0 B rb all _ 1 _ hR0 rfl).mono ?_;rintro e w' ⟨rfl,rfl⟩)
   | (go_at_call 107;refine (Dc B rb all _ _ _ _ _ _ hR0 (by have:=hb0.size;omega)).mono ?_;rintro e w1 ⟨rfl,hR1,hg1⟩))
  have hz1:=hg1.size
  have hz0:=hb0.size
  have hBw1:B≤w1.heap.size:=by omega
  have hl1:ts.length≤100000000:=by omega
  go_upto_region 5 with (go_at_call 68;refine (hV lv ts B rb all _ _ hR1 hBw1 (Aa HLA) hlv hl1 hv).mono ?_;rintro e w2 ⟨k,t,ka,kc,ks,da,dc,ds,l,rfl,HN⟩)
  obtain ⟨_,_,_,hR2,hg2⟩:=Aa HN
  have hz2:=hg2.size
  obtain ⟨W3,hW3⟩:∃ W3,w2.alloc (.cells #[.int .u8 k,.string ⟨t.toArray⟩,.slice ka ks.length kc,.slice da ds.length dc,.int .i64 l] 26)=W3:=⟨_,rfl⟩
  have hR3:D6 W3 B rb all r:=by rw [← hW3];exact hR2.alloc (by omega) _
  have hg3:w.grownBy W3 (some rb):=by
   rw [← hW3];exact Ah (Ah (Ah (Aj hb0 _) hg1) hg2) (World.grownBy_alloc w2 _ _)
  rw [hW3]
  clear hW3 hR2 x0 x1 x2 x3 hR0 hR1
  go_wp2_with (first
   | (go_at_call 106;refine (Fd B rb all _ _ hR3).mono ?_;rintro e w' ⟨rfl,rfl⟩)
   | (go_at_call 69;refine (D0 B rb all _ _ _ hR3).mono ?_;rintro e w' ⟨rfl,hb4⟩))
  exact ⟨rfl,by rw [← Aa HLA],Ab (Ah hg3 (Aj hb4 _))⟩
 | @bad _ _ _ n c e l x ts hv=>
  simp only [List.length_cons] at hn
  clear hd'
  go_enter Tryz.func141,Tryz.ntmps141
  go_upto_region 1 with fail
  rw [Aa HW0]
  go_upto_region 4 with (first
   | (go_at_call 106;refine (B0 B rb all _ 1 _ hR0 rfl).mono ?_;rintro e w' ⟨rfl,rfl⟩)
   | (go_at_call 107;refine (Dc B rb all _ _ _ _ _ _ hR0 (by have:=hb0.size;omega)).mono ?_;rintro e w1 ⟨rfl,hR1,hg1⟩))
  have hz1:=hg1.size
  have hz0:=hb0.size
  have hBw1:B≤w1.heap.size:=by omega
  have hl1:ts.length≤100000000:=by omega
  go_wp2_with (go_at_call 68;refine (hV lv ts B rb all _ _ hR1 hBw1 (Aa HLA) hlv hl1 hv).mono ?_;rintro e w2 ⟨rfl,HN⟩)
  exact ⟨rfl,rfl,Ab (Ah (Ah (Aj hb0 _) hg1) (Aa HN))⟩
def Sb (w:World) (B rb:Nat) (all:List Tk):P20.Out (List P20.T)→Ending→World→Prop
 | .ok dT r,e,w'=>∃ (a:Option Addr) (c:Nat) (ds:List Nd),e=.returned (.slice a ds.length c)∧Hid (Am ds=dT∧Dt w' w.heap.size (.slice a ds.length c) ds∧D6 w' B rb all r∧w.grownBy w' (some rb))
 | .bad x l,e,w'=>e=Jm x l∧Hid (w.grownBy w' (some rb))
def Vb (last:Int) (f:Nat):Prop:=∀ (lv:Nat) (ts:List Tk) (B rb:Nat) (all:List Tk) (o:P20.Out (List P20.T)) (w:World),D6 w B rb all ts→B≤w.heap.size→Fl all=last→lv≤17→ts.length≤100000000→P20.Sq last f lv [] ts o →
 Calls Tryz.prog 108 #[.pointer (some ⟨rb,0,none⟩),.int .i64 lv] w (Sb w B rb all o)
theorem F9 {A B C:World} {row row2:Option Nat} (h:A.grownBy B row) (k:B.grownBy C row2) (hr:∀ g,row2=some g→A.heap.size≤g):A.grownBy C row:=
 ⟨k.os.trans h.os,k.tape.trans h.tape,k.output.trans h.output,Nat.le_trans h.size k.size,fun i hi hne=>(k.block i (Nat.lt_of_lt_of_le hi h.size) (fun e=>by have:=hr i e.symm;omega)).trans (h.block i hi hne)⟩
theorem J7 {w wr w2 w3:World} {B rb:Nat} {all r:List Tk} {d:P20.T} {v:Value} {ds:List Nd} {nd:Nd} (hg:w.grownBy wr (some rb)) (hk:Dt wr w.heap.size v ds) (hrb:rb<B) (hB:B≤w.heap.size) (h1:wr.grownBy w2 (some rb)) (h:Q9 w2 B rb all r d nd w3) :
  Dt w3 w.heap.size v ds∧nd.In w3∧(∀ g,nd.blk g→w.heap.size≤g)∧(∀ g,nd.blk g→v.ownBlock≠some g)∧w.grownBy w3 (some rb):=by
 obtain ⟨h2,h3,h4,h5,h6⟩:=h
 have z0:=hg.size
 have z1:=h1.size
 refine ⟨(hk.old h1 (by omega)).old h6 (by omega),h3,fun g hb=>by have:=h4 g hb;omega,fun g hb e=>?_,Ah (Ah hg h1) h6⟩
 have:=(Ao hk.own g e).2
 have:=h4 g hb
 omega
set_option maxRecDepth 100000 in
set_option maxHeartbeats 4000000 in
theorem R2 (last:Int) (F:Nat) (hW:∀ g,g<F→U9 last g):Vb last F:=by
 intro lv ts B rb all o w h hB hla hlv hn hd
 have HW:=Ab hW
 have HLA:=Ab hla
 clear hW hla
 go_enter Tryz.func108,Tryz.ntmps108
 go_wp2
 go_loopg [5] F (fun g s5 wx=>∃ (ds:List Nd) (us:List Tk),g≤F∧Hid (P20.Sq last g lv (Am ds) us o)∧Dt wx w.heap.size s5 ds∧D6 wx B rb all us∧w.grownBy wx (some rb)∧us.length+ds.length≤100000000)
 case atStart=>exact ⟨[],ts,Nat.le_refl _,Ab hd,Dt.nil w _,h,World.grownBy.refl w _,by simpa using hn⟩
 case round=>
  obtain ⟨ds,us,hgF,HD,hK,hR,hG,hlen⟩:=hrel
  have hs:=Aa HD
  clear HD
  have hrb:=hR.lt
  have hz0:=hG.size
  cases hs with
  | done hk=>
   obtain ⟨a,c,hv,_⟩:=hK.slice
   have jk:((P20.kindOf us:Nat):Int)≠3:=by omega
   have jk2:(((P20.kindOf us:Nat):Int) == 3)=false:=by simpa using jk
   have HP:=Ab (show Sb w B rb all (.ok (Am ds) us) (.returned u5) wr from ⟨a,c,ds,by rw [hv],Ab ⟨rfl,by rw [← hv];exact hK,hR,hG⟩⟩)
   clear hk jk hv
   go_wp2_with (go_at_call 106;refine (Fd B rb all _ _ hR).mono ?_;rintro e w' ⟨rfl,rfl⟩)
   go_ret
   exact Aa HP
  | @next g _ _ x n c r r' d _ hw hs=>
   have hlw:=(P20.less last g).2.1 _ _ _ _ _ hw
   simp only [List.length_cons] at hlen
   have hl1:r.length≤100000000:=by omega
   have hWi:=Aa HW g (by omega)
   have HS:=Ab hs
   clear hs
   go_wp2_with (first
    | (go_at_call 106;refine (B0 B rb all _ 3 _ hR rfl).mono ?_;rintro e w' ⟨rfl,rfl⟩)
    | (go_at_call 107;refine (Dc B rb all _ _ _ _ _ _ hR (by omega)).mono ?_;rintro e w2 ⟨rfl,hR2,hg2⟩;have hz2:=hg2.size)
    | (go_at_call 141;refine (hWi lv n r B rb all _ 3 x c w2 hR2 (by omega) (Aa HLA) hlv hl1 hw).mono ?_;rintro e w3 ⟨k,t,ka,kc,ks,da,dc,es,l,rfl,HN⟩;have HM:=Ab (J7 hG hK hrb hB hg2 (Aa HN));have hm1:=(Aa HM).1;have hz3:=(Aa HM).2.2.2.2.size)
    | (at_builtin;refine Ek (v:=u5) (B:=w.heap.size) rfl _ _ rfl rfl hm1 rfl (Aa HM).2.1 (Aa HM).2.2.1 (Aa HM).2.2.2.1 rfl (by omega) (by omega) ?_;intro v' w4 hK4 hg4 hat))
   have hr4:∀ q,u5.ownBlock=some q→w.heap.size≤q:=fun q e=>(Ao hm1.own q e).1
   have hR4:D6 w4 B rb all r':=(Aa HN).2.2.2.1.far (fun q hq=>hg4.block q (by omega) (fun e=>by have:=hr4 q e.symm;omega))
   go_roundg g
   case measure=>omega
   case rel=>exact ⟨ds ++ [.mk k t ka kc ks da dc es l],r',by omega,Ab (by rw [Cu];have e:=(Aa HN).1;simp only [Am];rw [e];exact Aa HS),hK4,hR4,F9 (Aa HM).2.2.2.2 hg4 hr4,by simp;omega⟩
  | @bad g _ _ x n c e l r hw=>
   simp only [List.length_cons] at hlen
   have hl1:r.length≤100000000:=by omega
   have hWi:=Aa HW g (by omega)
   go_wp2_with (first
    | (go_at_call 106;refine (B0 B rb all _ 3 _ hR rfl).mono ?_;rintro e w' ⟨rfl,rfl⟩)
    | (go_at_call 107;refine (Dc B rb all _ _ _ _ _ _ hR (by omega)).mono ?_;rintro e w2 ⟨rfl,hR2,hg2⟩;have hz2:=hg2.size)
    | (go_at_call 141;refine (hWi lv n r B rb all _ 3 x c w2 hR2 (by omega) (Aa HLA) hlv hl1 hw).mono ?_;rintro e w3 ⟨rfl,HN⟩))
   exact ⟨rfl,rfl,Ab (Ah (Ah hG hg2) (Aa HN))⟩
structure KS (W:World) (B:Nat) (kv dv:Value) (ks:List (List UInt8)) (ds:List Nd):Prop where
 str:Strs W B kv ks
 kids:Dt W B dv ds
 sep:∀ g,kv.ownBlock=some g→dv.ownBlock≠some g∧∀ d∈ds,¬ d.blk g
theorem KS.nil (W:World) (B:Nat):KS W B (.slice none 0 0) (.slice none 0 0) [] []:=⟨Strs.nil W B,Dt.nil W B,fun g h=>by cases h⟩
theorem KS.old {W W':World} {B rb:Nat} {kv dv:Value} {ks:List (List UInt8)} {ds:List Nd} (h:KS W B kv dv ks ds) (hg:W.grownBy W' (some rb)) (hr:rb<B):KS W' B kv dv ks ds:=⟨h.str.old hg hr,h.kids.old hg hr,h.sep⟩
theorem KS.alloc {W:World} {B:Nat} {kv dv:Value} {ks:List (List UInt8)} {ds:List Nd} (h:KS W B kv dv ks ds) (o:Obj):KS (W.alloc o) B kv dv ks ds:=⟨h.str.alloc o,h.kids.alloc o,h.sep⟩
theorem KS.key {W W':World} {B:Nat} {kv kv' dv:Value} {ks ks':List (List UInt8)} {ds:List Nd} (h:KS W B kv dv ks ds) (hs:Strs W' B kv' ks') (hg:W.grownBy W' kv.ownBlock) (hat:kv'.ownBlock=kv.ownBlock∨∃ g,kv'.ownBlock=some g∧W.heap.size≤g):KS W' B kv' dv ks' ds:=by
 refine ⟨hs,h.kids.grown hg h.sep,fun g e=>?_⟩
 rcases hat with hat | ⟨g2,e2,hl⟩
 ·exact h.sep g (hat ▸ e)
 ·rw [e2] at e
  injection e with e
  subst e
  exact ⟨fun e3=>by have:=(Ao h.kids.own _ e3).2;omega,fun d hm hb=>by have:=(h.kids.ins d hm).lt hb;omega⟩
theorem KS.kid {W W':World} {B:Nat} {kv dv dv':Value} {ks:List (List UInt8)} {ds:List Nd} {nd:Nd} (h:KS W B kv dv ks ds) (hk:Dt W' B dv' (ds ++ [nd])) (hg:W.grownBy W' dv.ownBlock) (hat:dv'.ownBlock=dv.ownBlock∨∃ g,dv'.ownBlock=some g∧W.heap.size≤g)
  (hn:∀ g,nd.blk g→kv.ownBlock≠some g):KS W' B kv dv' ks (ds ++ [nd]):=by
 refine ⟨h.str.grown hg (fun g e e2=>(h.sep g e2).1 e),hk,fun g e=>⟨fun e2=>?_,fun d hm hb=>?_⟩⟩
 ·rcases hat with hat | ⟨g2,e3,hl⟩
  ·exact (h.sep g e).1 (hat ▸ e2)
  ·rw [e3] at e2
   injection e2 with e2
   have:=(Ao h.str.own g e).2
   omega
 ·rcases List.mem_append.1 hm with hm | hm
  ·exact (h.sep g e).2 d hm hb
  ·obtain rfl:=List.mem_singleton.1 hm
   exact hn g hb e
def Rx (w:World) (B rb:Nat) (all:List Tk):P20.Out (List (List UInt8) × List P20.T)→Ending→World→Prop
 | .ok p r,e,w'=>∃ (ka:Option Addr) (kc:Nat) (ks:List (List UInt8)) (da:Option Addr) (dc:Nat) (ds:List Nd),e=.returned (.tuple #[.slice ka ks.length kc,.slice da ds.length dc]) ∧
   Hid (p=(ks,Am ds)∧KS w' w.heap.size (.slice ka ks.length kc) (.slice da ds.length dc) ks ds∧D6 w' B rb all r∧w.grownBy w' (some rb)∧ks.length=ds.length)
 | .bad x l,e,w'=>e=Jm x l∧Hid (w.grownBy w' (some rb))
def Vc (last:Int) (f:Nat):Prop:=∀ (lv:Nat) (ts:List Tk) (B rb:Nat) (all:List Tk) (o:P20.Out (List (List UInt8) × List P20.T)) (w:World),D6 w B rb all ts→B≤w.heap.size→Fl all=last→lv≤17→ts.length≤100000000→P20.Ky last f lv [] [] ts o →
 Calls Tryz.prog 109 #[.pointer (some ⟨rb,0,none⟩),.int .i64 lv] w (Rx w B rb all o)
theorem O5 {w wr w2 w3:World} {B rb:Nat} {all r:List Tk} {d:P20.T} {kv dv:Value} {ks:List (List UInt8)} {ds:List Nd} {nd:Nd} (hg:w.grownBy wr (some rb)) (hk:KS wr w.heap.size kv dv ks ds) (hrb:rb<B) (hB:B≤w.heap.size) (h1:wr.grownBy w2 (some rb)) (h:Q9 w2 B rb all r d nd w3) :
  KS w3 w.heap.size kv dv ks ds∧nd.In w3∧(∀ g,nd.blk g→w.heap.size≤g)∧(∀ g,nd.blk g→dv.ownBlock≠some g)∧(∀ g,nd.blk g→kv.ownBlock≠some g)∧w.grownBy w3 (some rb):=by
 obtain ⟨k1,k2,k3,k4,k5⟩:=J7 hg hk.kids hrb hB h1 h
 obtain ⟨h2,h3,h4,h5,h6⟩:=h
 have z0:=hg.size
 have z1:=h1.size
 refine ⟨(hk.old h1 (by omega)).old h6 (by omega),k2,k3,k4,fun g hb e=>?_,k5⟩
 have:=(Ao hk.str.own g e).2
 have:=h4 g hb
 omega
set_option maxRecDepth 100000 in
set_option maxHeartbeats 8000000 in
theorem Q5 (last:Int) (F:Nat) (hV:∀ g,g<F→Te last g) (hW:∀ g,g<F→U9 last g):Vc last F:=by
 intro lv ts B rb all o w h hB hla hlv hn hd
 have HW:=Ab hW
 have HV:=Ab hV
 have HLA:=Ab hla
 clear hW hla hV
 go_enter Tryz.func109,Tryz.ntmps109
 go_wp2
 go_loopg [6,7] F (fun g s6 s7 wx=>∃ (ks:List (List UInt8)) (ds:List Nd) (us:List Tk),g≤F∧Hid (P20.Ky last g lv ks (Am ds) us o)∧KS wx w.heap.size s6 s7 ks ds∧D6 wx B rb all us∧w.grownBy wx (some rb)∧us.length+ds.length≤100000000∧Hid (ks.length=ds.length))
 case atStart=>exact ⟨[],[],ts,Nat.le_refl _,Ab hd,KS.nil w _,h,World.grownBy.refl w _,by simpa using hn,Ab rfl⟩
 case round=>
  obtain ⟨ks,ds,us,hgF,HD,hK,hR,hG,hlen,HL⟩:=hrel
  have hs:=Aa HD
  clear HD
  have hrb:=hR.lt
  have hz0:=hG.size
  have hlk:ks.length≤100000000:=by have:=Aa HL;omega
  rcases hs.way with ⟨hk,rfl⟩ | ⟨x,n,c,r,rfl,(⟨hx,rfl⟩ | ⟨hx,hm,rfl⟩ | ⟨hx,hm⟩)⟩
  ·clear hs
   obtain ⟨a,c,hv,_⟩:=hK.kids.slice
   obtain ⟨a2,c2,hv2,_⟩:=hK.str.slice
   have jk:((P20.kindOf us:Nat):Int)≠4:=by omega
   have jk2:(((P20.kindOf us:Nat):Int) == 4)=false:=by simpa using jk
   have HP:=Ab (show Rx w B rb all (.ok (ks,Am ds) us) (.returned (.tuple #[u6,u7])) wr from ⟨a2,c2,ks,a,c,ds,by rw [hv,hv2],Ab ⟨rfl,by rw [← hv,← hv2];exact hK,hR,hG,Aa HL⟩⟩)
   clear hk jk hv hv2
   go_wp2_with (go_at_call 106;refine (Fd B rb all _ _ hR).mono ?_;rintro e w' ⟨rfl,rfl⟩)
   go_ret2
   exact Aa HP
  ·clear hs
   have jx:(64:Int)<(x.length:Int):=by omega
   clear hx
   go_wp2_with (first
    | (go_at_call 106;refine (B0 B rb all _ 4 _ hR rfl).mono ?_;rintro e w' ⟨rfl,rfl⟩)
    | (go_at_call 105;refine (Ep B rb all _ 4 x n c _ hR rfl).mono ?_;rintro e w2 ⟨rfl,hb2⟩;have hR2:=hR.keep (by omega) hb2)
    | (go_at_call 69;refine (D0 B rb all _ _ _ hR2).mono ?_;rintro e w' ⟨rfl,hb4⟩))
   exact ⟨rfl,rfl,Ab (Ah (Ah hG (Aj hb2 _)) (Aj hb4 _))⟩
  ·clear hs
   have jx:(x.length:Int)≤64:=by omega
   clear hx
   obtain ⟨a2,c2,hv2,_,_,hin,_⟩:=hK.str.slice
   have hkc:∀ W,Below wr.heap.size wr W→Calls Tryz.prog 83 #[u6,.string ⟨x.toArray⟩] W fun e w'=>e=.returned (.bool true)∧W=w':=by
    intro W hb
    obtain ⟨a3,c3,hv3,_,_,hin3,_⟩:=(hK.str.grown (Aj hb none) (fun g e=>by cases e)).slice
    rw [hv3]
    have:=Eh a3 c3 ks x W hin3 (by unfold maxLen;omega)
    rwa [decide_eq_true hm] at this
   have HKC:=Ab hkc
   clear hkc hv2 hm hin
   go_wp2_with (first
    | (go_at_call 106;refine (B0 B rb all _ 4 _ hR rfl).mono ?_;rintro e w' ⟨rfl,rfl⟩)
    | (go_at_call 105;refine (Ep B rb all _ 4 x n c _ hR rfl).mono ?_;rintro e w2 ⟨rfl,hb2⟩;have hR2:=hR.keep (by omega) hb2)
    | (go_at_call 83;refine (Aa HKC w2 hb2).mono ?_;rintro e w' ⟨rfl,rfl⟩)
    | (go_at_call 69;refine (D0 B rb all _ _ _ hR2).mono ?_;rintro e w' ⟨rfl,hb4⟩))
   exact ⟨rfl,rfl,Ab (Ah (Ah hG (Aj hb2 _)) (Aj hb4 _))⟩
  ·obtain ⟨g,rfl,hrest⟩:=hs.rest hx hm
   have jx:(x.length:Int)≤64:=by omega
   simp only [List.length_cons] at hlen
   have hkc:∀ W,Below wr.heap.size wr W→Calls Tryz.prog 83 #[u6,.string ⟨x.toArray⟩] W fun e w'=>e=.returned (.bool false)∧W=w':=by
    intro W hb
    obtain ⟨a3,c3,hv3,_,_,hin3,_⟩:=(hK.str.grown (Aj hb none) (fun g e=>by cases e)).slice
    rw [hv3]
    have:=Eh a3 c3 ks x W hin3 (by unfold maxLen;omega)
    rwa [decide_eq_false hm] at this
   have HKC:=Ab hkc
   have HR:=Ab hrest
   clear hkc hrest hs hm hx
   go_upto_region 9 with (first
    | (go_at_call 106;refine (B0 B rb all _ 4 _ hR rfl).mono ?_;rintro e w' ⟨rfl,rfl⟩)
    | (go_at_call 105;refine (Ep B rb all _ 4 x n c _ hR rfl).mono ?_;rintro e w2 ⟨rfl,hb2⟩;have hR2:=hR.keep (by omega) hb2)
    | (go_at_call 83;refine (Aa HKC w2 hb2).mono ?_;rintro e w' ⟨rfl,rfl⟩))
   have hK2:=hK.old (Aj hb2 (some rb)) (by omega)
   have hG2:=Ah hG (Aj hb2 (some rb))
   clear hK hG hR HKC hb2
   have hz2:=hG2.size
   go_upto_region 10 with (go_at_call 107;refine (Dc B rb all _ _ _ _ _ _ hR2 (by omega)).mono ?_;rintro e w3 ⟨rfl,hR3,hg3⟩)
   have hz3:=hg3.size
   obtain ⟨W4,hW4⟩:∃ W4,w3.alloc (.cells #[.int .u8 4,.string ⟨x.toArray⟩,.int .i64 n,.int .i64 c] 124)=W4:=⟨_,rfl⟩
   have hK4:KS W4 w.heap.size u6 u7 ks ds:=by rw [← hW4];exact (hK2.old hg3 (by omega)).alloc _
   have hR4:D6 W4 B rb all r:=by rw [← hW4];exact hR3.alloc (by omega) _
   have hG4:w.grownBy W4 (some rb):=by rw [← hW4];exact Ah (Ah hG2 hg3) (World.grownBy_alloc _ _ _)
   have hT4:W4.heap[w3.heap.size]?=some (.cells #[.int .u8 4,.string ⟨x.toArray⟩,.int .i64 n,.int .i64 c] 124):=by rw [← hW4];exact World.alloc_heap_new w3 _
   have hkb:∀ q,u6.ownBlock=some q→w.heap.size≤q∧q<w2.heap.size:=fun q e=>Ao hK2.str.own q e
   rw [hW4]
   clear hW4 hK2 hG2 hR2 hR3 hg3
   obtain ⟨D,hD⟩:∃ D,w3.heap.size=D:=⟨_,rfl⟩
   rw [hD] at hT4 ⊢
   have hz4:=hG4.size
   have HKB:=Ab hkb
   have hDw:w2.heap.size≤D:=by omega
   clear hD hkb
   go_upto_region 11 with (at_builtin;refine Fz (v:=u6) (B:=w.heap.size) rfl _ _ rfl rfl hK4.str x rfl (by omega) (by omega) ?_;intro v5 w5 hS5 hg5 hat5)
   have hK5:=hK4.key hS5 hg5 hat5
   have hkb:=Aa HKB
   have hR5:D6 w5 B rb all r:=hR4.far (fun q hq=>hg5.block q (by omega) (fun e=>by have:=(hkb q e.symm).1;omega))
   have hT5:=(hg5.block D (Array.getElem?_eq_some_iff.1 hT4).1 (fun e=>by have:=(hkb D e.symm).2;omega)).trans hT4
   have hG5:=F9 hG4 hg5 (fun q e=>(hkb q e).1)
   have hz5:=hG5.size
   obtain ⟨⟨y0,_⟩,⟨y1,_⟩,⟨y2,_⟩,⟨y3,_⟩⟩:=A1 hT5
   have HT5:=Ab hT5
   have hDl:D<w5.heap.size:=(Array.getElem?_eq_some_iff.1 hT5).1
   have hrest:=Aa HR
   have hl1:r.length≤100000000:=by omega
   clear hkb HKB hT4 hT5 hR4 hG4 hg5 hS5 hat5 hK4 HR
   rcases hrest with ⟨hc,hrr⟩ | ⟨hc,hrr⟩
   ·have hin:Calls Tryz.prog 142 #[.pointer (some ⟨rb,0,none⟩),.int .i64 n] w5 fun e w'=>e=.returned (.bool true)∧Below w5.heap.size w5 w':=by
     have:=Jd B rb all r n w5 hR5
     rw [Aa HLA,decide_eq_true hc] at this
     exact this
    have HIN:=Ab hin
    clear hin hc
    rcases hrr with ⟨d,r',hv,hs2⟩ | ⟨e,l,hv,rfl⟩
    ·have hles:=(P20.less last g).1 _ _ _ _ hv
     have HS:=Ab hs2
     clear hs2
     go_wp2_with (first
      | (go_at_call 142;refine (Aa HIN).mono ?_;rintro e w6 ⟨rfl,hb6⟩;have hR6:=hR5.keep (by omega) hb6;have hz6:=hb6.size)
      | (go_at_call 68;refine (Aa HV g (by omega) lv r B rb all _ w6 hR6 (by omega) (Aa HLA) hlv hl1 hv).mono ?_;rintro e w7 ⟨k,t,ka,kc,ks2,da,dc,es,l,rfl,HN⟩;have HM:=Ab (O5 hG5 hK5 hrb hB (Aj hb6 (some rb)) (Aa HN));have hm1:=(Aa HM).1;have hm2:=hm1.kids;have hz7:=(Aa HM).2.2.2.2.2.size)
      | (at_builtin;refine Ek (v:=u7) (B:=w.heap.size) rfl _ _ rfl rfl hm2 rfl (Aa HM).2.1 (Aa HM).2.2.1 (Aa HM).2.2.2.1 rfl (by omega) (by omega) ?_;intro v8 w8 hK8 hg8 hat8))
     have hr8:∀ q,u7.ownBlock=some q→w.heap.size≤q:=fun q e=>(Ao hm2.own q e).1
     have hR8:D6 w8 B rb all r':=(Aa HN).2.2.2.1.far (fun q hq=>hg8.block q (by omega) (fun e=>by have:=hr8 q e.symm;omega))
     go_roundg g
     case measure=>omega
     case rel=>exact ⟨ks ++ [x],ds ++ [.mk k t ka kc ks2 da dc es l],r',by omega,Ab (by rw [Cu];have e:=(Aa HN).1;simp only [Am];rw [e];exact Aa HS),hm1.kid hK8 hg8 hat8 (Aa HM).2.2.2.2.1,hR8,F9 (Aa HM).2.2.2.2.2 hg8 hr8,by simp;omega,Ab (by have:=Aa HL;simp;omega)⟩
    ·go_wp2_with (first
      | (go_at_call 142;refine (Aa HIN).mono ?_;rintro e w6 ⟨rfl,hb6⟩;have hR6:=hR5.keep (by omega) hb6;have hz6:=hb6.size)
      | (go_at_call 68;refine (Aa HV g (by omega) lv r B rb all _ w6 hR6 (by omega) (Aa HLA) hlv hl1 hv).mono ?_;rintro e w7 ⟨rfl,HN⟩))
     exact ⟨rfl,rfl,Ab (Ah (Ah hG5 (Aj hb6 _)) (Aa HN))⟩
   ·have hin:Calls Tryz.prog 142 #[.pointer (some ⟨rb,0,none⟩),.int .i64 n] w5 fun e w'=>e=.returned (.bool false)∧Below w5.heap.size w5 w':=by
     have:=Jd B rb all r n w5 hR5
     rw [Aa HLA,decide_eq_false hc] at this
     exact this
    have HIN:=Ab hin
    clear hin hc
    rcases hrr with ⟨d,r',hv,hs2⟩ | ⟨e,l,hv,rfl⟩
    ·have hles:=(P20.less last g).2.1 _ _ _ _ _ hv
     have HS:=Ab hs2
     clear hs2
     go_wp2_with (first
      | (go_at_call 142;refine (Aa HIN).mono ?_;rintro e w6 ⟨rfl,hb6⟩;have hR6:=hR5.keep (by omega) hb6;have hz6:=hb6.size;obtain ⟨⟨p0,_⟩,⟨p1,_⟩,⟨p2,_⟩,⟨p3,_⟩⟩:=A1 ((hb6.block D hDl).trans (Aa HT5)))
      | (go_at_call 141;refine (Aa HW g (by omega) lv n r B rb all _ 4 x c w6 hR6 (by omega) (Aa HLA) hlv hl1 hv).mono ?_;rintro e w7 ⟨k,t,ka,kc,ks2,da,dc,es,l,rfl,HN⟩;have HM:=Ab (O5 hG5 hK5 hrb hB (Aj hb6 (some rb)) (Aa HN));have hm1:=(Aa HM).1;have hm2:=hm1.kids;have hz7:=(Aa HM).2.2.2.2.2.size)
      | (at_builtin;refine Ek (v:=u7) (B:=w.heap.size) rfl _ _ rfl rfl hm2 rfl (Aa HM).2.1 (Aa HM).2.2.1 (Aa HM).2.2.2.1 rfl (by omega) (by omega) ?_;intro v8 w8 hK8 hg8 hat8))
     have hr8:∀ q,u7.ownBlock=some q→w.heap.size≤q:=fun q e=>(Ao hm2.own q e).1
     have hR8:D6 w8 B rb all r':=(Aa HN).2.2.2.1.far (fun q hq=>hg8.block q (by omega) (fun e=>by have:=hr8 q e.symm;omega))
     go_roundg g
     case measure=>omega
     case rel=>exact ⟨ks ++ [x],ds ++ [.mk k t ka kc ks2 da dc es l],r',by omega,Ab (by rw [Cu];have e:=(Aa HN).1;simp only [Am];rw [e];exact Aa HS),hm1.kid hK8 hg8 hat8 (Aa HM).2.2.2.2.1,hR8,F9 (Aa HM).2.2.2.2.2 hg8 hr8,by simp;omega,Ab (by have:=Aa HL;simp;omega)⟩
    ·go_wp2_with (first
      | (go_at_call 142;refine (Aa HIN).mono ?_;rintro e w6 ⟨rfl,hb6⟩;have hR6:=hR5.keep (by omega) hb6;have hz6:=hb6.size;obtain ⟨⟨p0,_⟩,⟨p1,_⟩,⟨p2,_⟩,⟨p3,_⟩⟩:=A1 ((hb6.block D hDl).trans (Aa HT5)))
      | (go_at_call 141;refine (Aa HW g (by omega) lv n r B rb all _ 4 x c w6 hR6 (by omega) (Aa HLA) hlv hl1 hv).mono ?_;rintro e w7 ⟨rfl,HN⟩))
     exact ⟨rfl,rfl,Ab (Ah (Ah hG5 (Aj hb6 _)) (Aa HN))⟩
theorem I7 (W:World) (k:Nat) (x:List UInt8) (n:Int) (hk:k<256) (hx:x.length≤maxLen):(Nd.mk k x none 0 [] none 0 [] n).In W:=
 .mk ⟨hk,hx,Nat.zero_le _,Nat.zero_le _,Nat.le_refl _,Nat.le_refl _,fun y hy=>by simp [Nd.keys] at hy,fun i y hy=>by simp [Nd.keys] at hy⟩ trivial
theorem I2 (k:Nat) (x:List UInt8) (n:Int) (g:Nat):¬ (Nd.mk k x none 0 [] none 0 [] n).blk g:=by simp [Nd.blk,blkL]
theorem Hd {w w5:World} {B rb:Nat} {all r:List Tk} {d:P20.T} {nd:Nd} (hg:w.grownBy w5 (some rb)) (hR:D6 w5 B rb all r) (hb:nd.bare=d) (hin:nd.In w5) (hB:B≤w.heap.size) (hnew:∀ g,nd.blk g→w.heap.size<g) (v0 v1 v2 v3 v4:Value) :
  Q9 w B rb all r d nd (((((w5.setCell ⟨w.heap.size,0,none⟩ v0).setCell ⟨w.heap.size,1,none⟩ v1).setCell ⟨w.heap.size,2,none⟩ v2).setCell ⟨w.heap.size,3,none⟩ v3).setCell ⟨w.heap.size,4,none⟩ v4):=
 ⟨hb,hin.keep (fun g hg2=>Az (by have:=hnew g hg2;omega) _ _ _ _ _),fun g hg2=>Nat.le_of_lt (hnew g hg2),((((hR.setCell hB _ _).setCell hB _ _).setCell hB _ _).setCell hB _ _).setCell hB _ _,Jf hg (Nat.le_refl _) _ _ _ _ _⟩
theorem Gx {W:World} {g:Nat} {t:TypeId} {a b c d e:Value} (h:W.heap[g]?=some (.cells #[a,b,c,d,e] t)) (v:Value):(W.setCell ⟨g,0,none⟩ v).heap[g]?=some (.cells #[v,b,c,d,e] t):=by simp [World.setCell,Array.getElem?_modify,h]
theorem Ub {W:World} {g:Nat} {t:TypeId} {a b c d e:Value} (h:W.heap[g]?=some (.cells #[a,b,c,d,e] t)) (v:Value):(W.setCell ⟨g,2,none⟩ v).heap[g]?=some (.cells #[a,b,v,d,e] t):=by simp [World.setCell,Array.getElem?_modify,h]
theorem Rm {W:World} {g:Nat} {t:TypeId} {a b c d e:Value} (h:W.heap[g]?=some (.cells #[a,b,c,d,e] t)) (v:Value):(W.setCell ⟨g,3,none⟩ v).heap[g]?=some (.cells #[a,b,c,v,e] t):=by simp [World.setCell,Array.getElem?_modify,h]
set_option maxRecDepth 100000 in
set_option maxHeartbeats 8000000 in
theorem Nm (last:Int) (f:Nat) (hS:Vb last f) (hK:Vc last f):Te last (f+1):=by
 intro lv ts B rb all o w h hB hla hlv hn hd
 obtain ⟨W0,hW0⟩:∃ W0,w.alloc (.cells #[.int .u8 0,.string ⟨#[]⟩,.slice none 0 0,.slice none 0 0,.int .i64 0] 26)=W0:=⟨_,rfl⟩
 have hR0:D6 W0 B rb all ts:=by rw [← hW0];exact h.alloc hB _
 have hb0:Below w.heap.size w W0:=by rw [← hW0];exact (Below.refl _ w).alloc (Nat.le_refl _) _
 have hs0:W0.heap.size=w.heap.size+1:=by rw [← hW0];simp
 have g0:W0.heap[w.heap.size]?=some (.cells #[.int .u8 0,.string ⟨#[]⟩,.slice none 0 0,.slice none 0 0,.int .i64 0] 26):=by
  rw [← hW0];exact World.alloc_heap_new w _
 have HW0:=Ab hW0
 have HG0:=Ab g0
 have HLA:=Ab hla
 have HS0:=Ab hs0
 clear hW0 g0 h hla hs0
 rcases Nat.lt_or_ge 16 lv with hlv16 | hlv16
 ·have ho:o=.bad 11 (P20.hereL last ts):=by
   cases hd<;>first | rfl | omega
  subst ho
  have jl:(16:Int)<(lv:Int):=by omega
  clear hd hlv16
  go_enter Tryz.func68,Tryz.ntmps68
  go_upto_region 1 with fail
  rw [Aa HW0]
  go_wp2_with (go_at_call 69;refine (D0 B rb all _ _ _ hR0).mono ?_;rintro e w' ⟨rfl,hb4⟩)
  exact ⟨rfl,by rw [← Aa HLA],Ab (Ah (Aj hb0 _) (Aj hb4 _))⟩
 have jl:(lv:Int)≤16:=by omega
 obtain ⟨⟨k0,x0,n0,c0⟩,ht⟩:∃ t,Km all ts=t:=⟨_,rfl⟩
 have hn0:n0=P20.hereL last ts:=by
  have:=F6 all ts
  rw [ht,Aa HLA] at this
  exact this
 have HH:=Ab (Ep B rb all ts k0 x0 n0 c0 W0 hR0 ht)
 have HN0:=Ab hn0
 clear ht hn0
 go_enter Tryz.func68,Tryz.ntmps68
 go_upto_region 1 with fail
 rw [Aa HW0]
 go_upto_region 4 with (go_at_call 105;refine (Aa HH).mono ?_;rintro e w1 ⟨rfl,hb1⟩)
 obtain ⟨W2,hW2⟩:∃ W2,w1.alloc (.cells #[.int .u8 0,.string ⟨#[]⟩,.slice none 0 0,.slice none 0 0,.int .i64 n0] 26)=W2:=⟨_,rfl⟩
 have hz0:=hb0.size
 have hz1:=hb1.size
 have hR2:D6 W2 B rb all ts:=by rw [← hW2];exact (hR0.keep (by omega) hb1).alloc (by omega) _
 have hG2:w.grownBy W2 (some rb):=by rw [← hW2];exact Aj ((hb0.trans (hb1.mono hz0)).alloc (by omega) _) _
 have hz2:W2.heap.size=w1.heap.size+1:=by rw [← hW2];simp
 have g1:W2.heap[w1.heap.size]?=some (.cells #[.int .u8 0,.string ⟨#[]⟩,.slice none 0 0,.slice none 0 0,.int .i64 n0] 26):=by rw [← hW2];exact World.alloc_heap_new w1 _
 have hs0':=Aa HS0
 have g0:W2.heap[w.heap.size]?=some (.cells #[.int .u8 0,.string ⟨#[]⟩,.slice none 0 0,.slice none 0 0,.int .i64 0] 26):=by
  rw [← hW2];exact (Below.heap_alloc _ _ _ (by omega)).trans ((hb1.block _ (by omega)).trans (Aa HG0))
 rw [hW2]
 obtain ⟨D,hD⟩:∃ D,w1.heap.size=D:=⟨_,rfl⟩
 rw [hD] at g1 hz2 ⊢
 have hHD:w.heap.size<D:=by omega
 obtain ⟨⟨y0,f0⟩,⟨y1,f1⟩,⟨y2,f2⟩,⟨y3,f3⟩,⟨y4,f4⟩⟩:=Ad g1
 have HG1:=Ab g1
 have HG0':=Ab g0
 have hBD:B≤D:=by omega
 have hrb:=hR2.lt
 have HZ2:=Ab hz2
 clear hW2 hD hb0 hb1 hR0 HW0 HG0 HH g1 g0 hs0' HS0 hz2 hz0 hz1
 cases hd with
 | deep h=>omega
 | none_ h=>
  go_wp2_with (first
   | (go_at_call 106;refine (B0 B rb all _ 0 _ hR2 rfl).mono ?_;rintro e w' ⟨rfl,rfl⟩)
   | (go_at_call 69;refine (D0 B rb all _ _ _ hR2).mono ?_;rintro e w' ⟨rfl,hb4⟩))
  exact ⟨rfl,by rw [← Aa HLA];rfl,Ab (Ah hG2 (Aj hb4 _))⟩
 | @form _ _ k x n c r h hk=>
  have j5:((k:Int) == 5)=false:=by simp;omega
  have j6:((k:Int) == 6)=false:=by simp;omega
  have j7:((k:Int) == 7)=false:=by simp;omega
  have j3:((k:Int) == 3)=false:=by simp;omega
  have j4:((k:Int) == 4)=false:=by simp;omega
  clear hk
  go_wp2_with (first
   | (go_at_call 106;refine (B0 B rb all _ k _ hR2 rfl).mono ?_;rintro e w' ⟨rfl,rfl⟩)
   | (go_at_call 69;refine (D0 B rb all _ _ _ hR2).mono ?_;rintro e w' ⟨rfl,hb4⟩))
  exact ⟨rfl,rfl,Ab (Ah hG2 (Aj hb4 _))⟩
 | @word _ _ x n c r h=>
  have hx:=(hR2.k8' _ (List.mem_cons_self ..)).2
  go_upto_region 8 with (go_at_call 106;refine (B0 B rb all _ 5 _ hR2 rfl).mono ?_;rintro e w' ⟨rfl,rfl⟩)
  obtain ⟨W3,hW3⟩:∃ W3,W2.setCell ⟨D,0,none⟩ (.int .u8 1)=W3:=⟨_,rfl⟩
  have hR3:D6 W3 B rb all ((5,x,n,c) :: r):=by rw [← hW3];exact hR2.setCell hBD 0 _
  have hG3:w.grownBy W3 (some rb):=by rw [← hW3];exact Bf hG2 (by omega) _
  have g1:W3.heap[D]?=some (.cells #[.int .u8 1,.string ⟨#[]⟩,.slice none 0 0,.slice none 0 0,.int .i64 n0] 26):=by rw [← hW3];exact Gx (Aa HG1) _
  have g0:W3.heap[w.heap.size]?=some (.cells #[.int .u8 0,.string ⟨#[]⟩,.slice none 0 0,.slice none 0 0,.int .i64 0] 26):=by
   rw [← hW3];exact (Below.heap_setCell _ _ _ _ (by show w.heap.size≠D;omega)).trans (Aa HG0')
  have hz3:W3.heap.size=D+1:=by rw [← hW3];simpa using Aa HZ2
  rw [hW3]
  clear hW3 y0 f0 y1 f1 y2 f2 y3 f3 y4 f4 HG1 HG0' hR2 hG2
  have hHs:B≤W3.heap.size:=by omega
  have hDl:D<W3.heap.size:=by omega
  have HG1:=Ab g1
  have HG0:=Ab g0
  clear g1 g0
  obtain rfl:n0=n:=Aa HN0
  go_wp2_with (go_at_call 107;refine (Dc B rb all _ _ _ _ _ _ hR3 hHs).mono ?_;rintro e w4 ⟨rfl,hR4,hg4⟩;have k1:=(hg4.block D hDl (fun e=>by injection e;omega)).trans (Aa HG1);have k0:=(hg4.block w.heap.size (by omega) (fun e=>by injection e;omega)).trans (Aa HG0);obtain ⟨⟨y0,f0⟩,⟨y1,f1⟩,⟨y2,f2⟩,⟨y3,f3⟩,⟨y4,f4⟩⟩:=Ad k1;obtain ⟨⟨z0,q0⟩,⟨z1,q1⟩,⟨z2,q2⟩,⟨z3,q3⟩,⟨z4,q4⟩⟩:=Ad k0;have HK0:=Ab k0;have HK1:=Ab k1;clear k0 k1)
  have hG5:=Bf (i:=1) (Ah hG3 hg4) (show w.heap.size≤D by omega) (.string ⟨x.toArray⟩)
  exact bodyPost_ret (results_cell_row rfl _ _ _ _ _ _ _ rfl (B9 ((Below.heap_setCell _ _ _ _ (by show w.heap.size≠D;omega)).trans (Aa HK0)) _ _ _ _ _) Tryz.underlying26 rfl (by kernel_rfl)) rfl
   ⟨1,x,none,0,[],none,0,[],n0,rfl,Ab (Hd hG5 (hR4.setCell hBD 1 _) rfl (I7 _ 1 x n0 (by omega) hx) hB (fun g hg=>absurd hg (I2 _ _ _ g)) _ _ _ _ _)⟩
 | @noseq _ _ x n c r h=>
  go_upto_region 11 with (go_at_call 106;refine (B0 B rb all _ 6 _ hR2 rfl).mono ?_;rintro e w' ⟨rfl,rfl⟩)
  obtain ⟨W3,hW3⟩:∃ W3,W2.setCell ⟨D,0,none⟩ (.int .u8 2)=W3:=⟨_,rfl⟩
  have hR3:D6 W3 B rb all ((6,x,n,c) :: r):=by rw [← hW3];exact hR2.setCell hBD 0 _
  have hG3:w.grownBy W3 (some rb):=by rw [← hW3];exact Bf hG2 (by omega) _
  have g1:W3.heap[D]?=some (.cells #[.int .u8 2,.string ⟨#[]⟩,.slice none 0 0,.slice none 0 0,.int .i64 n0] 26):=by rw [← hW3];exact Gx (Aa HG1) _
  have g0:W3.heap[w.heap.size]?=some (.cells #[.int .u8 0,.string ⟨#[]⟩,.slice none 0 0,.slice none 0 0,.int .i64 0] 26):=by
   rw [← hW3];exact (Below.heap_setCell _ _ _ _ (by show w.heap.size≠D;omega)).trans (Aa HG0')
  have hz3:W3.heap.size=D+1:=by rw [← hW3];simpa using Aa HZ2
  rw [hW3]
  clear hW3 y0 f0 y1 f1 y2 f2 y3 f3 y4 f4 HG1 HG0' hR2 hG2
  have hHs:B≤W3.heap.size:=by omega
  have hDl:D<W3.heap.size:=by omega
  have HG1:=Ab g1
  have HG0:=Ab g0
  clear g1 g0
  obtain rfl:n0=n:=Aa HN0
  go_wp2_with (go_at_call 107;refine (Dc B rb all _ _ _ _ _ _ hR3 hHs).mono ?_;rintro e w4 ⟨rfl,hR4,hg4⟩;have k1:=(hg4.block D hDl (fun e=>by injection e;omega)).trans (Aa HG1);have k0:=(hg4.block w.heap.size (by omega) (fun e=>by injection e;omega)).trans (Aa HG0);obtain ⟨⟨y0,f0⟩,⟨y1,f1⟩,⟨y2,f2⟩,⟨y3,f3⟩,⟨y4,f4⟩⟩:=Ad k1;obtain ⟨⟨z0,q0⟩,⟨z1,q1⟩,⟨z2,q2⟩,⟨z3,q3⟩,⟨z4,q4⟩⟩:=Ad k0;have HK0:=Ab k0;have HK1:=Ab k1;clear k0 k1)
  have hG5:=Ah hG3 hg4
  exact bodyPost_ret (results_cell_row rfl _ _ _ _ _ _ _ rfl (B9 (Aa HK0) _ _ _ _ _) Tryz.underlying26 rfl (by kernel_rfl)) rfl
   ⟨2,[],none,0,[],none,0,[],n0,rfl,Ab (Hd hG5 hR4 rfl (I7 _ 2 [] n0 (by omega) (Nat.zero_le _)) hB (fun g hg=>absurd hg (I2 _ _ _ g)) _ _ _ _ _)⟩
 | @nomap _ _ x n c r h=>
  go_upto_region 14 with (go_at_call 106;refine (B0 B rb all _ 7 _ hR2 rfl).mono ?_;rintro e w' ⟨rfl,rfl⟩)
  obtain ⟨W3,hW3⟩:∃ W3,W2.setCell ⟨D,0,none⟩ (.int .u8 3)=W3:=⟨_,rfl⟩
  have hR3:D6 W3 B rb all ((7,x,n,c) :: r):=by rw [← hW3];exact hR2.setCell hBD 0 _
  have hG3:w.grownBy W3 (some rb):=by rw [← hW3];exact Bf hG2 (by omega) _
  have g1:W3.heap[D]?=some (.cells #[.int .u8 3,.string ⟨#[]⟩,.slice none 0 0,.slice none 0 0,.int .i64 n0] 26):=by rw [← hW3];exact Gx (Aa HG1) _
  have g0:W3.heap[w.heap.size]?=some (.cells #[.int .u8 0,.string ⟨#[]⟩,.slice none 0 0,.slice none 0 0,.int .i64 0] 26):=by
   rw [← hW3];exact (Below.heap_setCell _ _ _ _ (by show w.heap.size≠D;omega)).trans (Aa HG0')
  have hz3:W3.heap.size=D+1:=by rw [← hW3];simpa using Aa HZ2
  rw [hW3]
  clear hW3 y0 f0 y1 f1 y2 f2 y3 f3 y4 f4 HG1 HG0' hR2 hG2
  have hHs:B≤W3.heap.size:=by omega
  have hDl:D<W3.heap.size:=by omega
  have HG1:=Ab g1
  have HG0:=Ab g0
  clear g1 g0
  obtain rfl:n0=n:=Aa HN0
  go_wp2_with (go_at_call 107;refine (Dc B rb all _ _ _ _ _ _ hR3 hHs).mono ?_;rintro e w4 ⟨rfl,hR4,hg4⟩;have k1:=(hg4.block D hDl (fun e=>by injection e;omega)).trans (Aa HG1);have k0:=(hg4.block w.heap.size (by omega) (fun e=>by injection e;omega)).trans (Aa HG0);obtain ⟨⟨y0,f0⟩,⟨y1,f1⟩,⟨y2,f2⟩,⟨y3,f3⟩,⟨y4,f4⟩⟩:=Ad k1;obtain ⟨⟨z0,q0⟩,⟨z1,q1⟩,⟨z2,q2⟩,⟨z3,q3⟩,⟨z4,q4⟩⟩:=Ad k0;have HK0:=Ab k0;have HK1:=Ab k1;clear k0 k1)
  have hG5:=Ah hG3 hg4
  exact bodyPost_ret (results_cell_row rfl _ _ _ _ _ _ _ rfl (B9 (Aa HK0) _ _ _ _ _) Tryz.underlying26 rfl (by kernel_rfl)) rfl
   ⟨3,[],none,0,[],none,0,[],n0,rfl,Ab (Hd hG5 hR4 rfl (I7 _ 3 [] n0 (by omega) (Nat.zero_le _)) hB (fun g hg=>absurd hg (I2 _ _ _ g)) _ _ _ _ _)⟩
 | @seq _ _ x n c r r' ds h hs=>
  go_upto_region 17 with (go_at_call 106;refine (B0 B rb all _ 3 _ hR2 rfl).mono ?_;rintro e w' ⟨rfl,rfl⟩)
  obtain ⟨W3,hW3⟩:∃ W3,W2.setCell ⟨D,0,none⟩ (.int .u8 2)=W3:=⟨_,rfl⟩
  have hR3:D6 W3 B rb all ((3,x,n,c) :: r):=by rw [← hW3];exact hR2.setCell hBD 0 _
  have hG3:w.grownBy W3 (some rb):=by rw [← hW3];exact Bf hG2 (by omega) _
  have g1:W3.heap[D]?=some (.cells #[.int .u8 2,.string ⟨#[]⟩,.slice none 0 0,.slice none 0 0,.int .i64 n0] 26):=by rw [← hW3];exact Gx (Aa HG1) _
  have g0:W3.heap[w.heap.size]?=some (.cells #[.int .u8 0,.string ⟨#[]⟩,.slice none 0 0,.slice none 0 0,.int .i64 0] 26):=by
   rw [← hW3];exact (Below.heap_setCell _ _ _ _ (by show w.heap.size≠D;omega)).trans (Aa HG0')
  have hz3:W3.heap.size=D+1:=by rw [← hW3];simpa using Aa HZ2
  rw [hW3]
  clear hW3 y0 f0 y1 f1 y2 f2 y3 f3 y4 f4 HG1 HG0' hR2 hG2
  have hHs:B≤W3.heap.size:=by omega
  have hDl:D<W3.heap.size:=by omega
  have HG1:=Ab g1
  have HG0:=Ab g0
  clear g1 g0
  obtain rfl:n0=n:=Aa HN0
  have hSq:=hS (lv+1) _ B rb all _ W3 hR3 hHs (Aa HLA) (by omega) hn hs
  rw [show (((lv+1:Nat):Int))=(lv:Int)+1 from by omega] at hSq
  have HSQ:=Ab hSq
  clear hSq
  go_wp2_with (go_at_call 108;refine (Aa HSQ).mono ?_;rintro e w4 ⟨a,cc,es,rfl,HP⟩;have hg4:=(Aa HP).2.2.2;have k1:=(hg4.block D hDl (fun e=>by injection e;omega)).trans (Aa HG1);have k0:=(hg4.block w.heap.size (by omega) (fun e=>by injection e;omega)).trans (Aa HG0);obtain ⟨⟨y0,f0⟩,⟨y1,f1⟩,⟨y2,f2⟩,⟨y3,f3⟩,⟨y4,f4⟩⟩:=Ad k1;obtain ⟨⟨z0,q0⟩,⟨z1,q1⟩,⟨z2,q2⟩,⟨z3,q3⟩,⟨z4,q4⟩⟩:=Ad k0;have HK0:=Ab k0;have HK1:=Ab k1;clear k0 k1)
  obtain ⟨hbare,hkids,hR4,hg4⟩:=Aa HP
  obtain ⟨a2,c2,hv2,hlc,hcm,hinl,hnl,hno⟩:=hkids.slice
  injection hv2 with e1 _ e2
  subst e1
  subst e2
  have hin4:(Nd.mk 2 [] none 0 [] a cc es n0).In w4:=.mk ⟨by show 2<256;omega,Nat.zero_le _,Nat.zero_le _,Nat.le_trans hlc hcm,Nat.le_refl _,hlc,fun y hy=>by simp [Nd.keys] at hy,fun i y hy=>by simp [Nd.keys] at hy⟩ hinl
  have hnew:∀ g,(Nd.mk 2 [] none 0 [] a cc es n0).blk g→D<g:=by
   intro g hg
   simp only [Nd.blk] at hg
   rcases hg with ⟨h1,_⟩ | ⟨h1,h2⟩ | h1
   ·exact absurd rfl h1
   ·have:=hno g h1 h2;omega
   ·have:=hnl g h1;omega
  have hG5:=Bf (i:=3) (Ah hG3 hg4) (show w.heap.size≤D by omega) (.slice a es.length cc)
  exact bodyPost_ret (results_cell_row rfl _ _ _ _ _ _ _ rfl (B9 ((Below.heap_setCell _ _ _ _ (by show w.heap.size≠D;omega)).trans (Aa HK0)) _ _ _ _ _) Tryz.underlying26 rfl (by kernel_rfl)) rfl
   ⟨2,[],none,0,[],a,cc,es,n0,rfl,Ab (Hd hG5 (hR4.setCell hBD 3 _) (by simp only [Nd.bare];rw [hbare]) (hin4.setCell (fun hg=>by have:=hnew D hg;omega)) hB (fun g hg=>by have:=hnew g hg;omega) _ _ _ _ _)⟩
 | @seqbad _ _ x n c e l r h hs=>
  go_upto_region 17 with (go_at_call 106;refine (B0 B rb all _ 3 _ hR2 rfl).mono ?_;rintro e w' ⟨rfl,rfl⟩)
  obtain ⟨W3,hW3⟩:∃ W3,W2.setCell ⟨D,0,none⟩ (.int .u8 2)=W3:=⟨_,rfl⟩
  have hR3:D6 W3 B rb all ((3,x,n,c) :: r):=by rw [← hW3];exact hR2.setCell hBD 0 _
  have hG3:w.grownBy W3 (some rb):=by rw [← hW3];exact Bf hG2 (by omega) _
  have g1:W3.heap[D]?=some (.cells #[.int .u8 2,.string ⟨#[]⟩,.slice none 0 0,.slice none 0 0,.int .i64 n0] 26):=by rw [← hW3];exact Gx (Aa HG1) _
  have g0:W3.heap[w.heap.size]?=some (.cells #[.int .u8 0,.string ⟨#[]⟩,.slice none 0 0,.slice none 0 0,.int .i64 0] 26):=by
   rw [← hW3];exact (Below.heap_setCell _ _ _ _ (by show w.heap.size≠D;omega)).trans (Aa HG0')
  have hz3:W3.heap.size=D+1:=by rw [← hW3];simpa using Aa HZ2
  rw [hW3]
  clear hW3 y0 f0 y1 f1 y2 f2 y3 f3 y4 f4 HG1 HG0' hR2 hG2
  have hHs:B≤W3.heap.size:=by omega
  have hDl:D<W3.heap.size:=by omega
  have HG1:=Ab g1
  have HG0:=Ab g0
  clear g1 g0
  obtain rfl:n0=n:=Aa HN0
  have hSq:=hS (lv+1) _ B rb all _ W3 hR3 hHs (Aa HLA) (by omega) hn hs
  rw [show (((lv+1:Nat):Int))=(lv:Int)+1 from by omega] at hSq
  have HSQ:=Ab hSq
  clear hSq
  go_wp2_with (go_at_call 108;refine (Aa HSQ).mono ?_;rintro e w4 ⟨rfl,HP⟩)
  exact ⟨rfl,rfl,Ab (Ah hG3 (Aa HP))⟩
 | @keys _ _ x n c r r' ks ds h hs=>
  have hshort:=P20.keys_short last _ _ _ _ _ _ _ _ hs (by simp)
  go_upto_region 20 with (go_at_call 106;refine (B0 B rb all _ 4 _ hR2 rfl).mono ?_;rintro e w' ⟨rfl,rfl⟩)
  obtain ⟨W3,hW3⟩:∃ W3,W2.setCell ⟨D,0,none⟩ (.int .u8 3)=W3:=⟨_,rfl⟩
  have hR3:D6 W3 B rb all ((4,x,n,c) :: r):=by rw [← hW3];exact hR2.setCell hBD 0 _
  have hG3:w.grownBy W3 (some rb):=by rw [← hW3];exact Bf hG2 (by omega) _
  have g1:W3.heap[D]?=some (.cells #[.int .u8 3,.string ⟨#[]⟩,.slice none 0 0,.slice none 0 0,.int .i64 n0] 26):=by rw [← hW3];exact Gx (Aa HG1) _
  have g0:W3.heap[w.heap.size]?=some (.cells #[.int .u8 0,.string ⟨#[]⟩,.slice none 0 0,.slice none 0 0,.int .i64 0] 26):=by
   rw [← hW3];exact (Below.heap_setCell _ _ _ _ (by show w.heap.size≠D;omega)).trans (Aa HG0')
  have hz3:W3.heap.size=D+1:=by rw [← hW3];simpa using Aa HZ2
  rw [hW3]
  clear hW3 y0 f0 y1 f1 y2 f2 y3 f3 y4 f4 HG1 HG0' hR2 hG2
  have hHs:B≤W3.heap.size:=by omega
  have hDl:D<W3.heap.size:=by omega
  have HG1:=Ab g1
  have HG0:=Ab g0
  clear g1 g0
  obtain rfl:n0=n:=Aa HN0
  have hSq:=hK (lv+1) _ B rb all _ W3 hR3 hHs (Aa HLA) (by omega) hn hs
  rw [show (((lv+1:Nat):Int))=(lv:Int)+1 from by omega] at hSq
  have HSQ:=Ab hSq
  clear hSq
  go_wp2_with (go_at_call 109;refine (Aa HSQ).mono ?_;rintro e w4 ⟨ka,kc,ks4,a,cc,es,rfl,HP⟩;have hg4:=(Aa HP).2.2.2.1;have k1:=(hg4.block D hDl (fun e=>by injection e;omega)).trans (Aa HG1);have k0:=(hg4.block w.heap.size (by omega) (fun e=>by injection e;omega)).trans (Aa HG0);obtain ⟨⟨y0,f0⟩,⟨y1,f1⟩,⟨y2,f2⟩,⟨y3,f3⟩,⟨y4,f4⟩⟩:=Ad k1;obtain ⟨⟨z0,q0⟩,⟨z1,q1⟩,⟨z2,q2⟩,⟨z3,q3⟩,⟨z4,q4⟩⟩:=Ad k0;have HK0:=Ab k0;have HK1:=Ab k1;clear k0 k1)
  obtain ⟨hbare,hks,hR4,hg4,hll⟩:=Aa HP
  injection hbare with hb1 hb2
  subst hb1
  subst hb2
  obtain ⟨a2,c2,hv2,hlc,hcm,hinl,hnl,hno⟩:=hks.kids.slice
  injection hv2 with e1 _ e2
  subst e1
  subst e2
  obtain ⟨a3,c3,hv3,klc,kcm,kin,kno⟩:=hks.str.slice
  injection hv3 with e1 _ e2
  subst e1
  subst e2
  have hin4:(Nd.mk 3 [] ka kc ks a cc es n0).In w4:=.mk ⟨by show 3<256;omega,Nat.zero_le _,Nat.le_trans klc kcm,Nat.le_trans hlc hcm,klc,hlc,fun y hy=>by have:=hshort y hy;unfold maxLen;omega,kin⟩ hinl
  have hnew:∀ g,(Nd.mk 3 [] ka kc ks a cc es n0).blk g→D<g:=by
   intro g hg
   simp only [Nd.blk] at hg
   rcases hg with ⟨h1,h2⟩ | ⟨h1,h2⟩ | h1
   ·have:=kno g h1 h2;omega
   ·have:=hno g h1 h2;omega
   ·have:=hnl g h1;omega
  have hG5:=Bf (i:=3) (Bf (i:=2) (Ah hG3 hg4) (show w.heap.size≤D by omega) (.slice ka ks.length kc)) (show w.heap.size≤D by omega) (.slice a es.length cc)
  exact bodyPost_ret (results_cell_row rfl _ _ _ _ _ _ _ rfl (B9 ((Below.heap_setCell _ _ _ _ (by show w.heap.size≠D;omega)).trans ((Below.heap_setCell _ _ _ _ (by show w.heap.size≠D;omega)).trans (Aa HK0))) _ _ _ _ _) Tryz.underlying26 rfl (by kernel_rfl)) rfl
   ⟨3,[],ka,kc,ks,a,cc,es,n0,rfl,Ab (Hd hG5 ((hR4.setCell hBD 2 _).setCell hBD 3 _) rfl ((hin4.setCell (fun hg=>by have:=hnew D hg;omega)).setCell (fun hg=>by have:=hnew D hg;omega)) hB (fun g hg=>by have:=hnew g hg;omega) _ _ _ _ _)⟩
 | @keysbad _ _ x n c e l r h hs=>
  go_upto_region 20 with (go_at_call 106;refine (B0 B rb all _ 4 _ hR2 rfl).mono ?_;rintro e w' ⟨rfl,rfl⟩)
  obtain ⟨W3,hW3⟩:∃ W3,W2.setCell ⟨D,0,none⟩ (.int .u8 3)=W3:=⟨_,rfl⟩
  have hR3:D6 W3 B rb all ((4,x,n,c) :: r):=by rw [← hW3];exact hR2.setCell hBD 0 _
  have hG3:w.grownBy W3 (some rb):=by rw [← hW3];exact Bf hG2 (by omega) _
  have g1:W3.heap[D]?=some (.cells #[.int .u8 3,.string ⟨#[]⟩,.slice none 0 0,.slice none 0 0,.int .i64 n0] 26):=by rw [← hW3];exact Gx (Aa HG1) _
  have g0:W3.heap[w.heap.size]?=some (.cells #[.int .u8 0,.string ⟨#[]⟩,.slice none 0 0,.slice none 0 0,.int .i64 0] 26):=by
   rw [← hW3];exact (Below.heap_setCell _ _ _ _ (by show w.heap.size≠D;omega)).trans (Aa HG0')
  have hz3:W3.heap.size=D+1:=by rw [← hW3];simpa using Aa HZ2
  rw [hW3]
  clear hW3 y0 f0 y1 f1 y2 f2 y3 f3 y4 f4 HG1 HG0' hR2 hG2
  have hHs:B≤W3.heap.size:=by omega
  have hDl:D<W3.heap.size:=by omega
  have HG1:=Ab g1
  have HG0:=Ab g0
  clear g1 g0
  obtain rfl:n0=n:=Aa HN0
  have hSq:=hK (lv+1) _ B rb all _ W3 hR3 hHs (Aa HLA) (by omega) hn hs
  rw [show (((lv+1:Nat):Int))=(lv:Int)+1 from by omega] at hSq
  have HSQ:=Ab hSq
  clear hSq
  go_wp2_with (go_at_call 109;refine (Aa HSQ).mono ?_;rintro e w4 ⟨rfl,HP⟩)
  exact ⟨rfl,rfl,Ab (Ah hG3 (Aa HP))⟩
theorem Qe (last:Int):∀ F:Nat,Te last F∧U9 last F∧Vb last F∧Vc last F:=by
 intro F
 induction F using Nat.strongRecOn with
 | ind F ih=>
  have hSq:Vb last F:=R2 last F (fun g hg=>(ih g hg).2.1)
  have hKy:Vc last F:=Q5 last F (fun g hg=>(ih g hg).1) (fun g hg=>(ih g hg).2.1)
  cases F with
  | zero=>exact ⟨fun _ _ _ _ _ _ _ _ _ _ _ _ h=>(by cases h),fun _ _ _ _ _ _ _ _ _ _ _ _ _ _ _ _ h=>(by cases h),hSq,hKy⟩
  | succ f=>exact ⟨Nm last f (ih f (by omega)).2.2.1 (ih f (by omega)).2.2.2,Mt last f (ih f (by omega)).1,hSq,hKy⟩
end Go.Proofs.YtnjokdbblmlhhaaGreatDoor
namespace Go.Proofs.YtnjokdbblmlhhaaGreatDoor
set_option linter.unusedVariables false
set_option linter.unusedSimpArgs false
open Go.RowKit
namespace P20
mutual
def T.cut:Nat→T→T
 | lv,.mk k t ks ds l=>.mk k t ks (if 1<lv then cutL (lv - 1) ds else []) l
def cutL:Nat→List T→List T
 | lv,[]=>[]
 | lv,d :: ds=>d.cut lv :: cutL lv ds
end
end P20
theorem Ql (lv:Nat) {ds:List Nd} {i:Nat} {d:Nd} (h:ds[i]?=some d):P20.cutL lv (Am (ds.take (i+1)))=P20.cutL lv (Am (ds.take i)) ++ [d.bare.cut lv]:=by
 have e:∀ a b:List P20.T,P20.cutL lv (a ++ b)=P20.cutL lv a ++ P20.cutL lv b:=fun a b=>by
  induction a with
  | nil=>rfl
  | cons x a ih=>simp [P20.cutL,ih]
 rw [List.take_add_one,h,Cu,e]
 rfl
theorem K0 {w:World} {B:Nat} {v:Value} {ds:List Nd} {nd:Nd} {ops:Array Oper} {o:Oper} {a:Act} {K:Act→World→Prop} {Q:Exit→Act→World→Prop} {E:Prop} (hgd:o.guard=none) (s x:Operand)
  (ho:o.op=.call { callee:=.builtin .append,args:=#[s,x],argTypes:=#[24,24] })
  (hs:a.eval s=v) (hk:Dt w B v ds) (hin:nd.In w) (hnew:∀ g,nd.blk g→B≤g) (hsep:∀ g,nd.blk g→v.ownBlock≠some g) (g cap:Nat)
  (hx:a.eval x=.slice (some ⟨g,0,none⟩) 1 cap) (hcs:∀ j u,nd.cs[j]?=some u→w.cell? ((⟨g,0,none⟩:Addr).add j)=some u) (hlen:ds.length+1≤1000000000) (hB:B≤w.heap.size)
  (h:∀ v' w',Dt w' B v' (ds ++ [nd])→w.grownBy w' v.ownBlock→(v'.ownBlock=v.ownBlock∨∃ g,v'.ownBlock=some g∧w.heap.size≤g)→K (a.put o.dst v') w') :
  if Region.wanted o (yielded ops a.tmps)=true then Oper.wp Tryz.prog o a w K Q else E:=by
 obtain ⟨i,hi,hz,hsz,hby⟩:=info_parts Su
 refine step_append_lies (P:=Tryz.prog) w hgd s x 24 ho B 26 i (.agg #[.int .u8 0,.string ⟨#[]⟩,.slice none 0 0,.slice none 0 0,.int .i64 0]) 5 80 Tryz.underlying24 hi hz hsz hby rfl (by decide) v ds.length (B6 ds) hs hk.own
  ⟨g,0,none⟩ 1 cap nd.cs hx rfl hcs (by intro u hu;exact Ru [nd] u (by simpa [B6] using hu)) (by decide) (by unfold maxLen;omega) (by omega) hB _ rfl ?_
 intro g' cap' w' h2 h3 hat _
 have hsep':∀ d,d∈ds ++ [nd]→∀ g,d.blk g→g<w.heap.size∧v.ownBlock≠some g∧d.In w:=by
  intro d hm g hb
  rcases List.mem_append.1 hm with hm | hm
  ·exact ⟨(hk.ins d hm).lt hb,hk.sep d hm g hb,hk.ins d hm⟩
  ·obtain rfl:=List.mem_singleton.1 hm
   exact ⟨hin.lt hb,hsep g hb,hin⟩
 have hin':∀ d∈ds ++ [nd],d.In w:=by
  intro d hm
  rcases List.mem_append.1 hm with hm | hm
  ·exact hk.ins d hm
  ·obtain rfl:=List.mem_singleton.1 hm
   exact hin
 refine h _ w' ⟨?_,fun d hm=>(hin' d hm).keep (fun g hb=>?_),fun d hm g hb=>?_,fun d hm g hb e=>?_⟩ h3 ?_
 ·rw [F0,List.length_append]
  have e:B6 [nd]=nd.cs:=by simp [B6]
  rw [e]
  exact h2
 ·obtain ⟨h6,h7,_⟩:=hsep' d hm g hb
  exact h3.block g h6 (fun e=>h7 e.symm)
 ·rcases List.mem_append.1 hm with hm | hm
  ·exact hk.new d hm g hb
  ·obtain rfl:=List.mem_singleton.1 hm
   exact hnew g hb
 ·obtain ⟨h6,h7,_⟩:=hsep' d hm g hb
  rcases hat with h5 | h5
  ·exact h7 (h5.trans (show some g'=some g from e))
  ·have e2:some g'=some g:=e
   injection e2 with e2
   omega
 ·rcases hat with h5 | h5
  ·exact .inl h5.symm
  ·exact .inr ⟨g',rfl,by omega⟩
theorem Na {f:FuncId} {args:Array Value} {w:World} {ops:Array Oper} {o:Oper} {a:Act} {K:Act→World→Prop} {Q:Exit→Act→World→Prop} {E:Prop} {R:Ending→World→Prop} (hgd:o.guard=none)
  (hex:(execOp a.eval o).run Tryz.prog w=.ok (.enter f args) w) (h:Calls Tryz.prog f args w R) (hk:∀ e w',R e w'→∃ v,e=.returned v∧K (a.put o.dst v) w') :
  if Region.wanted o (yielded ops a.tmps)=true then Oper.wp Tryz.prog o a w K Q else E:=by
 rw [if_pos (by simp [Region.wanted,hgd])]
 unfold Oper.wp
 rw [hex,Oper.upon_enter]
 refine h.mono (fun e w' hr=>?_)
 obtain ⟨v,rfl,hkv⟩:=hk e w' hr
 exact hkv
def St (w:World) (T:P20.T) (e:Ending) (w':World):Prop:=
 ∃ (k:Nat) (t:List UInt8) (ka:Option Addr) (kc:Nat) (ks:List (List UInt8)) (da:Option Addr) (dc:Nat) (ds:List Nd) (l:Int),e=.returned (.agg #[.int .u8 k,.string ⟨t.toArray⟩,.slice ka ks.length kc,.slice da ds.length dc,.int .i64 l])∧Hid ((Nd.mk k t ka kc ks da dc ds l).bare=T∧(Nd.mk k t ka kc ks da dc ds l).In w'∧∀ g,(Nd.mk k t ka kc ks da dc ds l).blk g→w.heap.size≤g)∧Below w.heap.size w w'
def Lh (d:Nd):Prop:=∀ (lv:Nat) (w:World),d.In w→E6 d.bare→1≤lv→lv≤1000→Calls Tryz.prog 50 #[d.val,.int .i64 lv] w (St w (d.bare.cut lv))
theorem Qa2 (W:World) (k:Nat) (t:List UInt8) (ka:Option Addr) (kc:Nat) (ks:List (List UInt8)) (da:Option Addr) (dc:Nat) (ds:List Nd) (l:Int) :
  ∀ j u,(Nd.mk k t ka kc ks da dc ds l).cs[j]?=some u→(W.alloc (.cells #[.int .u8 k,.string ⟨t.toArray⟩,.slice ka ks.length kc,.slice da ds.length dc,.int .i64 l] 26)).cell? ((⟨W.heap.size,0,none⟩:Addr).add j)=some u:=by
 intro j u hj
 have hn:=World.alloc_heap_new W (.cells #[.int .u8 k,.string ⟨t.toArray⟩,.slice ka ks.length kc,.slice da ds.length dc,.int .i64 l] 26)
 have hc:=cell_of_row _ W.heap.size j _ _ (0,0) hn
 have ea:((⟨W.heap.size,0,none⟩:Addr).add j)=⟨W.heap.size,j,none⟩:=by unfold Addr.add;split<;>simp_all
 rw [ea,hc,← hj]
 simp [Nd.cs,Nd.kind,Nd.text,Nd.kV,Nd.dV,Nd.ka,Nd.kc,Nd.keys,Nd.da,Nd.dc,Nd.kids,Nd.line]
theorem KS.keep {W W':World} {B:Nat} {kv dv:Value} {ks:List (List UInt8)} {ds:List Nd} (h:KS W B kv dv ks ds) (hb:Below W.heap.size W W'):KS W' B kv dv ks ds:=
 ⟨h.str.grown (Aj hb none) (fun g e=>by cases e),h.kids.grown (Aj hb none) (fun g e=>by cases e),h.sep⟩
theorem KS.set {W:World} {B O i:Nat} {v:Value} {kv dv:Value} {ks:List (List UInt8)} {ds:List Nd} (h:KS W B kv dv ks ds) (hO:O<B):KS (W.setCell ⟨O,i,none⟩ v) B kv dv ks ds:=
 h.old (Ap W O i v) hO
theorem Kd {w wx:World} {H k:Nat} {t:List UInt8} {kv dv:Value} {ks:List (List UInt8)} {es:List Nd} {ln:Int} {T:P20.T} (hH:w.heap.size=H) (hk:k<256) (ht:t.length≤maxLen) (hkl:∀ x∈ks,x.length≤maxLen)
  (hks:KS wx (H+1+1+1) kv dv ks es) (hT:P20.T.mk k t ks (Am es) ln=T) (hb:Below H w wx) (v0 v1 v2 v3 v4:Value) :
  St w T (.returned (.agg #[.int .u8 k,.string ⟨t.toArray⟩,kv,dv,.int .i64 ln])) (((((wx.setCell ⟨H+1,0,none⟩ v0).setCell ⟨H+1,1,none⟩ v1).setCell ⟨H+1,2,none⟩ v2).setCell ⟨H+1,3,none⟩ v3).setCell ⟨H+1,4,none⟩ v4):=by
 have hks2:=((((hks.set (O:=H+1) (i:=0) (v:=v0) (by omega)).set (O:=H+1) (i:=1) (v:=v1) (by omega)).set (O:=H+1) (i:=2) (v:=v2) (by omega)).set (O:=H+1) (i:=3) (v:=v3) (by omega)).set (O:=H+1) (i:=4) (v:=v4) (by omega)
 obtain ⟨a,c,rfl,hc1,hc2,hi,hn⟩:=hks2.str.slice
 obtain ⟨a2,c2,rfl,hd1,hd2,hi2,hn2,hn3⟩:=hks2.kids.slice
 refine ⟨k,t,a,c,ks,a2,c2,es,ln,rfl,Ab ⟨hT,.mk ⟨hk,ht,Nat.le_trans hc1 hc2,Nat.le_trans hd1 hd2,hc1,hd1,hkl,hi⟩ hi2,fun g hg=>?_⟩,?_⟩
 ·rw [Es] at hg
  rcases hg with ⟨h1,h2⟩ | ⟨h1,h2⟩ | h1
  ·have:=hn g h1 h2;omega
  ·have:=hn3 g h1 h2;omega
  ·have:=hn2 g h1;omega
 ·rw [hH]
  exact Iu hb (by omega) _ _ _ _ _
set_option maxRecDepth 100000 in
set_option maxHeartbeats 8000000 in
theorem Nu (k:Nat) (t:List UInt8) (ka:Option Addr) (kc:Nat) (ks:List (List UInt8)) (da:Option Addr) (dc:Nat) (ds:List Nd) (ln:Int) (hds:∀ d∈ds,Lh d):Lh (.mk k t ka kc ks da dc ds ln):=by
 intro lv w hin hok h1 h2
 rw [Nd.val_eq]
 have hfit:=hin.fit
 unfold Nd.bare E6 at hok
 obtain ⟨o1,o2,o3,o4,o5⟩:=hok
 rw [Bs] at o4
 have hkl:ks.length≤1000000000:=o2
 obtain ⟨H,hH⟩:∃ H,w.heap.size=H:=⟨_,rfl⟩
 obtain ⟨W,hW⟩:∃ W,((w.alloc (.cells #[.int .u8 k,.string ⟨t.toArray⟩,.slice ka ks.length kc,.slice da ds.length dc,.int .i64 ln] 26)).alloc (.cells #[.int .u8 0,.string ⟨#[]⟩,.slice none 0 0,.slice none 0 0,.int .i64 0] 26)).alloc (.cells #[.int .u8 k,.string ⟨t.toArray⟩,.slice ka ks.length kc,.slice da ds.length dc,.int .i64 ln] 26)=W:=⟨_,rfl⟩
 have hsW:W.heap.size=H+1+1+1:=by rw [← hW];simp;omega
 have hbW:Below H w W:=by rw [← hW];exact (((Below.refl _ w).alloc (by omega) _).alloc (by simp;omega) _).alloc (by simp;omega) _
 obtain ⟨W',hW',v1,g0,g1,g2,v2,v3⟩:=Nz w (.cells #[.int .u8 k,.string ⟨t.toArray⟩,.slice ka ks.length kc,.slice da ds.length dc,.int .i64 ln] 26) (.cells #[.int .u8 0,.string ⟨#[]⟩,.slice none 0 0,.slice none 0 0,.int .i64 0] 26) (.cells #[.int .u8 k,.string ⟨t.toArray⟩,.slice ka ks.length kc,.slice da ds.length dc,.int .i64 ln] 26) (.cells #[] 3) H hH
 rw [hW] at hW'
 have hup:∀ r,r<W.heap.size→W.heap[r]?=W'.heap[r]?:=fun r hr=>by rw [← hW'];exact (Below.heap_alloc _ _ _ hr).symm
 rw [← hup _ (by omega)] at g0 g1 g2
 clear hW' hup v1 v2 v3 W'
 have hkin:Eu W ka ks:=by
  have h3:=hfit.keys
  simp only [Nd.ka,Nd.keys] at h3
  exact h3.below (by rw [hH];exact hbW)
 have hcl:=P0 ka kc ks W hkin hkl
 have hkids:=hin.kids
 simp only [Nd.da,Nd.kids] at hkids
 have HCL:=Ab hcl
 have HW:=Ab hW
 have HG0:=Ab g0
 have HG1:=Ab g1
 have HG2:=Ab g2
 have HBW:=Ab hbW
 have HKI:=Ab hkids
 have HDS:=Ab hds
 have HO5:=Ab o5
 have hdl:=hfit.kidsL
 simp only [Nd.kids] at hdl
 have HIN:=Ab hin
 clear hcl hW g0 g1 g2 hbW hkin hkids hds o5 o1 o3 hfit hdl hin
 go_enter Tryz.func50,Tryz.ntmps50
 go_upto_region 2 with fail
 try rw [hH]
 rw [Aa HW]
 obtain ⟨⟨x0,f0⟩,⟨x1,f1⟩,⟨x2,f2⟩,⟨x3,f3⟩,⟨x4,f4⟩⟩:=Ad (Aa HG0)
 go_upto_region 4 with (go_at_call 85;refine (Aa HCL).mono ?_;rintro e w1 ⟨a',c',rfl,HS,hb1⟩;have m2:=(hb1.block (H+1+1) (by omega)).trans (Aa HG2);obtain ⟨⟨y0,q0⟩,⟨y1,q1⟩,⟨y2,q2⟩,⟨y3,q3⟩,⟨y4,q4⟩⟩:=Ad m2;have HM2:=Ab m2;clear m2)
 obtain ⟨V0,hV0⟩:∃ V0,(w1.setCell ⟨H+1+1,2,none⟩ (.slice a' ks.length c')).setCell ⟨H+1+1,3,none⟩ (.slice none 0 0)=V0:=⟨_,rfl⟩
 have hs1:=hb1.size
 rw [hsW] at hb1 HS
 have hKS:KS V0 (H+1+1+1) (.slice a' ks.length c') (.slice none 0 0) ks []:=by
  rw [← hV0]
  exact ((⟨Aa HS,Dt.nil _ _,fun g e=>⟨fun e2=>by simp [Value.ownBlock] at e2,by simp⟩⟩:KS w1 (H+1+1+1) (.slice a' ks.length c') (.slice none 0 0) ks []).set (by omega)).set (by omega)
 have hsV:H+1+1<V0.heap.size:=by rw [← hV0];simp;omega
 have ho:∀ r,r≠H+1+1→V0.heap[r]?=w1.heap[r]?:=fun r hr=>by rw [← hV0,Below.heap_setCell _ _ _ _ (by exact hr),Below.heap_setCell _ _ _ _ (by exact hr)]
 have k0:=(ho H (by omega)).trans ((hb1.block _ (by omega)).trans (Aa HG0))
 have k1:=(ho (H+1) (by omega)).trans ((hb1.block _ (by omega)).trans (Aa HG1))
 have k2:V0.heap[H+1+1]?=some (.cells #[.int .u8 k,.string ⟨t.toArray⟩,.slice a' ks.length c',.slice none 0 0,.int .i64 ln] 26):=by
  rw [← hV0];exact Rm (Ub (Aa HM2) _) _
 have hbV:Below H w V0:=by
  have h3:=(Aa HBW).trans (hb1.mono (by omega))
  rw [← hV0]
  exact ⟨h3.os,h3.tape,h3.output,by have:=h3.size;simpa using this,fun r hr=>by
   rw [Below.heap_setCell _ _ _ _ (by show r≠H+1+1;omega),Below.heap_setCell _ _ _ _ (by show r≠H+1+1;omega)]
   exact h3.block r hr⟩
 rw [hV0]
 have HK0:=Ab k0
 have HK1:=Ab k1
 have HK2:=Ab k2
 have HKS:=Ab hKS
 have HBV:=Ab hbV
 clear x0 f0 x1 f1 x2 f2 x3 f3 x4 f4 y0 q0 y1 q1 y2 q2 y3 q3 y4 q4 hV0 hKS ho k0 k1 k2 hbV hb1 hs1 HS HM2 HG0 HG1 HG2 HCL
 rcases Nat.lt_or_ge 1 lv with hlv | hlv
 ·have jl:(1:Int)<(lv:Int):=by omega
  have jw:IntKind.i64.wrap ((lv:Int) - 1)=(lv:Int) - 1:=IntWalk.i64_in _ (by omega)
  have hlt:=fun r (hr:(Nd.mk k t ka kc ks da dc ds ln).blk r)=>(Aa HIN).lt hr
  rw [hH] at hlt
  have HLT:=Ab hlt
  obtain ⟨n,hn⟩:∃ n,ds.length=n:=⟨_,rfl⟩
  have HK0':=Ab (show V0.heap[H]?=some (.cells #[.int .u8 k,.string ⟨t.toArray⟩,.slice ka ks.length kc,.slice da n dc,.int .i64 ln] 26) by rw [← hn];exact Aa HK0)
  obtain ⟨⟨x0,_⟩,⟨x1,_⟩,⟨x2,_⟩,⟨x3,_⟩,⟨x4,_⟩⟩:=Ad (Aa HK0')
  have HN:=Ab hn
  have HLV:=Ab hlv
  rw [hn] at o4 ⊢
  have hon:(n:Int)≤1000000000:=by omega
  clear hlt hn hlv HK0 HK0'
  go_wp2
  go_loopg [19] n (fun g s19 wx=>∃ (i:Nat) (dv:Value) (es:List Nd),i+g=n∧s19=.int .i64 i∧es.length≤i∧Hid (KS wx (H+1+1+1) (.slice a' ks.length c') dv ks es)∧Hid (Am es=P20.cutL (lv - 1) (Am (ds.take i))) ∧
   Hid (wx.heap[H+1+1]?=some (.cells #[.int .u8 k,.string ⟨t.toArray⟩,.slice a' ks.length c',dv,.int .i64 ln] 26))∧Hid (wx.heap[H+1]?=some (.cells #[.int .u8 0,.string ⟨#[]⟩,.slice none 0 0,.slice none 0 0,.int .i64 0] 26))∧Hid (Below H w wx))
  case atStart=>exact ⟨0,_,[],by omega,by go_num,Nat.le_refl _,HKS,Ab rfl,HK2,HK1,HBV⟩
  case round=>
   obtain ⟨i,dv,es,hig,rfl,hel,HKR,HE,HO,HZ,HB⟩:=hrel
   obtain ⟨ad,cd,rfl,_⟩:=(Aa HKR).kids.slice
   cases gk with
   | zero=>
    have e1:(n:Int)=(i:Int):=by omega
    have HEI:=Ab (show i=n by omega)
    obtain ⟨⟨x0,f0⟩,⟨x1,f1⟩,⟨x2,f2⟩,⟨x3,f3⟩,⟨x4,f4⟩⟩:=Ad (Aa HO)
    obtain ⟨⟨z0,q0⟩,⟨z1,q1⟩,⟨z2,q2⟩,⟨z3,q3⟩,⟨z4,q4⟩⟩:=Ad (Aa HZ)
    go_wp2
    have hf:=(Aa HIN).fit
    refine bodyPost_ret (results_cell_row rfl _ _ _ _ _ _ _ rfl (B9 (Aa HZ) _ _ _ _ _) Tryz.underlying26 rfl (by kernel_rfl)) rfl (Kd (k:=k) (t:=t) (ks:=ks) (ln:=ln) hH hf.kind hf.text hf.keyL (Aa HKR) ?_ (Aa HB) _ _ _ _ _)
    unfold Nd.bare P20.T.cut
    rw [if_pos (Aa HLV),Aa HE,List.take_of_length_le (by rw [Aa HN];have:=Aa HEI;omega)]
   | succ g'=>
    have hlt:(i:Int)<(n:Int):=by omega
    have hki:IntKind.i64.wrap ((i:Int)+1)=(i:Int)+1:=IntWalk.i64_in _ (by omega)
    obtain ⟨d,hgd⟩:=V3 (Aa HN) (show i<n by omega)
    have hdm:=List.mem_of_getElem? hgd
    have hb:=Aa HB
    have hbs:=hb.size
    have hkr:InL wr da 0 ds:=InL.below (Aa HKI) (by rw [hH];exact hb)
    have hcall:=Aa HDS d hdm (lv - 1)
    have hokd:E6 d.bare:=(Hf _).1 (Aa HO5) _ (by rw [Ci];exact List.mem_map_of_mem hdm)
    have htk:=Ql (lv - 1) hgd
    obtain ⟨b1,o1,k1,t1,ka1,kc1,ks1,da1,dc1,ds1,l1,rfl,rfl,e0,e1,e2,e3,e4,hdin⟩:=Ce hkr hgd
    obtain ⟨W5,hW5⟩:∃ W5,wr.alloc (.cells #[.int .u8 k1,.string ⟨t1.toArray⟩,.slice ka1 ks1.length kc1,.slice da1 ds1.length dc1,.int .i64 l1] 26)=W5:=⟨_,rfl⟩
    have hb5:Below wr.heap.size wr W5:=by rw [← hW5];exact (Below.refl _ wr).alloc (Nat.le_refl _) _
    have hs5:W5.heap.size=wr.heap.size+1:=by rw [← hW5];simp
    have g5:W5.heap[wr.heap.size]?=some (.cells #[.int .u8 k1,.string ⟨t1.toArray⟩,.slice ka1 ks1.length kc1,.slice da1 ds1.length dc1,.int .i64 l1] 26):=by rw [← hW5];exact World.alloc_heap_new wr _
    have hO1:H+1+1<wr.heap.size:=(Array.getElem?_eq_some_iff.1 (Aa HO)).1
    have hO5:=(hb5.block (H+1+1) hO1).trans (Aa HO)
    have hZ5:=(hb5.block (H+1) (by omega)).trans (Aa HZ)
    have hK5:=(Aa HKR).keep hb5
    have hcl:=fun V (h:Below W5.heap.size W5 V)=>hcall V ((hdin.below hb5).below h) hokd (by have:=Aa HLV;omega) (by omega)
    rw [Nd.val_eq,show (((lv - 1:Nat)):Int)=(lv:Int) - 1 from by have:=Aa HLV;omega] at hcl
    obtain ⟨T1,hT1⟩:∃ T1,(Nd.mk k1 t1 ka1 kc1 ks1 da1 dc1 ds1 l1).bare.cut (lv - 1)=T1:=⟨_,rfl⟩
    rw [hT1] at hcl htk
    obtain ⟨⟨x0,f0⟩,⟨x1,f1⟩,⟨x2,f2⟩,⟨x3,f3⟩,⟨x4,f4⟩⟩:=Ad hO5
    obtain ⟨⟨y0,_⟩,⟨y1,_⟩,⟨y2,_⟩,⟨y3,_⟩,⟨y4,_⟩⟩:=Ad g5
    have HCL:=Ab hcl
    have HTK:=Ab htk
    have HI5:=Ab g5
    have HKR5:=Ab (Aa HKR).kids
    have HW5:=Ab hW5
    have HO5':=Ab hO5
    have HZ5:=Ab hZ5
    have HK5:=Ab hK5
    have HB5:=Ab (show Below H w W5 from hb.trans (hb5.mono (by omega)))
    have hbl1:=B3 e0
    have hmx:Tryz.prog.follows .mixedOrders=true:=by kernel_rfl
    clear hcl htk hT1 hW5 hO5 hZ5 hK5 hcall hokd hdm hgd hdin hkr hb g5 HO HZ HKR HB
    go_upto_region 8 with fail
    rw [Aa HW5]
    have hcl2:=Aa HCL W5.drew ⟨rfl,rfl,rfl,Nat.le_refl _,fun _ _=>rfl⟩
    have HC2:=Ab hcl2
    clear hcl2
    have heg:=enters_of Tryz.func50 (by kernel_rfl) rfl
    go_region_law (first
     | (refine Na (f:=50) (args:=#[.agg #[.int .u8 k1,.string ⟨t1.toArray⟩,.slice ka1 ks1.length kc1,.slice da1 ds1.length dc1,.int .i64 l1],.int .i64 ((lv:Int) - 1)]) (by rfl) (by simp [execOp,go_sem,heg]) (Aa HC2) ?_;rintro e w6 ⟨k6,t6,ka6,kc6,ks6,da6,dc6,ds6,l6,rfl,HN6,hb6'⟩;refine ⟨_,rfl,?_⟩;have hb6:Below W5.heap.size W5 w6:=⟨hb6'.os,hb6'.tape,hb6'.output,hb6'.size,hb6'.block⟩;have hO6:=(hb6.block (H+1+1) (by omega)).trans (Aa HO5');obtain ⟨⟨p0,r0⟩,⟨p1,r1⟩,⟨p2,r2⟩,⟨p3,r3⟩,⟨p4,r4⟩⟩:=Ad hO6;have HO6:=Ab hO6;have HK6:=Ab (((Aa HK5).keep hb6).alloc (.cells #[.int .u8 k6,.string ⟨t6.toArray⟩,.slice ka6 ks6.length kc6,.slice da6 ds6.length dc6,.int .i64 l6] 26));have hs6:=hb6.size;have hs6':H+1+1<w6.heap.size:=(by omega);obtain ⟨⟨a0,_⟩,⟨a1,_⟩,⟨a2,_⟩,⟨a3,_⟩,⟨a4,_⟩⟩:=Ad ((Below.heap_alloc w6 (.cells #[.int .u8 k6,.string ⟨t6.toArray⟩,.slice ka6 ks6.length kc6,.slice da6 ds6.length dc6,.int .i64 l6] 26) _ hs6').trans hO6);clear hO6 hb6')
     | (refine K0 (B:=H+1+1+1) (nd:=.mk k6 t6 ka6 kc6 ks6 da6 dc6 ds6 l6) (by rfl) _ _ (by rfl) (by rfl) (Aa HK6).kids ((Aa HN6).2.1.alloc _) (fun g hg=>by have h3:W5.heap.size≤g:=(Aa HN6).2.2 g hg;omega) (fun g hg e=>by have h3:W5.heap.size≤g:=(Aa HN6).2.2 g hg;have h4:=(Ao (Aa HK5).kids.own g e).2;omega) w6.heap.size 1 (by rfl) (Qa2 _ _ _ _ _ _ _ _ _ _) (by omega) (by simp;omega) ?_;intro v' w7 hK7 hg7 hat7;obtain ⟨ad7,cd7,rfl,_⟩:=hK7.slice;have HK7:=Ab hK7;clear hK7;have hown:∀ g,(Value.slice ad es.length cd).ownBlock=some g→H+1+1+1≤g:=(fun g e=>(Ao (Aa HK6).kids.own g e).1);have hO7:=(hg7.block (H+1+1) (by simp;omega) (fun e=>by have:=hown _ e.symm;omega)).trans ((Below.heap_alloc _ _ _ hs6').trans (Aa HO6));obtain ⟨⟨m0,n0⟩,⟨m1,n1⟩,⟨m2,n2⟩,⟨m3,n3⟩,⟨m4,n4⟩⟩:=Ad hO7;have HO7:=Ab hO7;clear hO7))
    all_goals
     have hks7:=(Aa HK6).kid (Aa HK7) hg7 hat7 (fun g hg e=>by have h3:W5.heap.size≤g:=(Aa HN6).2.2 g hg;have h4:=(Ao (Aa HK5).str.own g e).2;omega)
     have hks8:=hks7.set (O:=H+1+1) (i:=3) (v:=.slice ad7 (es.length+1) cd7) (by omega)
     rw [List.length_append,List.length_singleton] at hks8
     have HKS8:=Ab hks8
     have hbn:=(((Aa HB5).trans (hb6.mono (show H≤W5.heap.size by omega))).alloc (show H≤w6.heap.size by omega) (.cells #[.int .u8 k6,.string ⟨t6.toArray⟩,.slice ka6 ks6.length kc6,.slice da6 ds6.length dc6,.int .i64 l6] 26)).grown hg7 (by simp;omega) (fun k e=>by have:=hown k e;omega)
     have HBN:=Ab (hbn.setCell (p:=⟨H+1+1,3,none⟩) (show H≤H+1+1 by omega) (.slice ad7 (es.length+1) cd7))
     have HZN:=Ab ((Below.heap_setCell w7 ⟨H+1+1,3,none⟩ (.slice ad7 (es.length+1) cd7) (H+1) (show H+1≠H+1+1 by omega)).trans ((hg7.block (H+1) (by simp;omega) (fun e=>by have:=hown _ e.symm;omega)).trans ((Below.heap_alloc _ _ _ (show H+1<w6.heap.size by omega)).trans ((hb6.block (H+1) (by omega)).trans (Aa HZ5)))))
     have HBE:=Ab (show Am (es ++ [.mk k6 t6 ka6 kc6 ks6 da6 dc6 ds6 l6])=P20.cutL (lv - 1) (Am (ds.take (i+1))) by rw [Cu,Aa HE,Aa HTK,← (Aa HN6).1];rfl)
     clear hks7 hks8 hbn
     go_wp2
     go_roundg g'
     case measure=>omega
     case rel=>exact ⟨i+1,_,es ++ [.mk k6 t6 ka6 kc6 ks6 da6 dc6 ds6 l6],by omega,by go_num,by simp;omega,HKS8,HBE,Ab (Rm (Aa HO7) _),HZN,HBN⟩
 ·have jl:(lv:Int)≤1:=by omega
  obtain ⟨⟨x0,f0⟩,⟨x1,f1⟩,⟨x2,f2⟩,⟨x3,f3⟩,⟨x4,f4⟩⟩:=Ad (Aa HK2)
  obtain ⟨⟨z0,q0⟩,⟨z1,q1⟩,⟨z2,q2⟩,⟨z3,q3⟩,⟨z4,q4⟩⟩:=Ad (Aa HK1)
  have HLV:=Ab hlv
  clear hlv
  go_wp2
  have hf:=(Aa HIN).fit
  exact bodyPost_ret (results_cell_row rfl _ _ _ _ _ _ _ rfl (B9 (Aa HK1) _ _ _ _ _) Tryz.underlying26 rfl (by kernel_rfl)) rfl (Kd (k:=k) (t:=t) (ks:=ks) (ln:=ln) hH hf.kind hf.text hf.keyL (Aa HKS) (by unfold Nd.bare P20.T.cut;rw [if_neg (by have:=Aa HLV;omega)];rfl) (Aa HBV) _ _ _ _ _)
theorem Ly (d:Nd):Lh d:=Nd.ind (p:=Lh) Nu d
set_option maxRecDepth 100000 in
set_option maxHeartbeats 1600000 in
theorem Mz (d:Nd) (w:World) (hin:d.In w) (hok:E6 d.bare):Calls Tryz.prog 23 #[d.val] w (St w (d.bare.cut 18)):=by
 obtain ⟨k,t,ka,kc,ks,da,dc,ds,ln⟩:=d
 have hcl:=fun W (hb:Below w.heap.size w W)=>Ly _ 18 W (hin.below hb) hok (by omega) (by omega)
 obtain ⟨T,hT⟩:∃ T,(Nd.mk k t ka kc ks da dc ds ln).bare.cut 18=T:=⟨_,rfl⟩
 rw [Nd.val_eq,hT] at hcl
 rw [Nd.val_eq,hT]
 obtain ⟨H,hH⟩:∃ H,w.heap.size=H:=⟨_,rfl⟩
 obtain ⟨W,hW⟩:∃ W,(w.alloc (.cells #[.int .u8 k,.string ⟨t.toArray⟩,.slice ka ks.length kc,.slice da ds.length dc,.int .i64 ln] 26)).alloc (.cells #[.int .u8 0,.string ⟨#[]⟩,.slice none 0 0,.slice none 0 0,.int .i64 0] 26)=W:=⟨_,rfl⟩
 have hs0:W.heap.size=H+1+1:=by rw [← hW];simp;omega
 have hb0:Below H w W:=by rw [← hW];exact ((Below.refl _ w).alloc (by omega) _).alloc (by simp;omega) _
 have g0:W.heap[H]?=some (.cells #[.int .u8 k,.string ⟨t.toArray⟩,.slice ka ks.length kc,.slice da ds.length dc,.int .i64 ln] 26):=by
  rw [← hW,← hH];exact (Below.heap_alloc _ _ _ (by simp)).trans (World.alloc_heap_new w _)
 have g1:W.heap[H+1]?=some (.cells #[.int .u8 0,.string ⟨#[]⟩,.slice none 0 0,.slice none 0 0,.int .i64 0] 26):=by
  rw [← hW,← hH];exact Cy w _ _
 have HC:=Ab (hcl W (by rw [hH];exact hb0))
 have HW:=Ab hW
 have HG1:=Ab g1
 have HB0:=Ab hb0
 obtain ⟨⟨x0,f0⟩,⟨x1,f1⟩,⟨x2,f2⟩,⟨x3,f3⟩,⟨x4,f4⟩⟩:=Ad g0
 clear hcl hin hok hT hW g0 g1 hb0
 go_enter Tryz.func23,Tryz.ntmps23
 go_upto_region 1 with fail
 try rw [hH]
 rw [Aa HW]
 go_wp2_with (go_at_call 50;refine (Aa HC).mono ?_;rintro e w2 ⟨k2,t2,ka2,kc2,ks2,da2,dc2,ds2,l2,rfl,HN,hb2⟩;have m1:=(hb2.block (H+1) (by omega)).trans (Aa HG1);obtain ⟨⟨y0,q0⟩,⟨y1,q1⟩,⟨y2,q2⟩,⟨y3,q3⟩,⟨y4,q4⟩⟩:=Ad m1;have HM1:=Ab m1;clear m1)
 obtain ⟨n1,n2,n3⟩:=Aa HN
 refine bodyPost_ret (results_cell_row rfl _ _ _ _ _ _ _ rfl (B9 (Aa HM1) _ _ _ _ _) Tryz.underlying26 rfl (by kernel_rfl)) rfl ⟨k2,t2,ka2,kc2,ks2,da2,dc2,ds2,l2,rfl,Ab ⟨n1,n2.keep (fun g hg=>Az (by have:=n3 g hg;omega) _ _ _ _ _),fun g hg=>by have:=n3 g hg;omega⟩,?_⟩
 rw [hH]
 exact Iu ((Aa HB0).trans (hb2.mono (by omega))) (by omega) _ _ _ _ _
end Go.Proofs.YtnjokdbblmlhhaaGreatDoor
