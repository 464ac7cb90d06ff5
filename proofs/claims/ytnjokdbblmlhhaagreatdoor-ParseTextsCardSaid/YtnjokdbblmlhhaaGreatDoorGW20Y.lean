/- Lemmas of this claim. -/
import Derived.Test.YtnjokdbblmlhhaaGreatDoorG19aY
import Derived.Test.YtnjokdbblmlhhaaGreatDoorGN20Y
set_option linter.unusedVariables false
set_option linter.unusedSimpArgs false
namespace Go.Proofs.YtnjokdbblmlhhaaGreatDoor
set_option maxHeartbeats 8000000
set_option maxRecDepth 100000
namespace P20
open P19 (line value close turn adds allR rowT toks)
theorem Kl{s:List UInt8}(h:(P18.read s).2=0):P03.check (P18.read s).1 4096=0:=by
 have hc:∀t:List UInt8,(P18.chk t).2=0→P03.check (P18.chk t).1 4096=0:=fun t ht=>by
  unfold P18.chk at ht ⊢;split
  ·rename_i h1
   rw[if_pos h1]at ht;simp at h1;exact absurd ht h1
  ·rename_i h1
   simpa using h1
 unfold P18.read P18.readF at h ⊢;split
 ·rename_i h1;rw[if_pos h1]at h;exact absurd h (by decide)
 ·rename_i h1
  rw[if_neg h1]at h;split
  ·rename_i h2
   rw[if_pos h2]at h;split
   ·rename_i h3;rw[h3]at h;exact absurd h (by decide)
   ·rename_i h3;rw[h3]at h;exact hc _ h
  ·rename_i h2
   rw[if_neg h2]at h;exact hc _ h
def Gg(t:Tk):Prop:=t.1<8∧(if t.1=4∨t.1=5 then P03.check t.2.1 4096=0 else t.2.1=[])
theorem Ft{k:Nat}{n c:Int}(h:k<8)(h2:¬(k=4∨k=5)):Gg (k,[],n,c):=⟨h,by rw[if_neg h2]⟩
theorem Rf(n c:Int)(s:List UInt8)(h:(value n c s).2=0):Gg (value n c s).1:=by
 unfold value at h ⊢;split
 ·exact Ft (by decide) (by decide)
 ·rename_i h1
  rw[if_neg h1]at h;split
  ·exact Ft (by decide) (by decide)
  ·rename_i h2
   rw[if_neg h2]at h;split
   ·rename_i h3;rw[if_pos h3]at h;exact absurd h (by decide)
   ·rename_i h3
    rw[if_neg h3]at h;exact⟨by show 5<8;omega,by rw[if_pos (.inr rfl)];exact Kl h⟩
theorem O0:∀(f:Nat) (n c:Int) (s:List UInt8),∀t∈(line f n c s).1,Gg t
 |0,n,c,s,t,h=>by simp[line]at h
 |f+1,n,c,s,t,h=>by
  unfold line at h;split at h
  ·split at h
   ·rw[zO.1 h];exact Ft (by decide) (by decide)
   ·split at h
    ·simp at h
    ·rcases zN.1 h with rfl|h
     ·exact Ft (by decide) (by decide)
     ·exact O0 f n _ _ t h
  ·split at h
   ·rw[zO.1 h];exact Ft (by decide) (by decide)
   ·split at h
    ·rw[zO.1 h];exact Ft (by decide) (by decide)
    ·split at h
     ·simp at h
     ·split at h
      ·simp at h
      ·split at h
       ·simp at h
       ·rename_i hr
        have D:=Kl (s:=s.take (P18.cut s).1) (by simpa using hr);split at h
        ·rw[zO.1 h];exact⟨by show 5<8;omega,by rw[if_pos (.inr rfl)];exact D⟩
        ·split at h
         ·rw[zO.1 h];exact⟨by show 4<8;omega,by rw[if_pos (.inl rfl)];exact D⟩
         ·split at h
          ·simp at h
          ·rename_i hv
           rcases zN.1 h with rfl|h
           ·exact⟨by show 4<8;omega,by rw[if_pos (.inl rfl)];exact D⟩
           ·rw[zO.1 h];exact Rf _ _ _ (by simpa using hv)
theorem I3(n c tc:Int):∀st:List Int,∀t∈(close n c tc st).1,Gg t
 | [],t,h=>by simp[close]at h
 |x::st,t,h=>by
  unfold close at h;split at h
  ·rcases zN.1 h with rfl|h
   ·exact Ft (by decide) (by decide)
   ·exact I3 n c tc st t h
  ·simp at h
theorem S8{b:Bool}{k:Nat}{n:Int}{t:Tk}{out:List Tk}{st:List Int}(ht:Gg t)(ho:∀x∈out,Gg x):∀x∈(turn b k n t out st).2.1,Gg x:=by
 intro x hx
 have h1:∀y∈out++[t],Gg y:=fun y D=>by
  rcases zE.1 D with h|h
  ·exact ho y h
  ·rw[zO.1 h];exact ht
 unfold turn at hx;split at hx
 ·split at hx
  ·simp at hx
  ·simp only[zE,zO]at hx;rcases hx with(hx|hx)|rfl
   ·exact ho x hx
   ·exact I3 _ _ _ _ x hx
   ·exact ht
 ·split at hx
  ·split at hx
   ·simp at hx
   ·simp only[zE,zO]at hx;rcases hx with(hx|rfl)|rfl
    ·exact ho x hx
    ·exact Ft (by decide) (by decide)
    ·exact ht
  ·exact h1 x hx
theorem Pm{n:Int}:∀(ts:List Tk) (b:Bool) (k:Nat) (out:List Tk) (st:List Int),(∀t∈ts,Gg t)→(∀x∈out,Gg x)→∀x∈(adds n b k ts out st).2.1,Gg x
 | [],b,k,out,st,ht,ho,x,hx=>ho x hx
 |t::r,b,k,out,st,ht,ho,x,hx=>by
  unfold adds at hx;split at hx
  ·simp at hx
  ·exact Pm r _ _ _ _ (fun y D=>ht y (List.mem_cons_of_mem _ D)) (S8 (ht t List.mem_cons_self) ho) x hx
theorem O8:∀(rs:List (Nat × Nat × List UInt8)) (b:Bool) (out:List Tk) (st:List Int) (last:Int),(∀x∈out,Gg x)→∀x∈(allR b rs out st last).1,Gg x
 | [],b,out,st,last,ho,x,hx=>by
  unfold allR at hx;rcases zE.1 hx with h|h
  ·exact ho x h
  ·exact I3 _ _ _ _ x h
 |r::rs,b,out,st,last,ho,x,hx=>by
  unfold allR at hx;split at hx
  ·simp at hx
  ·split at hx
   ·simp at hx
   ·split at hx
    ·simp at hx
    ·exact O8 rs _ _ _ _ (Pm _ _ _ _ _ (O0 _ _ _ _) ho) x hx
theorem all_ok(s:List UInt8):∀x∈(P19.all s).1,Gg x:=by
 intro x hx;unfold P19.all at hx;split at hx
 ·simp at hx
 ·exact O8 _ _ _ _ _ (by simp) x hx
theorem Gg.len{t:Tk}(h:Gg t):t.2.1.length≤4096:=by
 obtain⟨h1,h2⟩:=h;split at h2
 ·unfold P03.check at h2;split at h2
  ·exact absurd h2 (by decide)
  ·omega
 ·rw[h2];simp
theorem I4:∀(rs:List (Nat × Nat × List UInt8)) (b:Bool) (out:List Tk) (st:List Int) (last:Int),P19.Row st→st.length≤16→(P19.allR b rs out st last).1.length≤out.length+40*P19.weight rs+16
 | [],b,out,st,last,hr,hl=>by
  have h1:=P19.close_len last 0 0 st;unfold P19.allR;rw[qH];omega
 |r::rs,b,out,st,last,hr,hl=>by
  have D:P19.LineOk r.1 r.2.1 r.2.2.length (P19.toks r.1 r.2.1 r.2.2):=P19.line_at _ _ _ _;have G:=P19.toks_len r.1 r.2.1 r.2.2;have hw:P19.weight (r::rs)=r.2.2.length+1+P19.weight rs:=by unfold P19.weight;rw[List.map_cons,List.sum_cons]
  unfold P19.allR;split
  ·simp
  ·split
   ·simp
   ·split
    ·simp
    ·rename_i h3
     have h4:=P19.adds_row (n:=(r.1:Int)) (P19.rowT r).1 true 0 out st hr hl (fun t ht=>by have:=(D.1 t ht).2.1;omega) (fun h=>by cases h) (fun t ht=>by have:=D.2.2 t ht;omega) (by simpa using h3);have h5:=I4 rs false (P19.adds r.1 true 0 (P19.rowT r).1 out st).2.1 (P19.adds r.1 true 0 (P19.rowT r).1 out st).2.2 r.1 h4.1 h4.2.1;have h6:=h4.2.2;rw[if_pos rfl]at h6;have h7:(P19.rowT r).1.length≤r.2.2.length+1:=G;omega
theorem all_len20(s:List UInt8):(P19.all s).1.length≤80*s.length+16:=by
 unfold P19.all;split
 ·simp
 ·have h1:=I4 (Dz s) true [] [0] 0 P19.row_zero (by decide);have h2:=P19.weight_le s;simp only[qP]at h1;omega
def lastL(all:List Tk):Int:=(all.getLastD (0,[],0,0)).2.2.1
def PaR(s:List UInt8)(o:Except (Int × Int) T):Prop:=
 if (P19.all s).2.1≠0 then o=.error (P19.all s).2 else if (P19.all s).1=[] then o=.error (17,0) else∃f,Rd (lastL (P19.all s).1) f (P19.all s).1 o
theorem PaR.total(s:List UInt8):∃o,PaR s o:=by
 unfold PaR;split
 ·exact⟨_,rfl⟩
 ·split
  ·exact⟨_,rfl⟩
  ·obtain⟨f,o,h⟩:=Rd.total (lastL (P19.all s).1) (P19.all s).1;exact⟨o,f,h⟩
end P20
end Go.Proofs.YtnjokdbblmlhhaaGreatDoor
namespace Go.Proofs.YtnjokdbblmlhhaaGreatDoor
set_option maxHeartbeats 8000000
set_option maxRecDepth 100000
namespace P20
open P19 (turn close U1 adds)
theorem keysE_cons{seen:List (List UInt8)}{k:List UInt8}{ks:List (List UInt8)}(h:keysE seen (k::ks)=0):P03.check k 64=0∧k∉seen∧keysE (seen++[k]) ks=0:=by
 unfold keysE at h;by_cases h1:P03.check k 64=0
 ·rw[if_neg (by simpa using h1)]at h;by_cases h2:k∈seen
  ·rw[if_pos h2]at h;exact absurd h (by decide)
  ·rw[if_neg h2]at h;exact⟨h1,h2,h⟩
 ·rw[if_pos h1]at h;exact absurd h h1
theorem check_len{k:List UInt8}{m:Int}(h:P03.check k m=0):(k.length:Int)≤m:=by
 unfold P03.check at h;split at h
 ·exact absurd h (by decide)
 ·omega
end P20
end Go.Proofs.YtnjokdbblmlhhaaGreatDoor
namespace Go.Proofs.YtnjokdbblmlhhaaGreatDoor
set_option maxHeartbeats 8000000
set_option maxRecDepth 100000
open Go.RowKit
def K9(W:World)(a:Option Addr)(ts:List Tk):Prop:=∀i t,ts[i]?=some t→∃b o,a=some ⟨b,o,none⟩ ∧
 W.cell? ⟨b,o+i*4,none⟩=some (.int .u8 t.1)∧W.cell? ⟨b,o+i*4+1,none⟩=some (.string ⟨t.2.1.toArray⟩)∧W.cell? ⟨b,o+i*4+2,none⟩=some (.int .i64 t.2.2.1)∧W.cell? ⟨b,o+i*4+3,none⟩=some (.int .i64 t.2.2.2)
theorem K9.keep{W W':World}{a:Option Addr}{ts:List Tk}(h:K9 W a ts)(hb:∀r,ts≠[]→Bj a r→W'.heap[r]?=W.heap[r]?):K9 W' a ts:=by
 intro i t ht;obtain⟨b,o,rfl,h0,h1,h2,h3⟩:=h i t ht;have hk:=hb b (by rintro rfl;simp at ht) ⟨o,rfl⟩;exact⟨b,o,rfl,(Ag hk _).trans h0,(Ag hk _).trans h1,(Ag hk _).trans h2,(Ag hk _).trans h3⟩
structure D6 (W:World) (B rb:Nat) (all ts:List Tk):Prop where
 ex:∃(a a':Option Addr) (c c':Nat),W.heap[rb]?=some (.cells #[.slice a all.length c,.slice a' ts.length c'] 115)∧K9 W a all∧K9 W a' ts∧all.length≤c∧ts.length≤c'∧c≤maxLen∧c'≤maxLen ∧
  ¬Bj a rb∧¬Bj a' rb∧(∀g,Bj a g→g<B)∧(∀g,Bj a' g→g<B)
 lt:rb<B
 ne:all≠[]
 k8:∀t∈all,t.1<256∧t.2.1.length≤maxLen
 k8':∀t∈ts,t.1<256∧t.2.1.length≤maxLen
theorem D6.far{W W':World}{B rb:Nat}{all ts:List Tk}(h:D6 W B rb all ts)(hb:∀g,g<B→W'.heap[g]?=W.heap[g]?):D6 W' B rb all ts:=by
 obtain⟨⟨a,a',c,c',g,hi,G,h1,h2,h3,h4,h5,h6,h7,h8⟩,D,hne,k8,k8'⟩:=h;exact⟨⟨a,a',c,c',(hb _ D).trans g,hi.keep (fun r _ ho=>hb r (h7 r ho)),G.keep (fun r _ ho=>hb r (h8 r ho)),h1,h2,h3,h4,h5,h6,h7,h8⟩,D,hne,k8,k8'⟩
theorem D6.keep{W W':World}{B rb:Nat}{all ts:List Tk}(h:D6 W B rb all ts)(hB:B≤W.heap.size)(hb:Below W.heap.size W W'):D6 W' B rb all ts:=h.far (fun g D=>hb.block g (by omega))
theorem D6.alloc{W:World}{B rb:Nat}{all ts:List Tk}(h:D6 W B rb all ts)(hB:B≤W.heap.size)(o:Obj):D6 (W.alloc o) B rb all ts:=h.keep hB ((qV _ W).alloc (qJ _) o)
theorem D6.setCell{W:World}{B rb:Nat}{all ts:List Tk}(h:D6 W B rb all ts){D:Nat}(I:B≤D)(i:Nat)(v:Value):D6 (W.setCell ⟨D,i,none⟩ v) B rb all ts:=h.far (fun g G=>qC _ _ _ _ (by show g≠D;omega))
def Fl(all:List Tk):Int:=(all.getLastD (0,[],0,0)).2.2.1
abbrev Jm(e l:Int):Ending:=.panicked [{ v:=.iface 29 (.agg #[.int .i64 e,.int .i64 l]),recovered:=false }]
theorem Dl:Tryz.prog.follows .mixedOrders=true:=by kernel_rfl
theorem Jz(a b c d:Value)(W:World):(Instr.field 124 (.agg #[a,b,c,d]) 1).run Tryz.prog W=.ok b W:=by kernel_rfl
theorem Ka(a b c d:Value)(W:World):(Instr.field 124 (.agg #[a,b,c,d]) 2).run Tryz.prog W=.ok c W:=by kernel_rfl
attribute [local go_sem] Jz Ka
theorem L0(e l:Int)(w:World):Calls Tryz.prog 110 #[.int .i64 e,.int .i64 l] w fun x w'=>x=Jm e l∧w=w':=by
 go_enter Tryz.func110,Tryz.ntmps110
 go_wp2;exact⟨rfl,rfl,rfl⟩
theorem Fd(B rb:Nat)(all ts:List Tk)(w:World)(h:D6 w B rb all ts):Calls Tryz.prog 106 #[.pointer (some ⟨rb,0,none⟩)] w fun e w'=>e=.returned (.int .u8 (P20.kindOf ts))∧w=w':=by
 obtain⟨⟨a,a',c,c',hb,hi,I,Y,J,D,G,hn,U,S,Z⟩,R,hne,h8,aA⟩:=h;unfold maxLen at D G;obtain⟨⟨x0,_⟩,⟨Q,_⟩⟩:=Af hb;cases ts with
 |nil=>
  simp only[qP]at Q;go_enter Tryz.func106,Tryz.ntmps106
  go_wp2;go_ret;exact⟨rfl,rfl⟩
 |cons t r=>
  obtain⟨b,o,rfl,X,_⟩:=I 0 t rfl;rw[Nat.zero_mul,Nat.add_zero]at X;simp only[qE]at Q J;have N:((r.length+1:Nat):Int)≠0:=by omega
  go_enter Tryz.func106,Tryz.ntmps106
  go_wp2;go_ret;exact⟨rfl,rfl⟩
def Km(all:List Tk):List Tk→Tk
 | []=>all.getLastD (0,[],0,0)
 |t::_=>t
theorem F6(all ts:List Tk):(Km all ts).2.2.1=P20.hereL (Fl all) ts:=by cases ts<;>rfl
theorem Ep(B rb:Nat)(all ts:List Tk)(k:Nat)(x:List UInt8)(n D:Int)(w:World)(h:D6 w B rb all ts)(ht:Km all ts=(k,x,n,D)) :
  Calls Tryz.prog 105 #[.pointer (some ⟨rb,0,none⟩)] w fun e w'=>e=.returned (.agg #[.int .u8 k,.string ⟨x.toArray⟩,.int .i64 n,.int .i64 D])∧Below w.heap.size w w':=by
 obtain⟨⟨a,a',c,c',hb,hi,J,aD,U,Q,R,hn,aH,aG,aI⟩,aA,hne,h8,aE⟩:=h;unfold maxLen at Q R;obtain⟨⟨x0,_⟩,⟨Z,_⟩⟩:=Af hb;have aJ:rb<w.heap.size:=(qA.1 hb).1;have h0:=qB w (.cells #[.int .u8 k,.string ⟨x.toArray⟩,.int .i64 n,.int .i64 D] 124);have G:Below w.heap.size w (w.alloc (.cells #[.int .u8 k,.string ⟨x.toArray⟩,.int .i64 n,.int .i64 D] 124)):=(qV _ w).alloc (qJ _) _;have Y:=Ab h0;clear h0;cases ts with
 |nil=>
  simp only[qP]at Z;obtain⟨m,S⟩:∃m,all.length=m+1:=⟨all.length-1,by have:=zM.2 hne;omega⟩
  have hl:all[m]?=some (k,x,n,D):=by
   rw[←ht];simp only[Km,List.getLastD_eq_getLast?];rw[List.getLast?_eq_getElem?,S];simp only[zL];rw[qO (by omega)];rfl
  obtain⟨b,o,rfl,I,c1,c2,c3⟩:=hi m _ hl;simp only at I c1 c2 c3;rw[S]at x0;have aC:=Dl;have aB:(m:Int)+1≤9223372036854775807:=by omega
  have N:=B3 I;clear S hl hb hi J ht;have hz:IntKind.i64.wrap ((m:Int)+1-1)=(m:Int):=by rw[qG _ (by omega)];omega
  go_enter Tryz.func105,Tryz.ntmps105
  go_wp2;go_region
  go_wp2;exact qW (results_cell_row rfl _ _ _ _ _ _ _ rfl (C4 (Aa Y)) Tryz.underlying124 rfl (by kernel_rfl)) rfl ⟨rfl,G.drew⟩
 |cons t r=>
  obtain rfl:t=(k,x,n,D):=ht;obtain⟨b,o,rfl,I,c1,c2,c3⟩:=J 0 _ rfl;simp only[Nat.zero_mul,Nat.add_zero]at I c1 c2 c3;simp only[qE]at Z U;have X:((r.length+1:Nat):Int)≠0:=by omega
  have N:=B3 I;go_enter Tryz.func105,Tryz.ntmps105
  go_wp2;refine qW (results_cell_row rfl _ _ _ _ _ _ _ rfl (Aa Y) Tryz.underlying124 rfl (by kernel_rfl)) rfl ⟨rfl,G⟩
theorem D0(B rb:Nat)(all ts:List Tk)(e:Int)(w:World)(h:D6 w B rb all ts) :
  Calls Tryz.prog 69 #[.pointer (some ⟨rb,0,none⟩),.int .i64 e] w fun x w'=>x=Jm e (P20.hereL (Fl all) ts)∧Below w.heap.size w w':=by
 obtain⟨⟨k,x,n,D⟩,ht⟩:∃t,Km all ts=t:=⟨_,rfl⟩;have hl:=F6 all ts;rw[ht]at hl;simp only at hl;rw[←hl];have H:=Ab (Ep B rb all ts k x n D w h ht);clear ht hl h;go_enter Tryz.func69,Tryz.ntmps69
 go_wp2_with (first
  |(go_at_call 105;refine(Aa H).mono ?_;rintro e w' ⟨rfl,hb⟩)
  | (go_at_call 110;refine(L0 _ _ _).mono ?_;rintro e w' ⟨rfl,rfl⟩))
 exact⟨rfl,rfl,hb⟩
theorem Ti{W:World}{a':Option Addr}{t:Tk}{r:List Tk}{c':Nat}(h:K9 W a' (t::r))(hc:(t::r).length≤c'){b o:Nat}(he:a'=some ⟨b,o,none⟩) :
  K9 W (if c'=1 then some ⟨b,o,none⟩ else some ⟨b,o+4,none⟩) r:=by
 intro i u hu;obtain⟨b2,o2,e,h0,h1,h2,h3⟩:=h (i+1) u (by simpa using hu);rw[he]at e;injection e with e;injection e with D G;subst D;subst G;have hl:0<r.length:=by have:=(qI.1 hu).1;omega
 simp only[qE]at hc;rw[if_neg (by omega)];refine⟨b,o+4,rfl,?_⟩;rw[show o+(i+1)*4=o+4+i*4 from by omega]at h0 h1 h2 h3;exact⟨h0,h1,h2,h3⟩
theorem K9.lt{W:World}{a:Option Addr}{l:List Tk}(hi:K9 W a l):∀r,l≠[]→Bj a r→r<W.heap.size:=by
 intro r hn ho;cases l with
 |nil=>exact absurd rfl hn
 |cons t l=>
  obtain⟨b,o,e,G,_⟩:=hi 0 t rfl;obtain⟨o',D⟩:=ho;rw[e]at D;injection D with D;injection D with D;subst D;exact B3 G
theorem K9.grown{W W':World}{a:Option Addr}{l:List Tk}{rb:Nat}(hi:K9 W a l)(D:W.grownBy W' (some rb))(hn:¬Bj a rb):K9 W' a l:=
 hi.keep (fun r hr ho=>D.block r (hi.lt r hr ho) (fun e=>by cases e;exact hn ho))
theorem Ah{A B C:World}{row:Option Nat}(h:A.grownBy B row)(k:B.grownBy C row):A.grownBy C row:=
 ⟨k.os.trans h.os,k.tape.trans h.tape,k.output.trans h.output,qK h.size k.size,fun i hi hne=>(k.block i (zB hi h.size) hne).trans (h.block i hi hne)⟩
theorem Nw{A B:World}{row:Option Nat}(h:A.grownBy B row):A.grownBy B.drew row:=⟨h.os,h.tape,h.output,h.size,h.block⟩
theorem Bf{A B:World}{row:Option Nat}(h:A.grownBy B row){g i:Nat}(D:A.heap.size≤g)(v:Value):A.grownBy (B.setCell ⟨g,i,none⟩ v) row:=
 ⟨h.os,h.tape,h.output,by simpa[World.setCell]using h.size,fun j hj hne=>(qC _ _ _ _ (by show j≠g;omega)).trans (h.block j hj hne)⟩
theorem Dc(B rb:Nat)(all r:List Tk)(k:Nat)(x:List UInt8)(n cl:Int)(w:World)(h:D6 w B rb all ((k,x,n,cl)::r))(hB:B≤w.heap.size) :
  Calls Tryz.prog 107 #[.pointer (some ⟨rb,0,none⟩)] w fun e w'=>e=.returned (.agg #[.int .u8 k,.string ⟨x.toArray⟩,.int .i64 n,.int .i64 cl])∧D6 w' B rb all r∧w.grownBy w' (some rb):=by
 have hW:=h.alloc hB (.cells #[.int .u8 0,.string ⟨#[]⟩,.int .i64 0,.int .i64 0] 124);have H:=Ab (Ep B rb all ((k,x,n,cl)::r) k x n cl _ hW rfl);have h2:=qB w (.cells #[.int .u8 0,.string ⟨#[]⟩,.int .i64 0,.int .i64 0] 124);obtain⟨⟨a,a',c,c',hb,hi,X,aW,aO,aB,aQ,hn,aH,aN,U⟩,aU,hne,h8,aM⟩:=h;obtain⟨b,o,rfl,_⟩:=X 0 _ rfl;simp only[qE]at hb;have aT:rb<w.heap.size:=(qA.1 hb).1;have aA:=Ti X aO rfl;simp only[qE]at aO;obtain⟨A,hA⟩:∃A,(if c'=1 then some (⟨b,o,none⟩:Addr) else some ⟨b,o+4,none⟩)=A:=⟨_,rfl⟩
 have Z:¬Bj A rb:=by
  rintro⟨o2,e⟩;apply aH;rw[←hA]at e;split at e
  ·injection e with e;injection e with e;subst e;exact⟨o,rfl⟩
  ·injection e with e;injection e with e;subst e;exact⟨o,rfl⟩
 have aK:∀g,Bj A g→g<B:=by
  rintro g ⟨o2,e⟩;rw[←hA]at e;split at e
  ·injection e with e;injection e with e;subst e;exact U _ ⟨o,rfl⟩
  ·injection e with e;injection e with e;subst e;exact U _ ⟨o,rfl⟩
 have aC:Hid (∀W':World,w.grownBy W' (some rb)→W'.heap[rb]?=some (.cells #[.slice a all.length c,.slice A r.length (c'-1)] 115)→D6 W' B rb all r):=by
  intro W' hg hr;rw[hA]at aA;exact⟨⟨a,A,c,c'-1,hr,hi.grown hg hn,aA.grown hg Z,aW,by omega,aB,by omega,hn,Z,aN,aK⟩,aU,hne,h8,fun t ht=>aM t (List.mem_cons_of_mem _ ht)⟩
 have HA:=Ab hA;have H2:=Ab h2;have HB:=Ab hb;unfold maxLen at aB aQ;clear hW h2 hA aA Z hi X hn aH hne h8 aM hb aN U aK;go_enter Tryz.func107,Tryz.ntmps107
 go_upto_region 2 with(go_at_call 105;refine(Aa H).mono ?_;rintro e w1 ⟨rfl,J⟩)
 obtain⟨W1,G⟩:∃W1,w1.alloc (.cells #[.int .u8 k,.string ⟨x.toArray⟩,.int .i64 n,.int .i64 cl] 124)=W1:=⟨_,rfl⟩;have aG:=J.size;rw[qF]at aG;have hT:W1.heap[w1.heap.size]?=some (.cells #[.int .u8 k,.string ⟨x.toArray⟩,.int .i64 n,.int .i64 cl] 124):=by rw[←G];exact qB w1 _
 have h0:W1.heap[w.heap.size]?=some (.cells #[.int .u8 0,.string ⟨#[]⟩,.int .i64 0,.int .i64 0] 124):=by
  rw[←G];exact(qD _ _ _ (by omega)).trans ((J.block _ (by simp)).trans (Aa H2))
 have R:Below w.heap.size w W1:=by
  rw[←G];exact(((qV _ w).alloc (qJ _) _).trans (J.mono (by simp))).alloc (by omega) _
 rw[G];clear G J H H2;obtain⟨D,hD⟩:∃D,w1.heap.size=D:=⟨_,rfl⟩;rw[hD]at hT aG ⊢;have hb:=(R.block rb aT).trans (Aa HB);obtain⟨⟨x0,f0⟩,⟨x1,f1⟩⟩:=Af hb;obtain⟨⟨y0,_⟩,⟨y1,_⟩,⟨y2,_⟩,⟨y3,_⟩⟩:=A1 hT;obtain⟨⟨z0,g0⟩,⟨z1,g1⟩,⟨z2,g2⟩,⟨z3,g3⟩⟩:=A1 h0;have aD:=Ab hb;have HT:=Ab hT;have HH:=Ab h0;have aY:rb≠D:=by omega
 have N:rb≠w.heap.size:=by omega
 clear hD hb hT h0 HB;go_region
 have Q:min 1 ((r.length:Int)+1)=1:=by omega
 simp only[Q,show (1:Int).toNat=1 from rfl,show r.length+1-1=r.length from by omega,Nat.one_mul];rw[Aa HA];obtain⟨W2,I⟩:∃W2,(W1.setCell ⟨rb,1,none⟩ (.slice A r.length (c'-1))).drew=W2:=⟨_,rfl⟩
 have aL:W2.heap[rb]?=some (.cells #[.slice a all.length c,.slice A r.length (c'-1)] 115):=by
  rw[←I];exact C4 (by have h:=Aa aD;simp[World.setCell,Array.getElem?_modify,h])
 have S:∀g,g≠rb→W2.heap[g]?=W1.heap[g]?:=fun g hg=>by rw[←I];exact C4 (qC _ _ _ _ hg)
 have aE:=(S D (fun e=>aY e.symm)).trans (Aa HT);have Y:=(S w.heap.size (fun e=>N e.symm)).trans (Aa HH)
 have aJ:w.grownBy W2 (some rb):=by
  rw[←I];exact Nw (Ah (Aj R (some rb)) (Ap W1 rb 1 (.slice A r.length (c'-1))))
 rw[I];have aS:=Ab aJ;have aR:=Ab aL;clear Q I S x0 f0 x1 f1 y0 y1 y2 y3 z0 g0 z1 g1 z2 g2 z3 g3 aD HT HH aL aJ;obtain⟨⟨y0,_⟩,⟨y1,_⟩,⟨y2,_⟩,⟨y3,_⟩⟩:=A1 aE;obtain⟨⟨z0,g0⟩,⟨z1,g1⟩,⟨z2,g2⟩,⟨z3,g3⟩⟩:=A1 Y;have aX:=Ab Y;clear aE Y;go_wp2;have aI:=Bf (i:=3) (Bf (i:=2) (Bf (i:=1) (Bf (i:=0) (Aa aS) (qJ _) (.int .u8 k)) (qJ _) (.string ⟨x.toArray⟩)) (qJ _) (.int .i64 n)) (qJ _) (.int .i64 cl);exact qW (results_cell_row rfl _ _ _ _ _ _ _ rfl (Bu (Aa aX) _ _ _ _) Tryz.underlying124 rfl (by kernel_rfl)) rfl ⟨rfl,Aa aC _ aI ((Bg N _ _ _ _).trans (Aa aR)),aI⟩
theorem Jd(B rb:Nat)(all ts:List Tk)(line:Int)(w:World)(h:D6 w B rb all ts) :
  Calls Tryz.prog 142 #[.pointer (some ⟨rb,0,none⟩),.int .i64 line] w fun e w'=>e=.returned (.bool (decide (5≤P20.kindOf ts∧P20.kindOf ts≤7∧P20.hereL (Fl all) ts=line)))∧Below w.heap.size w w':=by
 obtain⟨⟨k,x,n,I⟩,ht⟩:∃t,Km all ts=t:=⟨_,rfl⟩;have hl:=F6 all ts;rw[ht]at hl;simp only at hl;rw[←hl];have H:=Ab (Ep B rb all ts k x n I w h ht);have G:=Ab (Fd B rb all ts w h);obtain⟨q,hq⟩:∃q,P20.kindOf ts=q:=⟨_,rfl⟩;rw[hq]at G ⊢;clear ht hl h hq;have D:q=5∨q=6∨q=7∨(q<5∨7<q):=by omega
 rcases D with rfl|rfl|rfl|hq
 rotate_right
 ·have R:((q:Int)==5)=false:=by simp;omega
  have J:((q:Int)==6)=false:=by simp;omega
  have N:((q:Int)==7)=false:=by simp;omega
  rw[decide_eq_false (by omega)];clear hq;go_enter Tryz.func142,Tryz.ntmps142
  go_wp2_with (first
   | (go_at_call 106;refine(Aa G).mono ?_;rintro e w' ⟨rfl,rfl⟩))
  go_ret;exact⟨rfl,qV _ _⟩
 all_goals
  have e:(n==line)=decide (n=line):=rfl;have Q:=Ab e;clear e;go_enter Tryz.func142,Tryz.ntmps142
  go_wp2_with (first
   |(go_at_call 106;refine(Aa G).mono ?_;rintro e w' ⟨rfl,rfl⟩)
   | (go_at_call 105;refine(Aa H).mono ?_;rintro e w' ⟨rfl,hb⟩))
  go_ret;refine⟨Bn ?_,by assumption⟩;rw[Bool.eq_iff_iff];simp
end Go.Proofs.YtnjokdbblmlhhaaGreatDoor
namespace Go.Proofs.YtnjokdbblmlhhaaGreatDoor
set_option maxHeartbeats 8000000
set_option maxRecDepth 100000
open Go.RowKit
def B6(ds:List Nd):List Value:=ds.flatMap Nd.cs
theorem F0(a b:List Nd):B6 (a++b)=B6 a++B6 b:=by simp[B6]
theorem Su:(Tryz.prog.info? 26).map (fun i=>(i.zero,i.size,i.bytes))=some (some (.agg #[.int .u8 0,.string ⟨#[]⟩,.slice none 0 0,.slice none 0 0,.int .i64 0]),5,80):=by kernel_rfl
theorem Ru:∀(ds:List Nd),∀u∈B6 ds,u.oneCell'=true:=by
 intro ds u hu;simp only[B6,List.mem_flatMap]at hu;obtain⟨d,_,hd⟩:=hu;simp only[Nd.cs,zN,List.not_mem_nil,or_false]at hd;rcases hd with rfl|rfl|rfl|rfl|rfl<;>rfl
theorem Hw:∀(ds:List Nd) (i:Nat) (d:Nd),ds[i]?=some d→∀j,j<5→(B6 ds)[i*5+j]?=d.cs[j]?
 | [],i,d,h,j,hj=>by simp at h
 |e::ds,0,d,h,j,hj=>by
  simp only[List.getElem?_cons_zero,zG]at h;subst h;have D:B6 (e::ds)=e.cs++B6 ds:=rfl;rw[D,Nat.zero_mul,Nat.zero_add,List.getElem?_append_left (by show j<5;exact hj)]
 |e::ds,i+1,d,h,j,hj=>by
  have ih:=Hw ds i d (by simpa using h) j hj;have D:B6 (e::ds)=e.cs++B6 ds:=rfl;have G:e.cs.length=5:=rfl;rw[D,zA (by omega),G,show (i+1)*5+j-5=i*5+j from by omega];exact ih
structure Dt (W:World) (B:Nat) (v:Value) (ds:List Nd):Prop where
 own:W.ownsRow B 26 5 v ds.length (B6 ds)
 ins:∀d∈ds,d.In W
 new:∀d∈ds,∀g,d.blk g→B≤g
 sep:∀d∈ds,∀g,d.blk g→v.ownBlock≠some g
theorem Ao{W:World}{B size n:Nat}{e:TypeId}{v:Value}{xs:List Value}(h:W.ownsRow B e size v n xs):∀g,v.ownBlock=some g→B≤g∧g<W.heap.size:=by
 intro g D;rcases h.2 with⟨rfl,_⟩|⟨g2,cap,G,rfl,hb,hh,_⟩
 ·cases D
 ·cases D;exact⟨hb,(qA.1 hh).1⟩
theorem Ds{W W':World}{B size n:Nat}{e:TypeId}{v:Value}{xs:List Value}(h:W.ownsRow B e size v n xs)(hk:∀g,v.ownBlock=some g→W'.heap[g]?=W.heap[g]?):W'.ownsRow B e size v n xs:=by
 refine⟨h.1,?_⟩;rcases h.2 with h0|⟨g,cap,D,rfl,hb,hh,hr⟩
 ·exact .inl h0
 ·exact .inr ⟨g,cap,D,rfl,hb,(hk g rfl).trans hh,hr⟩
theorem Dt.nil(W:World)(B:Nat):Dt W B (.slice none 0 0) []:=⟨⟨rfl,.inl ⟨rfl,rfl⟩⟩,by simp,by simp,by simp⟩
theorem Dt.keep{W W':World}{B:Nat}{v:Value}{ds:List Nd}(h:Dt W B v ds)(hr:∀g,v.ownBlock=some g→W'.heap[g]?=W.heap[g]?)(hd:∀d∈ds,∀g,d.blk g→W'.heap[g]?=W.heap[g]?):Dt W' B v ds:=
 ⟨Ds h.own hr,fun d D=>(h.ins d D).keep (hd d D),h.new,h.sep⟩
theorem Dt.grown{W W':World}{B:Nat}{v:Value}{ds:List Nd}{row:Option Nat}(h:Dt W B v ds)(G:W.grownBy W' row)(hr:∀g,row=some g→v.ownBlock≠some g∧∀d∈ds,¬d.blk g):Dt W' B v ds:=
 h.keep (fun g hv=>G.block g (Ao h.own g hv).2 (fun e=>(hr g e.symm).1 hv)) (fun d D g hb=>G.block g ((h.ins d D).lt hb) (fun e=>(hr g e.symm).2 d D hb))
theorem Dt.old{W W':World}{B:Nat}{v:Value}{ds:List Nd}{rb:Nat}(h:Dt W B v ds)(G:W.grownBy W' (some rb))(hr:rb<B):Dt W' B v ds:=
 h.grown G (fun g e=>by cases e;exact⟨fun e=>by have:=(Ao h.own _ e).1;omega,fun d D hb=>by have:=h.new d D _ hb;omega⟩)
theorem Dt.alloc{W:World}{B:Nat}{v:Value}{ds:List Nd}(h:Dt W B v ds)(o:Obj):Dt (W.alloc o) B v ds:=h.grown (qR W o none) (fun g e=>by cases e)
theorem Dt.slice{W:World}{B:Nat}{v:Value}{ds:List Nd}(h:Dt W B v ds):∃a c,v=.slice a ds.length c∧ds.length≤c∧c≤maxLen∧InL W a 0 ds∧(∀g,blkL g ds→B≤g)∧(∀g,ds≠[]→Bj a g→B≤g):=by
 obtain⟨ho,hi,hn,hs⟩:=h;have G:∀g,blkL g ds→B≤g:=fun g hb=>by obtain⟨d,N,hd⟩:=(Eo g ds).1 hb;exact hn d N g hd
 rcases ho.2 with⟨rfl,h0⟩|⟨g,cap,Q,rfl,hb,hh,hc,N,R,J⟩
 ·have:ds=[]:=qU h0;subst this;exact⟨none,0,rfl,qJ _,Nat.zero_le _,trivial,G,fun g hn=>absurd rfl hn⟩
 ·refine⟨_,cap,rfl,hc,N,Nh (fun j d hj=>⟨⟨g,0,rfl,?_⟩,hi d (qN hj)⟩),G,fun g' _ ho=>?_⟩
  ·have D:∀i,i<5→W.cell? ⟨g,j*5+i,none⟩=d.cs[i]?:=by
    intro i I;have S:=(qI.1 hj).1;have h1:=Hw ds j d hj i I;rw[←J,List.getElem?_take_of_lt (by omega)]at h1;rw[←h1];rw[cell_of_row W g (j*5+i) Q _ (0,0) hh];simp
   simp only[Nat.zero_add];exact⟨D 0 (by omega),D 1 (by omega),D 2 (by omega),D 3 (by omega),D 4 (by omega)⟩
  ·obtain⟨o,e⟩:=ho;cases e;exact hb
theorem Ek{w:World}{B:Nat}{v:Value}{ds:List Nd}{nd:Nd}{cs:Array Value}{R:Array Oper}{rest:List Oper}{o:Oper}{a:Act}{Q:Exit→Act→World→Prop}(U:o.guard=none)(s x:Operand)
  (ho:o.op=.call { callee:=.builtin .append,args:=#[s,x],argTypes:=#[24,24] })
  (hs:a.eval s=v) (hk:Dt w B v ds) (X:cs.toList=nd.cs) (I:nd.In w) (J:∀g,nd.blk g→B≤g) (S:∀g,nd.blk g→v.ownBlock≠some g)
  (hx:a.eval x=.slice (some ⟨w.heap.size,0,none⟩) 1 1) (aB:ds.length+1≤1000000000) (hB:B≤w.heap.size)
  (h:∀v' w',Dt w' B v' (ds++[nd])→w.grownBy w' v.ownBlock→(v'.ownBlock=v.ownBlock∨∃g,v'.ownBlock=some g∧w.heap.size≤g)→wpList Tryz.prog R Q rest (a.put o.dst v') w') :
  wpList Tryz.prog R Q (o::rest) a (w.alloc (.cells cs 26)):=by
 obtain⟨i,hi,hz,Y,aA⟩:=info_parts Su;have Z:=hk.alloc (.cells cs 26)
 refine wpList_append_own_at (w:=w.alloc (.cells cs 26)) (P:=Tryz.prog) U s x 24 ho B 26 i (.agg #[.int .u8 0,.string ⟨#[]⟩,.slice none 0 0,.slice none 0 0,.int .i64 0]) 5 80 Tryz.underlying24 hi hz Y aA rfl (by decide) v ds.length (B6 ds) hs Z.own
  ⟨w.heap.size,0,none⟩ 1 1 nd.cs hx rfl ?_ ?_ (by unfold maxLen;omega) (by omega) (by simp;omega) ?_
 ·intro j u hj;have hn:=qB w (.cells cs 26);have hc:=cell_of_row (w.alloc (.cells cs 26)) w.heap.size j cs _ (0,0) hn;have ea:((⟨w.heap.size,0,none⟩:Addr).add j)=⟨w.heap.size,j,none⟩:=by unfold Addr.add;split<;>simp_all
  rw[ea,hc,←hj,←X];simp
 ·intro u hu;exact Ru [nd] u (by simpa[B6]using hu)
 ·intro v' w' h2 h3 _ h5;have hg:w.grownBy w' v.ownBlock:=Ah (qR w _ _) h3;have aC:∀g,v.ownBlock=some g→g<w.heap.size:=fun g e=>(Ao hk.own g e).2
  have G:∀d,d∈ds++[nd]→∀g,d.blk g→g<w.heap.size∧v.ownBlock≠some g∧d.In w:=by
   intro d D g hb;rcases zE.1 D with D|D
   ·exact⟨(hk.ins d D).lt hb,hk.sep d D g hb,hk.ins d D⟩
   ·obtain rfl:=zO.1 D;exact⟨I.lt hb,S g hb,I⟩
  have N:∀d∈ds++[nd],d.In w:=by
   intro d D;rcases zE.1 D with D|D
   ·exact hk.ins d D
   ·obtain rfl:=zO.1 D;exact I
  refine h v' w' ⟨?_,fun d D=>(N d D).keep (fun g hb=>?_),fun d D g hb=>?_,fun d D g hb e=>?_⟩ hg ?_
  ·rw[F0,qH];have e:B6 [nd]=nd.cs:=by simp[B6]
   rw[e];exact h2
  ·obtain⟨h6,h7,_⟩:=G d D g hb;exact hg.block g h6 (fun e=>h7 e.symm)
  ·rcases zE.1 D with D|D
   ·exact hk.new d D g hb
   ·obtain rfl:=zO.1 D;exact J g hb
  ·obtain⟨h6,h7,_⟩:=G d D g hb;rcases h5 with h5|h5
   ·exact h7 (h5.symm.trans e)
   ·rw[h5,qF]at e;injection e with e;omega
  ·rcases h5 with h5|h5
   ·exact .inl h5
   ·exact .inr ⟨_,h5,by simp⟩
structure Strs (W:World) (B:Nat) (v:Value) (ls:List (List UInt8)):Prop where
 own:W.ownsRow B 9 1 v ls.length (ls.map C0)
theorem Strs.nil(W:World)(B:Nat):Strs W B (.slice none 0 0) []:=⟨⟨rfl,.inl ⟨rfl,rfl⟩⟩⟩
theorem Strs.grown{W W':World}{B:Nat}{v:Value}{ls:List (List UInt8)}{row:Option Nat}(h:Strs W B v ls)(D:W.grownBy W' row)(hr:∀g,row=some g→v.ownBlock≠some g):Strs W' B v ls:=
 ⟨Ds h.own (fun g hv=>D.block g (Ao h.own g hv).2 (fun e=>hr g e.symm hv))⟩
theorem Strs.old{W W':World}{B:Nat}{v:Value}{ls:List (List UInt8)}{rb:Nat}(h:Strs W B v ls)(D:W.grownBy W' (some rb))(hr:rb<B):Strs W' B v ls:=
 h.grown D (fun g e=>by cases e;exact fun e=>by have:=(Ao h.own _ e).1;omega)
theorem Strs.alloc{W:World}{B:Nat}{v:Value}{ls:List (List UInt8)}(h:Strs W B v ls)(o:Obj):Strs (W.alloc o) B v ls:=h.grown (qR W o none) (fun g e=>by cases e)
theorem Strs.slice{W:World}{B:Nat}{v:Value}{ls:List (List UInt8)}(h:Strs W B v ls):∃a c,v=.slice a ls.length c∧ls.length≤c∧c≤maxLen∧Eu W a ls∧(∀g,ls≠[]→Bj a g→B≤g):=by
 rcases h.own.2 with⟨rfl,h0⟩|⟨g,cap,D,rfl,hb,hh,hc,J,I,G⟩
 ·have:ls=[]:=qU h0;subst this;exact⟨none,0,rfl,qJ _,Nat.zero_le _,fun i x hx=>by simp at hx,fun g hn=>absurd rfl hn⟩
 ·refine⟨_,cap,rfl,hc,J,fun i x hx=>⟨g,0,rfl,?_⟩,fun g' _ ho=>?_⟩
  ·have N:=(qI.1 hx).1;have h1:(ls.map C0)[i]?=some (C0 x):=by rw[zF,hx];rfl
   rw[←G,List.getElem?_take_of_lt (by omega)]at h1;rw[Nat.zero_add,cell_of_row W g i D _ (0,0) hh];simpa[C0]using h1
  ·obtain⟨o,e⟩:=ho;cases e;exact hb
theorem Fz{w:World}{B:Nat}{v:Value}{ls:List (List UInt8)}{D:Array Oper}{rest:List Oper}{o:Oper}{a:Act}{Q:Exit→Act→World→Prop}(G:o.guard=none)(s x:Operand)
  (ho:o.op=.call { callee:=.builtin .append,args:=#[s,x],argTypes:=#[23,23] })
  (hs:a.eval s=v) (hk:Strs w B v ls) (l:List UInt8)
  (hx:a.eval x=.slice (some ⟨w.heap.size,0,none⟩) 1 1) (R:ls.length+1≤1000000000) (hB:B≤w.heap.size)
  (h:∀v' w',Strs w' B v' (ls++[l])→w.grownBy w' v.ownBlock→(v'.ownBlock=v.ownBlock∨∃g,v'.ownBlock=some g∧w.heap.size≤g)→wpList Tryz.prog D Q rest (a.put o.dst v') w') :
  wpList Tryz.prog D Q (o::rest) a (w.alloc (.cells #[.string ⟨l.toArray⟩] 9)):=by
 obtain⟨i,hi,hz,I,N⟩:=info_parts Pq;have J:=hk.alloc (.cells #[.string ⟨l.toArray⟩] 9)
 refine wpList_append_own_at (w:=w.alloc (.cells #[.string ⟨l.toArray⟩] 9)) (P:=Tryz.prog) G s x 23 ho B 9 i (.string ⟨#[]⟩) 1 16 Tryz.underlying23 hi hz I N rfl (by decide) v ls.length (ls.map C0) hs J.own
  ⟨w.heap.size,0,none⟩ 1 1 [.string ⟨l.toArray⟩] hx rfl (cell_one_new _ _ _) (by simp[Value.oneCell']) (by unfold maxLen;omega) (by omega) (by simp;omega) ?_
 intro v' w' h2 h3 _ h5;refine h v' w' ⟨?_⟩ (Ah (qR w _ _) h3) ?_
 ·rw[List.map_append,qH];exact h2
 ·rcases h5 with h5|h5
  ·exact .inl h5
  ·exact .inr ⟨_,h5,by simp⟩
end Go.Proofs.YtnjokdbblmlhhaaGreatDoor
namespace Go.Proofs.YtnjokdbblmlhhaaGreatDoor
set_option maxHeartbeats 8000000
set_option maxRecDepth 100000
open Go.RowKit
theorem P0(a:Option Addr)(c:Nat)(ks:List (List UInt8))(w:World)(h:Eu w a ks)(hl:ks.length≤1000000000) :
  Calls Tryz.prog 85 #[.slice a ks.length c] w fun e w'=>∃a' c',e=.returned (.slice a' ks.length c')∧Hid (Strs w' w.heap.size (.slice a' ks.length c') ks)∧Below w.heap.size w w':=by
 by_cases hn:ks=[]
 ·subst hn;cases a with
  |none=>
   refine(Tryz.slices_Clone_string_nil 0 c w).mono ?_;rintro e w' ⟨rfl,rfl⟩;exact⟨none,0,rfl,Ab (Strs.nil _ _),qV _ _⟩
  |some ad=>
   refine(Tryz.slices_Clone_string_zero ad c w).mono ?_;rintro e w' ⟨v,rfl,D,_,hb⟩;have hs:Strs w' w.heap.size v []:=⟨D⟩;obtain⟨a',c',rfl,_⟩:=hs.slice;exact⟨a',c',rfl,Ab hs,hb⟩
 ·obtain⟨b,o,rfl,hc⟩:=Mk h hn;refine(Tryz.slices_Clone_string b o ks.length c (ks.map bz) w (by simp) (by omega) hc).mono ?_;rintro e w' ⟨v,rfl,D,_,hb⟩;rw[List.take_of_length_le (by simp)]at D;have hs:Strs w' w.heap.size v ks:=⟨by rw[List.map_map]at D;exact D⟩;obtain⟨a',c',rfl,_⟩:=hs.slice;exact⟨a',c',rfl,Ab hs,hb⟩
end Go.Proofs.YtnjokdbblmlhhaaGreatDoor
namespace Go.Proofs.YtnjokdbblmlhhaaGreatDoor
set_option maxHeartbeats 8000000
set_option maxRecDepth 100000
open Go.RowKit
attribute [local go_sem] Jz Ka
def Q9(w:World)(B rb:Nat)(all r:List Tk)(d:P20.T)(nd:Nd)(w':World):Prop:=nd.bare=d∧nd.In w'∧(∀g,nd.blk g→w.heap.size≤g)∧D6 w' B rb all r∧w.grownBy w' (some rb)
def O6(w:World)(B rb:Nat)(all:List Tk):P20.Out P20.T→Ending→World→Prop
 | .ok d r,e,w'=>∃(k:Nat) (t:List UInt8) (ka:Option Addr) (kc:Nat) (ks:List (List UInt8)) (da:Option Addr) (dc:Nat) (ds:List Nd) (l:Int),
   e=.returned (.agg #[.int .u8 k,.string ⟨t.toArray⟩,.slice ka ks.length kc,.slice da ds.length dc,.int .i64 l])∧Hid (Q9 w B rb all r d (.mk k t ka kc ks da dc ds l) w')
 | .bad x l,e,w'=>e=Jm x l∧Hid (w.grownBy w' (some rb))
def Te(last:Int)(f:Nat):Prop:=∀(lv:Nat) (ts:List Tk) (B rb:Nat) (all:List Tk) (o:P20.Out P20.T) (w:World),D6 w B rb all ts→B≤w.heap.size→Fl all=last→lv≤17→ts.length≤100000000→P20.Val last f lv ts o →
 Calls Tryz.prog 68 #[.pointer (some ⟨rb,0,none⟩),.int .i64 lv] w (O6 w B rb all o)
def U9(last:Int)(f:Nat):Prop:=∀(lv:Nat) (line:Int) (ts:List Tk) (B rb:Nat) (all:List Tk) (o:P20.Out P20.T) (k0:Nat) (D:List UInt8) (G:Int) (w:World),D6 w B rb all ts→B≤w.heap.size→Fl all=last→lv≤17→ts.length≤100000000→P20.Wi last f lv line ts o →
 Calls Tryz.prog 141 #[.pointer (some ⟨rb,0,none⟩),.agg #[.int .u8 k0,.string ⟨D.toArray⟩,.int .i64 line,.int .i64 G],.int .i64 lv] w (O6 w B rb all o)
theorem B0(B rb:Nat)(all ts:List Tk)(q:Int)(w:World)(h:D6 w B rb all ts)(hq:((P20.kindOf ts:Nat):Int)=q):Calls Tryz.prog 106 #[.pointer (some ⟨rb,0,none⟩)] w fun e w'=>e=.returned (.int .u8 q)∧w=w':=by
 rw[←hq];exact Fd B rb all ts w h
theorem Jf{A W:World}{row:Option Nat}(h:A.grownBy W row){g:Nat}(D:A.heap.size≤g)(v0 I G v3 v4:Value):A.grownBy (((((W.setCell ⟨g,0,none⟩ v0).setCell ⟨g,1,none⟩ I).setCell ⟨g,2,none⟩ G).setCell ⟨g,3,none⟩ v3).setCell ⟨g,4,none⟩ v4) row:=
 Bf (Bf (Bf (Bf (Bf h D v0) D I) D G) D v3) D v4
theorem Sm{w N J I:World}{B rb:Nat}{all ts r:List Tk}{d:P20.T}{nd:Nd}{o:Obj}(h:Q9 N B rb all ts d nd J)(hw:w.grownBy N (some rb))(h4:(J.alloc o).grownBy I (some rb))(D:D6 I B rb all r)(hB:B≤w.heap.size)
  {H:Nat} (S:w.heap.size≤H) (R:H<N.heap.size) (v0 Y Z v3 v4:Value) :
  Q9 w B rb all r d nd (((((I.setCell ⟨H,0,none⟩ v0).setCell ⟨H,1,none⟩ Y).setCell ⟨H,2,none⟩ Z).setCell ⟨H,3,none⟩ v3).setCell ⟨H,4,none⟩ v4):=by
 obtain⟨h1,h2,h3,h5,h6⟩:=h;have U:=hw.size;have aA:=h6.size;have X:=D.lt;refine⟨h1,h2.keep (fun g G=>?_),fun g G=>qK hw.size (h3 g G),(((((D.setCell (by omega) _ _).setCell (by omega) _ _).setCell (by omega) _ _).setCell (by omega) _ _).setCell (by omega) _ _),?_⟩
 ·have aB:=h3 g G;have Q:=h2.lt G;rw[Az (by omega)];exact(h4.block g (by simp;omega) (fun e=>by injection e;omega)).trans (qD _ _ _ Q)
 ·exact Jf (Ah (Ah hw h6) (Ah (qR J o _) h4)) S _ _ _ _ _
theorem Mt(last:Int)(f:Nat)(hV:Te last f):U9 last (f+1):=by
 intro lv line ts B rb all o k0 x0 c0 w h hB aJ aG hn hd;obtain⟨W0,S⟩:∃W0,(w.alloc (.cells #[.int .u8 k0,.string ⟨x0.toArray⟩,.int .i64 line,.int .i64 c0] 124)).alloc (.cells #[.int .u8 0,.string ⟨#[]⟩,.slice none 0 0,.slice none 0 0,.int .i64 0] 26)=W0:=⟨_,rfl⟩;have J:D6 W0 B rb all ts:=by rw[←S];exact(h.alloc hB _).alloc (by simp;omega) _
 have I:Below w.heap.size w W0:=by rw[←S];exact((qV _ w).alloc (qJ _) _).alloc (by simp) _
 have aK:W0.heap.size=w.heap.size+1+1:=by rw[←S];simp
 have g0:W0.heap[w.heap.size]?=some (.cells #[.int .u8 k0,.string ⟨x0.toArray⟩,.int .i64 line,.int .i64 c0] 124):=by
  rw[←S];exact(qD _ _ _ (by simp)).trans (qB w _)
 have g1:W0.heap[w.heap.size+1]?=some (.cells #[.int .u8 0,.string ⟨#[]⟩,.slice none 0 0,.slice none 0 0,.int .i64 0] 26):=by
  rw[←S];exact Cy w _ _
 obtain⟨⟨x0,_⟩,⟨x1,_⟩,⟨x2,_⟩,⟨x3,_⟩⟩:=A1 g0;have aB:=Ab S;have bE:=Ab aK;have aT:=Ab g1;have aA:=Ab aJ;clear S g0 g1 h aK aJ;have aD:=hd;cases hd with
 |empty hk=>
  have jk:((P20.kindOf ts:Nat):Int)≠1:=by omega
  have aU:(((P20.kindOf ts:Nat):Int) != 1)=true:=by simpa using jk
  clear hk jk aD;go_enter Tryz.func141,Tryz.ntmps141
  go_upto_region 1 with fail
  rw[Aa aB]
  go_wp2_with (first
   |(go_at_call 106;refine(Fd B rb all ts _ J).mono ?_;rintro e w' ⟨rfl,rfl⟩)
   | (go_at_call 110;refine(L0 _ _ _).mono ?_;rintro e w' ⟨rfl,rfl⟩))
  exact⟨rfl,rfl,Ab (Aj I _)⟩
 | @ok _ _ _ n c n' c' x x' ts r d hv=>
  simp only[qE]at hn;have aQ:=((P20.less last f).1 _ _ _ _ hv);simp only[qE]at aQ;clear aD;go_enter Tryz.func141,Tryz.ntmps141
  go_upto_region 1 with fail
  rw[Aa aB]
  go_upto_region 4 with(first
   |(go_at_call 106;refine(B0 B rb all _ 1 _ J rfl).mono ?_;rintro e w' ⟨rfl,rfl⟩)
   | (go_at_call 107;refine(Dc B rb all _ _ _ _ _ _ J (by have:=I.size;omega)).mono ?_;rintro e w1 ⟨rfl,R,N⟩))
  have aH:=N.size;have aN:=I.size;have Q:B≤w1.heap.size:=by omega
  have X:ts.length≤100000000:=by omega
  go_upto_region 5 with(go_at_call 68;refine(hV lv ts B rb all _ _ R Q (Aa aA) aG X hv).mono ?_;rintro e w2 ⟨k,t,ka,kc,ks,da,dc,ds,l,rfl,HN⟩)
  have bD:=Aa HN;obtain⟨aE,aZ,aI,U,Y⟩:=bD;have aX:=Y.size;have bG:=U.lt;obtain⟨W3,G⟩:∃W3,w2.alloc (.cells #[.int .u8 k,.string ⟨t.toArray⟩,.slice ka ks.length kc,.slice da ds.length dc,.int .i64 l] 26)=W3:=⟨_,rfl⟩;have Z:D6 W3 B rb all ((2,x',n',c')::r):=by rw[←G];exact U.alloc (by omega) _
  have aR:W3.heap.size=w2.heap.size+1:=by rw[←G];simp
  have g3:W3.heap[w2.heap.size]?=some (.cells #[.int .u8 k,.string ⟨t.toArray⟩,.slice ka ks.length kc,.slice da ds.length dc,.int .i64 l] 26):=by rw[←G];exact qB w2 _
  have HS:=Aa bE
  have g4:W3.heap[w.heap.size+1]?=some (.cells #[.int .u8 0,.string ⟨#[]⟩,.slice none 0 0,.slice none 0 0,.int .i64 0] 26):=by
   rw[←G];exact(qD _ _ _ (by omega)).trans ((Y.block _ (by omega) (fun e=>by injection e;omega)).trans ((N.block _ (by omega) (fun e=>by injection e;omega)).trans (Aa aT)))
  rw[G];have aW:=Ab G;have aO:=Ab aR;have aL:=Ab HS;clear G aE aZ aI U x0 x1 x2 x3 J R aR HS;obtain⟨D,hD⟩:∃D,w2.heap.size=D:=⟨_,rfl⟩;rw[hD]at g3 ⊢;have HD:=Ab hD;clear hD
  go_upto_region 8 with(first
   |(go_at_call 106;refine(B0 B rb all _ 2 _ Z rfl).mono ?_;rintro e w' ⟨rfl,rfl⟩)
   | (go_at_call 107;refine(Dc B rb all _ _ _ _ _ _ Z (by have:=Aa aO;omega)).mono ?_;rintro e w4 ⟨rfl,bF,aC⟩))
  have aM:=Aa aO;rw[Aa HD]at aM;have bC:=Aa aL;have aY:=Aa HD;have k3:=(aC.block _ (by omega) (fun e=>by injection e;omega)).trans g3;have k4:=(aC.block _ (by omega) (fun e=>by injection e;omega)).trans g4;obtain⟨⟨y0,_⟩,⟨y1,_⟩,⟨y2,_⟩,⟨y3,_⟩,⟨y4,_⟩⟩:=Ad k3;obtain⟨⟨z0,q0⟩,⟨z1,q1⟩,⟨z2,q2⟩,⟨z3,q3⟩,⟨z4,q4⟩⟩:=Ad k4;have aS:=Ab k4;have hne:D≠w.heap.size+1:=by omega
  clear g3 g4 k3 k4 aM bC aY;go_wp2;rw[←Aa aW]at aC;refine qW (results_cell_row rfl _ _ _ _ _ _ _ rfl (B9 (Aa aS) _ _ _ _ _) Tryz.underlying26 rfl (by kernel_rfl)) rfl ⟨k,t,ka,kc,ks,da,dc,ds,l,rfl,Ab ?_⟩;exact Sm (Aa HN) (Ah (Aj I _) N) aC bF hB (by omega) (by have:=Aa aL;omega) _ _ _ _ _
 | @form _ _ _ n c x ts r d hv hk=>
  simp only[qE]at hn;have jk:((P20.kindOf r:Nat):Int)≠2:=by omega
  have aU:(((P20.kindOf r:Nat):Int) != 2)=true:=by simpa using jk
  clear aD jk hk;go_enter Tryz.func141,Tryz.ntmps141
  go_upto_region 1 with fail
  rw[Aa aB]
  go_upto_region 4 with(first
   |(go_at_call 106;refine(B0 B rb all _ 1 _ J rfl).mono ?_;rintro e w' ⟨rfl,rfl⟩)
   | (go_at_call 107;refine(Dc B rb all _ _ _ _ _ _ J (by have:=I.size;omega)).mono ?_;rintro e w1 ⟨rfl,R,N⟩))
  have aH:=N.size;have aN:=I.size;have Q:B≤w1.heap.size:=by omega
  have X:ts.length≤100000000:=by omega
  go_upto_region 5 with(go_at_call 68;refine(hV lv ts B rb all _ _ R Q (Aa aA) aG X hv).mono ?_;rintro e w2 ⟨k,t,ka,kc,ks,da,dc,ds,l,rfl,HN⟩)
  obtain⟨_,_,_,U,Y⟩:=Aa HN;have aX:=Y.size;obtain⟨W3,G⟩:∃W3,w2.alloc (.cells #[.int .u8 k,.string ⟨t.toArray⟩,.slice ka ks.length kc,.slice da ds.length dc,.int .i64 l] 26)=W3:=⟨_,rfl⟩;have Z:D6 W3 B rb all r:=by rw[←G];exact U.alloc (by omega) _
  have bA:w.grownBy W3 (some rb):=by
   rw[←G];exact Ah (Ah (Ah (Aj I _) N) Y) (qR w2 _ _)
  rw[G];clear G U x0 x1 x2 x3 J R
  go_wp2_with (first
   |(go_at_call 106;refine(Fd B rb all _ _ Z).mono ?_;rintro e w' ⟨rfl,rfl⟩)
   | (go_at_call 69;refine(D0 B rb all _ _ _ Z).mono ?_;rintro e w' ⟨rfl,bB⟩))
  exact⟨rfl,by rw[←Aa aA],Ab (Ah bA (Aj bB _))⟩
 | @bad _ _ _ n c e l x ts hv=>
  simp only[qE]at hn;clear aD;go_enter Tryz.func141,Tryz.ntmps141
  go_upto_region 1 with fail
  rw[Aa aB]
  go_upto_region 4 with(first
   |(go_at_call 106;refine(B0 B rb all _ 1 _ J rfl).mono ?_;rintro e w' ⟨rfl,rfl⟩)
   | (go_at_call 107;refine(Dc B rb all _ _ _ _ _ _ J (by have:=I.size;omega)).mono ?_;rintro e w1 ⟨rfl,R,N⟩))
  have aH:=N.size;have aN:=I.size;have Q:B≤w1.heap.size:=by omega
  have X:ts.length≤100000000:=by omega
  go_wp2_with (go_at_call 68;refine(hV lv ts B rb all _ _ R Q (Aa aA) aG X hv).mono ?_;rintro e w2 ⟨rfl,HN⟩)
  exact⟨rfl,rfl,Ab (Ah (Ah (Aj I _) N) (Aa HN))⟩
def Sb(w:World)(B rb:Nat)(all:List Tk):P20.Out (List P20.T)→Ending→World→Prop
 | .ok dT r,e,w'=>∃(a:Option Addr) (c:Nat) (ds:List Nd),e=.returned (.slice a ds.length c)∧Hid (Am ds=dT∧Dt w' w.heap.size (.slice a ds.length c) ds∧D6 w' B rb all r∧w.grownBy w' (some rb))
 | .bad x l,e,w'=>e=Jm x l∧Hid (w.grownBy w' (some rb))
def Vb(last:Int)(f:Nat):Prop:=∀(lv:Nat) (ts:List Tk) (B rb:Nat) (all:List Tk) (o:P20.Out (List P20.T)) (w:World),D6 w B rb all ts→B≤w.heap.size→Fl all=last→lv≤17→ts.length≤100000000→P20.Sq last f lv [] ts o →
 Calls Tryz.prog 108 #[.pointer (some ⟨rb,0,none⟩),.int .i64 lv] w (Sb w B rb all o)
theorem F9{A B C:World}{row D:Option Nat}(h:A.grownBy B row)(k:B.grownBy C D)(hr:∀g,D=some g→A.heap.size≤g):A.grownBy C row:=
 ⟨k.os.trans h.os,k.tape.trans h.tape,k.output.trans h.output,qK h.size k.size,fun i hi hne=>(k.block i (zB hi h.size) (fun e=>by have:=hr i e.symm;omega)).trans (h.block i hi hne)⟩
theorem J7{w wr I D:World}{B rb:Nat}{all r:List Tk}{d:P20.T}{v:Value}{ds:List Nd}{nd:Nd}(G:w.grownBy wr (some rb))(hk:Dt wr w.heap.size v ds)(J:rb<B)(hB:B≤w.heap.size)(h1:wr.grownBy I (some rb))(h:Q9 I B rb all r d nd D) :
  Dt D w.heap.size v ds∧nd.In D∧(∀g,nd.blk g→w.heap.size≤g)∧(∀g,nd.blk g→v.ownBlock≠some g)∧w.grownBy D (some rb):=by
 obtain⟨h2,h3,h4,h5,h6⟩:=h;have z0:=G.size;have N:=h1.size;refine⟨(hk.old h1 (by omega)).old h6 (by omega),h3,fun g hb=>by have:=h4 g hb;omega,fun g hb e=>?_,Ah (Ah G h1) h6⟩;have:=(Ao hk.own g e).2;have:=h4 g hb;omega
theorem R2(last:Int)(F:Nat)(hW:∀g,g<F→U9 last g):Vb last F:=by
 intro lv ts B rb all o w h hB U aA hn hd;have HW:=Ab hW;have S:=Ab U;clear hW U;go_enter Tryz.func108,Tryz.ntmps108
 go_wp2
 go_loopg [5] F (fun g s5 wx=>∃(ds:List Nd) (us:List Tk),g≤F∧Hid (P20.Sq last g lv (Am ds) us o)∧Dt wx w.heap.size s5 ds∧D6 wx B rb all us∧w.grownBy wx (some rb)∧us.length+ds.length≤100000000)
 case atStart=>exact⟨[],ts,qJ _,Ab hd,Dt.nil w _,h,World.grownBy.refl w _,by simpa using hn⟩
 case round=>
  obtain⟨ds,us,aM,HD,hK,N,hG,G⟩:=hrel;have hs:=Aa HD;clear HD;have aD:=N.lt;have aK:=hG.size;cases hs with
  |done hk=>
   obtain⟨a,c,hv,_⟩:=hK.slice;have jk:((P20.kindOf us:Nat):Int)≠3:=by omega
   have aH:(((P20.kindOf us:Nat):Int)==3)=false:=by simpa using jk
   have HP:=Ab (show Sb w B rb all (.ok (Am ds) us) (.returned u5) wr from ⟨a,c,ds,by rw[hv],Ab ⟨rfl,by rw[←hv];exact hK,N,hG⟩⟩);clear hk jk hv;go_wp2_with (go_at_call 106;refine(Fd B rb all _ _ N).mono ?_;rintro e w' ⟨rfl,rfl⟩)
   go_ret;exact Aa HP
  | @next g _ _ x n c r r' d _ hw hs=>
   have aI:=(P20.less last g).2.1 _ _ _ _ _ hw;simp only[qE]at G;have Q:r.length≤100000000:=by omega
   have J:=Aa HW g (by omega);have HS:=Ab hs;clear hs
   go_wp2_with (first
    |(go_at_call 106;refine(B0 B rb all _ 3 _ N rfl).mono ?_;rintro e w' ⟨rfl,rfl⟩)
    |(go_at_call 107;refine(Dc B rb all _ _ _ _ _ _ N (by omega)).mono ?_;rintro e w2 ⟨rfl,I,D⟩;have aC:=D.size)
    |(go_at_call 141;refine(J lv n r B rb all _ 3 x c w2 I (by omega) (Aa S) aA Q hw).mono ?_;rintro e w3 ⟨k,t,ka,kc,ks,da,dc,es,l,rfl,X⟩;have R:=Ab (J7 hG hK aD hB D (Aa X));have aB:=(Aa R).1;have aL:=(Aa R).2.2.2.2.size)
    | (at_builtin;refine Ek (v:=u5) (B:=w.heap.size) rfl _ _ rfl rfl aB rfl (Aa R).2.1 (Aa R).2.2.1 (Aa R).2.2.2.1 rfl (by omega) (by omega) ?_;intro v' w4 aE Y aJ))
   have Z:∀q,u5.ownBlock=some q→w.heap.size≤q:=fun q e=>(Ao aB.own q e).1;have aG:D6 w4 B rb all r':=(Aa X).2.2.2.1.far (fun q hq=>Y.block q (by omega) (fun e=>by have:=Z q e.symm;omega));go_roundg g
   case measure=>omega
   case rel=>exact⟨ds++[.mk k t ka kc ks da dc es l],r',by omega,Ab (by rw[Cu];have e:=(Aa X).1;simp only[Am];rw[e];exact Aa HS),aE,aG,F9 (Aa R).2.2.2.2 Y Z,by simp;omega⟩
  | @bad g _ _ x n c e l r hw=>
   simp only[qE]at G;have Q:r.length≤100000000:=by omega
   have J:=Aa HW g (by omega)
   go_wp2_with (first
    |(go_at_call 106;refine(B0 B rb all _ 3 _ N rfl).mono ?_;rintro e w' ⟨rfl,rfl⟩)
    |(go_at_call 107;refine(Dc B rb all _ _ _ _ _ _ N (by omega)).mono ?_;rintro e w2 ⟨rfl,I,D⟩;have aC:=D.size)
    | (go_at_call 141;refine(J lv n r B rb all _ 3 x c w2 I (by omega) (Aa S) aA Q hw).mono ?_;rintro e w3 ⟨rfl,X⟩))
   exact⟨rfl,rfl,Ab (Ah (Ah hG D) (Aa X))⟩
structure KS (W:World) (B:Nat) (kv dv:Value) (ks:List (List UInt8)) (ds:List Nd):Prop where
 str:Strs W B kv ks
 kids:Dt W B dv ds
 sep:∀g,kv.ownBlock=some g→dv.ownBlock≠some g∧∀d∈ds,¬d.blk g
theorem KS.nil(W:World)(B:Nat):KS W B (.slice none 0 0) (.slice none 0 0) [] []:=⟨Strs.nil W B,Dt.nil W B,fun g h=>by cases h⟩
theorem KS.old{W W':World}{B rb:Nat}{kv dv:Value}{ks:List (List UInt8)}{ds:List Nd}(h:KS W B kv dv ks ds)(D:W.grownBy W' (some rb))(hr:rb<B):KS W' B kv dv ks ds:=⟨h.str.old D hr,h.kids.old D hr,h.sep⟩
theorem KS.alloc{W:World}{B:Nat}{kv dv:Value}{ks:List (List UInt8)}{ds:List Nd}(h:KS W B kv dv ks ds)(o:Obj):KS (W.alloc o) B kv dv ks ds:=⟨h.str.alloc o,h.kids.alloc o,h.sep⟩
theorem KS.key{W W':World}{B:Nat}{kv D dv:Value}{ks ks':List (List UInt8)}{ds:List Nd}(h:KS W B kv dv ks ds)(hs:Strs W' B D ks')(I:W.grownBy W' kv.ownBlock)(G:D.ownBlock=kv.ownBlock∨∃g,D.ownBlock=some g∧W.heap.size≤g):KS W' B D dv ks' ds:=by
 refine⟨hs,h.kids.grown I h.sep,fun g e=>?_⟩;rcases G with G|⟨g2,N,hl⟩
 ·exact h.sep g (G ▸ e)
 ·rw[N]at e;injection e with e;subst e;exact⟨fun Q=>by have:=(Ao h.kids.own _ Q).2;omega,fun d J hb=>by have:=(h.kids.ins d J).lt hb;omega⟩
theorem KS.kid{W W':World}{B:Nat}{kv dv D:Value}{ks:List (List UInt8)}{ds:List Nd}{nd:Nd}(h:KS W B kv dv ks ds)(hk:Dt W' B D (ds++[nd]))(N:W.grownBy W' dv.ownBlock)(G:D.ownBlock=dv.ownBlock∨∃g,D.ownBlock=some g∧W.heap.size≤g)
  (hn:∀g,nd.blk g→kv.ownBlock≠some g):KS W' B kv D ks (ds++[nd]):=by
 refine⟨h.str.grown N (fun g e I=>(h.sep g I).1 e),hk,fun g e=>⟨fun I=>?_,fun d J hb=>?_⟩⟩
 ·rcases G with G|⟨g2,Q,hl⟩
  ·exact(h.sep g e).1 (G ▸ I)
  ·rw[Q]at I;injection I with I;have:=(Ao h.str.own g e).2;omega
 ·rcases zE.1 J with J|J
  ·exact(h.sep g e).2 d J hb
  ·obtain rfl:=zO.1 J;exact hn g hb e
def Rx(w:World)(B rb:Nat)(all:List Tk):P20.Out (List (List UInt8) × List P20.T)→Ending→World→Prop
 | .ok p r,e,w'=>∃(ka:Option Addr) (kc:Nat) (ks:List (List UInt8)) (da:Option Addr) (dc:Nat) (ds:List Nd),e=.returned (.tuple #[.slice ka ks.length kc,.slice da ds.length dc]) ∧
   Hid (p=(ks,Am ds)∧KS w' w.heap.size (.slice ka ks.length kc) (.slice da ds.length dc) ks ds∧D6 w' B rb all r∧w.grownBy w' (some rb)∧ks.length=ds.length)
 | .bad x l,e,w'=>e=Jm x l∧Hid (w.grownBy w' (some rb))
def Vc(last:Int)(f:Nat):Prop:=∀(lv:Nat) (ts:List Tk) (B rb:Nat) (all:List Tk) (o:P20.Out (List (List UInt8) × List P20.T)) (w:World),D6 w B rb all ts→B≤w.heap.size→Fl all=last→lv≤17→ts.length≤100000000→P20.Ky last f lv [] [] ts o →
 Calls Tryz.prog 109 #[.pointer (some ⟨rb,0,none⟩),.int .i64 lv] w (Rx w B rb all o)
theorem O5{w wr J D:World}{B rb:Nat}{all r:List Tk}{d:P20.T}{kv dv:Value}{ks:List (List UInt8)}{ds:List Nd}{nd:Nd}(I:w.grownBy wr (some rb))(hk:KS wr w.heap.size kv dv ks ds)(G:rb<B)(hB:B≤w.heap.size)(h1:wr.grownBy J (some rb))(h:Q9 J B rb all r d nd D) :
  KS D w.heap.size kv dv ks ds∧nd.In D∧(∀g,nd.blk g→w.heap.size≤g)∧(∀g,nd.blk g→dv.ownBlock≠some g)∧(∀g,nd.blk g→kv.ownBlock≠some g)∧w.grownBy D (some rb):=by
 obtain⟨U,S,N,R,Q⟩:=J7 I hk.kids G hB h1 h;obtain⟨h2,h3,h4,h5,h6⟩:=h;have z0:=I.size;have X:=h1.size;refine⟨(hk.old h1 (by omega)).old h6 (by omega),S,N,R,fun g hb e=>?_,Q⟩;have:=(Ao hk.str.own g e).2;have:=h4 g hb;omega
theorem Q5(last:Int)(F:Nat)(hV:∀g,g<F→Te last g)(hW:∀g,g<F→U9 last g):Vc last F:=by
 intro lv ts B rb all o w h hB bN aT hn hd;have HW:=Ab hW;have HV:=Ab hV;have X:=Ab bN;clear hW bN hV;go_enter Tryz.func109,Tryz.ntmps109
 go_wp2
 go_loopg [6,7] F (fun g s6 s7 wx=>∃(ks:List (List UInt8)) (ds:List Nd) (us:List Tk),g≤F∧Hid (P20.Ky last g lv ks (Am ds) us o)∧KS wx w.heap.size s6 s7 ks ds∧D6 wx B rb all us∧w.grownBy wx (some rb)∧us.length+ds.length≤100000000∧Hid (ks.length=ds.length))
 case atStart=>exact⟨[],[],ts,qJ _,Ab hd,KS.nil w _,h,World.grownBy.refl w _,by simpa using hn,Ab rfl⟩
 case round=>
  obtain⟨ks,ds,us,bU,HD,hK,hR,hG,bQ,HL⟩:=hrel;have hs:=Aa HD;clear HD;have bI:=hR.lt;have bT:=hG.size;have bZ:ks.length≤100000000:=by have:=Aa HL;omega
  rcases hs.way with⟨hk,rfl⟩|⟨x,n,c,r,rfl,(⟨hx,rfl⟩|⟨hx,hm,rfl⟩|⟨hx,hm⟩)⟩
  ·clear hs;obtain⟨a,c,hv,_⟩:=hK.kids.slice;obtain⟨a2,c2,aG,_⟩:=hK.str.slice;have jk:((P20.kindOf us:Nat):Int)≠4:=by omega
   have bX:(((P20.kindOf us:Nat):Int)==4)=false:=by simpa using jk
   have HP:=Ab (show Rx w B rb all (.ok (ks,Am ds) us) (.returned (.tuple #[u6,u7])) wr from ⟨a2,c2,ks,a,c,ds,by rw[hv,aG],Ab ⟨rfl,by rw[←hv,←aG];exact hK,hR,hG,Aa HL⟩⟩);clear hk jk hv aG;go_wp2_with (go_at_call 106;refine(Fd B rb all _ _ hR).mono ?_;rintro e w' ⟨rfl,rfl⟩)
   go_ret2
   exact Aa HP
  ·clear hs;have jx:(64:Int)<(x.length:Int):=by omega
   clear hx
   go_wp2_with (first
    |(go_at_call 106;refine(B0 B rb all _ 4 _ hR rfl).mono ?_;rintro e w' ⟨rfl,rfl⟩)
    |(go_at_call 105;refine(Ep B rb all _ 4 x n c _ hR rfl).mono ?_;rintro e w2 ⟨rfl,I⟩;have Z:=hR.keep (by omega) I)
    | (go_at_call 69;refine(D0 B rb all _ _ _ Z).mono ?_;rintro e w' ⟨rfl,bF⟩))
   exact⟨rfl,rfl,Ab (Ah (Ah hG (Aj I _)) (Aj bF _))⟩
  ·clear hs;have jx:(x.length:Int)≤64:=by omega
   clear hx;obtain⟨a2,c2,aG,_,_,U,_⟩:=hK.str.slice
   have aK:∀W,Below wr.heap.size wr W→Calls Tryz.prog 83 #[u6,.string ⟨x.toArray⟩] W fun e w'=>e=.returned (.bool true)∧W=w':=by
    intro W hb;obtain⟨a3,c3,aY,_,_,aI,_⟩:=(hK.str.grown (Aj hb none) (fun g e=>by cases e)).slice;rw[aY];have:=Eh a3 c3 ks x W aI (by unfold maxLen;omega)
    rwa [decide_eq_true hm]at this
   have aN:=Ab aK;clear aK aG hm U
   go_wp2_with (first
    |(go_at_call 106;refine(B0 B rb all _ 4 _ hR rfl).mono ?_;rintro e w' ⟨rfl,rfl⟩)
    |(go_at_call 105;refine(Ep B rb all _ 4 x n c _ hR rfl).mono ?_;rintro e w2 ⟨rfl,I⟩;have Z:=hR.keep (by omega) I)
    |(go_at_call 83;refine(Aa aN w2 I).mono ?_;rintro e w' ⟨rfl,rfl⟩)
    | (go_at_call 69;refine(D0 B rb all _ _ _ Z).mono ?_;rintro e w' ⟨rfl,bF⟩))
   exact⟨rfl,rfl,Ab (Ah (Ah hG (Aj I _)) (Aj bF _))⟩
  ·obtain⟨g,rfl,J⟩:=hs.rest hx hm;have jx:(x.length:Int)≤64:=by omega
   simp only[qE]at bQ
   have aK:∀W,Below wr.heap.size wr W→Calls Tryz.prog 83 #[u6,.string ⟨x.toArray⟩] W fun e w'=>e=.returned (.bool false)∧W=w':=by
    intro W hb;obtain⟨a3,c3,aY,_,_,aI,_⟩:=(hK.str.grown (Aj hb none) (fun g e=>by cases e)).slice;rw[aY];have:=Eh a3 c3 ks x W aI (by unfold maxLen;omega)
    rwa [decide_eq_false hm]at this
   have aN:=Ab aK;have HR:=Ab J;clear aK J hs hm hx
   go_upto_region 9 with(first
    |(go_at_call 106;refine(B0 B rb all _ 4 _ hR rfl).mono ?_;rintro e w' ⟨rfl,rfl⟩)
    |(go_at_call 105;refine(Ep B rb all _ 4 x n c _ hR rfl).mono ?_;rintro e w2 ⟨rfl,I⟩;have Z:=hR.keep (by omega) I)
    | (go_at_call 83;refine(Aa aN w2 I).mono ?_;rintro e w' ⟨rfl,rfl⟩))
   have bC:=hK.old (Aj I (some rb)) (by omega);have bB:=Ah hG (Aj I (some rb));clear hK hG hR aN I;have bY:=bB.size;go_upto_region 10 with(go_at_call 107;refine(Dc B rb all _ _ _ _ _ _ Z (by omega)).mono ?_;rintro e w3 ⟨rfl,bL,aO⟩)
   have cA:=aO.size;obtain⟨W4,aA⟩:∃W4,w3.alloc (.cells #[.int .u8 4,.string ⟨x.toArray⟩,.int .i64 n,.int .i64 c] 124)=W4:=⟨_,rfl⟩;have aX:KS W4 w.heap.size u6 u7 ks ds:=by rw[←aA];exact(bC.old aO (by omega)).alloc _
   have bR:D6 W4 B rb all r:=by rw[←aA];exact bL.alloc (by omega) _
   have bE:w.grownBy W4 (some rb):=by rw[←aA];exact Ah (Ah bB aO) (qR _ _ _)
   have aR:W4.heap[w3.heap.size]?=some (.cells #[.int .u8 4,.string ⟨x.toArray⟩,.int .i64 n,.int .i64 c] 124):=by rw[←aA];exact qB w3 _
   have N:∀q,u6.ownBlock=some q→w.heap.size≤q∧q<w2.heap.size:=fun q e=>Ao bC.str.own q e;rw[aA];clear aA bC bB Z bL aO;obtain⟨D,hD⟩:∃D,w3.heap.size=D:=⟨_,rfl⟩;rw[hD]at aR ⊢;have cB:=bE.size;have bP:=Ab N;have bW:w2.heap.size≤D:=by omega
   clear hD N;go_upto_region 11 with(at_builtin;refine Fz (v:=u6) (B:=w.heap.size) rfl _ _ rfl rfl aX.str x rfl (by omega) (by omega) ?_;intro v5 w5 bJ aL aU)
   have bO:=aX.key bJ aL aU;have N:=Aa bP;have Y:D6 w5 B rb all r:=bR.far (fun q hq=>aL.block q (by omega) (fun e=>by have:=(N q e.symm).1;omega));have aS:=(aL.block D (qA.1 aR).1 (fun e=>by have:=(N D e.symm).2;omega)).trans aR;have aD:=F9 bE aL (fun q e=>(N q e).1);have bV:=aD.size;obtain⟨⟨y0,_⟩,⟨y1,_⟩,⟨y2,_⟩,⟨y3,_⟩⟩:=A1 aS;have bM:=Ab aS;have bH:D<w5.heap.size:=(qA.1 aS).1;have J:=Aa HR;have aQ:r.length≤100000000:=by omega
   clear N bP aR aS bR bE aL bJ aU aX HR;rcases J with⟨hc,aW⟩|⟨hc,aW⟩
   ·have U:Calls Tryz.prog 142 #[.pointer (some ⟨rb,0,none⟩),.int .i64 n] w5 fun e w'=>e=.returned (.bool true)∧Below w5.heap.size w5 w':=by
     have:=Jd B rb all r n w5 Y;rw[Aa X,decide_eq_true hc]at this;exact this
    have aE:=Ab U;clear U hc;rcases aW with⟨d,r',hv,aC⟩|⟨e,l,hv,rfl⟩
    ·have bK:=(P20.less last g).1 _ _ _ _ hv;have HS:=Ab aC;clear aC
     go_wp2_with (first
      |(go_at_call 142;refine(Aa aE).mono ?_;rintro e w6 ⟨rfl,G⟩;have R:=Y.keep (by omega) G;have bA:=G.size)
      |(go_at_call 68;refine(Aa HV g (by omega) lv r B rb all _ w6 R (by omega) (Aa X) aT aQ hv).mono ?_;rintro e w7 ⟨k,t,ka,kc,bD,da,dc,es,l,rfl,HN⟩;have Q:=Ab (O5 aD bO bI hB (Aj G (some rb)) (Aa HN));have aH:=(Aa Q).1;have aJ:=aH.kids;have bS:=(Aa Q).2.2.2.2.2.size)
      | (at_builtin;refine Ek (v:=u7) (B:=w.heap.size) rfl _ _ rfl rfl aJ rfl (Aa Q).2.1 (Aa Q).2.2.1 (Aa Q).2.2.2.1 rfl (by omega) (by omega) ?_;intro v8 w8 aZ S aB))
     have aM:∀q,u7.ownBlock=some q→w.heap.size≤q:=fun q e=>(Ao aJ.own q e).1;have bG:D6 w8 B rb all r':=(Aa HN).2.2.2.1.far (fun q hq=>S.block q (by omega) (fun e=>by have:=aM q e.symm;omega));go_roundg g
     case measure=>omega
     case rel=>exact⟨ks++[x],ds++[.mk k t ka kc bD da dc es l],r',by omega,Ab (by rw[Cu];have e:=(Aa HN).1;simp only[Am];rw[e];exact Aa HS),aH.kid aZ S aB (Aa Q).2.2.2.2.1,bG,F9 (Aa Q).2.2.2.2.2 S aM,by simp;omega,Ab (by have:=Aa HL;simp;omega)⟩
    ·go_wp2_with (first
      |(go_at_call 142;refine(Aa aE).mono ?_;rintro e w6 ⟨rfl,G⟩;have R:=Y.keep (by omega) G;have bA:=G.size)
      | (go_at_call 68;refine(Aa HV g (by omega) lv r B rb all _ w6 R (by omega) (Aa X) aT aQ hv).mono ?_;rintro e w7 ⟨rfl,HN⟩))
     exact⟨rfl,rfl,Ab (Ah (Ah aD (Aj G _)) (Aa HN))⟩
   ·have U:Calls Tryz.prog 142 #[.pointer (some ⟨rb,0,none⟩),.int .i64 n] w5 fun e w'=>e=.returned (.bool false)∧Below w5.heap.size w5 w':=by
     have:=Jd B rb all r n w5 Y;rw[Aa X,decide_eq_false hc]at this;exact this
    have aE:=Ab U;clear U hc;rcases aW with⟨d,r',hv,aC⟩|⟨e,l,hv,rfl⟩
    ·have bK:=(P20.less last g).2.1 _ _ _ _ _ hv;have HS:=Ab aC;clear aC
     go_wp2_with (first
      |(go_at_call 142;refine(Aa aE).mono ?_;rintro e w6 ⟨rfl,G⟩;have R:=Y.keep (by omega) G;have bA:=G.size;obtain⟨⟨p0,_⟩,⟨p1,_⟩,⟨p2,_⟩,⟨p3,_⟩⟩:=A1 ((G.block D bH).trans (Aa bM)))
      |(go_at_call 141;refine(Aa HW g (by omega) lv n r B rb all _ 4 x c w6 R (by omega) (Aa X) aT aQ hv).mono ?_;rintro e w7 ⟨k,t,ka,kc,bD,da,dc,es,l,rfl,HN⟩;have Q:=Ab (O5 aD bO bI hB (Aj G (some rb)) (Aa HN));have aH:=(Aa Q).1;have aJ:=aH.kids;have bS:=(Aa Q).2.2.2.2.2.size)
      | (at_builtin;refine Ek (v:=u7) (B:=w.heap.size) rfl _ _ rfl rfl aJ rfl (Aa Q).2.1 (Aa Q).2.2.1 (Aa Q).2.2.2.1 rfl (by omega) (by omega) ?_;intro v8 w8 aZ S aB))
     have aM:∀q,u7.ownBlock=some q→w.heap.size≤q:=fun q e=>(Ao aJ.own q e).1;have bG:D6 w8 B rb all r':=(Aa HN).2.2.2.1.far (fun q hq=>S.block q (by omega) (fun e=>by have:=aM q e.symm;omega));go_roundg g
     case measure=>omega
     case rel=>exact⟨ks++[x],ds++[.mk k t ka kc bD da dc es l],r',by omega,Ab (by rw[Cu];have e:=(Aa HN).1;simp only[Am];rw[e];exact Aa HS),aH.kid aZ S aB (Aa Q).2.2.2.2.1,bG,F9 (Aa Q).2.2.2.2.2 S aM,by simp;omega,Ab (by have:=Aa HL;simp;omega)⟩
    ·go_wp2_with (first
      |(go_at_call 142;refine(Aa aE).mono ?_;rintro e w6 ⟨rfl,G⟩;have R:=Y.keep (by omega) G;have bA:=G.size;obtain⟨⟨p0,_⟩,⟨p1,_⟩,⟨p2,_⟩,⟨p3,_⟩⟩:=A1 ((G.block D bH).trans (Aa bM)))
      | (go_at_call 141;refine(Aa HW g (by omega) lv n r B rb all _ 4 x c w6 R (by omega) (Aa X) aT aQ hv).mono ?_;rintro e w7 ⟨rfl,HN⟩))
     exact⟨rfl,rfl,Ab (Ah (Ah aD (Aj G _)) (Aa HN))⟩
theorem I7(W:World)(k:Nat)(x:List UInt8)(n:Int)(hk:k<256)(hx:x.length≤maxLen):(Nd.mk k x none 0 [] none 0 [] n).In W:=
 .mk ⟨hk,hx,Nat.zero_le _,Nat.zero_le _,qJ _,qJ _,fun y D=>by simp[Nd.keys]at D,fun i y D=>by simp[Nd.keys]at D⟩ trivial
theorem I2(k:Nat)(x:List UInt8)(n:Int)(g:Nat):¬(Nd.mk k x none 0 [] none 0 [] n).blk g:=by simp[Nd.blk,blkL]
theorem Hd{w I:World}{B rb:Nat}{all r:List Tk}{d:P20.T}{nd:Nd}(N:w.grownBy I (some rb))(S:D6 I B rb all r)(hb:nd.bare=d)(J:nd.In I)(hB:B≤w.heap.size)(D:∀g,nd.blk g→w.heap.size<g)(v0 Q R v3 v4:Value) :
  Q9 w B rb all r d nd (((((I.setCell ⟨w.heap.size,0,none⟩ v0).setCell ⟨w.heap.size,1,none⟩ Q).setCell ⟨w.heap.size,2,none⟩ R).setCell ⟨w.heap.size,3,none⟩ v3).setCell ⟨w.heap.size,4,none⟩ v4):=
 ⟨hb,J.keep (fun g G=>Az (by have:=D g G;omega) _ _ _ _ _),fun g G=>Nat.le_of_lt (D g G),((((S.setCell hB _ _).setCell hB _ _).setCell hB _ _).setCell hB _ _).setCell hB _ _,Jf N (qJ _) _ _ _ _ _⟩
theorem Gx{W:World}{g:Nat}{t:TypeId}{a b c d e:Value}(h:W.heap[g]?=some (.cells #[a,b,c,d,e] t))(v:Value):(W.setCell ⟨g,0,none⟩ v).heap[g]?=some (.cells #[v,b,c,d,e] t):=by simp[World.setCell,Array.getElem?_modify,h]
theorem Qa7{W:World}{g:Nat}{t:TypeId}{a b c d e:Value}(h:W.heap[g]?=some (.cells #[a,b,c,d,e] t))(v:Value):(W.setCell ⟨g,1,none⟩ v).heap[g]?=some (.cells #[a,v,c,d,e] t):=by simp[World.setCell,Array.getElem?_modify,h]
theorem Ub{W:World}{g:Nat}{t:TypeId}{a b c d e:Value}(h:W.heap[g]?=some (.cells #[a,b,c,d,e] t))(v:Value):(W.setCell ⟨g,2,none⟩ v).heap[g]?=some (.cells #[a,b,v,d,e] t):=by simp[World.setCell,Array.getElem?_modify,h]
theorem Rm{W:World}{g:Nat}{t:TypeId}{a b c d e:Value}(h:W.heap[g]?=some (.cells #[a,b,c,d,e] t))(v:Value):(W.setCell ⟨g,3,none⟩ v).heap[g]?=some (.cells #[a,b,c,v,e] t):=by simp[World.setCell,Array.getElem?_modify,h]
theorem Nm(last:Int)(f:Nat)(hS:Vb last f)(hK:Vc last f):Te last (f+1):=by
 intro lv ts B rb all o w h hB bL bZ hn hd;obtain⟨W0,aO⟩:∃W0,w.alloc (.cells #[.int .u8 0,.string ⟨#[]⟩,.slice none 0 0,.slice none 0 0,.int .i64 0] 26)=W0:=⟨_,rfl⟩;have aZ:D6 W0 B rb all ts:=by rw[←aO];exact h.alloc hB _
 have aX:Below w.heap.size w W0:=by rw[←aO];exact(qV _ w).alloc (qJ _) _
 have bM:W0.heap.size=w.heap.size+1:=by rw[←aO];simp
 have g0:W0.heap[w.heap.size]?=some (.cells #[.int .u8 0,.string ⟨#[]⟩,.slice none 0 0,.slice none 0 0,.int .i64 0] 26):=by
  rw[←aO];exact qB w _
 have bD:=Ab aO;have U:=Ab g0;have aH:=Ab bL;have bP:=Ab bM;clear aO g0 h bL bM;rcases Nat.lt_or_ge 16 lv with aU|aU
 ·have ho:o=.bad 11 (P20.hereL last ts):=by
   cases hd<;>first|rfl|omega
  subst ho;have jl:(16:Int)<(lv:Int):=by omega
  clear hd aU;go_enter Tryz.func68,Tryz.ntmps68
  go_upto_region 1 with fail
  rw[Aa bD];go_wp2_with (go_at_call 69;refine(D0 B rb all _ _ _ aZ).mono ?_;rintro e w' ⟨rfl,aW⟩)
  exact⟨rfl,by rw[←Aa aH],Ab (Ah (Aj aX _) (Aj aW _))⟩
 have jl:(lv:Int)≤16:=by omega
 obtain⟨⟨k0,x0,n0,c0⟩,ht⟩:∃t,Km all ts=t:=⟨_,rfl⟩
 have bO:n0=P20.hereL last ts:=by
  have:=F6 all ts;rw[ht,Aa aH]at this;exact this
 have HH:=Ab (Ep B rb all ts k0 x0 n0 c0 W0 aZ ht);have aN:=Ab bO;clear ht bO;go_enter Tryz.func68,Tryz.ntmps68
 go_upto_region 1 with fail
 rw[Aa bD];go_upto_region 4 with(go_at_call 105;refine(Aa HH).mono ?_;rintro e w1 ⟨rfl,aJ⟩)
 obtain⟨W2,aI⟩:∃W2,w1.alloc (.cells #[.int .u8 0,.string ⟨#[]⟩,.slice none 0 0,.slice none 0 0,.int .i64 n0] 26)=W2:=⟨_,rfl⟩;have bJ:=aX.size;have bQ:=aJ.size;have I:D6 W2 B rb all ts:=by rw[←aI];exact(aZ.keep (by omega) aJ).alloc (by omega) _
 have R:w.grownBy W2 (some rb):=by rw[←aI];exact Aj ((aX.trans (aJ.mono bJ)).alloc (by omega) _) _
 have bF:W2.heap.size=w1.heap.size+1:=by rw[←aI];simp
 have g1:W2.heap[w1.heap.size]?=some (.cells #[.int .u8 0,.string ⟨#[]⟩,.slice none 0 0,.slice none 0 0,.int .i64 n0] 26):=by rw[←aI];exact qB w1 _
 have bN:=Aa bP
 have g0:W2.heap[w.heap.size]?=some (.cells #[.int .u8 0,.string ⟨#[]⟩,.slice none 0 0,.slice none 0 0,.int .i64 0] 26):=by
  rw[←aI];exact(qD _ _ _ (by omega)).trans ((aJ.block _ (by omega)).trans (Aa U))
 rw[aI];obtain⟨D,hD⟩:∃D,w1.heap.size=D:=⟨_,rfl⟩;rw[hD]at g1 bF ⊢;have bX:w.heap.size<D:=by omega
 obtain⟨⟨y0,f0⟩,⟨y1,f1⟩,⟨y2,f2⟩,⟨y3,f3⟩,⟨y4,f4⟩⟩:=Ad g1;have J:=Ab g1;have N:=Ab g0;have aB:B≤D:=by omega
 have bW:=I.lt;have aM:=Ab bF;clear aI hD aX aJ aZ bD U HH g1 g0 bN bP bF bJ bQ;cases hd with
 |deep h=>omega
 |none_ h=>
  go_wp2_with (first
   |(go_at_call 106;refine(B0 B rb all _ 0 _ I rfl).mono ?_;rintro e w' ⟨rfl,rfl⟩)
   | (go_at_call 69;refine(D0 B rb all _ _ _ I).mono ?_;rintro e w' ⟨rfl,aW⟩))
  exact⟨rfl,by rw[←Aa aH];rfl,Ab (Ah R (Aj aW _))⟩
 | @form _ _ k x n c r h hk=>
  have j5:((k:Int)==5)=false:=by simp;omega
  have j6:((k:Int)==6)=false:=by simp;omega
  have j7:((k:Int)==7)=false:=by simp;omega
  have j3:((k:Int)==3)=false:=by simp;omega
  have j4:((k:Int)==4)=false:=by simp;omega
  clear hk
  go_wp2_with (first
   |(go_at_call 106;refine(B0 B rb all _ k _ I rfl).mono ?_;rintro e w' ⟨rfl,rfl⟩)
   | (go_at_call 69;refine(D0 B rb all _ _ _ I).mono ?_;rintro e w' ⟨rfl,aW⟩))
  exact⟨rfl,rfl,Ab (Ah R (Aj aW _))⟩
 | @word _ _ x n c r h=>
  have hx:=(I.k8' _ (List.mem_cons_self ..)).2;go_upto_region 8 with(go_at_call 106;refine(B0 B rb all _ 5 _ I rfl).mono ?_;rintro e w' ⟨rfl,rfl⟩)
  obtain⟨W3,G⟩:∃W3,W2.setCell ⟨D,0,none⟩ (.int .u8 1)=W3:=⟨_,rfl⟩;have Y:D6 W3 B rb all ((5,x,n,c)::r):=by rw[←G];exact I.setCell aB 0 _
  have Z:w.grownBy W3 (some rb):=by rw[←G];exact Bf R (by omega) _
  have g1:W3.heap[D]?=some (.cells #[.int .u8 1,.string ⟨#[]⟩,.slice none 0 0,.slice none 0 0,.int .i64 n0] 26):=by rw[←G];exact Gx (Aa J) _
  have g0:W3.heap[w.heap.size]?=some (.cells #[.int .u8 0,.string ⟨#[]⟩,.slice none 0 0,.slice none 0 0,.int .i64 0] 26):=by
   rw[←G];exact(qC _ _ _ _ (by show w.heap.size≠D;omega)).trans (Aa N)
  have aQ:W3.heap.size=D+1:=by rw[←G];simpa using Aa aM
  rw[G];clear G y0 f0 y1 f1 y2 f2 y3 f3 y4 f4 J N I R;have X:B≤W3.heap.size:=by omega
  have aA:D<W3.heap.size:=by omega
  have J:=Ab g1;have U:=Ab g0;clear g1 g0;obtain rfl:n0=n:=Aa aN;go_wp2_with (go_at_call 107;refine(Dc B rb all _ _ _ _ _ _ Y X).mono ?_;rintro e w4 ⟨rfl,aG,Q⟩;have k1:=(Q.block D aA (fun e=>by injection e;omega)).trans (Aa J);have k0:=(Q.block w.heap.size (by omega) (fun e=>by injection e;omega)).trans (Aa U);obtain⟨⟨y0,f0⟩,⟨y1,f1⟩,⟨y2,f2⟩,⟨y3,f3⟩,⟨y4,f4⟩⟩:=Ad k1;obtain⟨⟨z0,q0⟩,⟨z1,q1⟩,⟨z2,q2⟩,⟨z3,q3⟩,⟨z4,q4⟩⟩:=Ad k0;have aD:=Ab k0;have aY:=Ab k1;clear k0 k1)
  have aE:=Bf (i:=1) (Ah Z Q) (show w.heap.size≤D by omega) (.string ⟨x.toArray⟩)
  exact qW (results_cell_row rfl _ _ _ _ _ _ _ rfl (B9 ((qC _ _ _ _ (by show w.heap.size≠D;omega)).trans (Aa aD)) _ _ _ _ _) Tryz.underlying26 rfl (by kernel_rfl)) rfl
   ⟨1,x,none,0,[],none,0,[],n0,rfl,Ab (Hd aE (aG.setCell aB 1 _) rfl (I7 _ 1 x n0 (by omega) hx) hB (fun g hg=>absurd hg (I2 _ _ _ g)) _ _ _ _ _)⟩
 | @noseq _ _ x n c r h=>
  go_upto_region 11 with(go_at_call 106;refine(B0 B rb all _ 6 _ I rfl).mono ?_;rintro e w' ⟨rfl,rfl⟩)
  obtain⟨W3,G⟩:∃W3,W2.setCell ⟨D,0,none⟩ (.int .u8 2)=W3:=⟨_,rfl⟩;have Y:D6 W3 B rb all ((6,x,n,c)::r):=by rw[←G];exact I.setCell aB 0 _
  have Z:w.grownBy W3 (some rb):=by rw[←G];exact Bf R (by omega) _
  have g1:W3.heap[D]?=some (.cells #[.int .u8 2,.string ⟨#[]⟩,.slice none 0 0,.slice none 0 0,.int .i64 n0] 26):=by rw[←G];exact Gx (Aa J) _
  have g0:W3.heap[w.heap.size]?=some (.cells #[.int .u8 0,.string ⟨#[]⟩,.slice none 0 0,.slice none 0 0,.int .i64 0] 26):=by
   rw[←G];exact(qC _ _ _ _ (by show w.heap.size≠D;omega)).trans (Aa N)
  have aQ:W3.heap.size=D+1:=by rw[←G];simpa using Aa aM
  rw[G];clear G y0 f0 y1 f1 y2 f2 y3 f3 y4 f4 J N I R;have X:B≤W3.heap.size:=by omega
  have aA:D<W3.heap.size:=by omega
  have J:=Ab g1;have U:=Ab g0;clear g1 g0;obtain rfl:n0=n:=Aa aN;go_wp2_with (go_at_call 107;refine(Dc B rb all _ _ _ _ _ _ Y X).mono ?_;rintro e w4 ⟨rfl,aG,Q⟩;have k1:=(Q.block D aA (fun e=>by injection e;omega)).trans (Aa J);have k0:=(Q.block w.heap.size (by omega) (fun e=>by injection e;omega)).trans (Aa U);obtain⟨⟨y0,f0⟩,⟨y1,f1⟩,⟨y2,f2⟩,⟨y3,f3⟩,⟨y4,f4⟩⟩:=Ad k1;obtain⟨⟨z0,q0⟩,⟨z1,q1⟩,⟨z2,q2⟩,⟨z3,q3⟩,⟨z4,q4⟩⟩:=Ad k0;have aD:=Ab k0;have aY:=Ab k1;clear k0 k1)
  have aE:=Ah Z Q
  exact qW (results_cell_row rfl _ _ _ _ _ _ _ rfl (B9 (Aa aD) _ _ _ _ _) Tryz.underlying26 rfl (by kernel_rfl)) rfl
   ⟨2,[],none,0,[],none,0,[],n0,rfl,Ab (Hd aE aG rfl (I7 _ 2 [] n0 (by omega) (Nat.zero_le _)) hB (fun g hg=>absurd hg (I2 _ _ _ g)) _ _ _ _ _)⟩
 | @nomap _ _ x n c r h=>
  go_upto_region 14 with(go_at_call 106;refine(B0 B rb all _ 7 _ I rfl).mono ?_;rintro e w' ⟨rfl,rfl⟩)
  obtain⟨W3,G⟩:∃W3,W2.setCell ⟨D,0,none⟩ (.int .u8 3)=W3:=⟨_,rfl⟩;have Y:D6 W3 B rb all ((7,x,n,c)::r):=by rw[←G];exact I.setCell aB 0 _
  have Z:w.grownBy W3 (some rb):=by rw[←G];exact Bf R (by omega) _
  have g1:W3.heap[D]?=some (.cells #[.int .u8 3,.string ⟨#[]⟩,.slice none 0 0,.slice none 0 0,.int .i64 n0] 26):=by rw[←G];exact Gx (Aa J) _
  have g0:W3.heap[w.heap.size]?=some (.cells #[.int .u8 0,.string ⟨#[]⟩,.slice none 0 0,.slice none 0 0,.int .i64 0] 26):=by
   rw[←G];exact(qC _ _ _ _ (by show w.heap.size≠D;omega)).trans (Aa N)
  have aQ:W3.heap.size=D+1:=by rw[←G];simpa using Aa aM
  rw[G];clear G y0 f0 y1 f1 y2 f2 y3 f3 y4 f4 J N I R;have X:B≤W3.heap.size:=by omega
  have aA:D<W3.heap.size:=by omega
  have J:=Ab g1;have U:=Ab g0;clear g1 g0;obtain rfl:n0=n:=Aa aN;go_wp2_with (go_at_call 107;refine(Dc B rb all _ _ _ _ _ _ Y X).mono ?_;rintro e w4 ⟨rfl,aG,Q⟩;have k1:=(Q.block D aA (fun e=>by injection e;omega)).trans (Aa J);have k0:=(Q.block w.heap.size (by omega) (fun e=>by injection e;omega)).trans (Aa U);obtain⟨⟨y0,f0⟩,⟨y1,f1⟩,⟨y2,f2⟩,⟨y3,f3⟩,⟨y4,f4⟩⟩:=Ad k1;obtain⟨⟨z0,q0⟩,⟨z1,q1⟩,⟨z2,q2⟩,⟨z3,q3⟩,⟨z4,q4⟩⟩:=Ad k0;have aD:=Ab k0;have aY:=Ab k1;clear k0 k1)
  have aE:=Ah Z Q
  exact qW (results_cell_row rfl _ _ _ _ _ _ _ rfl (B9 (Aa aD) _ _ _ _ _) Tryz.underlying26 rfl (by kernel_rfl)) rfl
   ⟨3,[],none,0,[],none,0,[],n0,rfl,Ab (Hd aE aG rfl (I7 _ 3 [] n0 (by omega) (Nat.zero_le _)) hB (fun g hg=>absurd hg (I2 _ _ _ g)) _ _ _ _ _)⟩
 | @seq _ _ x n c r r' ds h hs=>
  go_upto_region 17 with(go_at_call 106;refine(B0 B rb all _ 3 _ I rfl).mono ?_;rintro e w' ⟨rfl,rfl⟩)
  obtain⟨W3,G⟩:∃W3,W2.setCell ⟨D,0,none⟩ (.int .u8 2)=W3:=⟨_,rfl⟩;have Y:D6 W3 B rb all ((3,x,n,c)::r):=by rw[←G];exact I.setCell aB 0 _
  have Z:w.grownBy W3 (some rb):=by rw[←G];exact Bf R (by omega) _
  have g1:W3.heap[D]?=some (.cells #[.int .u8 2,.string ⟨#[]⟩,.slice none 0 0,.slice none 0 0,.int .i64 n0] 26):=by rw[←G];exact Gx (Aa J) _
  have g0:W3.heap[w.heap.size]?=some (.cells #[.int .u8 0,.string ⟨#[]⟩,.slice none 0 0,.slice none 0 0,.int .i64 0] 26):=by
   rw[←G];exact(qC _ _ _ _ (by show w.heap.size≠D;omega)).trans (Aa N)
  have aQ:W3.heap.size=D+1:=by rw[←G];simpa using Aa aM
  rw[G];clear G y0 f0 y1 f1 y2 f2 y3 f3 y4 f4 J N I R;have X:B≤W3.heap.size:=by omega
  have aA:D<W3.heap.size:=by omega
  have J:=Ab g1;have U:=Ab g0;clear g1 g0;obtain rfl:n0=n:=Aa aN;have S:=hS (lv+1) _ B rb all _ W3 Y X (Aa aH) (by omega) hn hs;rw[show (((lv+1:Nat):Int))=(lv:Int)+1 from by omega]at S;have aL:=Ab S;clear S;go_wp2_with (go_at_call 108;refine(Aa aL).mono ?_;rintro e w4 ⟨a,cc,es,rfl,HP⟩;have Q:=(Aa HP).2.2.2;have k1:=(Q.block D aA (fun e=>by injection e;omega)).trans (Aa J);have k0:=(Q.block w.heap.size (by omega) (fun e=>by injection e;omega)).trans (Aa U);obtain⟨⟨y0,f0⟩,⟨y1,f1⟩,⟨y2,f2⟩,⟨y3,f3⟩,⟨y4,f4⟩⟩:=Ad k1;obtain⟨⟨z0,q0⟩,⟨z1,q1⟩,⟨z2,q2⟩,⟨z3,q3⟩,⟨z4,q4⟩⟩:=Ad k0;have aD:=Ab k0;have aY:=Ab k1;clear k0 k1)
  obtain⟨aK,bB,aG,Q⟩:=Aa HP;obtain⟨a2,c2,bC,aS,bH,aT,bG,bE⟩:=bB.slice;injection bC with e1 _ e2;subst e1;subst e2;have aR:(Nd.mk 2 [] none 0 [] a cc es n0).In w4:=.mk ⟨by show 2<256;omega,Nat.zero_le _,Nat.zero_le _,qK aS bH,qJ _,aS,fun y hy=>by simp[Nd.keys]at hy,fun i y hy=>by simp[Nd.keys]at hy⟩ aT
  have aC:∀g,(Nd.mk 2 [] none 0 [] a cc es n0).blk g→D<g:=by
   intro g hg;simp only[Nd.blk]at hg;rcases hg with⟨h1,_⟩|⟨h1,h2⟩|h1
   ·exact absurd rfl h1
   ·have:=bE g h1 h2;omega
   ·have:=bG g h1;omega
  have aE:=Bf (i:=3) (Ah Z Q) (show w.heap.size≤D by omega) (.slice a es.length cc)
  exact qW (results_cell_row rfl _ _ _ _ _ _ _ rfl (B9 ((qC _ _ _ _ (by show w.heap.size≠D;omega)).trans (Aa aD)) _ _ _ _ _) Tryz.underlying26 rfl (by kernel_rfl)) rfl
   ⟨2,[],none,0,[],a,cc,es,n0,rfl,Ab (Hd aE (aG.setCell aB 3 _) (by simp only[Nd.bare];rw[aK]) (aR.setCell (fun hg=>by have:=aC D hg;omega)) hB (fun g hg=>by have:=aC g hg;omega) _ _ _ _ _)⟩
 | @seqbad _ _ x n c e l r h hs=>
  go_upto_region 17 with(go_at_call 106;refine(B0 B rb all _ 3 _ I rfl).mono ?_;rintro e w' ⟨rfl,rfl⟩)
  obtain⟨W3,G⟩:∃W3,W2.setCell ⟨D,0,none⟩ (.int .u8 2)=W3:=⟨_,rfl⟩;have Y:D6 W3 B rb all ((3,x,n,c)::r):=by rw[←G];exact I.setCell aB 0 _
  have Z:w.grownBy W3 (some rb):=by rw[←G];exact Bf R (by omega) _
  have g1:W3.heap[D]?=some (.cells #[.int .u8 2,.string ⟨#[]⟩,.slice none 0 0,.slice none 0 0,.int .i64 n0] 26):=by rw[←G];exact Gx (Aa J) _
  have g0:W3.heap[w.heap.size]?=some (.cells #[.int .u8 0,.string ⟨#[]⟩,.slice none 0 0,.slice none 0 0,.int .i64 0] 26):=by
   rw[←G];exact(qC _ _ _ _ (by show w.heap.size≠D;omega)).trans (Aa N)
  have aQ:W3.heap.size=D+1:=by rw[←G];simpa using Aa aM
  rw[G];clear G y0 f0 y1 f1 y2 f2 y3 f3 y4 f4 J N I R;have X:B≤W3.heap.size:=by omega
  have aA:D<W3.heap.size:=by omega
  have J:=Ab g1;have U:=Ab g0;clear g1 g0;obtain rfl:n0=n:=Aa aN;have S:=hS (lv+1) _ B rb all _ W3 Y X (Aa aH) (by omega) hn hs;rw[show (((lv+1:Nat):Int))=(lv:Int)+1 from by omega]at S;have aL:=Ab S;clear S;go_wp2_with (go_at_call 108;refine(Aa aL).mono ?_;rintro e w4 ⟨rfl,HP⟩)
  exact⟨rfl,rfl,Ab (Ah Z (Aa HP))⟩
 | @keys _ _ x n c r r' ks ds h hs=>
  have bA:=P20.keys_short last _ _ _ _ _ _ _ _ hs (by simp);go_upto_region 20 with(go_at_call 106;refine(B0 B rb all _ 4 _ I rfl).mono ?_;rintro e w' ⟨rfl,rfl⟩)
  obtain⟨W3,G⟩:∃W3,W2.setCell ⟨D,0,none⟩ (.int .u8 3)=W3:=⟨_,rfl⟩;have Y:D6 W3 B rb all ((4,x,n,c)::r):=by rw[←G];exact I.setCell aB 0 _
  have Z:w.grownBy W3 (some rb):=by rw[←G];exact Bf R (by omega) _
  have g1:W3.heap[D]?=some (.cells #[.int .u8 3,.string ⟨#[]⟩,.slice none 0 0,.slice none 0 0,.int .i64 n0] 26):=by rw[←G];exact Gx (Aa J) _
  have g0:W3.heap[w.heap.size]?=some (.cells #[.int .u8 0,.string ⟨#[]⟩,.slice none 0 0,.slice none 0 0,.int .i64 0] 26):=by
   rw[←G];exact(qC _ _ _ _ (by show w.heap.size≠D;omega)).trans (Aa N)
  have aQ:W3.heap.size=D+1:=by rw[←G];simpa using Aa aM
  rw[G];clear G y0 f0 y1 f1 y2 f2 y3 f3 y4 f4 J N I R;have X:B≤W3.heap.size:=by omega
  have aA:D<W3.heap.size:=by omega
  have J:=Ab g1;have U:=Ab g0;clear g1 g0;obtain rfl:n0=n:=Aa aN;have S:=hK (lv+1) _ B rb all _ W3 Y X (Aa aH) (by omega) hn hs;rw[show (((lv+1:Nat):Int))=(lv:Int)+1 from by omega]at S;have aL:=Ab S;clear S;go_wp2_with (go_at_call 109;refine(Aa aL).mono ?_;rintro e w4 ⟨ka,kc,cA,a,cc,es,rfl,HP⟩;have Q:=(Aa HP).2.2.2.1;have k1:=(Q.block D aA (fun e=>by injection e;omega)).trans (Aa J);have k0:=(Q.block w.heap.size (by omega) (fun e=>by injection e;omega)).trans (Aa U);obtain⟨⟨y0,f0⟩,⟨y1,f1⟩,⟨y2,f2⟩,⟨y3,f3⟩,⟨y4,f4⟩⟩:=Ad k1;obtain⟨⟨z0,q0⟩,⟨z1,q1⟩,⟨z2,q2⟩,⟨z3,q3⟩,⟨z4,q4⟩⟩:=Ad k0;have aD:=Ab k0;have aY:=Ab k1;clear k0 k1)
  obtain⟨aK,bK,aG,Q,bY⟩:=Aa HP;injection aK with aJ bS;subst aJ;subst bS;obtain⟨a2,c2,bC,aS,bH,aT,bG,bE⟩:=bK.kids.slice;injection bC with e1 _ e2;subst e1;subst e2;obtain⟨a3,c3,bR,bI,bT,bV,bU⟩:=bK.str.slice;injection bR with e1 _ e2;subst e1;subst e2;have aR:(Nd.mk 3 [] ka kc ks a cc es n0).In w4:=.mk ⟨by show 3<256;omega,Nat.zero_le _,qK bI bT,qK aS bH,bI,aS,fun y hy=>by have:=bA y hy;unfold maxLen;omega,bV⟩ aT
  have aC:∀g,(Nd.mk 3 [] ka kc ks a cc es n0).blk g→D<g:=by
   intro g hg;simp only[Nd.blk]at hg;rcases hg with⟨h1,h2⟩|⟨h1,h2⟩|h1
   ·have:=bU g h1 h2;omega
   ·have:=bE g h1 h2;omega
   ·have:=bG g h1;omega
  have aE:=Bf (i:=3) (Bf (i:=2) (Ah Z Q) (show w.heap.size≤D by omega) (.slice ka ks.length kc)) (show w.heap.size≤D by omega) (.slice a es.length cc)
  exact qW (results_cell_row rfl _ _ _ _ _ _ _ rfl (B9 ((qC _ _ _ _ (by show w.heap.size≠D;omega)).trans ((qC _ _ _ _ (by show w.heap.size≠D;omega)).trans (Aa aD))) _ _ _ _ _) Tryz.underlying26 rfl (by kernel_rfl)) rfl
   ⟨3,[],ka,kc,ks,a,cc,es,n0,rfl,Ab (Hd aE ((aG.setCell aB 2 _).setCell aB 3 _) rfl ((aR.setCell (fun hg=>by have:=aC D hg;omega)).setCell (fun hg=>by have:=aC D hg;omega)) hB (fun g hg=>by have:=aC g hg;omega) _ _ _ _ _)⟩
 | @keysbad _ _ x n c e l r h hs=>
  go_upto_region 20 with(go_at_call 106;refine(B0 B rb all _ 4 _ I rfl).mono ?_;rintro e w' ⟨rfl,rfl⟩)
  obtain⟨W3,G⟩:∃W3,W2.setCell ⟨D,0,none⟩ (.int .u8 3)=W3:=⟨_,rfl⟩;have Y:D6 W3 B rb all ((4,x,n,c)::r):=by rw[←G];exact I.setCell aB 0 _
  have Z:w.grownBy W3 (some rb):=by rw[←G];exact Bf R (by omega) _
  have g1:W3.heap[D]?=some (.cells #[.int .u8 3,.string ⟨#[]⟩,.slice none 0 0,.slice none 0 0,.int .i64 n0] 26):=by rw[←G];exact Gx (Aa J) _
  have g0:W3.heap[w.heap.size]?=some (.cells #[.int .u8 0,.string ⟨#[]⟩,.slice none 0 0,.slice none 0 0,.int .i64 0] 26):=by
   rw[←G];exact(qC _ _ _ _ (by show w.heap.size≠D;omega)).trans (Aa N)
  have aQ:W3.heap.size=D+1:=by rw[←G];simpa using Aa aM
  rw[G];clear G y0 f0 y1 f1 y2 f2 y3 f3 y4 f4 J N I R;have X:B≤W3.heap.size:=by omega
  have aA:D<W3.heap.size:=by omega
  have J:=Ab g1;have U:=Ab g0;clear g1 g0;obtain rfl:n0=n:=Aa aN;have S:=hK (lv+1) _ B rb all _ W3 Y X (Aa aH) (by omega) hn hs;rw[show (((lv+1:Nat):Int))=(lv:Int)+1 from by omega]at S;have aL:=Ab S;clear S;go_wp2_with (go_at_call 109;refine(Aa aL).mono ?_;rintro e w4 ⟨rfl,HP⟩)
  exact⟨rfl,rfl,Ab (Ah Z (Aa HP))⟩
theorem Qe(last:Int):∀F:Nat,Te last F∧U9 last F∧Vb last F∧Vc last F:=by
 intro F
 induction F using Nat.strongRecOn with
 |ind F ih=>
  have G:Vb last F:=R2 last F (fun g I=>(ih g I).2.1);have D:Vc last F:=Q5 last F (fun g I=>(ih g I).1) (fun g I=>(ih g I).2.1);cases F with
  |zero=>exact⟨fun _ _ _ _ _ _ _ _ _ _ _ _ h=>(by cases h),fun _ _ _ _ _ _ _ _ _ _ _ _ _ _ _ _ h=>(by cases h),G,D⟩
  |succ f=>exact⟨Nm last f (ih f (by omega)).2.2.1 (ih f (by omega)).2.2.2,Mt last f (ih f (by omega)).1,G,D⟩
end Go.Proofs.YtnjokdbblmlhhaaGreatDoor
namespace Go.Proofs.YtnjokdbblmlhhaaGreatDoor
set_option maxHeartbeats 8000000
set_option maxRecDepth 100000
open Go.RowKit
namespace P20
mutual
def T.cut:Nat→T→T
 |lv,.mk k t ks ds l=>.mk k t ks (if 1<lv then cutL (lv-1) ds else []) l
def cutL:Nat→List T→List T
 |lv,[]=>[]
 |lv,d::ds=>d.cut lv::cutL lv ds
end
end P20
theorem Ql(lv:Nat){ds:List Nd}{i:Nat}{d:Nd}(h:ds[i]?=some d):P20.cutL lv (Am (ds.take (i+1)))=P20.cutL lv (Am (ds.take i))++[d.bare.cut lv]:=by
 have e:∀a b:List P20.T,P20.cutL lv (a++b)=P20.cutL lv a++P20.cutL lv b:=fun a b=>by
  induction a with
  |nil=>rfl
  |cons x a ih=>simp[P20.cutL,ih]
 rw[List.take_add_one,h,Cu,e];rfl
theorem K0{w:World}{B:Nat}{v:Value}{ds:List Nd}{nd:Nd}{Z:Array Oper}{o:Oper}{a:Act}{K:Act→World→Prop}{Q:Exit→Act→World→Prop}{E:Prop}(U:o.guard=none)(s x:Operand)
  (ho:o.op=.call { callee:=.builtin .append,args:=#[s,x],argTypes:=#[24,24] })
  (hs:a.eval s=v) (hk:Dt w B v ds) (I:nd.In w) (J:∀g,nd.blk g→B≤g) (S:∀g,nd.blk g→v.ownBlock≠some g) (g cap:Nat)
  (hx:a.eval x=.slice (some ⟨g,0,none⟩) 1 cap) (X:∀j u,nd.cs[j]?=some u→w.cell? ((⟨g,0,none⟩:Addr).add j)=some u) (aB:ds.length+1≤1000000000) (hB:B≤w.heap.size)
  (h:∀v' w',Dt w' B v' (ds++[nd])→w.grownBy w' v.ownBlock→(v'.ownBlock=v.ownBlock∨∃g,v'.ownBlock=some g∧w.heap.size≤g)→K (a.put o.dst v') w') :
  if Region.wanted o (yielded Z a.tmps)=true then Oper.wp Tryz.prog o a w K Q else E:=by
 obtain⟨i,hi,hz,Y,aA⟩:=info_parts Su
 refine step_append_lies (P:=Tryz.prog) w U s x 24 ho B 26 i (.agg #[.int .u8 0,.string ⟨#[]⟩,.slice none 0 0,.slice none 0 0,.int .i64 0]) 5 80 Tryz.underlying24 hi hz Y aA rfl (by decide) v ds.length (B6 ds) hs hk.own
  ⟨g,0,none⟩ 1 cap nd.cs hx rfl X (by intro u hu;exact Ru [nd] u (by simpa[B6]using hu)) (by decide) (by unfold maxLen;omega) (by omega) hB _ rfl ?_
 intro g' aC w' h2 h3 R _
 have G:∀d,d∈ds++[nd]→∀g,d.blk g→g<w.heap.size∧v.ownBlock≠some g∧d.In w:=by
  intro d D g hb;rcases zE.1 D with D|D
  ·exact⟨(hk.ins d D).lt hb,hk.sep d D g hb,hk.ins d D⟩
  ·obtain rfl:=zO.1 D;exact⟨I.lt hb,S g hb,I⟩
 have N:∀d∈ds++[nd],d.In w:=by
  intro d D;rcases zE.1 D with D|D
  ·exact hk.ins d D
  ·obtain rfl:=zO.1 D;exact I
 refine h _ w' ⟨?_,fun d D=>(N d D).keep (fun g hb=>?_),fun d D g hb=>?_,fun d D g hb e=>?_⟩ h3 ?_
 ·rw[F0,qH];have e:B6 [nd]=nd.cs:=by simp[B6]
  rw[e];exact h2
 ·obtain⟨h6,h7,_⟩:=G d D g hb;exact h3.block g h6 (fun e=>h7 e.symm)
 ·rcases zE.1 D with D|D
  ·exact hk.new d D g hb
  ·obtain rfl:=zO.1 D;exact J g hb
 ·obtain⟨h6,h7,_⟩:=G d D g hb;rcases R with h5|h5
  ·exact h7 (h5.trans (show some g'=some g from e))
  ·have e2:some g'=some g:=e;injection e2 with e2;omega
 ·rcases R with h5|h5
  ·exact .inl h5.symm
  ·exact .inr ⟨g',rfl,by omega⟩
theorem Na{f:FuncId}{args:Array Value}{w:World}{D:Array Oper}{o:Oper}{a:Act}{K:Act→World→Prop}{Q:Exit→Act→World→Prop}{E:Prop}{R:Ending→World→Prop}(G:o.guard=none)
  (hex:(execOp a.eval o).run Tryz.prog w=.ok (.enter f args) w) (h:Calls Tryz.prog f args w R) (hk:∀e w',R e w'→∃v,e=.returned v∧K (a.put o.dst v) w') :
  if Region.wanted o (yielded D a.tmps)=true then Oper.wp Tryz.prog o a w K Q else E:=by
 rw[if_pos (by simp[Region.wanted,G])];unfold Oper.wp;rw[hex,Oper.upon_enter];refine h.mono (fun e w' hr=>?_);obtain⟨v,rfl,I⟩:=hk e w' hr;exact I
def St(w:World)(T:P20.T)(e:Ending)(w':World):Prop:=
 ∃(k:Nat) (t:List UInt8) (ka:Option Addr) (kc:Nat) (ks:List (List UInt8)) (da:Option Addr) (dc:Nat) (ds:List Nd) (l:Int),e=.returned (.agg #[.int .u8 k,.string ⟨t.toArray⟩,.slice ka ks.length kc,.slice da ds.length dc,.int .i64 l])∧Hid ((Nd.mk k t ka kc ks da dc ds l).bare=T∧(Nd.mk k t ka kc ks da dc ds l).In w'∧∀g,(Nd.mk k t ka kc ks da dc ds l).blk g→w.heap.size≤g)∧Below w.heap.size w w'
def Lh(d:Nd):Prop:=∀(lv:Nat) (w:World),d.In w→E6 d.bare→1≤lv→lv≤1000→Calls Tryz.prog 50 #[d.val,.int .i64 lv] w (St w (d.bare.cut lv))
theorem Qa2(W:World)(k:Nat)(t:List UInt8)(ka:Option Addr)(kc:Nat)(ks:List (List UInt8))(da:Option Addr)(dc:Nat)(ds:List Nd)(l:Int) :
  ∀j u,(Nd.mk k t ka kc ks da dc ds l).cs[j]?=some u→(W.alloc (.cells #[.int .u8 k,.string ⟨t.toArray⟩,.slice ka ks.length kc,.slice da ds.length dc,.int .i64 l] 26)).cell? ((⟨W.heap.size,0,none⟩:Addr).add j)=some u:=by
 intro j u hj;have hn:=qB W (.cells #[.int .u8 k,.string ⟨t.toArray⟩,.slice ka ks.length kc,.slice da ds.length dc,.int .i64 l] 26);have hc:=cell_of_row _ W.heap.size j _ _ (0,0) hn;have D:((⟨W.heap.size,0,none⟩:Addr).add j)=⟨W.heap.size,j,none⟩:=by unfold Addr.add;split<;>simp_all
 rw[D,hc,←hj];simp[Nd.cs,Nd.kind,Nd.text,Nd.kV,Nd.dV,Nd.ka,Nd.kc,Nd.keys,Nd.da,Nd.dc,Nd.kids,Nd.line]
theorem KS.keep{W W':World}{B:Nat}{kv dv:Value}{ks:List (List UInt8)}{ds:List Nd}(h:KS W B kv dv ks ds)(hb:Below W.heap.size W W'):KS W' B kv dv ks ds:=
 ⟨h.str.grown (Aj hb none) (fun g e=>by cases e),h.kids.grown (Aj hb none) (fun g e=>by cases e),h.sep⟩
theorem KS.set{W:World}{B O i:Nat}{v:Value}{kv dv:Value}{ks:List (List UInt8)}{ds:List Nd}(h:KS W B kv dv ks ds)(D:O<B):KS (W.setCell ⟨O,i,none⟩ v) B kv dv ks ds:=
 h.old (Ap W O i v) D
theorem Kd{w S:World}{H k:Nat}{t:List UInt8}{kv dv:Value}{ks:List (List UInt8)}{es:List Nd}{ln:Int}{T:P20.T}(hH:w.heap.size=H)(hk:k<256)(ht:t.length≤maxLen)(J:∀x∈ks,x.length≤maxLen)
  (R:KS S (H+1+1+1) kv dv ks es) (hT:P20.T.mk k t ks (Am es) ln=T) (hb:Below H w S) (v0 Z v2 v3 v4:Value) :
  St w T (.returned (.agg #[.int .u8 k,.string ⟨t.toArray⟩,kv,dv,.int .i64 ln])) (((((S.setCell ⟨H+1,0,none⟩ v0).setCell ⟨H+1,1,none⟩ Z).setCell ⟨H+1,2,none⟩ v2).setCell ⟨H+1,3,none⟩ v3).setCell ⟨H+1,4,none⟩ v4):=by
 have D:=((((R.set (O:=H+1) (i:=0) (v:=v0) (by omega)).set (O:=H+1) (i:=1) (v:=Z) (by omega)).set (O:=H+1) (i:=2) (v:=v2) (by omega)).set (O:=H+1) (i:=3) (v:=v3) (by omega)).set (O:=H+1) (i:=4) (v:=v4) (by omega);obtain⟨a,c,rfl,G,Y,hi,hn⟩:=D.str.slice;obtain⟨a2,c2,rfl,I,N,X,U,Q⟩:=D.kids.slice;refine⟨k,t,a,c,ks,a2,c2,es,ln,rfl,Ab ⟨hT,.mk ⟨hk,ht,qK G Y,qK I N,G,I,J,hi⟩ X,fun g hg=>?_⟩,?_⟩
 ·rw[Es]at hg;rcases hg with⟨h1,h2⟩|⟨h1,h2⟩|h1
  ·have:=hn g h1 h2;omega
  ·have:=Q g h1 h2;omega
  ·have:=U g h1;omega
 ·rw[hH];exact Iu hb (by omega) _ _ _ _ _
theorem Nu(k:Nat)(t:List UInt8)(ka:Option Addr)(kc:Nat)(ks:List (List UInt8))(da:Option Addr)(dc:Nat)(ds:List Nd)(ln:Int)(cB:∀d∈ds,Lh d):Lh (.mk k t ka kc ks da dc ds ln):=by
 intro lv w aT cA h1 h2;rw[Nd.val_eq];have Z:=aT.fit;unfold Nd.bare E6 at cA;obtain⟨o1,o2,o3,o4,o5⟩:=cA;rw[Bs]at o4;have dC:ks.length≤1000000000:=o2;obtain⟨H,hH⟩:∃H,w.heap.size=H:=⟨_,rfl⟩;obtain⟨W,hW⟩:∃W,((w.alloc (.cells #[.int .u8 k,.string ⟨t.toArray⟩,.slice ka ks.length kc,.slice da ds.length dc,.int .i64 ln] 26)).alloc (.cells #[.int .u8 0,.string ⟨#[]⟩,.slice none 0 0,.slice none 0 0,.int .i64 0] 26)).alloc (.cells #[.int .u8 k,.string ⟨t.toArray⟩,.slice ka ks.length kc,.slice da ds.length dc,.int .i64 ln] 26)=W:=⟨_,rfl⟩;have cW:W.heap.size=H+1+1+1:=by rw[←hW];simp;omega
 have bN:Below H w W:=by rw[←hW];exact(((qV _ w).alloc (by omega) _).alloc (by simp;omega) _).alloc (by simp;omega) _
 obtain⟨W',bT,v1,g0,g1,g2,v2,v3⟩:=Nz w (.cells #[.int .u8 k,.string ⟨t.toArray⟩,.slice ka ks.length kc,.slice da ds.length dc,.int .i64 ln] 26) (.cells #[.int .u8 0,.string ⟨#[]⟩,.slice none 0 0,.slice none 0 0,.int .i64 0] 26) (.cells #[.int .u8 k,.string ⟨t.toArray⟩,.slice ka ks.length kc,.slice da ds.length dc,.int .i64 ln] 26) (.cells #[] 3) H hH;rw[hW]at bT;have bX:∀r,r<W.heap.size→W.heap[r]?=W'.heap[r]?:=fun r hr=>by rw[←bT];exact(qD _ _ _ hr).symm
 rw[←bX _ (by omega)]at g0 g1 g2;clear bT bX v1 v2 v3 W'
 have bB:Eu W ka ks:=by
  have h3:=Z.keys;simp only[Nd.ka,Nd.keys]at h3;exact h3.below (by rw[hH];exact bN)
 have I:=P0 ka kc ks W bB dC;have N:=aT.kids;simp only[Nd.da,Nd.kids]at N;have aN:=Ab I;have HW:=Ab hW;have bR:=Ab g0;have bV:=Ab g1;have cM:=Ab g2;have cP:=Ab bN;have cT:=Ab N;have dA:=Ab cB;have cR:=Ab o5;have bY:=Z.kidsL;simp only[Nd.kids]at bY;have bL:=Ab aT;clear I hW g0 g1 g2 bN bB N cB o5 o1 o3 Z bY aT;go_enter Tryz.func50,Tryz.ntmps50
 go_upto_region 2 with fail
 try rw[hH]
 rw[Aa HW];obtain⟨⟨x0,f0⟩,⟨x1,f1⟩,⟨x2,f2⟩,⟨x3,f3⟩,⟨x4,f4⟩⟩:=Ad (Aa bR);go_upto_region 4 with(go_at_call 85;refine(Aa aN).mono ?_;rintro e w1 ⟨a',c',rfl,HS,J⟩;have m2:=(J.block (H+1+1) (by omega)).trans (Aa cM);obtain⟨⟨y0,q0⟩,⟨y1,q1⟩,⟨y2,q2⟩,⟨y3,q3⟩,⟨y4,q4⟩⟩:=Ad m2;have cL:=Ab m2;clear m2)
 obtain⟨V0,G⟩:∃V0,(w1.setCell ⟨H+1+1,2,none⟩ (.slice a' ks.length c')).setCell ⟨H+1+1,3,none⟩ (.slice none 0 0)=V0:=⟨_,rfl⟩;have dE:=J.size;rw[cW]at J HS
 have cH:KS V0 (H+1+1+1) (.slice a' ks.length c') (.slice none 0 0) ks []:=by
  rw[←G];exact((⟨Aa HS,Dt.nil _ _,fun g e=>⟨fun e2=>by simp[Value.ownBlock]at e2,by simp⟩⟩:KS w1 (H+1+1+1) (.slice a' ks.length c') (.slice none 0 0) ks []).set (by omega)).set (by omega)
 have dX:H+1+1<V0.heap.size:=by rw[←G];simp;omega
 have ho:∀r,r≠H+1+1→V0.heap[r]?=w1.heap[r]?:=fun r hr=>by rw[←G,qC _ _ _ _ (by exact hr),qC _ _ _ _ (by exact hr)]
 have k0:=(ho H (by omega)).trans ((J.block _ (by omega)).trans (Aa bR));have k1:=(ho (H+1) (by omega)).trans ((J.block _ (by omega)).trans (Aa bV))
 have k2:V0.heap[H+1+1]?=some (.cells #[.int .u8 k,.string ⟨t.toArray⟩,.slice a' ks.length c',.slice none 0 0,.int .i64 ln] 26):=by
  rw[←G];exact Rm (Ub (Aa cL) _) _
 have cI:Below H w V0:=by
  have h3:=(Aa cP).trans (J.mono (by omega));rw[←G]
  exact⟨h3.os,h3.tape,h3.output,by have:=h3.size;simpa using this,fun r hr=>by
   rw[qC _ _ _ _ (by show r≠H+1+1;omega),qC _ _ _ _ (by show r≠H+1+1;omega)]
   exact h3.block r hr⟩
 rw[G];have bZ:=Ab k0;have bK:=Ab k1;have cE:=Ab k2;have cO:=Ab cH;have cD:=Ab cI;clear x0 f0 x1 f1 x2 f2 x3 f3 x4 f4 y0 q0 y1 q1 y2 q2 y3 q3 y4 q4 G cH ho k0 k1 k2 cI J dE HS cL bR bV cM aN;rcases Nat.lt_or_ge 1 lv with aJ|aJ
 ·have jl:(1:Int)<(lv:Int):=by omega
  have jw:IntKind.i64.wrap ((lv:Int)-1)=(lv:Int)-1:=qG _ (by omega);have aU:=fun r (hr:(Nd.mk k t ka kc ks da dc ds ln).blk r)=>(Aa bL).lt hr;rw[hH]at aU;have dN:=Ab aU;obtain⟨n,hn⟩:∃n,ds.length=n:=⟨_,rfl⟩;have bF:=Ab (show V0.heap[H]?=some (.cells #[.int .u8 k,.string ⟨t.toArray⟩,.slice ka ks.length kc,.slice da n dc,.int .i64 ln] 26) by rw[←hn];exact Aa bZ);obtain⟨⟨x0,_⟩,⟨x1,_⟩,⟨x2,_⟩,⟨x3,_⟩,⟨x4,_⟩⟩:=Ad (Aa bF);have HN:=Ab hn;have aA:=Ab aJ;rw[hn]at o4 ⊢;have dW:(n:Int)≤1000000000:=by omega
  clear aU hn aJ bZ bF;go_wp2
  go_loopg [19] n (fun g cU wx=>∃(i:Nat) (dv:Value) (es:List Nd),i+g=n∧cU=.int .i64 i∧es.length≤i∧Hid (KS wx (H+1+1+1) (.slice a' ks.length c') dv ks es)∧Hid (Am es=P20.cutL (lv-1) (Am (ds.take i))) ∧
   Hid (wx.heap[H+1+1]?=some (.cells #[.int .u8 k,.string ⟨t.toArray⟩,.slice a' ks.length c',dv,.int .i64 ln] 26))∧Hid (wx.heap[H+1]?=some (.cells #[.int .u8 0,.string ⟨#[]⟩,.slice none 0 0,.slice none 0 0,.int .i64 0] 26))∧Hid (Below H w wx))
  case atStart=>exact⟨0,_,[],by omega,by go_num,qJ _,cO,Ab rfl,cE,bK,cD⟩
  case round=>
   obtain⟨i,dv,es,dO,rfl,dQ,aI,HE,HO,HZ,HB⟩:=hrel;obtain⟨ad,cd,rfl,_⟩:=(Aa aI).kids.slice;cases gk with
   |zero=>
    have e1:(n:Int)=(i:Int):=by omega
    have cV:=Ab (show i=n by omega);obtain⟨⟨x0,f0⟩,⟨x1,f1⟩,⟨x2,f2⟩,⟨x3,f3⟩,⟨x4,f4⟩⟩:=Ad (Aa HO);obtain⟨⟨z0,q0⟩,⟨z1,q1⟩,⟨z2,q2⟩,⟨z3,q3⟩,⟨z4,q4⟩⟩:=Ad (Aa HZ);go_wp2;have hf:=(Aa bL).fit;refine qW (results_cell_row rfl _ _ _ _ _ _ _ rfl (B9 (Aa HZ) _ _ _ _ _) Tryz.underlying26 rfl (by kernel_rfl)) rfl (Kd (k:=k) (t:=t) (ks:=ks) (ln:=ln) hH hf.kind hf.text hf.keyL (Aa aI) ?_ (Aa HB) _ _ _ _ _);unfold Nd.bare P20.T.cut;rw[if_pos (Aa aA),Aa HE,List.take_of_length_le (by rw[Aa HN];have:=Aa cV;omega)]
   |succ g'=>
    have aU:(i:Int)<(n:Int):=by omega
    have dS:IntKind.i64.wrap ((i:Int)+1)=(i:Int)+1:=qG _ (by omega);obtain⟨d,aL⟩:=V3 (Aa HN) (show i<n by omega);have bH:=qN aL;have hb:=Aa HB;have dP:=hb.size;have bU:InL wr da 0 ds:=InL.below (Aa cT) (by rw[hH];exact hb);have aG:=Aa dA d bH (lv-1);have bD:E6 d.bare:=(Hf _).1 (Aa cR) _ (by rw[Ci];exact zC bH);have bM:=Ql (lv-1) aL;obtain⟨b1,o1,k1,t1,aY,aQ,aS,aO,aR,aW,l1,rfl,rfl,e0,e1,e2,e3,e4,bA⟩:=Ce bU aL;obtain⟨W5,aD⟩:∃W5,wr.alloc (.cells #[.int .u8 k1,.string ⟨t1.toArray⟩,.slice aY aS.length aQ,.slice aO aW.length aR,.int .i64 l1] 26)=W5:=⟨_,rfl⟩;have aB:Below wr.heap.size wr W5:=by rw[←aD];exact(qV _ wr).alloc (qJ _) _
    have dU:W5.heap.size=wr.heap.size+1:=by rw[←aD];simp
    have g5:W5.heap[wr.heap.size]?=some (.cells #[.int .u8 k1,.string ⟨t1.toArray⟩,.slice aY aS.length aQ,.slice aO aW.length aR,.int .i64 l1] 26):=by rw[←aD];exact qB wr _
    have cY:H+1+1<wr.heap.size:=(qA.1 (Aa HO)).1;have bQ:=(aB.block (H+1+1) cY).trans (Aa HO);have cJ:=(aB.block (H+1) (by omega)).trans (Aa HZ);have cK:=(Aa aI).keep aB;have I:=fun V (h:Below W5.heap.size W5 V)=>aG V ((bA.below aB).below h) bD (by have:=Aa aA;omega) (by omega);rw[Nd.val_eq,show (((lv-1:Nat)):Int)=(lv:Int)-1 from by have:=Aa aA;omega]at I;obtain⟨T1,cN⟩:∃T1,(Nd.mk k1 t1 aY aQ aS aO aR aW l1).bare.cut (lv-1)=T1:=⟨_,rfl⟩;rw[cN]at I bM;obtain⟨⟨x0,f0⟩,⟨x1,f1⟩,⟨x2,f2⟩,⟨x3,f3⟩,⟨x4,f4⟩⟩:=Ad bQ;obtain⟨⟨y0,_⟩,⟨y1,_⟩,⟨y2,_⟩,⟨y3,_⟩,⟨y4,_⟩⟩:=Ad g5;have aN:=Ab I;have cZ:=Ab bM;have dR:=Ab g5;have dM:=Ab (Aa aI).kids;have cX:=Ab aD;have bW:=Ab bQ;have dB:=Ab cJ;have bO:=Ab cK;have dJ:=Ab (show Below H w W5 from hb.trans (aB.mono (by omega)));have dL:=B3 e0;have dY:Tryz.prog.follows .mixedOrders=true:=by kernel_rfl
    clear I bM cN aD bQ cJ cK aG bD bH aL bA bU hb g5 HO HZ aI HB;go_upto_region 8 with fail
    rw[Aa cX];have aZ:=Aa aN W5.drew ⟨rfl,rfl,rfl,qJ _,fun _ _=>rfl⟩;have dK:=Ab aZ;clear aZ;have cS:=enters_of Tryz.func50 (by kernel_rfl) rfl
    go_region_law (first
     |(refine Na (f:=50) (args:=#[.agg #[.int .u8 k1,.string ⟨t1.toArray⟩,.slice aY aS.length aQ,.slice aO aW.length aR,.int .i64 l1],.int .i64 ((lv:Int)-1)]) (by rfl) (by simp[execOp,go_sem,cS]) (Aa dK) ?_;rintro e w6 ⟨k6,t6,R,S,Q,X,Y,U,l6,rfl,aH,D⟩;refine⟨_,rfl,?_⟩;have aC:Below W5.heap.size W5 w6:=⟨D.os,D.tape,D.output,D.size,D.block⟩;have aX:=(aC.block (H+1+1) (by omega)).trans (Aa bW);obtain⟨⟨p0,r0⟩,⟨p1,r1⟩,⟨p2,r2⟩,⟨p3,r3⟩,⟨p4,r4⟩⟩:=Ad aX;have dD:=Ab aX;have bS:=Ab (((Aa bO).keep aC).alloc (.cells #[.int .u8 k6,.string ⟨t6.toArray⟩,.slice R Q.length S,.slice X U.length Y,.int .i64 l6] 26));have dZ:=aC.size;have bC:H+1+1<w6.heap.size:=(by omega);obtain⟨⟨a0,_⟩,⟨a1,_⟩,⟨a2,_⟩,⟨a3,_⟩,⟨a4,_⟩⟩:=Ad ((qD w6 (.cells #[.int .u8 k6,.string ⟨t6.toArray⟩,.slice R Q.length S,.slice X U.length Y,.int .i64 l6] 26) _ bC).trans aX);clear aX D)
     | (refine K0 (B:=H+1+1+1) (nd:=.mk k6 t6 R S Q X Y U l6) (by rfl) _ _ (by rfl) (by rfl) (Aa bS).kids ((Aa aH).2.1.alloc _) (fun g hg=>by have h3:W5.heap.size≤g:=(Aa aH).2.2 g hg;omega) (fun g hg e=>by have h3:W5.heap.size≤g:=(Aa aH).2.2 g hg;have h4:=(Ao (Aa bO).kids.own g e).2;omega) w6.heap.size 1 (by rfl) (Qa2 _ _ _ _ _ _ _ _ _ _) (by omega) (by simp;omega) ?_;intro v' w7 bG aM cG;obtain⟨bP,bI,rfl,_⟩:=bG.slice;have dF:=Ab bG;clear bG;have aK:∀g,(Value.slice ad es.length cd).ownBlock=some g→H+1+1+1≤g:=(fun g e=>(Ao (Aa bS).kids.own g e).1);have bJ:=(aM.block (H+1+1) (by simp;omega) (fun e=>by have:=aK _ e.symm;omega)).trans ((qD _ _ _ bC).trans (Aa dD));obtain⟨⟨m0,n0⟩,⟨m1,n1⟩,⟨m2,n2⟩,⟨m3,n3⟩,⟨m4,n4⟩⟩:=Ad bJ;have dH:=Ab bJ;clear bJ))
    all_goals
     have bE:=(Aa bS).kid (Aa dF) aM cG (fun g hg e=>by have h3:W5.heap.size≤g:=(Aa aH).2.2 g hg;have h4:=(Ao (Aa bO).str.own g e).2;omega);have aE:=bE.set (O:=H+1+1) (i:=3) (v:=.slice bP (es.length+1) bI) (by omega);rw[qH,qT]at aE;have cC:=Ab aE;have cF:=(((Aa dJ).trans (aC.mono (show H≤W5.heap.size by omega))).alloc (show H≤w6.heap.size by omega) (.cells #[.int .u8 k6,.string ⟨t6.toArray⟩,.slice R Q.length S,.slice X U.length Y,.int .i64 l6] 26)).grown aM (by simp;omega) (fun k e=>by have:=aK k e;omega);have dG:=Ab (cF.setCell (p:=⟨H+1+1,3,none⟩) (show H≤H+1+1 by omega) (.slice bP (es.length+1) bI));have dI:=Ab ((qC w7 ⟨H+1+1,3,none⟩ (.slice bP (es.length+1) bI) (H+1) (show H+1≠H+1+1 by omega)).trans ((aM.block (H+1) (by simp;omega) (fun e=>by have:=aK _ e.symm;omega)).trans ((qD _ _ _ (show H+1<w6.heap.size by omega)).trans ((aC.block (H+1) (by omega)).trans (Aa dB)))));have cQ:=Ab (show Am (es++[.mk k6 t6 R S Q X Y U l6])=P20.cutL (lv-1) (Am (ds.take (i+1))) by rw[Cu,Aa HE,Aa cZ,←(Aa aH).1];rfl);clear bE aE cF;go_wp2;go_roundg g'
     case measure=>omega
     case rel=>exact⟨i+1,_,es++[.mk k6 t6 R S Q X Y U l6],by omega,by go_num,by simp;omega,cC,cQ,Ab (Rm (Aa dH) _),dI,dG⟩
 ·have jl:(lv:Int)≤1:=by omega
  obtain⟨⟨x0,f0⟩,⟨x1,f1⟩,⟨x2,f2⟩,⟨x3,f3⟩,⟨x4,f4⟩⟩:=Ad (Aa cE);obtain⟨⟨z0,q0⟩,⟨z1,q1⟩,⟨z2,q2⟩,⟨z3,q3⟩,⟨z4,q4⟩⟩:=Ad (Aa bK);have aA:=Ab aJ;clear aJ;go_wp2;have hf:=(Aa bL).fit;exact qW (results_cell_row rfl _ _ _ _ _ _ _ rfl (B9 (Aa bK) _ _ _ _ _) Tryz.underlying26 rfl (by kernel_rfl)) rfl (Kd (k:=k) (t:=t) (ks:=ks) (ln:=ln) hH hf.kind hf.text hf.keyL (Aa cO) (by unfold Nd.bare P20.T.cut;rw[if_neg (by have:=Aa aA;omega)];rfl) (Aa cD) _ _ _ _ _)
theorem Ly(d:Nd):Lh d:=Nd.ind (p:=Lh) Nu d
theorem Mz(d:Nd)(w:World)(J:d.In w)(R:E6 d.bare):Calls Tryz.prog 23 #[d.val] w (St w (d.bare.cut 18)):=by
 obtain⟨k,t,ka,kc,ks,da,dc,ds,ln⟩:=d;have D:=fun W (hb:Below w.heap.size w W)=>Ly _ 18 W (J.below hb) R (by omega) (by omega);obtain⟨T,hT⟩:∃T,(Nd.mk k t ka kc ks da dc ds ln).bare.cut 18=T:=⟨_,rfl⟩;rw[Nd.val_eq,hT]at D;rw[Nd.val_eq,hT];obtain⟨H,N⟩:∃H,w.heap.size=H:=⟨_,rfl⟩;obtain⟨W,I⟩:∃W,(w.alloc (.cells #[.int .u8 k,.string ⟨t.toArray⟩,.slice ka ks.length kc,.slice da ds.length dc,.int .i64 ln] 26)).alloc (.cells #[.int .u8 0,.string ⟨#[]⟩,.slice none 0 0,.slice none 0 0,.int .i64 0] 26)=W:=⟨_,rfl⟩;have aE:W.heap.size=H+1+1:=by rw[←I];simp;omega
 have G:Below H w W:=by rw[←I];exact((qV _ w).alloc (by omega) _).alloc (by simp;omega) _
 have g0:W.heap[H]?=some (.cells #[.int .u8 k,.string ⟨t.toArray⟩,.slice ka ks.length kc,.slice da ds.length dc,.int .i64 ln] 26):=by
  rw[←I,←N];exact(qD _ _ _ (by simp)).trans (qB w _)
 have g1:W.heap[H+1]?=some (.cells #[.int .u8 0,.string ⟨#[]⟩,.slice none 0 0,.slice none 0 0,.int .i64 0] 26):=by
  rw[←I,←N];exact Cy w _ _
 have HC:=Ab (D W (by rw[N];exact G));have HW:=Ab I;have U:=Ab g1;have aD:=Ab G;obtain⟨⟨x0,f0⟩,⟨x1,f1⟩,⟨x2,f2⟩,⟨x3,f3⟩,⟨x4,f4⟩⟩:=Ad g0;clear D J R hT I g0 g1 G;go_enter Tryz.func23,Tryz.ntmps23
 go_upto_region 1 with fail
 try rw[N]
 rw[Aa HW];go_wp2_with (go_at_call 50;refine(Aa HC).mono ?_;rintro e w2 ⟨k2,t2,Z,aC,Y,S,aB,X,l2,rfl,HN,Q⟩;have m1:=(Q.block (H+1) (by omega)).trans (Aa U);obtain⟨⟨y0,q0⟩,⟨y1,q1⟩,⟨y2,q2⟩,⟨y3,q3⟩,⟨y4,q4⟩⟩:=Ad m1;have aA:=Ab m1;clear m1)
 obtain⟨n1,n2,n3⟩:=Aa HN;refine qW (results_cell_row rfl _ _ _ _ _ _ _ rfl (B9 (Aa aA) _ _ _ _ _) Tryz.underlying26 rfl (by kernel_rfl)) rfl ⟨k2,t2,Z,aC,Y,S,aB,X,l2,rfl,Ab ⟨n1,n2.keep (fun g hg=>Az (by have:=n3 g hg;omega) _ _ _ _ _),fun g hg=>by have:=n3 g hg;omega⟩,?_⟩;rw[N];exact Iu ((Aa aD).trans (Q.mono (by omega))) (by omega) _ _ _ _ _
end Go.Proofs.YtnjokdbblmlhhaaGreatDoor
