/- Lemmas of this claim. -/
import Derived.Test.YtnjokdbblmlhhaaGreatDoorWR20aY
set_option linter.unusedVariables false
set_option linter.unusedSimpArgs false
namespace Go.Proofs.YtnjokdbblmlhhaaGreatDoor
set_option maxHeartbeats 16000000
set_option maxRecDepth 100000
open Go.RowKit
structure Wg (W:World) (B:Nat) (v r:Value) (out:List Tk) (st:List Int):Prop where
 toks:Fc W B v out
 row:Gd W B r st.reverse
def M2(v r:Value)(x:Nat):Prop:=v.ownBlock=some x∨r.ownBlock=some x
theorem Wg.alloc{W:World}{B:Nat}{v r:Value}{out:List Tk}{st:List Int}(h:Wg W B v r out st)(o:Obj):Wg (W.alloc o) B v r out st:=⟨World.ownsRow.alloc h.toks o,World.ownsRow.alloc h.row o⟩
theorem Wg.drewN{W:World}{B:Nat}{v r:Value}{out:List Tk}{st:List Int}(h:Wg W B v r out st)(n:Nat):Wg (W.drewN n) B v r out st:=⟨h.toks,h.row⟩
theorem Wg.below{W W':World}{B:Nat}{v r:Value}{out:List Tk}{st:List Int}(h:Wg W B v r out st)(hb:Below W.heap.size W W'):Wg W' B v r out st:=⟨Ir h.toks hb,Ir h.row hb⟩
theorem Za(M:Nat→Prop){W W':World}(hb:Below W.heap.size W W'):Au M W M W':=⟨hb.size,fun r _ hr=>hb.block r hr,fun _ h=>.inl h⟩
theorem Wg.push0{W W1:World}{B:Nat}{v v' r:Value}{out D:List Tk}{st:List Int}(h:Wg W B v r out st)(G:W.grownBy W1 v.ownBlock)(ho:Fc W1 B v' D):Wg W1 B v' r D st:=
 ⟨ho,Cj h.row G (J4 h.row h.toks (by decide))⟩
theorem Wg.push1{W W1:World}{B:Nat}{v r r':Value}{out:List Tk}{st st':List Int}(h:Wg W B v r out st)(D:W.grownBy W1 r.ownBlock)(ho:Gd W1 B r' st'.reverse):Wg W1 B v r' out st':=
 ⟨Cj h.toks D (J4 h.toks h.row (by decide)),ho⟩
theorem Qao{v v' r:Value}{W W1:World}(G:W.grownBy W1 v.ownBlock)(D:v'.ownBlock=v.ownBlock∨v'.ownBlock=some W.heap.size):Au (M2 v r) W (M2 v' r) W1:=by
 have hk:=Au.grown (M:=M2 v r) G (fun k e=>.inl (.inl e));refine⟨hk.size,hk.same,fun x hx=>?_⟩;rcases hx with h|h
 ·rcases D with h2|h2
  ·exact .inl (.inl (h2.symm.trans h))
  ·rw[h]at h2;injection h2 with h2;exact .inr (by omega)
 ·exact .inl (.inr h)
theorem Qap{v r r':Value}{W W1:World}(G:W.grownBy W1 r.ownBlock)(D:r'.ownBlock=r.ownBlock∨r'.ownBlock=some W.heap.size):Au (M2 v r) W (M2 v r') W1:=by
 have hk:=Au.grown (M:=M2 v r) G (fun k e=>.inl (.inr e));refine⟨hk.size,hk.same,fun x hx=>?_⟩;rcases hx with h|h
 ·exact .inl (.inl h)
 ·rcases D with h2|h2
  ·exact .inl (.inr (h2.symm.trans h))
  ·rw[h]at h2;injection h2 with h2;exact .inr (by omega)
theorem Wg.below0{w W W1:World}{B b:Nat}{v r:Value}{out:List Tk}{st:List Int}(h:Wg W B v r out st)(hB:b≤B)(hs:b≤W.heap.size)(hb:Below b w W)(D:W.grownBy W1 v.ownBlock):Below b w W1:=
 hb.grown D hs (fun k e=>by have:=(World.ownsRow.lt h.toks k e).1;omega)
theorem Wg.below1{w W W1:World}{B b:Nat}{v r:Value}{out:List Tk}{st:List Int}(h:Wg W B v r out st)(hB:b≤B)(hs:b≤W.heap.size)(hb:Below b w W)(D:W.grownBy W1 r.ownBlock):Below b w W1:=
 hb.grown D hs (fun k e=>by have:=(World.ownsRow.lt h.row k e).1;omega)
theorem Wg.fresh{W:World}{B g:Nat}{v r:Value}{out:List Tk}{st:List Int}(h:Wg W B v r out st)(D:W.heap.size≤g):¬M2 v r g:=by
 rintro(e|e)
 ·have:=(World.ownsRow.lt h.toks g e).2;omega
 ·have:=(World.ownsRow.lt h.row g e).2;omega
structure X0 (W3 W5:World) (p:Nat) (M5:Nat→Prop) (v r:Value) (o:List Tk) (s:List Int) (W:World):Prop where
 ref:Wg W (p+1) v r o s
 keep:Au M5 W5 (M2 v r) W
 bel:Below (p+1) W3 W
 big:p+2≤W.heap.size
section
variable {W3 W5 W W1:World} {p:Nat} {M5:Nat→Prop} {v r v' r':Value} {o o':List Tk} {s s':List Int}
theorem X0.alloc(h:X0 W3 W5 p M5 v r o s W)(x:Obj):X0 W3 W5 p M5 v r o s (W.alloc x):=
 ⟨h.ref.alloc x,h.keep.trans (Dj _ _ x),Cv h.bel (by have:=h.big;omega) x,by rw[qF];have:=h.big;omega⟩
theorem X0.drewN(h:X0 W3 W5 p M5 v r o s W)(n:Nat):X0 W3 W5 p M5 v r o s (W.drewN n):=⟨h.ref.drewN n,h.keep.trans (Bi _ _ n),B2 h.bel n,h.big⟩
theorem X0.below(h:X0 W3 W5 p M5 v r o s W)(hb:Below W.heap.size W W1):X0 W3 W5 p M5 v r o s W1:=
 ⟨h.ref.below hb,h.keep.trans (Za _ hb),h.bel.trans (hb.mono (by have:=h.big;omega)),by have:=h.big;have:=hb.size;omega⟩
theorem X0.app0(h:X0 W3 W5 p M5 v r o s W)(D:W.grownBy W1 v.ownBlock)(ho:Fc W1 (p+1) v' o')(G:v'.ownBlock=v.ownBlock∨v'.ownBlock=some W.heap.size):X0 W3 W5 p M5 v' r o' s W1:=
 ⟨h.ref.push0 D ho,h.keep.trans (Qao D G),h.ref.below0 (qJ _) (by have:=h.big;omega) h.bel D,by have:=h.big;have:=D.size;omega⟩
theorem X0.app1(h:X0 W3 W5 p M5 v r o s W)(D:W.grownBy W1 r.ownBlock)(ho:Gd W1 (p+1) r' s'.reverse)(G:r'.ownBlock=r.ownBlock∨r'.ownBlock=some W.heap.size):X0 W3 W5 p M5 v r' o s' W1:=
 ⟨h.ref.push1 D ho,h.keep.trans (Qap D G),h.ref.below1 (qJ _) (by have:=h.big;omega) h.bel D,by have:=h.big;have:=D.size;omega⟩
theorem X0.pop{g n cap:Nat}{x:Int}(h:X0 W3 W5 p M5 v (.slice (some ⟨g,0,none⟩) n cap) o (x::s) W):X0 W3 W5 p M5 v (.slice (some ⟨g,0,none⟩) s.length cap) o s W:=by
 have h1:=h.ref.row;rw[List.reverse_cons]at h1;have h2:=h1.drop_last;rw[List.length_reverse]at h2;exact⟨⟨h.ref.toks,h2⟩,⟨h.keep.size,h.keep.same,fun x hx=>h.keep.more x hx⟩,h.bel,h.big⟩
theorem X0.toks{J:Nat}{I:Value}{ts:List Tk}(h:X0 W3 W5 p M5 v r o s W)(D:Fc W5 J I ts)(G:∀g,I.ownBlock=some g→¬M5 g):Fc W J I ts:=P2 D h.keep G
end
theorem Xc{w:World}{B:Nat}{v:Value}{zs:List Int}{z:Int}{J:Array Oper}{rest:List Oper}{o:Oper}{a:Act}{Q:Exit→Act→World→Prop}(N:o.guard=none)(s x:Operand)
  (ho:o.op=.call { callee:=.builtin .append,args:=#[s,x],argTypes:=#[103,103] })
  (hs:a.eval s=v) (I:Gd w B v zs) (g cap:Nat) (hx:a.eval x=.slice (some ⟨g,0,none⟩) 1 cap) (G:w.cell? ⟨g,0,none⟩=some (.int .i64 z))
  (X:zs.length+1≤1000000000) (hB:B≤w.heap.size)
  (h:∀g' D w',Gd w' B (.slice (some ⟨g',0,none⟩) (zs.length+1) D) (zs++[z])→w.grownBy w' v.ownBlock→(some g'=v.ownBlock∨some g'=some w.heap.size)→wpList Tryz.prog J Q rest (a.put o.dst (.slice (some ⟨g',0,none⟩) (zs.length+1) D)) w') :
  wpList Tryz.prog J Q (o::rest) a w:=by
 obtain⟨i,hi,hz,R,U⟩:=info_parts S7
 refine wpList_append_lies (P:=Tryz.prog) w N s x 103 ho B 3 i (.int .i64 0) 1 8 Tryz.underlying103 hi hz R U rfl (by decide) v zs.length (zs.map (Value.int .i64)) hs I
  ⟨g,0,none⟩ 1 cap [.int .i64 z] hx rfl (by intro j u hj;match j,hj with|0,hj=>simp at hj;subst hj;exact G) (by intro u hu;simp at hu;subst hu;rfl) (by decide) (by unfold maxLen;omega) (by omega) hB _ rfl ?_
 intro g' D w' h2 h3 S _;refine h g' D w' ?_ h3 (S.imp Eq.symm (fun e=>by rw[e]));unfold Gd;rw[qH,List.map_append];exact h2
theorem Yf(s:ByteArray)(w:World)(hs:s.size≤100000)(hf:(Bv s.data.toList).1≠0) :
  Calls Tryz.prog 34 #[.string s] w fun e w'=>e=.returned (.tuple #[.slice none 0 0,D3 (Bv s.data.toList)])∧Below w.heap.size w w':=by
 have I:=fun W=>Ya s W (by omega);obtain⟨⟨Y,r2⟩,J⟩:∃R,Bv s.data.toList=R:=⟨_,rfl⟩;rw[J]at hf ⊢;simp only[J]at I;unfold D3 at I ⊢;have hne:(Y != 0)=true:=by simpa using hf
 have X:=Ab I;clear I J hf;have Z:Tryz.prog.follows .mixedOrders=true:=by kernel_rfl
 go_enter Tryz.func34,Tryz.ntmps34
 go_wp2_with (go_at_call 70;refine(Aa X _).mono ?_;rintro e w' ⟨v,rfl,ho,hb⟩;have J:w'.heap[w.heap.size]?=some (.cells #[.int .i64 0,.int .i64 0] 29):=(hb.block _ (by simp)).trans (qB w _);have S:Below w.heap.size w w':=((qV _ w).alloc (qJ _) _).trans (hb.mono (by simp));clear hb ho)
 obtain⟨Q,D⟩:∃Q,w'.alloc (.cells #[.int .i64 Y,.int .i64 r2] 29)=Q:=⟨_,rfl⟩;have G:Q.heap[w.heap.size]?=some (.cells #[.int .i64 0,.int .i64 0] 29):=by rw[←D];exact(qD _ _ _ (qA.1 J).1).trans J
 have N:Q.heap[w'.heap.size]?=some (.cells #[.int .i64 Y,.int .i64 r2] 29):=by rw[←D];exact qB w' _
 have U:Below w.heap.size w Q:=by rw[←D];exact S.alloc S.size _
 rw[D];have x0:=(A9 G).1;have x1:=(A9 G).2;have x2:=(A8 G).1;have x3:=(A8 G).2;have y0:=(A9 N).1;have y2:=(A8 N).1;clear D J;go_region
 all_goals go_wp2
 all_goals refine qW (As rfl _ _ _ _ _ rfl (qX _ _ _ _ _ _ _ (Db (Da G _) _) Tryz.underlying29 rfl (by kernel_rfl))) rfl ⟨rfl,?_⟩
 all_goals exact En (Bq (Bq U 0 _ (qJ _)) 1 _ (qJ _))
theorem Yc(s:ByteArray)(w:World)(hs:s.size≤100000)(hf:(Bv s.data.toList).1=0) :
  Calls Tryz.prog 34 #[.string s] w fun e w'=>∃v,e=.returned (.tuple #[v,D3 (P19.allR true (Dz s.data.toList) [] [0] 0).2])∧Fc w' w.heap.size v (P19.allR true (Dz s.data.toList) [] [0] 0).1∧Below w.heap.size w w':=by
 have cY:=fun W=>Ya s W (by omega);rw[Mx hf,if_pos rfl]at cY;have cC:∀(i:Nat) (r:Nat × Nat × List UInt8),(Dz s.data.toList)[i]?=some r→r.2.1+r.2.2.length≤s.size:=fun i r h=>by rw[zP];exact Rz h
 have fG:=P19.weight_le s.data.toList;rw[←zP]at fG;obtain⟨rs,eK⟩:∃rs,Dz s.data.toList=rs:=⟨_,rfl⟩;rw[eK]at cC fG ⊢;have iY:=P19.weight_ge rs;simp only[eK]at cY;have gM:=Ab cY;have fU:=Ab cC;clear cY cC eK hf;have jW:Tryz.prog.follows .mixedOrders=true:=by kernel_rfl
 go_enter Tryz.func34,Tryz.ntmps34
 go_wp2_with (go_at_call 70;refine(Aa gM _).mono ?_;rintro e w' ⟨v,rfl,ho,hb⟩;have hR:w'.heap[w.heap.size]?=some (.cells #[.int .i64 0,.int .i64 0] 29):=(hb.block _ (by simp)).trans (qB w _);have cL:Below w.heap.size w w':=((qV _ w).alloc (qJ _) _).trans (hb.mono (by simp));clear hb;obtain⟨la,iV,rfl,eF⟩:=Nv ho;unfold D3;rw[qY])
 obtain⟨p,hp⟩:∃p,w'.heap.size=p:=⟨_,rfl⟩;obtain⟨h0,bF⟩:∃h,w.heap.size=h:=⟨_,rfl⟩;obtain⟨W3,cE⟩:∃W3,(w'.alloc (.cells #[.int .i64 0,.int .i64 0] 29)).alloc (.cells #[.int .i64 0] 3)=W3:=⟨_,rfl⟩;rw[cE];rw[hp]at eF ⊢;have cU:W3.heap.size=p+2:=by rw[←cE,qF,qF,hp]
 have cN:Below p w' W3:=by rw[←cE,←hp];exact((qV _ w').alloc (qJ _) _).alloc (by simp) _
 have gV:Wg W3 (p+1) (.slice none 0 0) (.slice (some ⟨p+1,0,none⟩) 1 1) [] [0]:=by
  rw[←cE];refine⟨World.ownsRow_nil _ _ _ _,?_⟩;have h1:=World.ownsRow_lit (e:=3) (size:=1) (base:=p+1) (w'.alloc (.cells #[.int .i64 0,.int .i64 0] 29)) #[.int .i64 0] 1 (by rw[qF];omega) (by unfold maxLen;omega) rfl;rw[qF,hp]at h1;exact h1
 have gF:h0<p:=by rw[←bF,←hp];exact(qA.1 hR).1
 rw[bF]at hR cL ⊢;have aX:W3.heap[h0]?=some (.cells #[.int .i64 0,.int .i64 0] 29):=(cN.block h0 gF).trans hR;have bQ:Below h0 w W3:=cL.trans (cN.mono (by omega));have gQ:=Ab eF;clear cE eF hR cL ho
 go_loopg [6,7,8,9] rs.length (fun g s6 s7 s8 s9 wx=>∃(i:Nat) (o2:List Tk) (s2:List Int) (last:Int),i+g=rs.length∧s8=.int .i64 last∧s9=.int .i64 i∧P19.Row s2∧s2.length≤16∧o2.length+40*P19.weight (rs.drop i)≤100000000 ∧
  Wg wx (p+1) s6 s7 o2 s2∧Below (p+1) W3 wx∧Hid (P19.allR true rs [] [0] 0=P19.allR (decide (i=0)) (rs.drop i) o2 s2 last))
 case atStart=>exact⟨0,[],[0],0,by omega,rfl,by go_num,P19.row_zero,by decide,by simp;omega,gV,qV _ _,Ab rfl⟩
 case round=>
  obtain⟨i,o2,s2,last,jD,rfl,rfl,bM,eT,fE,hN,U,HE⟩:=hrel;have iK:wr.heap[h0]?=some (.cells #[.int .i64 0,.int .i64 0] 29):=(U.block h0 (by omega)).trans aX;have iZ:p+2≤wr.heap.size:=by rw[←cU];exact U.size
  have cL:Below h0 w wr:=bQ.trans (U.mono (by omega));have dQ:=P19.row_ne bM;obtain⟨gr,dU,gI,_,_⟩:=hN.row.form (by simpa using dQ);subst gI;rw[List.length_reverse]at hN;cases gk with
  |zero=>
   have e1:(rs.length:Int)=(i:Int):=by omega
   have hd:rs.drop i=[]:=List.drop_eq_nil_of_le (by omega);have he:=Aa HE;rw[hd]at he;have cM:P19.allR true rs [] [0] 0=(o2++(P19.close last 0 0 s2).1,0,0):=he;rw[P19.close_all last bM]at cM;simp only at cM;obtain⟨n2,bS⟩:∃n,s2.length=n:=⟨_,rfl⟩;have dC:1≤n2:=by rw[←bS];exact zM.2 dQ
   rw[bS]at cM hN eT;simp only[List.length_reverse,bS];have HF:=Ab cM;clear cM he hd HE bS;go_wp2
   go_loopg [6,14] (n2-1) (fun f s6 iC wx=>∃(q:Nat),1≤q∧q+f=n2∧iC=.int .i64 q∧Fc wx (p+1) s6 (o2++List.replicate (q-1) ((2,[],last,0):Tk))∧Below (p+1) W3 wx)
   case atStart=>exact⟨1,by omega,by omega,by go_num,by simpa using hN.toks,U⟩
   case round=>
    obtain⟨q,jF,jU,rfl,ho,hb⟩:=hrel;have iR:p+2≤wr.heap.size:=by rw[←cU];exact hb.size
    have cO:wr.heap[h0]?=some (.cells #[.int .i64 0,.int .i64 0] 29):=(hb.block h0 (by omega)).trans aX;have gR:Below h0 w wr:=bQ.trans (hb.mono (by omega));cases gk with
    |zero=>
     have e2:(n2:Int)=(q:Int):=by omega
     obtain rfl:n2=q:=by omega
     have x0:=(A9 cO).1;have x1:=(A9 cO).2;have x2:=(A8 cO).1;have x3:=(A8 cO).2;clear e2;go_wp2;refine qW (As rfl _ _ _ _ _ rfl (qX _ _ _ _ _ _ _ (Db (Da cO _) _) Tryz.underlying29 rfl (by kernel_rfl))) rfl ⟨_,by rw[Aa HF];rfl,?_,?_⟩
     ·rw[Aa HF];try rw[bF]
      exact Fm (Pn (Pn ho (by omega)) (by omega)) (by omega)
     ·try rw[bF]
      exact D8 (D8 gR (by omega) (by omega)) (by omega) (by simp;omega)
    |succ f=>
     have e2:(q:Int)<(n2:Int):=by omega
     have jG:IntKind.i64.wrap ((q:Int)+1)=(q:Int)+1:=qG _ (by omega);have eY:(o2++List.replicate (q-1) ((2,[],last,0):Tk)).length+1≤1000000000:=by rw[qH,List.length_replicate];omega
     obtain⟨oz,dY⟩:∃oz,o2++List.replicate (q-1) ((2,[],last,0):Tk)=oz:=⟨_,rfl⟩;rw[dY]at ho eY;have HO:=Ab ho;have iA:=Ab dY;clear ho dY
     go_wp2_with (first
      |(go_at_call 72;refine(Oq _ _ _ _ _).mono ?_;rintro e w2 ⟨rfl,aT⟩;have aO:=Ab (World.ownsRow.alloc (Ir (Aa HO) aT) (.cells #[.int .u8 (2:Nat),.string ⟨#[]⟩,.int .i64 last,.int .i64 0] 124));have bE:=Ab (Fe w2 (.int .u8 (2:Nat)) (.string ⟨#[]⟩) (.int .i64 last) (.int .i64 0) 124);have cH:p+2≤w2.heap.size:=(by have:=aT.size;omega))
      | (at_builtin;refine Jn (B:=p+1) (t:=(2,[],last,0)) rfl (.tmp 191) (.tmp 194) rfl rfl (Aa aO) w2.heap.size 1 rfl (Aa bE) eY (by rw[qF];omega) ?_;intro g4 bA w4 Y Q aQ))
     have gU:Below (p+1) W3 w4:=(Cv (hb.trans (aT.mono (by omega))) (by omega) (.cells #[.int .u8 (2:Nat),.string ⟨#[]⟩,.int .i64 last,.int .i64 0] 124)).grown Q (by rw[qF];omega) (fun k e=>(World.ownsRow.lt (Aa aO) k e).1);go_roundg f
     case measure=>omega
     case rel=>
      refine⟨q+1,by omega,by omega,by go_num,?_,gU⟩;rw[show q+1-1=(q-1)+1 from by omega,List.replicate_succ',←List.append_assoc,Aa iA];exact Y
  |succ g'=>
   have jV:(i:Int)<(rs.length:Int):=by omega
   have jH:IntKind.i64.wrap ((i:Int)+1)=(i:Int)+1:=qG _ (by omega);have gH:i<rs.length:=by omega
   have cB:rs[i]?=some rs[i]:=qO gH;obtain⟨⟨J,G,rt⟩,hr⟩:∃r,rs[i]=r:=⟨_,rfl⟩;rw[hr]at cB;have iG:=Aa fU i _ cB;simp only at iG;have eZ:=P19.weight_drop cB
   have fM:rs.drop i=(J,G,rt)::rs.drop (i+1):=by
    obtain⟨hl,he⟩:=qI.1 cB;rw[qL hl,he]
   rw[eZ]at fE;simp only at fE;obtain⟨g,o,aR,eN,c0,c1,c2⟩:=Aa gQ i (Sc (J,G,rt)) (by rw[zF,cB];rfl);subst aR;unfold Sc at c0 c1 c2;simp only at c0 c1 c2;have bO:∀W,Below p w' W→W.cell? ⟨g,o+i*3,none⟩=some (.int .i64 (J:Int))∧W.cell? ⟨g,o+i*3+1,none⟩=some (.int .i64 (G:Int))∧W.cell? ⟨g,o+i*3+2,none⟩=some (.string ⟨rt.toArray⟩):=fun W hb=>⟨(Gn hb eN _).trans c0,(Gn hb eN _).trans c1,(Gn hb eN _).trans c2⟩;have cT:=Ab bO;have fC:Below p w' wr:=cN.trans (U.mono (by omega));obtain⟨d0,d1,d2⟩:=bO wr fC;have eJ:=fun W=>Xy (rt.length+1) ⟨rt.toArray⟩ J G W (by rw[zP];simp) (by rw[zP];simp;omega) (by omega) (by rw[zP];simp;omega);have aR:=P19.toks_at J G rt;have fF:=P19.toks_len J G rt;have he:=Aa HE;rw[fM,P19.allR]at he;unfold P19.rowT at he;have dM:P19.line (rt.length+1) (J:Int) (G:Int) rt=P19.toks J G rt:=rfl;obtain⟨⟨ts,E⟩,hT⟩:∃x,P19.toks J G rt=x:=⟨_,rfl⟩;simp only[dM,hT]at eJ aR fF he;have fA:=Ab eJ;have eS:=Ab aR;have dH:=Ab he;clear eJ aR he HE fM cB hr c0 c1 c2 fC hT eZ dM bO;go_upto_region 11 with(go_at_call 71;refine(Aa fA _).mono ?_;rintro e W5 ⟨v5,rfl,cK,dF⟩)
   have jM:=dF.size;have gC:=hN.below dF;have bW:Below (p+1) W3 W5:=U.trans (dF.mono (by omega));have cD:W5.heap[h0]?=some (.cells #[.int .i64 0,.int .i64 0] 29):=(bW.block h0 (by omega)).trans aX;have dR:Below h0 w W5:=bQ.trans (bW.mono (by omega));obtain⟨e0,e1,e2⟩:=Aa cT W5 (cN.trans (bW.mono (by omega)));have bV:∀g,wr.heap.size≤g→¬M2 u6 (.slice (some ⟨gr,0,none⟩) s2.length dU) g:=fun g hg=>hN.fresh hg;clear cL U iK d0 d1 d2 dF hN;have x0:=(A9 cD).1;have x1:=(A9 cD).2;have x2:=(A8 cD).1;have x3:=(A8 cD).2;have gK:=Ab gC;have fJ:=Ab cD;clear gC;by_cases hE:E=0
   ·have gW:(E==0)=true:=by simpa using hE
    have iD:(E != 0)=false:=by simpa using hE
    have he:=Aa dH;rw[if_neg (by simpa using hE)]at he;have dI:=Ab he;clear he dH hE;by_cases hc:decide (i=0)=true∧0<G
    ·have fD:((i:Int)==0)=true:=by have:=hc.1;simp at this;simp[this]
     have iI:((G:Int) != 0)=true:=by have:=hc.2;simp;omega
     have he:=Aa dI;rw[if_pos hc]at he;have HF:=Ab he;clear he dI hc;go_wp2;go_region
     all_goals go_wp2
     all_goals (
      refine qW (As rfl _ _ _ _ _ rfl (qX _ _ _ _ _ _ _ (Db (Da (Aa fJ) _) _) Tryz.underlying29 rfl (by kernel_rfl))) rfl ⟨_,by rw[Aa HF];rfl,?_,?_⟩
      ·rw[Aa HF];exact World.ownsRow_nil _ _ _ _
      ·rw[bF]
       exact En (D8 (D8 (dR) (by omega) (by omega)) (by omega) (by simp;omega)))
    ·have he:=Aa dI;rw[if_neg hc]at he;have bI:=Ab he
     have eP:((i:Int)==0)=false∨(((i:Int)==0)=true∧((G:Int) != 0)=false):=by
      rcases Nat.eq_zero_or_pos i with h|h
      ·right
       refine⟨by simp[h],?_⟩;have h3:¬0<G:=fun h2=>hc ⟨by simp[h],h2⟩;simp;omega
      ·left;simp;omega
     clear he dI hc fA;go_cut [52] from 39 to 52 (fun c wx=>c=.bool false∧W5=wx)
     case first=>
      rcases eP with fD|⟨fD,iI⟩;all_goals go_wp2
      all_goals go_meet
      all_goals exact⟨rfl,rfl⟩
     case rest=>
      obtain⟨rfl,rfl⟩:=hcut;have aR:=Aa eS;have dL:∀t∈ts,t.2.2.1=(J:Int)∧(G:Int)≤t.2.2.2∧t.1<8:=fun t ht=>⟨(aR.1 t ht).1,(aR.1 t ht).2.1,(aR.1 t ht).2.2.2⟩;have dP:∀t∈ts.head?,t.2.2.2=(G:Int):=aR.2.1;have dO:∀t∈ts.tail,(G:Int)<t.2.2.2:=aR.2.2;have gB:=Ab dL;have fZ:=Ab dP;have fB:=Ab dO;obtain⟨ta,gJ,fY,rfl⟩:=E8 cK
      have fQ:gJ=ts.length:=by
       rcases cK.2 with⟨h1,h2⟩|⟨g,cap,jK,h1,_⟩
       ·rw[h1]at cK;injection h1 with _ h3;omega
       ·injection h1 with _ h3
      subst fQ;obtain⟨m,hm⟩:∃m,ts.length=m:=⟨_,rfl⟩;rw[hm]at fF;have dB:=Ab cK;have HM:=Ab hm;have jL:(m:Int)≤9223372036854775807:=by omega
      clear aR dL dP dO eS cK;simp only[hm];obtain⟨M5,eE⟩:∃M,M2 u6 (.slice (some ⟨gr,0,none⟩) s2.length dU)=M:=⟨_,rfl⟩;simp only[eE]at bV;have gP:=Ab eE;clear eE;go_wp2
      go_loopg [6,7,12] m (fun f s6 s7 gZ wx=>∃(j:Nat) (o3:List Tk) (s3:List Int),j+f=m∧gZ=.int .i64 j∧P19.Row s3∧s3.length≤16∧o3.length+2*f+(if j=0 then 20 else 0)≤o2.length+40*(rt.length+1) ∧
       Wg wx (p+1) s6 s7 o3 s3∧Hid (Au M5 W5 (M2 s6 s7) wx)∧Below (p+1) W3 wx ∧
       Hid (P19.adds J true 0 ts o2 s2=P19.adds J (decide (j=0)) (if j=0 then 0 else (ts[j-1]?).elim 0 (fun(t:Tk)=>t.1)) (ts.drop j) o3 s3))
      case atStart=>exact⟨0,o2,s2,by omega,by go_num,bM,eT,by rw[if_pos rfl];omega,Aa gK,Ab (by rw[←Aa gP];exact Au.refl _ _),bW,Ab rfl⟩
      case round=>
       obtain⟨j,o3,s3,jR,rfl,aC,gA,dD,hN,HK,U,HA⟩:=hrel;have eA:p+2≤wr.heap.size:=by rw[←cU];exact U.size
       have iH:wr.heap[h0]?=some (.cells #[.int .i64 0,.int .i64 0] 29):=(U.block h0 (by omega)).trans aX;have gD:Below h0 w wr:=bQ.trans (U.mono (by omega));cases gk with
       |zero=>
        have e1:(m:Int)=(j:Int):=by omega
        have hd:ts.drop j=[]:=List.drop_eq_nil_of_le (by rw[Aa HM];omega);have ha:=Aa HA;rw[hd]at ha;have fH:P19.adds J true 0 ts o2 s2=(0,o3,s3):=ha;have he:=Aa bI;rw[fH,if_neg (by simp)]at he;have iF:=Ab he;clear ha fH hd HA bI he;go_wp2;go_roundg g'
        case measure=>omega
        case rel=>exact⟨i+1,o3,s3,J,by omega,rfl,by go_num,aC,gA,by revert dD;split<;>omega,hN,U,by rw[show decide (i+1=0)=false from by simp];exact iF⟩
       |succ f=>
        have iQ:(j:Int)<(m:Int):=by omega
        have jP:IntKind.i64.wrap ((j:Int)+1)=(j:Int)+1:=qG _ (by omega);have cZ:j<ts.length:=by rw[Aa HM];omega
        have dE:ts[j]?=some ts[j]:=qO cZ;have dZ:ts.drop j=ts[j]::ts.drop (j+1):=qL cZ;have fT:ts[j]∈ts:=List.getElem_mem cZ;obtain⟨dC,bS,eH⟩:=Aa gB ts[j] fT
        have cJ:0<j→(G:Int)<ts[j].2.2.2:=fun h0=>Aa fB ts[j] (by
         cases ts with
         |nil=>simp at cZ
         |cons a r=>
          cases j with
          |zero=>omega
          | succ j=>simp)
        have cF:j=0→ts[j].2.2.2=(G:Int):=fun h0=>by
         subst h0;exact Aa fZ ts[0] (by rw[List.head?_eq_getElem?];exact dE)
        obtain⟨⟨k,tx,tn,tc⟩,ht⟩:∃t,ts[j]=t:=⟨_,rfl⟩;rw[ht]at dE dZ dC bS cJ cF eH;simp only at dC bS cJ cF eH;subst dC;have ha:=Aa HA;rw[dZ,P19.adds]at ha;obtain⟨R,eM⟩:∃R,P19.turn (decide (j=0)) (if j=0 then 0 else (ts[j-1]?).elim 0 (fun(t:Tk)=>t.1)) J (k,tx,J,tc) o3 s3=R:=⟨_,rfl⟩;rw[eM]at ha;have dW:0<j→∃t',ts[j-1]?=some t':=fun h0=>⟨ts[j-1],qO (by omega)⟩;have cX:=Ab eM;have aD:=Ab ha;have bT:=Ab dE;have dK:=Ab dW;clear ha HA dZ eM dE ht dW fT eH;cases s3 with
        |nil=>exact absurd rfl (P19.row_ne aC)
        |cons x s4=>
         obtain⟨eW,bZ,hU,_,_⟩:=hN.row.form (by simp);subst hU;have bD:X0 W3 W5 p M5 u6 (.slice (some ⟨eW,0,none⟩) (x::s4).reverse.length bZ) o3 (x::s4) wr:=⟨hN,Aa HK,U,eA⟩;have eG:(x::s4).reverse.length=s4.length+1:=by simp
         rw[eG]at bD ⊢;simp only[qE]at gA;have jS:=Ln (show wr.ownsRow (p+1) 3 1 (.slice (some ⟨eW,0,none⟩) (s4.length+1) bZ) (s4.length+1) _ from by have:=bD.ref.row;unfold Gd at this;rw[eG]at this;exact this);have iM:=bD.ref.row.cell (by simp) (j:=s4.length) (z:=x) (by simp);have bY:∀g,(Value.slice ta ts.length fY).ownBlock=some g→¬M5 g:=fun g hg=>bV g ((World.ownsRow.lt (Aa dB) g hg).1);obtain⟨g5,iO,eQ,jI,_⟩:=Lo (bD.toks (Aa dB) bY) (Aa bT);injection eQ with eQ _ fX;subst eQ;subst fX
         have dX:∀W v r o s,X0 W3 W5 p M5 v r o s W→W.cell? ⟨g5,j*4,none⟩=some (.int .u8 k)∧W.cell? ⟨g5,j*4+1,none⟩=some (.string ⟨tx.toArray⟩)∧W.cell? ⟨g5,j*4+2,none⟩=some (.int .i64 J)∧W.cell? ⟨g5,j*4+3,none⟩=some (.int .i64 tc):=fun W v r o s h=>by
          obtain⟨g',fO,S,_,q0,q1,q2,q3⟩:=Lo (h.toks (Aa dB) bY) (Aa bT);injection S with S _ _;injection S with S;injection S with S;subst S;exact⟨q0,q1,q2,q3⟩
         have eB:∀W v r o' s,X0 W3 W5 p M5 v r o' s W→W.cell? ⟨g,o+i*3,none⟩=some (.int .i64 (J:Int))∧W.cell? ⟨g,o+i*3+1,none⟩=some (.int .i64 (G:Int)):=fun W v r o' s h=>by
          obtain⟨q0,q1,_⟩:=Aa cT W (cN.trans (h.bel.mono (by omega)));exact⟨q0,q1⟩
         have fR:0<j→∃kp:Nat,(ts[j-1]?).elim 0 (fun(t:Tk)=>t.1)=kp∧wr.cell? ⟨g5,(j-1)*4,none⟩=some (.int .u8 kp):=fun h0=>by
          obtain⟨t',fL⟩:=Aa dK h0;obtain⟨g',fO,S,_,q0,_⟩:=Lo (bD.toks (Aa dB) bY) fL;injection S with S _ _;injection S with S;injection S with S;subst S;exact⟨_,by rw[fL];rfl,q0⟩
         obtain⟨l0,l1⟩:=eB _ _ _ _ _ bD;obtain⟨q0,q1,q2,q3⟩:=dX _ _ _ _ _ bD;have cG:=Ab dX;have eU:=Ab eB;have eI:=Ab fR;have aY:=Ab bD;clear dX eB fR bD hN HK U iH gD bY dK eG;have jX:IntKind.i64.wrap ((s4.length:Int)+1-1)=(s4.length:Int):=by rw[Int.add_sub_cancel];exact qG _ (by omega)
         have iL:(0:Int)≤(G:Int):=by omega
         have iW:(s4.length:Int)+1≤(bZ:Int):=by omega
         have jC:(s4.length:Int)≤(bZ:Int):=by omega
         have dS:o3.length+2*(f+1)+(if j=0 then 20 else 0)≤o2.length+40*(rt.length+1):=dD;have iX:o2.length+40*(rt.length+1)≤100000000:=by omega
         rcases Nat.eq_zero_or_pos j with hj|hj
         ·subst hj;have gL:=cF rfl;subst gL;have D:=Aa cX;rw[show decide ((0:Nat)=0)=true from rfl,if_pos rfl]at D;rw[if_pos rfl]at dS;have bH:Hid (∀W v r o s,X0 W3 W5 p M5 v r o s W→W.cell? ⟨g5,0,none⟩=some (.int .u8 k)∧W.cell? ⟨g5,1,none⟩=some (.string ⟨tx.toArray⟩)∧W.cell? ⟨g5,2,none⟩=some (.int .i64 J)∧W.cell? ⟨g5,3,none⟩=some (.int .i64 G)):=Ab (fun W v r o s h=>by have h5:=Aa cG W v r o s h;simpa using h5);obtain⟨q0,q1,q2,q3⟩:=Aa bH _ _ _ _ _ (Aa aY);clear cX eI dD cJ cF cG;unfold P19.turn at D;by_cases cR:(G:Int)<x
          ·rw[if_pos ⟨rfl,cR⟩]at D;obtain⟨⟨c1,c2⟩,hc⟩:∃c,P19.close (J:Int) (G:Int) (G:Int) (x::s4)=c:=⟨_,rfl⟩;simp only[hc]at D;have aS:=Ab D;have HC:=Ab hc;clear D hc;go_wp2
           go_loopg [6,7] (s4.length+1) (fun q s6 s7 wx=>∃(o4:List Tk) (s5:List Int),Hid (s5.length=q)∧P19.Row s5∧s5.length≤16∧o4.length+s5.length≤o3.length+16∧X0 W3 W5 p M5 s6 s7 o4 s5 wx ∧
            Hid (o3++c1=o4++(P19.close J G G s5).1)∧Hid (c2=(P19.close J G G s5).2))
           case atStart=>exact⟨o3,x::s4,Ab rfl,aC,by simp;omega,by simp;omega,Aa aY,Ab (by rw[Aa HC]),Ab (by rw[Aa HC])⟩
           case round=>
            obtain⟨o4,s5,hq,bP,eX,gY,hS,H1,H2⟩:=hrel;cases s5 with
            |nil=>exact absurd rfl (P19.row_ne bP)
            |cons y s6=>
             obtain⟨gq,bL,gS,_,_⟩:=hS.ref.row.form (by simp);subst gS;rw[show (y::s6).reverse.length=s6.length+1 from by simp]at hS ⊢;simp only[qE]at eX gY;have iS:=Ln (show wr.ownsRow (p+1) 3 1 (.slice (some ⟨gq,0,none⟩) (s6.length+1) bL) (s6.length+1) _ from by have:=hS.ref.row;unfold Gd at this;rw[show (y::s6).reverse.length=s6.length+1 from by simp]at this;exact this);have gN:=hS.ref.row.cell (by simp) (j:=s6.length) (z:=y) (by simp);have jT:IntKind.i64.wrap ((s6.length:Int)+1-1)=(s6.length:Int):=by rw[Int.add_sub_cancel];exact qG _ (by omega)
             have jB:(s6.length:Int)+1≤(bL:Int):=by omega
             have iN:(s6.length:Int)≤(bL:Int):=by omega
             have iU:s6.length≤bL:=by omega
             have iP:(bL:Int)≤9223372036854775807:=by omega
             obtain⟨z0,z1⟩:=Aa eU _ _ _ _ _ hS;have HS:=Ab hS;clear hS;by_cases hy:(G:Int)<y
             ·have e1:=Aa H1;have e2:=Aa H2;rw[P19.close,if_pos hy]at e1 e2;have E1:=Ab e1;have E2:=Ab e2;have eO:=P19.row_pop bP (by omega);clear e1 e2 H1 H2;go_wp2;go_quiet (fail)
              have fI:=((Aa HS).drewN nq);have fS:=fI.pop;have eC:=Ab fS;clear fI fS;obtain⟨z2,z3⟩:=Aa eU _ _ _ _ _ (Aa eC)
              go_wp2_with (first
               |(go_at_call 72;refine(Oq _ _ _ _ _).mono ?_;rintro e w2 ⟨rfl,aT⟩;have aO:=Ab (((Aa eC).below aT).alloc (.cells #[.int .u8 (2:Nat),.string ⟨#[]⟩,.int .i64 J,.int .i64 G] 124));have bE:=Ab (Fe w2 (.int .u8 (2:Nat)) (.string ⟨#[]⟩) (.int .i64 J) (.int .i64 G) 124);have cH:p+1≤w2.heap.size:=(by have:=((Aa eC).below aT).big;omega))
               | (at_builtin;refine Jn (B:=p+1) (t:=(2,[],J,G)) rfl (.tmp 107) (.tmp 115) rfl rfl (Aa aO).ref.toks w2.heap.size 1 rfl (Aa bE) (by omega) (by rw[qF];omega) ?_;intro g4 bA w4 Y Q aQ))
              have bU:=(Aa aO).app0 (v':=.slice (some ⟨g4,0,none⟩) (o4.length+1) bA) Q Y aQ;go_roundg (gk-1)
              case measure=>have h5:s6.length+1=gk:=Aa hq;omega
              case rel=>exact⟨o4++[((2,[],J,G):Tk)],s6,Ab (by have h5:s6.length+1=gk:=Aa hq;omega),eO,by omega,by simp;omega,bU,Ab (by rw[Aa E1];simp),E2⟩
             ·have e1:=Aa H1;have e2:=Aa H2;rw[P19.close,if_neg hy]at e1 e2;simp only[List.append_nil]at e1;have jO:y≤(G:Int):=by omega
              have D:=Aa aS;rw[e2,e1]at D;have dN:(if y≠(G:Int) then (3,[],[]) else (0,o4++[(k,tx,(J:Int),(G:Int))],y::s6))=R:=D;have bX:=Ab dN;clear e1 e2 H1 H2 D dN aS;by_cases cA:y=(G:Int)
              ·have iB:(y != (G:Int))=false:=by simpa using cA
               have D:=Aa bX;rw[if_neg (by simpa using cA)]at D;have aE:=Ab D.symm;clear D bX cA;go_wp2;go_quiet (fail)
               generalize nq=na;go_wp2;go_quiet (fail)
               go_upto_region 31 with fail
               have aZ:=Ab ((Aa HS).drewN (na+nq));obtain⟨dJ,dG,dA,cW⟩:=Aa bH _ _ _ _ _ (Aa aZ);have aM:=Ab ((Aa aZ).alloc (.cells #[.int .u8 k,.string ⟨tx.toArray⟩,.int .i64 J,.int .i64 G] 124));have bB:=Ab (Fe (wr.drewN (na+nq)) (.int .u8 k) (.string ⟨tx.toArray⟩) (.int .i64 J) (.int .i64 G) 124);have ha:=Aa aD;rw[Aa aE,if_neg (by simp)]at ha;simp only at ha;have bC:=Ab ha;have cV:p+1≤(wr.drewN (na+nq)).heap.size:=by have:=(Aa aZ).big;omega
               have aJ:(o4).length+1≤1000000000:=by omega
               have aK:=Ab (show (o4).length+1+2*f+0≤o2.length+40*(rt.length+1) by omega);have aG:P19.Row (y::s6):=bP;have aI:(y::s6).length≤16:=by simp;omega
               clear ha aD;go_wp2_with (at_builtin;refine Jn (B:=p+1) (t:=(k,tx,J,G)) rfl (.tmp 178) (.tmp 183) rfl rfl (Aa aM).ref.toks (wr.drewN (na+nq)).heap.size 1 rfl (Aa bB) aJ (by rw[qF];omega) ?_;intro g2 aN w9 X N aL)
               have I:=(Aa aM).app0 (v':=.slice (some ⟨g2,0,none⟩) ((o4).length+1) aN) N X aL;try simp only[qH,qT,List.length_reverse,qE,qP,Nat.zero_add]at I
               go_roundg f
               case measure=>omega
               case rel=>exact⟨0+1,(o4)++[((k,tx,J,G):Tk)],y::s6,by omega,by go_num,aG,aI,by rw[if_neg (by omega),qH,qT];exact Aa aK,I.ref,Ab I.keep,I.bel,by rw[show decide (0+1=0)=false from by simp,if_neg (by omega),zL,Aa bT];exact bC⟩
              ·have iB:(y != (G:Int))=true:=by simpa using cA
               have D:=Aa bX;rw[if_pos cA]at D;have ha:=Aa aD;rw[←D,if_pos (by simp)]at ha;have he:=Aa bI;rw[ha,if_pos (by simp)]at he;have HF:=Ab he;clear D bX cA ha aD he bI;go_wp2;go_quiet (fail)
               generalize nq=na;go_wp2;go_quiet (fail)
               have aZ:=Ab (((Aa HS).drewN na).drewN nq);obtain⟨WD,gE⟩:∃W,(wr.drewN na).drewN nq=W:=⟨_,rfl⟩;rw[gE]at aZ ⊢;clear gE;have aB:=((Aa aZ).bel.block h0 (by omega)).trans aX;have xa:=(A9 aB).1;have xb:=(A9 aB).2;have xc:=(A8 aB).1;have xd:=(A8 aB).2;clear aB;go_wp2;refine qW (As rfl _ _ _ _ _ rfl (qX _ _ _ _ _ _ _ (Db (Da (((Aa aZ).bel.block h0 (by omega)).trans aX) _) _) Tryz.underlying29 rfl (by kernel_rfl))) rfl ⟨_,by rw[Aa HF];rfl,?_,?_⟩
               ·rw[Aa HF];exact World.ownsRow_nil _ _ _ _
               ·try rw[bF]
                exact D8 (D8 (bQ.trans ((Aa aZ).bel.mono (by omega))) (by omega) (by have:=(Aa aZ).big;omega)) (by omega) (by have:=(Aa aZ).big;simp;omega)
          ·rw[if_neg (fun h=>cR h.2)]at D;have iT:x≤(G:Int):=by omega
           by_cases eD:x<(G:Int)
           ·rw[if_pos (.inl ⟨rfl,eD⟩)]at D;have iE:=P19.row_top aC;have jA:0≤x:=iE;have aS:=Ab D;clear D;have cI:=(Aa aY).alloc (.cells #[.int .i64 G] 3);have bR:=Ab cI;have aU:(wr.alloc (.cells #[.int .i64 G] 3)).cell? ⟨wr.heap.size,0,none⟩=some (.int .i64 G):=(Boxed.new wr 3 (.int .i64 G)).cell;have cS:=Ab aU;have bG:p+1≤(wr.alloc (.cells #[.int .i64 G] 3)).heap.size:=by rw[qF];omega
            have bJ:(x::s4).reverse.length+1≤1000000000:=by simp;omega
            clear cI aU;go_upto_region 28 with(at_builtin;refine Xc (B:=p+1) rfl (.tmp 155) (.tmp 161) rfl rfl (Aa bR).ref.row wr.heap.size 1 rfl (Aa cS) bJ bG ?_;intro g1 cP w1 aW aH bK)
            have I:=(Aa bR).app1 (s':=G::x::s4) (r':=.slice (some ⟨g1,0,none⟩) ((x::s4).reverse.length+1) cP) aH (by have h5:=aW;rw[←List.reverse_cons]at h5;exact h5) bK;have Z:=Ab I;clear I aW aH bK bR cS bG bJ;by_cases aA:16≤(x::s4).length
            ·have D:=Aa aS;rw[if_pos aA]at D;have ha:=Aa aD;rw[←D,if_pos (by simp)]at ha;have he:=Aa bI;rw[ha,if_pos (by simp)]at he;have HF:=Ab he;have eL:(16:Int)<(s4.length:Int)+1+1:=by simp only[qE]at aA;omega
             clear D aS ha aD he bI;have aB:=((Aa Z).bel.block h0 (by omega)).trans aX;have xa:=(A9 aB).1;have xb:=(A9 aB).2;have xc:=(A8 aB).1;have xd:=(A8 aB).2;clear aB;go_wp2;refine qW (As rfl _ _ _ _ _ rfl (qX _ _ _ _ _ _ _ (Db (Da (((Aa Z).bel.block h0 (by omega)).trans aX) _) _) Tryz.underlying29 rfl (by kernel_rfl))) rfl ⟨_,by rw[Aa HF];rfl,?_,?_⟩
             ·rw[Aa HF];exact World.ownsRow_nil _ _ _ _
             ·try rw[bF]
              exact D8 (D8 (bQ.trans ((Aa Z).bel.mono (by omega))) (by omega) (by have:=(Aa Z).big;omega)) (by omega) (by have:=(Aa Z).big;simp;omega)
            ·have D:=Aa aS;rw[if_neg aA]at D;have aE:=Ab D.symm;have eL:(s4.length:Int)+1+1≤16:=by simp only[qE]at aA;omega
             clear D aS;obtain⟨m0,m1,m2,m3⟩:=Aa bH _ _ _ _ _ (Aa Z)
             go_upto_region 31 with(first
              |(go_at_call 72;refine(Oq _ _ _ _ _).mono ?_;rintro e w2 ⟨rfl,aT⟩;have cQ:=Ab ((Aa Z).below aT);have aO:=Ab (((Aa Z).below aT).alloc (.cells #[.int .u8 (1:Nat),.string ⟨#[]⟩,.int .i64 J,.int .i64 G] 124));have bE:=Ab (Fe w2 (.int .u8 (1:Nat)) (.string ⟨#[]⟩) (.int .i64 J) (.int .i64 G) 124);have cH:p+1≤w2.heap.size:=(by have:=(Aa cQ).big;omega))
              | (at_builtin;refine Jn (B:=p+1) (t:=(1,[],J,G)) rfl (.tmp 168) (.tmp 176) rfl rfl (Aa aO).ref.toks w2.heap.size 1 rfl (Aa bE) (by omega) (by rw[qF];omega) ?_;intro g4 bA w4 Y Q aQ))
             have bU:=(Aa aO).app0 (v':=.slice (some ⟨g4,0,none⟩) (o3.length+1) bA) Q Y aQ;have bN:=Ab bU;clear bU Y Q aQ aO bE Z cQ;obtain⟨dJ,dG,dA,cW⟩:=Aa bH _ _ _ _ _ (Aa bN);have aM:=Ab ((Aa bN).alloc (.cells #[.int .u8 k,.string ⟨tx.toArray⟩,.int .i64 J,.int .i64 G] 124));have bB:=Ab (Fe (w4) (.int .u8 k) (.string ⟨tx.toArray⟩) (.int .i64 J) (.int .i64 G) 124);have ha:=Aa aD;rw[Aa aE,if_neg (by simp)]at ha;simp only at ha;have bC:=Ab ha;have cV:p+1≤(w4).heap.size:=by have:=(Aa bN).big;omega
             have aJ:(o3++[((1,[],J,G):Tk)]).length+1≤1000000000:=by simp;omega
             have aK:=Ab (show (o3++[((1,[],J,G):Tk)]).length+1+2*f+0≤o2.length+40*(rt.length+1) by simp;omega);have aG:P19.Row ((G:Int)::x::s4):=P19.row_push aC (by omega);have aI:((G:Int)::x::s4).length≤16:=by simp;omega
             clear ha aD;go_wp2_with (at_builtin;refine Jn (B:=p+1) (t:=(k,tx,J,G)) rfl (.tmp 178) (.tmp 183) rfl rfl (Aa aM).ref.toks (w4).heap.size 1 rfl (Aa bB) aJ (by rw[qF];omega) ?_;intro g2 aN w9 X N aL)
             have I:=(Aa aM).app0 (v':=.slice (some ⟨g2,0,none⟩) ((o3++[((1,[],J,G):Tk)]).length+1) aN) N X aL;try simp only[qH,qT,List.length_reverse,qE,qP,Nat.zero_add]at I
             go_roundg f
             case measure=>omega
             case rel=>exact⟨0+1,(o3++[((1,[],J,G):Tk)])++[((k,tx,J,G):Tk)],(G:Int)::x::s4,by omega,by go_num,aG,aI,by rw[if_neg (by omega),qH,qT];exact Aa aK,I.ref,Ab I.keep,I.bel,by rw[show decide (0+1=0)=false from by simp,if_neg (by omega),zL,Aa bT];exact bC⟩
           ·have iJ:x=(G:Int):=by omega
            rw[if_neg (fun h=>h.elim (fun h=>eD h.2) (fun h=>by cases h.1))]at D;have aE:=Ab D.symm;have jJ:(G:Int)≤x:=by omega
            clear D iJ eD cR;go_upto_region 31 with fail
            obtain⟨dJ,dG,dA,cW⟩:=Aa bH _ _ _ _ _ (Aa aY);have aM:=Ab ((Aa aY).alloc (.cells #[.int .u8 k,.string ⟨tx.toArray⟩,.int .i64 J,.int .i64 G] 124));have bB:=Ab (Fe (wr) (.int .u8 k) (.string ⟨tx.toArray⟩) (.int .i64 J) (.int .i64 G) 124);have ha:=Aa aD;rw[Aa aE,if_neg (by simp)]at ha;simp only at ha;have bC:=Ab ha;have cV:p+1≤(wr).heap.size:=by have:=(Aa aY).big;omega
            have aJ:(o3).length+1≤1000000000:=by omega
            have aK:=Ab (show (o3).length+1+2*f+0≤o2.length+40*(rt.length+1) by omega);have aG:P19.Row (x::s4):=aC;have aI:(x::s4).length≤16:=by simp;omega
            clear ha aD;go_wp2_with (at_builtin;refine Jn (B:=p+1) (t:=(k,tx,J,G)) rfl (.tmp 178) (.tmp 183) rfl rfl (Aa aM).ref.toks (wr).heap.size 1 rfl (Aa bB) aJ (by rw[qF];omega) ?_;intro g2 aN w9 X N aL)
            have I:=(Aa aM).app0 (v':=.slice (some ⟨g2,0,none⟩) ((o3).length+1) aN) N X aL;try simp only[qH,qT,List.length_reverse,qE,qP,Nat.zero_add]at I
            go_roundg f
            case measure=>omega
            case rel=>exact⟨0+1,(o3)++[((k,tx,J,G):Tk)],x::s4,by omega,by go_num,aG,aI,by rw[if_neg (by omega),qH,qT];exact Aa aK,I.ref,Ab I.keep,I.bel,by rw[show decide (0+1=0)=false from by simp,if_neg (by omega),zL,Aa bT];exact bC⟩
         ·have jQ:((j:Int)==0)=false:=by simp;omega
          have jN:(0:Int)<(j:Int):=by omega
          obtain⟨kp,fW,gO⟩:=Aa eI hj;have D:=Aa cX;rw[show decide (j=0)=false from by simp;omega,if_neg (by omega),fW]at D;rw[if_neg (by omega)]at dS;have fK:(0:Int)<tc:=by have:=cJ hj;omega
          have eV:IntKind.i64.wrap ((j:Int)-1)=((j-1:Nat):Int):=by rw[show ((j:Int)-1)=((j-1:Nat):Int) from by omega];exact qG _ (by omega)
          have gG:((j-1:Nat):Int)<(m:Int):=by omega
          have fN:(j:Int)-1=((j-1:Nat):Int):=by omega
          obtain⟨jp,fP⟩:∃jp,j-1=jp:=⟨_,rfl⟩;rw[fP]at gO eV gG fN;clear cX eI dD cJ cF fW fP;unfold P19.turn at D;rw[if_neg (fun h=>by cases h.1)]at D;by_cases h3:kp=3
          ·have eR:((kp:Int)==3)=true:=by rw[h3];rfl
           rw[if_pos (.inr ⟨rfl,h3⟩)]at D;clear h3;have aS:=Ab D;clear D;have cI:=(Aa aY).alloc (.cells #[.int .i64 tc] 3);have bR:=Ab cI;have aU:(wr.alloc (.cells #[.int .i64 tc] 3)).cell? ⟨wr.heap.size,0,none⟩=some (.int .i64 tc):=(Boxed.new wr 3 (.int .i64 tc)).cell;have cS:=Ab aU;have bG:p+1≤(wr.alloc (.cells #[.int .i64 tc] 3)).heap.size:=by rw[qF];omega
           have bJ:(x::s4).reverse.length+1≤1000000000:=by simp;omega
           clear cI aU;go_upto_region 28 with(at_builtin;refine Xc (B:=p+1) rfl (.tmp 155) (.tmp 161) rfl rfl (Aa bR).ref.row wr.heap.size 1 rfl (Aa cS) bJ bG ?_;intro g1 cP w1 aW aH bK)
           have I:=(Aa bR).app1 (s':=tc::x::s4) (r':=.slice (some ⟨g1,0,none⟩) ((x::s4).reverse.length+1) cP) aH (by have h5:=aW;rw[←List.reverse_cons]at h5;exact h5) bK;have Z:=Ab I;clear I aW aH bK bR cS bG bJ;by_cases aA:16≤(x::s4).length
           ·have D:=Aa aS;rw[if_pos aA]at D;have ha:=Aa aD;rw[←D,if_pos (by simp)]at ha;have he:=Aa bI;rw[ha,if_pos (by simp)]at he;have HF:=Ab he;have eL:(16:Int)<(s4.length:Int)+1+1:=by simp only[qE]at aA;omega
            clear D aS ha aD he bI;have aB:=((Aa Z).bel.block h0 (by omega)).trans aX;have xa:=(A9 aB).1;have xb:=(A9 aB).2;have xc:=(A8 aB).1;have xd:=(A8 aB).2;clear aB;go_wp2;refine qW (As rfl _ _ _ _ _ rfl (qX _ _ _ _ _ _ _ (Db (Da (((Aa Z).bel.block h0 (by omega)).trans aX) _) _) Tryz.underlying29 rfl (by kernel_rfl))) rfl ⟨_,by rw[Aa HF];rfl,?_,?_⟩
            ·rw[Aa HF];exact World.ownsRow_nil _ _ _ _
            ·try rw[bF]
             exact D8 (D8 (bQ.trans ((Aa Z).bel.mono (by omega))) (by omega) (by have:=(Aa Z).big;omega)) (by omega) (by have:=(Aa Z).big;simp;omega)
           ·have D:=Aa aS;rw[if_neg aA]at D;have aE:=Ab D.symm;have eL:(s4.length:Int)+1+1≤16:=by simp only[qE]at aA;omega
            clear D aS;obtain⟨m0,m1,m2,m3⟩:=Aa cG _ _ _ _ _ (Aa Z)
            go_upto_region 31 with(first
             |(go_at_call 72;refine(Oq _ _ _ _ _).mono ?_;rintro e w2 ⟨rfl,aT⟩;have cQ:=Ab ((Aa Z).below aT);have aO:=Ab (((Aa Z).below aT).alloc (.cells #[.int .u8 (1:Nat),.string ⟨#[]⟩,.int .i64 J,.int .i64 tc] 124));have bE:=Ab (Fe w2 (.int .u8 (1:Nat)) (.string ⟨#[]⟩) (.int .i64 J) (.int .i64 tc) 124);have cH:p+1≤w2.heap.size:=(by have:=(Aa cQ).big;omega))
             | (at_builtin;refine Jn (B:=p+1) (t:=(1,[],J,tc)) rfl (.tmp 168) (.tmp 176) rfl rfl (Aa aO).ref.toks w2.heap.size 1 rfl (Aa bE) (by omega) (by rw[qF];omega) ?_;intro g4 bA w4 Y Q aQ))
            have bU:=(Aa aO).app0 (v':=.slice (some ⟨g4,0,none⟩) (o3.length+1) bA) Q Y aQ;have bN:=Ab bU;clear bU Y Q aQ aO bE Z cQ;obtain⟨dJ,dG,dA,cW⟩:=Aa cG _ _ _ _ _ (Aa bN);have aM:=Ab ((Aa bN).alloc (.cells #[.int .u8 k,.string ⟨tx.toArray⟩,.int .i64 J,.int .i64 tc] 124));have bB:=Ab (Fe (w4) (.int .u8 k) (.string ⟨tx.toArray⟩) (.int .i64 J) (.int .i64 tc) 124);have ha:=Aa aD;rw[Aa aE,if_neg (by simp)]at ha;simp only at ha;have bC:=Ab ha;have cV:p+1≤(w4).heap.size:=by have:=(Aa bN).big;omega
            have aJ:(o3++[((1,[],J,tc):Tk)]).length+1≤1000000000:=by simp;omega
            have aK:=Ab (show (o3++[((1,[],J,tc):Tk)]).length+1+2*f+0≤o2.length+40*(rt.length+1) by simp;omega);have aG:P19.Row ((tc:Int)::x::s4):=P19.row_push aC fK;have aI:((tc:Int)::x::s4).length≤16:=by simp;omega
            clear ha aD;go_wp2_with (at_builtin;refine Jn (B:=p+1) (t:=(k,tx,J,tc)) rfl (.tmp 178) (.tmp 183) rfl rfl (Aa aM).ref.toks (w4).heap.size 1 rfl (Aa bB) aJ (by rw[qF];omega) ?_;intro g2 aN w9 X N aL)
            have I:=(Aa aM).app0 (v':=.slice (some ⟨g2,0,none⟩) ((o3++[((1,[],J,tc):Tk)]).length+1) aN) N X aL;try simp only[qH,qT,List.length_reverse,qE,qP,Nat.zero_add]at I
            go_roundg f
            case measure=>omega
            case rel=>exact⟨j+1,(o3++[((1,[],J,tc):Tk)])++[((k,tx,J,tc):Tk)],(tc:Int)::x::s4,by omega,by go_num,aG,aI,by rw[if_neg (by omega),qH,qT];exact Aa aK,I.ref,Ab I.keep,I.bel,by rw[show decide (j+1=0)=false from by simp,if_neg (by omega),zL,Aa bT];exact bC⟩
          ·have eR:((kp:Int)==3)=false:=by simp;omega
           rw[if_neg (fun h=>h.elim (fun h=>by cases h.1) (fun h=>h3 h.2))]at D;have aE:=Ab D.symm;clear D h3;go_upto_region 31 with fail
           obtain⟨dJ,dG,dA,cW⟩:=Aa cG _ _ _ _ _ (Aa aY);have aM:=Ab ((Aa aY).alloc (.cells #[.int .u8 k,.string ⟨tx.toArray⟩,.int .i64 J,.int .i64 tc] 124));have bB:=Ab (Fe (wr) (.int .u8 k) (.string ⟨tx.toArray⟩) (.int .i64 J) (.int .i64 tc) 124);have ha:=Aa aD;rw[Aa aE,if_neg (by simp)]at ha;simp only at ha;have bC:=Ab ha;have cV:p+1≤(wr).heap.size:=by have:=(Aa aY).big;omega
           have aJ:(o3).length+1≤1000000000:=by omega
           have aK:=Ab (show (o3).length+1+2*f+0≤o2.length+40*(rt.length+1) by omega);have aG:P19.Row (x::s4):=aC;have aI:(x::s4).length≤16:=by simp;omega
           clear ha aD;go_wp2_with (at_builtin;refine Jn (B:=p+1) (t:=(k,tx,J,tc)) rfl (.tmp 178) (.tmp 183) rfl rfl (Aa aM).ref.toks (wr).heap.size 1 rfl (Aa bB) aJ (by rw[qF];omega) ?_;intro g2 aN w9 X N aL)
           have I:=(Aa aM).app0 (v':=.slice (some ⟨g2,0,none⟩) ((o3).length+1) aN) N X aL;try simp only[qH,qT,List.length_reverse,qE,qP,Nat.zero_add]at I
           go_roundg f
           case measure=>omega
           case rel=>exact⟨j+1,(o3)++[((k,tx,J,tc):Tk)],x::s4,by omega,by go_num,aG,aI,by rw[if_neg (by omega),qH,qT];exact Aa aK,I.ref,Ab I.keep,I.bel,by rw[show decide (j+1=0)=false from by simp,if_neg (by omega),zL,Aa bT];exact bC⟩
   ·have gW:(E==0)=false:=by simpa using hE
    have iD:(E != 0)=true:=by simpa using hE
    have he:=Aa dH;rw[if_pos hE]at he;have HF:=Ab he;clear he dH hE;go_wp2;go_region
    all_goals go_wp2
    all_goals (
     refine qW (As rfl _ _ _ _ _ rfl (qX _ _ _ _ _ _ _ (Db (Da (Aa fJ) _) _) Tryz.underlying29 rfl (by kernel_rfl))) rfl ⟨_,by rw[Aa HF];rfl,?_,?_⟩
     ·rw[Aa HF];exact World.ownsRow_nil _ _ _ _
     ·rw[bF]
      exact En (D8 (D8 (dR) (by omega) (by omega)) (by omega) (by simp;omega)))
end Go.Proofs.YtnjokdbblmlhhaaGreatDoor
namespace Go.Proofs.YtnjokdbblmlhhaaGreatDoor
set_option maxHeartbeats 16000000
set_option maxRecDepth 100000
open Go.RowKit
theorem Zz(s:ByteArray)(w:World)(hs:s.size≤100000) :
  Calls Tryz.prog 34 #[.string s] w fun e w'=>∃v,e=.returned (.tuple #[v,D3 (P19.all s.data.toList).2])∧Fc w' w.heap.size v (P19.all s.data.toList).1∧Below w.heap.size w w':=by
 unfold P19.all;by_cases hf:(Bv s.data.toList).1=0
 ·rw[if_neg (by simpa using hf)];exact Yc s w hs hf
 ·rw[if_pos hf];exact(Yf s w hs hf).mono fun e w' ⟨h1,h2⟩=>⟨_,h1,World.ownsRow_nil _ _ _ _,h2⟩
theorem Qba{W:World}{D:Nat}{x y:Int}{T:TypeId}{a:Option Addr}{all:List Tk}(G:W.heap[D]?=some (.cells #[.int .i64 x,.int .i64 y] T))(hi:K9 W a all)(hne:all≠[]):¬Bj a D:=by
 rintro⟨o,rfl⟩;cases all with
 |nil=>exact hne rfl
 |cons t r=>
  obtain⟨b,o2,e,h0,_⟩:=hi 0 t rfl;injection e with e;injection e with I J;subst I;subst J;simp only[World.cell?,G]at h0;rw[show o+0*4=o from by omega]at h0
  match o,h0 with
  |0,h0=>simp at h0
  |1,h0=>simp at h0
  |o+2,h0=>simp at h0
theorem V9.two{W:World}{B rb D:Nat}{x y v0 J:Int}{T:TypeId}{all ts:List Tk}(h:V9 W B rb all ts)(N:W.heap[D]?=some (.cells #[.int .i64 x,.int .i64 y] T))(hr:D≠rb):V9 ((W.setCell ⟨D,0,none⟩ (.int .i64 v0)).setCell ⟨D,1,none⟩ (.int .i64 J)) B rb all ts:=by
 obtain⟨⟨a,c,k,g,hi,h1,h2,h3,h4,h5,h6⟩,G,hne,k8,hl⟩:=h;have hb:=Qba N hi hne;exact⟨⟨a,c,k,(Ar (by omega) _ _).trans g,hi.keep (fun r _ I=>Ar (by rintro rfl;exact hb I) _ _),h1,h2,h3,h4,h5,h6⟩,G,hne,k8,hl⟩
theorem V9.end_{W:World}{B rb:Nat}{all ts:List Tk}(h:V9 W B rb all ts):∃(a:Option Addr) (c k:Nat),W.heap[rb]?=some (.cells #[.slice a all.length c,.int .i64 k] 61)∧all.length=k+ts.length:=by
 obtain⟨⟨a,c,k,g,hi,h1,h2,h3,h4,h5,h6⟩,D,hne,k8,hl⟩:=h;have:=congrArg List.length h3;rw[qQ]at this;exact⟨a,c,k,g,by omega⟩
theorem Qab(bN:∀last f,Xe last f)(s:ByteArray)(o:Except (Int × Int) P20.T)(w:World)(hs:s.size≤3000)(ho:P20.PaR s.data.toList o) :
  Calls Tryz.prog 11 #[.string s] w (Mg w o):=by
 have aN:=Zz s;have aS:=P20.all_len20 s.data.toList;have aH:=P20.all_ok s.data.toList;rw[←zP]at aS;unfold P20.PaR at ho;obtain⟨⟨ts,e,l⟩,hp⟩:∃p,P19.all s.data.toList=p:=⟨_,rfl⟩;rw[hp]at ho aS aH;simp only[hp]at aN;unfold D3 at aN;simp only at ho aS aH aN;obtain⟨H,hH⟩:∃H,w.heap.size=H:=⟨_,rfl⟩;obtain⟨W0,bM,bA,g0,g1,cH⟩:=V6 w (.cells #[.int .u8 0,.string ⟨#[]⟩,.slice none 0 0,.slice none 0 0,.int .i64 0] 26) (.cells #[.int .i64 0,.int .i64 0] 29);rw[hH]at g0 g1 cH bA;have aU:=aN W0 (by omega);have HT:=Ab aU;have bU:=Ab bM;have bX:=Ab g0;have bL:=Ab g1;have bR:=Ab bA;have cP:=Dl;clear aN aU bM g0 g1 hp bA;go_enter Tryz.func11,Tryz.ntmps11
 go_upto_region 1 with fail
 try rw[hH]
 rw[Aa bU];go_upto_region 2 with(go_at_call 34;refine(Aa HT).mono ?_;rintro e' w1 ⟨v,rfl,aX,aL⟩)
 obtain⟨a,c,rfl,cK,cG,aZ,bG⟩:=Tq aX;obtain⟨W2,Y⟩:∃W2,w1.alloc (.cells #[.int .i64 e,.int .i64 l] 29)=W2:=⟨_,rfl⟩;have cI:=aL.size;have bB:W2.heap.size=w1.heap.size+1:=by rw[←Y];simp
 have aR:Below w.heap.size w W2:=by rw[←Y,hH];exact((Aa bR).trans (aL.mono (by omega))).alloc (by omega) _
 have k0:W2.heap[H]?=some (.cells #[.int .u8 0,.string ⟨#[]⟩,.slice none 0 0,.slice none 0 0,.int .i64 0] 26):=by rw[←Y];exact(qD _ _ _ (by omega)).trans ((aL.block _ (by omega)).trans (Aa bX))
 have k1:W2.heap[H+1]?=some (.cells #[.int .i64 0,.int .i64 0] 29):=by rw[←Y];exact(qD _ _ _ (by omega)).trans ((aL.block _ (by omega)).trans (Aa bL))
 have k2:W2.heap[w1.heap.size]?=some (.cells #[.int .i64 e,.int .i64 l] 29):=by rw[←Y];exact qB w1 _
 have aM:K9 W2 a ts:=by rw[←Y];exact aZ.keep (fun r hn hr=>qD _ _ _ (bG r hn hr))
 rw[Y];have y0:=Ad k0;have z0:=Af k1;have aO:=Ab k0;have aQ:=Ab k1;have Z:∀g,ts≠[]→Bj a g→g<w1.heap.size:=fun g hn U=>bG g hn U;obtain⟨D,hD⟩:∃D,w1.heap.size=D:=⟨_,rfl⟩;rw[hD]at k2 bB Z;try rw[hD]
 have x0:=Af k2;have bQ:=Ab k2;have cM:H+1<D:=by omega
 clear Y k0 k1 k2 aZ bG aX hD aL cI HT bX bL bR bU;by_cases he:e=0
 rotate_left
 ·rw[if_pos he]at ho;subst ho;have jn:(e != 0)=true:=by simpa using he
  clear he;go_upto_region 3 with fail
  go_region_with_o (fail)
  all_goals go_wp2
  all_goals
   have X:=Jv aR (Aa aO) (Aa aQ) (.int .u8 0) (.string ⟨#[]⟩) (.slice none 0 0) (.slice none 0 0) (.int .i64 0) (.int .i64 e) (.int .i64 l);exact qW (Al rfl _ _ _ _ _ _ _ rfl (qX _ _ _ _ _ _ _ X.h0 Tryz.underlying26 rfl (by kernel_rfl)) rfl (qX _ _ _ _ _ _ _ X.h1 Tryz.underlying29 rfl (by kernel_rfl))) rfl ⟨rfl,by subst hH;exact X.below⟩
 subst he;rw[if_neg (by simp)]at ho;by_cases hn:ts=[]
 ·rw[if_pos hn]at ho;subst ho;subst hn;go_wp2;have X:=(Jv aR (Aa aO) (Aa aQ) (.int .u8 0) (.string ⟨#[]⟩) (.slice none 0 0) (.slice none 0 0) (.int .i64 0) (.int .i64 17) (.int .i64 0)).undrew;exact qW (Al rfl _ _ _ _ _ _ _ rfl (qX _ _ _ _ _ _ _ X.h0 Tryz.underlying26 rfl (by kernel_rfl)) rfl (qX _ _ _ _ _ _ _ X.h1 Tryz.underlying29 rfl (by kernel_rfl))) rfl ⟨rfl,by subst hH;exact X.below⟩
 rw[if_neg hn]at ho;obtain⟨f,bY⟩:=ho;have jn:((ts.length:Int)==0)=false:=by rw[beq_eq_false_iff_ne];have:=zM.2 hn;omega
 -- the parser's box
 obtain⟨W3,aJ⟩:∃W3,W2.alloc (.cells #[.slice a ts.length c,.int .i64 0] 61)=W3:=⟨_,rfl⟩;have S:Below W2.heap.size W2 W3:=by rw[←aJ];exact(qV _ _).alloc (qJ _) _
 have kp:W3.heap[D+1]?=some (.cells #[.slice a ts.length c,.int .i64 0] 61):=by rw[←aJ,←bB];exact qB _ _
 have cO:W3.heap.size=D+1+1:=by rw[←aJ];simp;omega
 have hR:V9 W3 (D+1+1) (D+1) ts ts:=⟨⟨a,c,0,kp,aM.keep (fun r hn hr=>S.block r (by have:=Z r hn hr;omega)),cK,cG,rfl,by omega,fun hb=>by have:=Z _ hn hb;omega,fun g U=>by have:=Z g hn U;omega⟩,by omega,hn,fun t ht=>⟨(aH t ht).1,by have:=(aH t ht).len;unfold maxLen;omega⟩,by omega⟩;have m0:=(S.block H (by omega)).trans (Aa aO);have m1:=(S.block (H+1) (by omega)).trans (Aa aQ);have m2:=(S.block D (by omega)).trans (Aa bQ);have bZ:Below H w W3:=by rw[←hH];exact aR.trans (S.mono (by omega))
 have bE:=Ab m0;have bC:=Ab m1;have bH:=Ab m2;have bF:=Ab bZ;have bW:Fl ts=P20.lastL ts:=rfl;have bS:=Ab aJ;have cJ:=Ab bY;clear aJ S kp aM Z aH hn m0 m1 m2 bZ aR aO aQ bQ bY aS;have bT:∀q,P20.Val (P20.lastL ts) f 1 ts q→Calls Tryz.prog 35 #[.pointer (some ⟨D+1,0,none⟩),.int .i64 1] W3 (Wl W3 (D+1+1) (D+1) ts q):=fun q hq=>bN (P20.lastL ts) f 1 ts (D+1+1) (D+1) ts q W3 hR (by omega) bW (by omega) hq;have bD:=Ab bT;clear bT hR bW;go_upto_region 7 with fail
 try rw[bB]
 rw[Aa bS];clear x0 y0 z0 bS;cases Aa cJ with
 | @bad x ln h=>
  have cN:(x != 0)=true:=by have:=(P20.bad_ne _ _).1 _ _ _ _ h;simpa using this
  have cL:(x==0)=false:=by have:=(P20.bad_ne _ _).1 _ _ _ _ h;simpa using this
  have HC:=Ab (Aa bD _ h);clear h;go_upto_region 8 with(go_at_call 35;refine(Aa HC).mono ?_;rintro e' R ⟨k,t,ka,kn,kc,da,dn,dc,l2,rfl,N⟩;have q2:=((Aa N).block D (by omega) (fun e=>by injection e;omega)).trans (Aa bH);have x0:=Af q2;have aY:=(Aa N).size;have aI:D<R.heap.size:=by omega)
  obtain⟨J,G⟩:∃J,(R.setCell ⟨D,0,none⟩ (.int .i64 x)).setCell ⟨D,1,none⟩ (.int .i64 ln)=J:=⟨_,rfl⟩;have v2:J.heap[D]?=some (.cells #[.int .i64 x,.int .i64 ln] 29):=by rw[←G];exact A3 q2 _ _
  have vo:∀g,g≠D→J.heap[g]?=R.heap[g]?:=fun g U=>by rw[←G];exact Ar U _ _
  have vs:J.heap.size=R.heap.size:=by rw[←G];simp
  obtain⟨Q,I⟩:∃Q,J.alloc (.cells #[.int .u8 k,.string ⟨t.toArray⟩,.slice ka kn kc,.slice da dn dc,.int .i64 l2] 26)=Q:=⟨_,rfl⟩;have wo:∀g,g<R.heap.size→Q.heap[g]?=J.heap[g]?:=fun g U=>by rw[←I];exact qD _ _ _ (by omega)
  have p2:=(wo D aI).trans v2;have p0:=((wo H (by omega)).trans (vo H (by omega))).trans (((Aa N).block H (by omega) (fun e=>by injection e;omega)).trans (Aa bE));have p1:=((wo (H+1) (by omega)).trans (vo (H+1) (by omega))).trans (((Aa N).block (H+1) (by omega) (fun e=>by injection e;omega)).trans (Aa bC))
  have aB:Below w.heap.size w Q:=by
   rw[←I,hH];have h1:=Aa bF;have h2:=(Aa N);have h3:Below H w R:=⟨h2.os.trans h1.os,h2.tape.trans h1.tape,h2.output.trans h1.output,by have:=h1.size;omega,fun i hi=>(h2.block i (by omega) (fun e=>by injection e;omega)).trans (h1.block i hi)⟩;have h4:Below H w J:=by rw[←G];exact(h3.setCell (p:=⟨D,0,none⟩) (by show H≤D;omega) _).setCell (p:=⟨D,1,none⟩) (by show H≤D;omega) _
   exact h4.alloc (by omega) _
  have aW:D+1<Q.heap.size:=by rw[←I];simp;omega
  rw[G];try rw[vs]
  rw[I];clear x0 q2 v2 vo wo G I;have x0:=Af p2;have y0:=Ad p0;have z0:=Af p1;have aA:=Ab p0;have aC:=Ab p1;go_upto_region 11 with fail
  go_region_with_o (fail)
  all_goals go_wp2
  all_goals
   have X:=Jv aB (Aa aA) (Aa aC) (.int .u8 0) (.string ⟨#[]⟩) (.slice none 0 0) (.slice none 0 0) (.int .i64 0) (.int .i64 x) (.int .i64 ln);exact qW (Al rfl _ _ _ _ _ _ _ rfl (qX _ _ _ _ _ _ _ X.h0 Tryz.underlying26 rfl (by kernel_rfl)) rfl (qX _ _ _ _ _ _ _ X.h1 Tryz.underlying29 rfl (by kernel_rfl))) rfl ⟨rfl,by subst hH;exact X.below⟩
 | @left d tk r h=>
  have HC:=Ab (Aa bD _ h);clear h;go_upto_region 8 with(go_at_call 35;refine(Aa HC).mono ?_;rintro e' R ⟨k,t,ka,kc,ks,da,dc,ds,l2,rfl,N⟩;have q2:=((Aa N).2.2.2.2.block D (by omega) (fun e=>by injection e;omega)).trans (Aa bH);have x0:=Af q2;have aY:=(Aa N).2.2.2.2.size;have aI:D<R.heap.size:=by omega)
  obtain⟨J,G⟩:∃J,(R.setCell ⟨D,0,none⟩ (.int .i64 0)).setCell ⟨D,1,none⟩ (.int .i64 0)=J:=⟨_,rfl⟩;have v2:J.heap[D]?=some (.cells #[.int .i64 0,.int .i64 0] 29):=by rw[←G];exact A3 q2 _ _
  have vo:∀g,g≠D→J.heap[g]?=R.heap[g]?:=fun g U=>by rw[←G];exact Ar U _ _
  have vs:J.heap.size=R.heap.size:=by rw[←G];simp
  obtain⟨Q,I⟩:∃Q,J.alloc (.cells #[.int .u8 k,.string ⟨t.toArray⟩,.slice ka ks.length kc,.slice da ds.length dc,.int .i64 l2] 26)=Q:=⟨_,rfl⟩;have wo:∀g,g<R.heap.size→Q.heap[g]?=J.heap[g]?:=fun g U=>by rw[←I];exact qD _ _ _ (by omega)
  have p2:=(wo D aI).trans v2;have p0:=((wo H (by omega)).trans (vo H (by omega))).trans (((Aa N).2.2.2.2.block H (by omega) (fun e=>by injection e;omega)).trans (Aa bE));have p1:=((wo (H+1) (by omega)).trans (vo (H+1) (by omega))).trans (((Aa N).2.2.2.2.block (H+1) (by omega) (fun e=>by injection e;omega)).trans (Aa bC));have aG:V9 Q (D+1+1) (D+1) ts (tk::r):=by rw[←I];exact V9.alloc (by rw[←G];exact(Aa N).2.2.2.1.two q2 (by omega)) (by omega) _
  have aB:Below w.heap.size w Q:=by
   rw[←I,hH];have h1:=Aa bF;have h2:=(Aa N).2.2.2.2;have h3:Below H w R:=⟨h2.os.trans h1.os,h2.tape.trans h1.tape,h2.output.trans h1.output,by have:=h1.size;omega,fun i hi=>(h2.block i (by omega) (fun e=>by injection e;omega)).trans (h1.block i hi)⟩;have h4:Below H w J:=by rw[←G];exact(h3.setCell (p:=⟨D,0,none⟩) (by show H≤D;omega) _).setCell (p:=⟨D,1,none⟩) (by show H≤D;omega) _
   exact h4.alloc (by omega) _
  have aW:D+1<Q.heap.size:=by rw[←I];simp;omega
  rw[G];try rw[vs]
  rw[I];obtain⟨a5,c5,k5,g5,aK⟩:=aG.end_;simp only[qE]at aK;have j5:(k5:Int)<(ts.length:Int):=by omega
  clear x0 q2 v2 vo wo G I;have x0:=Af p2;have y0:=Ad p0;have z0:=Af p1;have u0:=Af g5;have hE:=Wa (D+1+1) (D+1) ts (tk::r) 3 Q aG;rw[show P20.hereL (Fl ts) (tk::r)=tk.2.2.1 from rfl]at hE;obtain⟨tl,bI⟩:∃z,tk.2.2.1=z:=⟨_,rfl⟩;rw[bI]at hE;have cE:=Ab bI;have HE:=Ab hE;have aA:=Ab p0;have aC:=Ab p1;have cA:=Ab p2;have bK:=Ab aB;clear hE g5 aK p0 p1 p2 aB aG bI;go_upto_region 10 with(go_at_call 36;refine(Aa HE).mono ?_;rintro e5 w5 ⟨rfl,aD⟩;have q5:=(aD.block D (by omega)).trans (Aa cA);have cC:=Af q5)
  have cQ:=aD.size;obtain⟨W6,aE⟩:∃W6,(w5.setCell ⟨D,0,none⟩ (.int .i64 3)).setCell ⟨D,1,none⟩ (.int .i64 tl)=W6:=⟨_,rfl⟩;have p2:W6.heap[D]?=some (.cells #[.int .i64 3,.int .i64 tl] 29):=by rw[←aE];exact A3 q5 _ _
  have p0:W6.heap[H]?=some (.cells #[.int .u8 0,.string ⟨#[]⟩,.slice none 0 0,.slice none 0 0,.int .i64 0] 26):=by rw[←aE];exact(Ar (by omega) _ _).trans ((aD.block H (by omega)).trans (Aa aA))
  have p1:W6.heap[H+1]?=some (.cells #[.int .i64 0,.int .i64 0] 29):=by rw[←aE];exact(Ar (by omega) _ _).trans ((aD.block (H+1) (by omega)).trans (Aa aC))
  have cF:Below w.heap.size w W6:=by
   rw[←aE];exact((((Aa bK).trans (aD.mono (by omega))).setCell (p:=⟨D,0,none⟩) (by show w.heap.size≤D;omega) _).setCell (p:=⟨D,1,none⟩) (by show w.heap.size≤D;omega) _)
  rw[aE];clear x0 y0 z0 u0 cC q5 aE aD;have x0:=Af p2;have y0:=Ad p0;have z0:=Af p1;have aA:=Ab p0;have aC:=Ab p1;clear p0 p1 p2;go_upto_region 11 with fail
  go_region_with_o (fail)
  all_goals go_wp2
  all_goals
   have X:=Jv cF (Aa aA) (Aa aC) (.int .u8 0) (.string ⟨#[]⟩) (.slice none 0 0) (.slice none 0 0) (.int .i64 0) (.int .i64 3) (.int .i64 tl);exact qW (Al rfl _ _ _ _ _ _ _ rfl (qX _ _ _ _ _ _ _ X.h0 Tryz.underlying26 rfl (by kernel_rfl)) rfl (qX _ _ _ _ _ _ _ X.h1 Tryz.underlying29 rfl (by kernel_rfl))) rfl ⟨by show _=Ending.returned (.tuple #[.agg #[.int .u8 0,.string ⟨#[]⟩,.slice none 0 0,.slice none 0 0,.int .i64 0],.agg #[.int .i64 3,.int .i64 tk.2.2.1]]);rw[Aa cE],by subst hH;exact X.below⟩
 | @ok d h=>
  have HC:=Ab (Aa bD _ h);clear h;go_upto_region 8 with(go_at_call 35;refine(Aa HC).mono ?_;rintro e' R ⟨k,t,ka,kc,ks,da,dc,ds,l2,rfl,N⟩;have q2:=((Aa N).2.2.2.2.block D (by omega) (fun e=>by injection e;omega)).trans (Aa bH);have x0:=Af q2;have aY:=(Aa N).2.2.2.2.size;have aI:D<R.heap.size:=by omega)
  obtain⟨J,G⟩:∃J,(R.setCell ⟨D,0,none⟩ (.int .i64 0)).setCell ⟨D,1,none⟩ (.int .i64 0)=J:=⟨_,rfl⟩;have v2:J.heap[D]?=some (.cells #[.int .i64 0,.int .i64 0] 29):=by rw[←G];exact A3 q2 _ _
  have vo:∀g,g≠D→J.heap[g]?=R.heap[g]?:=fun g U=>by rw[←G];exact Ar U _ _
  have vs:J.heap.size=R.heap.size:=by rw[←G];simp
  obtain⟨Q,I⟩:∃Q,J.alloc (.cells #[.int .u8 k,.string ⟨t.toArray⟩,.slice ka ks.length kc,.slice da ds.length dc,.int .i64 l2] 26)=Q:=⟨_,rfl⟩;have wo:∀g,g<R.heap.size→Q.heap[g]?=J.heap[g]?:=fun g U=>by rw[←I];exact qD _ _ _ (by omega)
  have p2:=(wo D aI).trans v2;have p0:=((wo H (by omega)).trans (vo H (by omega))).trans (((Aa N).2.2.2.2.block H (by omega) (fun e=>by injection e;omega)).trans (Aa bE));have p1:=((wo (H+1) (by omega)).trans (vo (H+1) (by omega))).trans (((Aa N).2.2.2.2.block (H+1) (by omega) (fun e=>by injection e;omega)).trans (Aa bC));have aG:V9 Q (D+1+1) (D+1) ts []:=by rw[←I];exact V9.alloc (by rw[←G];exact(Aa N).2.2.2.1.two q2 (by omega)) (by omega) _
  obtain⟨B7,bO⟩:∃B7,R.heap.size=B7:=⟨_,rfl⟩;have pn:Q.heap[B7]?=some (.cells #[.int .u8 k,.string ⟨t.toArray⟩,.slice ka ks.length kc,.slice da ds.length dc,.int .i64 l2] 26):=by rw[←I,←bO,←vs];exact qB J _
  have aT:(Nd.mk k t ka kc ks da dc ds l2).In Q:=
   (Aa N).2.1.keep (fun g U=>(wo g ((Aa N).2.1.lt U)).trans (vo g (by have:=(Aa N).2.2.1 g U;omega)))
  have aB:Below w.heap.size w Q:=by
   rw[←I,hH];have h1:=Aa bF;have h2:=(Aa N).2.2.2.2;have h3:Below H w R:=⟨h2.os.trans h1.os,h2.tape.trans h1.tape,h2.output.trans h1.output,by have:=h1.size;omega,fun i hi=>(h2.block i (by omega) (fun e=>by injection e;omega)).trans (h1.block i hi)⟩;have h4:Below H w J:=by rw[←G];exact(h3.setCell (p:=⟨D,0,none⟩) (by show H≤D;omega) _).setCell (p:=⟨D,1,none⟩) (by show H≤D;omega) _
   exact h4.alloc (by omega) _
  have aW:D+1<Q.heap.size:=by rw[←I];simp;omega
  rw[G];try rw[vs]
  rw[I];try rw[bO]
  obtain⟨a5,c5,k5,g5,aK⟩:=aG.end_;simp only[qP]at aK;have j5:(k5:Int)=(ts.length:Int):=by omega
  have bV:=(Aa N).1;have bP:=(Aa N).2.2.1;clear x0 q2 v2 vo wo G I;have x0:=Af p2;have y0:=Ad p0;have z0:=Af p1;have u0:=Af g5;have v0:=Ad pn;have aA:=Ab p0;have aC:=Ab p1;have bK:=Ab aB;have cD:=Ab aT;have cB:=Ab bV;have bJ:=Ab bP;clear g5 aK p0 p1 p2 pn aB aG aT bV bP;go_upto_region 12 with fail
  go_region_with_o (fail)
  all_goals go_wp2
  all_goals
   have X:=Jv (Aa bK) (Aa aA) (Aa aC) (.int .u8 k) (.string ⟨t.toArray⟩) (.slice ka ks.length kc) (.slice da ds.length dc) (.int .i64 l2) (.int .i64 0) (.int .i64 0);refine qW (Al rfl _ _ _ _ _ _ _ rfl (qX _ _ _ _ _ _ _ X.h0 Tryz.underlying26 rfl (by kernel_rfl)) rfl (qX _ _ _ _ _ _ _ X.h1 Tryz.underlying29 rfl (by kernel_rfl))) rfl ⟨k,t,ka,kc,ks,da,dc,ds,l2,rfl,Ab ⟨Aa cB,?_,fun g U=>by have:=Aa bJ g U;omega⟩,by subst hH;exact X.below⟩;exact(Aa cD).keep (fun g U=>C4 ((Ar (by have:=Aa bJ g U;omega) _ _).trans (Az (by have:=Aa bJ g U;omega) _ _ _ _ _)))
end Go.Proofs.YtnjokdbblmlhhaaGreatDoor
namespace Go.Proofs.YtnjokdbblmlhhaaGreatDoor
set_option maxHeartbeats 16000000
set_option maxRecDepth 100000
open Go.RowKit
attribute [local go_sem] Jz Ka
theorem Zm(last:Int)(f:Nat)(hV:∀g,g≤f→Xe last g)(N:∀g,g≤f→Yp last g)(lv:Nat)(ts:List Tk)(B rb:Nat)(all:List Tk)(o:P20.Out P20.T)(w:World)(h:V9 w B rb all ts)(hB:B≤w.heap.size)(Q:Fl all=last)(aI:lv≤17)(hd:P20.Val last (f+1) lv ts o)(aE:16<lv) :
  Calls Tryz.prog 35 #[.pointer (some ⟨rb,0,none⟩),.int .i64 lv] w (Wl w B rb all o):=by
 obtain⟨W0,J,D,R,g1,Z⟩:=V6 w (.cells #[.int .u8 0,.string ⟨#[]⟩,.slice none 0 0,.slice none 0 0,.int .i64 0] 26) (.cells #[.int .i64 0,.int .i64 0] 29);obtain⟨H,hH⟩:∃H,w.heap.size=H:=⟨_,rfl⟩;have I:V9 W0 B rb all ts:=h.keep hB D;have Y:=Aj D (some rb);have aG:=I.lt;rw[hH]at R g1 Z D;obtain⟨⟨r0,s0⟩,⟨r1,s1⟩,⟨r2,s2⟩,⟨r3,s3⟩,⟨r4,s4⟩⟩:=Ad R;obtain⟨⟨t0,u0⟩,⟨t1,u1⟩⟩:=Af g1;have aB:=Ab J;have aA:=Ab R;have U:=Ab g1;have S:=Ab Q;have HH:=Ab hH;have HD:=Ab hd;have HV:=Ab hV;have aJ:=Ab N;have aH:=Dl;clear J R g1 h Q D hd hV N;have hd:=Aa HD
 have ho:o=.bad 11 (P20.hereL last ts):=by
  cases hd with
  |deep h=>rfl
  |_=>omega
 subst ho;have hE:=Wa B rb all ts 11 W0 I;rw[Aa S]at hE;have HE:=Ab hE;have jl:(16:Int)<(lv:Int):=by omega
 clear hd HD hE I;go_enter Tryz.func35,Tryz.ntmps35
 go_upto_region 1 with fail
 try rw[Aa HH]
 rw[Aa aB];go_wp2_with (go_at_call 36;refine(Aa HE).mono ?_;rintro e w5 ⟨rfl,G⟩;have X:=(G.block H (by omega)).trans (Aa aA);have m5:=(G.block (H+1) (by omega)).trans (Aa U);obtain⟨⟨r0,s0⟩,⟨r1,s1⟩,⟨r2,s2⟩,⟨r3,s3⟩,⟨r4,s4⟩⟩:=Ad X;obtain⟨⟨t0,u0⟩,⟨t1,u1⟩⟩:=Af m5;have aD:=Ab X;have aC:=Ab m5;clear X m5)
 have hT:=(V8 (Aa aD) (Aa aC) (.int .u8 0) (.string ⟨#[]⟩) (.slice none 0 0) (.slice none 0 0) (.int .i64 0) (.int .i64 11) (.int .i64 (P20.hereL last ts))).undrew;exact qW (Vz rfl _ rfl rfl hT.h0 hT.h1) rfl ⟨0,[],none,0,0,none,0,0,0,rfl,Ab (Vy hT (Ah Y (Aj G _)) (by have:=Aa HH;omega))⟩
theorem Zo(last:Int)(f:Nat)(J:∀g,g≤f→Xe last g)(G:∀g,g≤f→Yp last g):Xe last (f+1):=by
 intro lv ts B rb all o w h hB I D hd;by_cases h6:16<lv
 ·exact Zm last f J G lv ts B rb all o w h hB I D hd h6
 by_cases h3:P20.kindOf ts=3
 ·exact Z2 last f J G lv ts B rb all o w h hB I D hd h3 h6
 by_cases h4:P20.kindOf ts=4
 ·exact Zn last f J G lv ts B rb all o w h hB I D hd h4 h6
 ·exact Yy last f J G lv ts B rb all o w h hB I D hd ⟨h3,h4⟩
theorem Z0(last:Int):∀F:Nat,Xe last F∧Yp last F:=by
 intro F
 induction F using Nat.strongRecOn with
 |ind F ih=>
  cases F with
  |zero=>exact⟨fun _ _ _ _ _ _ _ _ _ _ _ h=>(by cases h),fun _ _ _ _ _ _ _ _ _ _ _ _ h=>(by cases h)⟩
  |succ f=>exact⟨Zo last f (fun g D=>(ih g (by omega)).1) (fun g D=>(ih g (by omega)).2),Yz last f (ih f (by omega)).1⟩
theorem Zs(s:ByteArray)(o:Except (Int × Int) P20.T)(w:World)(hs:s.size≤3000)(ho:P20.PaR s.data.toList o) :
  Calls Tryz.prog 11 #[.string s] w (Mg w o):=Qab (fun last f=>(Z0 last f).1) s o w hs ho
end Go.Proofs.YtnjokdbblmlhhaaGreatDoor
