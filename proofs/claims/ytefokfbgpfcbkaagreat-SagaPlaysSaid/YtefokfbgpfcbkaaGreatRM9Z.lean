import Derived.Test.YtefokfbgpfcbkaaGreatRS32iZ
import Derived.Test.YtefokfbgpfcbkaaGreatRC9Z
set_option maxRecDepth 100000
set_option maxHeartbeats 8000000
set_option linter.unusedVariables false
set_option linter.unusedSimpArgs false
namespace Go.Proofs.YtefokfbgpfcbkaaGreat
open Go.RowKit
structure Fr (H:Nat) (L:Array Bool) (n:Nat) (B:Nat→Nat→Prop):Prop where
 ap:∀k k' g,k≠k'→L.getD k false=true→L.getD k' false=true→B k g→¬B k' g
 lt:∀k g,L.getD k false=true→B k g→H≤g∧g<n
theorem Fr.add{H n n' i:Nat}{L:Array Bool}{B:Nat→Nat→Prop}(h:Fr H L n B)(hn:n≤n')(hH:H≤n)(P:Nat→Prop)(Z:∀g,P g→n≤g∧g<n'):Fr H (L.setIfInBounds i true) n' (fun k g=>if k=i then P g else B k g):=by
 refine⟨fun k k' g J q q' h1 h2=>?_,fun k g q h1=>?_⟩
 ·by_cases e:k=i
  ·by_cases I:k'=i
   ·exact J (e.trans I.symm)
   ·rw[if_pos e]at h1;rw[if_neg I]at h2;have a:=Z g h1;have b:=h.lt k' g (Cf I q') h2;omega
  ·rw[if_neg e]at h1;by_cases I:k'=i
   ·rw[if_pos I]at h2;have a:=Z g h2;have b:=h.lt k g (Cf e q) h1;omega
   ·rw[if_neg I]at h2;exact h.ap k k' g J (Cf e q) (Cf I q') h1 h2
 ·by_cases e:k=i
  ·rw[if_pos e]at h1;have:=Z g h1;omega
  ·rw[if_neg e]at h1;have:=h.lt k g (Cf e q) h1;omega
theorem Yy{W:World}{B n rc:Nat}{ra:Option Addr}{vs:List Value}{RS:List (List Nat)}(h:Bn W B (.slice ra n rc) vs RS){g:Nat}(hg:Fk ra vs g):B≤g∧g<W.heap.size:=by
 rcases hg with⟨o,rfl⟩|⟨u,hu,hg⟩
 ·exact Ax h.own g rfl
 ·obtain⟨i,hi⟩:=List.mem_iff_getElem?.1 hu;obtain⟨l,_,ho⟩:=h.at hi;exact ho.lt hg
open Go.RowKit
theorem Yb:(Tryz.prog.info? 163).map (fun i=>(i.zero,i.size,i.bytes))=some (some (.agg #[.int .u8 0,.int .i64 0,.int .i64 0,.bool false]),4,32):=by kernel_rfl
theorem Mc(N:Nat)(hN:N≤100000)(V:World):(Instr.makeSlice 104 (.int .i64 (N:Int)) (.int .i64 (N:Int))).run Tryz.prog V=.ok (.slice (some ⟨V.heap.size,0,none⟩) N N) (V.alloc (.cells (madeCells #[.int .u8 0,.int .i64 0,.int .i64 0,.bool false] (N*4)) 163)):=by
 obtain⟨i,hi,J,hsz,I⟩:=info_parts Yb;have h:=run_make (P:=Tryz.prog) V 104 163 i _ Tryz.underlying104 hi J .i64 .i64 N N (by omega) (Int.le_refl _) (by rw[I];omega) (by omega);simp only[Int.toNat_natCast,hsz]at h;exact h
theorem Mm(V:World)(N:Nat):Gv (V.alloc (.cells (madeCells #[.int .u8 0,.int .i64 0,.int .i64 0,.bool false] (N*4)) 163)) V.heap.size N (fun _=>P31.Run.zero):=by
 refine⟨_,qB _ _,size_madeCells _ _,fun i hi=>?_⟩;have h4:i % 4=0∨i % 4=1∨i % 4=2∨i % 4=3:=by omega
 have hs:(madeCells #[.int .u8 0,.int .i64 0,.int .i64 0,.bool false] (N*4))[i]?=some (#[.int .u8 0,.int .i64 0,.int .i64 0,.bool false][i % 4]!):=by
  simp[madeCells,hi]
 unfold Jv;rcases h4 with h|h|h|h<;>rw[h]at hs ⊢<;>first|exact hs|simpa using hs
structure Qbt (w:World) (H:Nat) (dv:Value) (dc:Array Value) (nm tx:List UInt8) (sa:Option Addr) (sc:Nat) (ss:List Ai) (N:Nat) (RS_:List (List Nat)) (L:Array Bool) (V:World) (t u:Nat) (ra:Option Addr) (rc:Nat) (vs:List Value) (B:Nat→Nat→Prop) (v2 v3 v4 v5 v6 v7 v8 v9 v10 v11 v12 v13 v14 v15:Value):Prop where
 sz:L.size=14
 bel:Below H w V
 hsz:H+1≤V.heap.size
 bx:V.heap[H]?=some (.cells dc 24)
 fr:Fr (H+1) L V.heap.size B
 f0:L.getD 0 false=true→v3=dv
 f1:L.getD 1 false=true→v4=dv
 f2:L.getD 2 false=true→v5=.slice ra N rc∧Bn V (H+1) (.slice ra N rc) vs RS_∧∀g,Fk ra vs g→B 2 g
 f3:L.getD 3 false=true→v6=.pointer (some ⟨H,2,none⟩)
 f4:L.getD 4 false=true→v7=.slice sa N sc
 f5:L.getD 5 false=true→v8=.int .i64 (N:Int)
 f6:L.getD 6 false=true→v9=.slice (some ⟨t,0,none⟩) N N∧Gv V t N (fun _=>P31.Run.zero)∧B 6 t
 f7:L.getD 7 false=true→v10=.pointer (some ⟨H,2,none⟩)
 f8:L.getD 8 false=true→v11=.slice sa N sc
 f9:L.getD 9 false=true→v12=.int .i64 (N:Int)
 f10:L.getD 10 false=true→v13=.slice (some ⟨u,0,none⟩) N N∧Gv V u N (fun _=>P31.Run.zero)∧B 10 u
 f11:L.getD 11 false=true→v14=.agg #[.string ⟨nm.toArray⟩,.string ⟨tx.toArray⟩,.slice sa N sc,.slice ra N rc,.slice (some ⟨t,0,none⟩) N N,.slice (some ⟨u,0,none⟩) N N,.slice none 0 0,.slice none 0 0,.int .u8 0,.slice none 0 0]
 f12:L.getD 12 false=true→∃b,v15=.pointer (some ⟨b,0,none⟩)∧RS ⟨nm,tx,sa,sc,ss⟩ (H+1) V b t u ra rc vs (fun _=>.slice none 0 0) (P32.S.new,[])
 f13:L.getD 13 false=true→v2=v15
 g11:L.getD 11 false=true→L.getD 0 false=true∧L.getD 2 false=true∧L.getD 6 false=true∧L.getD 10 false=true
 g12:L.getD 12 false=true→L.getD 11 false=true
 g13:L.getD 13 false=true→L.getD 12 false=true
theorem Ro(d:Af)(w:World)(aP:d.In w)(hl:d.steps.length≤100000)(aX:∀s∈d.steps,s.after.length≤1000000):Calls Tryz.prog 50 #[d.val] w fun e w'=>
  ∃(b:Nat) (M R:Nat→Prop),e=.returned (qP0 b)∧Cz d (w.heap.size+1) b (P32.S.new,[]) M R w'∧(∀g,M g∨R g→w.heap.size+1≤g)∧Below w.heap.size w w':=by
 obtain⟨H,hH⟩:=qeX w.heap.size;rw[hH];obtain⟨W1,aU,aR,g0,bQ⟩:=As w (Be d) H hH;have aG:∀V,Below H w V→d.In V:=fun V hV=>aP.below (by rw[hH];exact hV);have aB:=fun V (hV:Below H w V)=>Iu d V (aG V hV) hl aX;have aJ:∀g,d.blk g→g<H+1:=fun g hg=>by have:=aP.lt hg;omega
 have g1:=g0;unfold Be at g1;obtain⟨RS_,aH⟩:=qeX (P28.refs d.bare);rw[aH]at aB;have aL:RS_.length=d.steps.length:=by rw[←aH,P28.refs_len,Md.blen]
 have bT:=Ab aH;have aQ:=Ab aU;have bO:=Ab aR;have aT:=Ab g1;have aO:=Ab aB;have aW:=Ab aG;have aZ:=Ab aJ;obtain⟨nm,tx,sa,sc,ss⟩:=d;obtain⟨N,hN⟩:=qeX ss.length;have aY:=fun V=>Mc N (by simp only[hN]at hl;omega) V;unfold Be at aQ;simp only[hN]at aQ aT aL hl
 have aO:Hid (∀V,Below H w V→Calls Tryz.prog 70 #[.agg #[.string ⟨nm.toArray⟩,.string ⟨tx.toArray⟩,.slice sa N sc]] V fun e w'=>∃ra rc vs,e=.returned (.slice ra N rc)∧Bn w' V.heap.size (.slice ra N rc) vs RS_∧Below V.heap.size V w'):=by
  have h:=Aa aO;unfold Af.val at h;simp only[hN]at h;refine Ab (fun V hV=>(h V hV).mono ?_);rintro e w' ⟨v,vs,rfl,k1,k2⟩;obtain⟨ra,rc,rfl⟩:=k1.form;rw[aL]at k1 ⊢;exact⟨ra,rc,vs,rfl,k1,k2⟩
 simp only[Af.val,hN];have bU:=Bj;clear aU aR g0 g1 aP aX aG aB aH aJ;go_enter Tryz.func50,Tryz.ntmps50
 go_upto_region 1 with fail
 try rw[hH]
 rw[Aa aQ];have bI:=Aa bO;have g2:=Aa aT;have bG:=enters_of Tryz.func70 (by kernel_rfl) rfl;refine D9 bU (fun L a V=>∃(v2 v3 v4 v5 v6 v7 v8 v9 v10 v11 v12 v13 v14 v15:Value) (t u:Nat) (ra:Option Addr) (rc:Nat) (vs:List Value) (B:Nat→Nat→Prop),a=⟨#[.agg #[sT nm,sT tx,.slice sa N sc],qP0 H,(v2),(v3),(v4),(v5),(v6),(v7),(v8),(v9),(v10),(v11),(v12),(v13),(v14),(v15)],[]⟩∧Qbt w H (.agg #[.string ⟨nm.toArray⟩,.string ⟨tx.toArray⟩,.slice sa N sc]) #[.string ⟨nm.toArray⟩,.string ⟨tx.toArray⟩,.slice sa N sc] nm tx sa sc ss N RS_ L V t u ra rc vs B v2 v3 v4 v5 v6 v7 v8 v9 v10 v11 v12 v13 v14 v15) (by kernel_rfl) ?_ ?_ ?_
 ·refine⟨_,_,_,_,_,_,_,_,_,_,_,_,_,_,0,0,none,0,[],fun _ _=>False,rfl,by kernel_rfl,bI.drew,(by rw[show W1.drew.heap.size=W1.heap.size from rfl,bQ];exact qJ _),g2,⟨fun _ _ _ _ _ _ h=>h.elim,fun _ _ _ h=>h.elim⟩,?_,?_,?_,?_,?_,?_,?_,?_,?_,?_,?_,?_,?_,?_,?_,?_,?_⟩;all_goals (intro h;exact absurd h (by decide))
 ·rintro L a V i o' ⟨v2,v3,v4,v5,v6,v7,v8,v9,v10,v11,v12,v13,v14,v15,t,u,ra,rc,vs,B,rfl,h⟩ ho hi Z;have I:∀j,j≠i→(L.setIfInBounds i true).getD j false=true→L.getD j false=true:=fun j hj q=>Cf hj q;have J:∀j,L.getD j false=true→(L.setIfInBounds i true).getD j false=true:=fun j q=>Q8 hi q;have aA:=(Ca hi).2
  match i,ho with
  |0,ho=>
   cases ho;refine Bc rfl rfl ?_;obtain⟨⟨y0,_⟩,⟨y1,_⟩,⟨y2,_⟩⟩:=Ag h.bx;refine qR (K:=fun a2 w2=>a2=⟨#[.agg #[sT nm,sT tx,.slice sa N sc],qP0 H,(v2),(.agg #[sT nm,sT tx,.slice sa N sc]),(v4),(v5),(v6),(v7),(v8),(v9),(v10),(v11),(v12),(v13),(v14),(v15)],[]⟩∧w2=V) (fun a2 w2 he=>?_) (by simp[Oper.wp,go_sem,y0,y1,y2]);obtain⟨rfl,rfl⟩:=he;exact⟨v2,_,v4,v5,v6,v7,v8,v9,v10,v11,v12,v13,v14,v15,t,u,ra,rc,vs,_,rfl,⟨by simpa using h.sz,h.bel,h.hsz,h.bx,h.fr.add (i:=0) (qJ _) h.hsz (fun _=>False) (fun g hg=>hg.elim),fun _=>rfl,fun q=>h.f1 (I 1 (by omega) q),fun q=>⟨(h.f2 (I 2 (by omega) q)).1,(h.f2 (I 2 (by omega) q)).2.1,fun g hg=>by simpa using (h.f2 (I 2 (by omega) q)).2.2 g hg⟩,fun q=>h.f3 (I 3 (by omega) q),fun q=>h.f4 (I 4 (by omega) q),fun q=>h.f5 (I 5 (by omega) q),fun q=>⟨(h.f6 (I 6 (by omega) q)).1,(h.f6 (I 6 (by omega) q)).2.1,by simpa using (h.f6 (I 6 (by omega) q)).2.2⟩,fun q=>h.f7 (I 7 (by omega) q),fun q=>h.f8 (I 8 (by omega) q),fun q=>h.f9 (I 9 (by omega) q),fun q=>⟨(h.f10 (I 10 (by omega) q)).1,(h.f10 (I 10 (by omega) q)).2.1,by simpa using (h.f10 (I 10 (by omega) q)).2.2⟩,fun q=>h.f11 (I 11 (by omega) q),fun q=>h.f12 (I 12 (by omega) q),fun q=>h.f13 (I 13 (by omega) q),fun q=>⟨J 0 (h.g11 (I 11 (by omega) q)).1,J 2 (h.g11 (I 11 (by omega) q)).2.1,J 6 (h.g11 (I 11 (by omega) q)).2.2.1,J 10 (h.g11 (I 11 (by omega) q)).2.2.2⟩,fun q=>J 11 (h.g12 (I 12 (by omega) q)),fun q=>J 12 (h.g13 (I 13 (by omega) q))⟩⟩
  |1,ho=>
   cases ho;refine Bc rfl rfl ?_;obtain⟨⟨y0,_⟩,⟨y1,_⟩,⟨y2,_⟩⟩:=Ag h.bx;refine qR (K:=fun a2 w2=>a2=⟨#[.agg #[sT nm,sT tx,.slice sa N sc],qP0 H,(v2),(v3),(.agg #[sT nm,sT tx,.slice sa N sc]),(v5),(v6),(v7),(v8),(v9),(v10),(v11),(v12),(v13),(v14),(v15)],[]⟩∧w2=V) (fun a2 w2 he=>?_) (by simp[Oper.wp,go_sem,y0,y1,y2]);obtain⟨rfl,rfl⟩:=he;exact⟨v2,v3,_,v5,v6,v7,v8,v9,v10,v11,v12,v13,v14,v15,t,u,ra,rc,vs,_,rfl,⟨by simpa using h.sz,h.bel,h.hsz,h.bx,h.fr.add (i:=1) (qJ _) h.hsz (fun _=>False) (fun g hg=>hg.elim),fun q=>h.f0 (I 0 (by omega) q),fun _=>rfl,fun q=>⟨(h.f2 (I 2 (by omega) q)).1,(h.f2 (I 2 (by omega) q)).2.1,fun g hg=>by simpa using (h.f2 (I 2 (by omega) q)).2.2 g hg⟩,fun q=>h.f3 (I 3 (by omega) q),fun q=>h.f4 (I 4 (by omega) q),fun q=>h.f5 (I 5 (by omega) q),fun q=>⟨(h.f6 (I 6 (by omega) q)).1,(h.f6 (I 6 (by omega) q)).2.1,by simpa using (h.f6 (I 6 (by omega) q)).2.2⟩,fun q=>h.f7 (I 7 (by omega) q),fun q=>h.f8 (I 8 (by omega) q),fun q=>h.f9 (I 9 (by omega) q),fun q=>⟨(h.f10 (I 10 (by omega) q)).1,(h.f10 (I 10 (by omega) q)).2.1,by simpa using (h.f10 (I 10 (by omega) q)).2.2⟩,fun q=>h.f11 (I 11 (by omega) q),fun q=>h.f12 (I 12 (by omega) q),fun q=>h.f13 (I 13 (by omega) q),fun q=>⟨J 0 (h.g11 (I 11 (by omega) q)).1,J 2 (h.g11 (I 11 (by omega) q)).2.1,J 6 (h.g11 (I 11 (by omega) q)).2.2.1,J 10 (h.g11 (I 11 (by omega) q)).2.2.2⟩,fun q=>J 11 (h.g12 (I 12 (by omega) q)),fun q=>J 12 (h.g13 (I 13 (by omega) q))⟩⟩
  |2,ho=>
   cases ho;refine Bc rfl rfl ?_;obtain rfl:=h.f1 (Z ⟨1,.data⟩ (by simp) rfl);refine R4 (f:=70) (args:=#[.agg #[.string ⟨nm.toArray⟩,.string ⟨tx.toArray⟩,.slice sa N sc]]) (by simp[execOp,go_sem,bG]) (Aa aO V h.bel) ?_;rintro e W ⟨bC,bM,aS,rfl,k1,k4⟩;have hz:=h.hsz;refine⟨_,rfl,v2,v3,_,_,v6,v7,v8,v9,v10,v11,v12,v13,v14,v15,t,u,bC,bM,aS,_,rfl,⟨by simpa using h.sz,h.bel.trans (k4.mono (by omega)),qK hz k4.size,(k4.block H (by omega)).trans h.bx,h.fr.add (i:=2) k4.size hz (Fk bC aS) (fun g hg=>Yy k1 hg),fun q=>h.f0 (I 0 (by omega) q),fun q=>h.f1 (I 1 (by omega) q),fun _=>⟨rfl,k1.base hz,fun g hg=>by simpa using hg⟩,fun q=>h.f3 (I 3 (by omega) q),fun q=>h.f4 (I 4 (by omega) q),fun q=>h.f5 (I 5 (by omega) q),fun q=>⟨(h.f6 (I 6 (by omega) q)).1,(h.f6 (I 6 (by omega) q)).2.1.of_block (k4.block _ (World.rowIs.lt (h.f6 (I 6 (by omega) q)).2.1)),by simpa using (h.f6 (I 6 (by omega) q)).2.2⟩,fun q=>h.f7 (I 7 (by omega) q),fun q=>h.f8 (I 8 (by omega) q),fun q=>h.f9 (I 9 (by omega) q),fun q=>⟨(h.f10 (I 10 (by omega) q)).1,(h.f10 (I 10 (by omega) q)).2.1.of_block (k4.block _ (World.rowIs.lt (h.f10 (I 10 (by omega) q)).2.1)),by simpa using (h.f10 (I 10 (by omega) q)).2.2⟩,fun q=>absurd ((h.g11 (I 11 (by omega) q)).2.1) (by rw[aA];decide),fun q=>absurd ((h.g11 (h.g12 (I 12 (by omega) q))).2.1) (by rw[aA];decide),fun q=>h.f13 (I 13 (by omega) q),fun q=>⟨J 0 (h.g11 (I 11 (by omega) q)).1,J 2 (h.g11 (I 11 (by omega) q)).2.1,J 6 (h.g11 (I 11 (by omega) q)).2.2.1,J 10 (h.g11 (I 11 (by omega) q)).2.2.2⟩,fun q=>J 11 (h.g12 (I 12 (by omega) q)),fun q=>J 12 (h.g13 (I 13 (by omega) q))⟩⟩
  |3,ho=>
   cases ho;refine Bc rfl rfl ?_;refine qR (K:=fun a2 w2=>a2=⟨#[.agg #[sT nm,sT tx,.slice sa N sc],qP0 H,(v2),(v3),(v4),(v5),(pT H 2),(v7),(v8),(v9),(v10),(v11),(v12),(v13),(v14),(v15)],[]⟩∧w2=V) (fun a2 w2 he=>?_) (by simp[Oper.wp,go_sem]);obtain⟨rfl,rfl⟩:=he;exact⟨v2,v3,v4,v5,_,v7,v8,v9,v10,v11,v12,v13,v14,v15,t,u,ra,rc,vs,_,rfl,⟨by simpa using h.sz,h.bel,h.hsz,h.bx,h.fr.add (i:=3) (qJ _) h.hsz (fun _=>False) (fun g hg=>hg.elim),fun q=>h.f0 (I 0 (by omega) q),fun q=>h.f1 (I 1 (by omega) q),fun q=>⟨(h.f2 (I 2 (by omega) q)).1,(h.f2 (I 2 (by omega) q)).2.1,fun g hg=>by simpa using (h.f2 (I 2 (by omega) q)).2.2 g hg⟩,fun _=>rfl,fun q=>h.f4 (I 4 (by omega) q),fun q=>h.f5 (I 5 (by omega) q),fun q=>⟨(h.f6 (I 6 (by omega) q)).1,(h.f6 (I 6 (by omega) q)).2.1,by simpa using (h.f6 (I 6 (by omega) q)).2.2⟩,fun q=>h.f7 (I 7 (by omega) q),fun q=>h.f8 (I 8 (by omega) q),fun q=>h.f9 (I 9 (by omega) q),fun q=>⟨(h.f10 (I 10 (by omega) q)).1,(h.f10 (I 10 (by omega) q)).2.1,by simpa using (h.f10 (I 10 (by omega) q)).2.2⟩,fun q=>h.f11 (I 11 (by omega) q),fun q=>h.f12 (I 12 (by omega) q),fun q=>h.f13 (I 13 (by omega) q),fun q=>⟨J 0 (h.g11 (I 11 (by omega) q)).1,J 2 (h.g11 (I 11 (by omega) q)).2.1,J 6 (h.g11 (I 11 (by omega) q)).2.2.1,J 10 (h.g11 (I 11 (by omega) q)).2.2.2⟩,fun q=>J 11 (h.g12 (I 12 (by omega) q)),fun q=>J 12 (h.g13 (I 13 (by omega) q))⟩⟩
  |4,ho=>
   cases ho;refine Bc rfl rfl ?_;obtain rfl:=h.f3 (Z ⟨3,.data⟩ (by simp) rfl);obtain⟨⟨y0,_⟩,⟨y1,_⟩,⟨y2,_⟩⟩:=Ag h.bx;refine qR (K:=fun a2 w2=>a2=⟨#[.agg #[sT nm,sT tx,.slice sa N sc],qP0 H,(v2),(v3),(v4),(v5),(pT H 2),(.slice sa N sc),(v8),(v9),(v10),(v11),(v12),(v13),(v14),(v15)],[]⟩∧w2=V) (fun a2 w2 he=>?_) (by simp[Oper.wp,go_sem,y0,y1,y2]);obtain⟨rfl,rfl⟩:=he;exact⟨v2,v3,v4,v5,_,_,v8,v9,v10,v11,v12,v13,v14,v15,t,u,ra,rc,vs,_,rfl,⟨by simpa using h.sz,h.bel,h.hsz,h.bx,h.fr.add (i:=4) (qJ _) h.hsz (fun _=>False) (fun g hg=>hg.elim),fun q=>h.f0 (I 0 (by omega) q),fun q=>h.f1 (I 1 (by omega) q),fun q=>⟨(h.f2 (I 2 (by omega) q)).1,(h.f2 (I 2 (by omega) q)).2.1,fun g hg=>by simpa using (h.f2 (I 2 (by omega) q)).2.2 g hg⟩,fun q=>h.f3 (I 3 (by omega) q),fun _=>rfl,fun q=>h.f5 (I 5 (by omega) q),fun q=>⟨(h.f6 (I 6 (by omega) q)).1,(h.f6 (I 6 (by omega) q)).2.1,by simpa using (h.f6 (I 6 (by omega) q)).2.2⟩,fun q=>h.f7 (I 7 (by omega) q),fun q=>h.f8 (I 8 (by omega) q),fun q=>h.f9 (I 9 (by omega) q),fun q=>⟨(h.f10 (I 10 (by omega) q)).1,(h.f10 (I 10 (by omega) q)).2.1,by simpa using (h.f10 (I 10 (by omega) q)).2.2⟩,fun q=>h.f11 (I 11 (by omega) q),fun q=>h.f12 (I 12 (by omega) q),fun q=>h.f13 (I 13 (by omega) q),fun q=>⟨J 0 (h.g11 (I 11 (by omega) q)).1,J 2 (h.g11 (I 11 (by omega) q)).2.1,J 6 (h.g11 (I 11 (by omega) q)).2.2.1,J 10 (h.g11 (I 11 (by omega) q)).2.2.2⟩,fun q=>J 11 (h.g12 (I 12 (by omega) q)),fun q=>J 12 (h.g13 (I 13 (by omega) q))⟩⟩
  |5,ho=>
   cases ho;refine Bc rfl rfl ?_;obtain rfl:=h.f4 (Z ⟨4,.data⟩ (by simp) rfl);refine qR (K:=fun a2 w2=>a2=⟨#[.agg #[sT nm,sT tx,.slice sa N sc],qP0 H,(v2),(v3),(v4),(v5),(v6),(.slice sa N sc),(nI N),(v9),(v10),(v11),(v12),(v13),(v14),(v15)],[]⟩∧w2=V) (fun a2 w2 he=>?_) (by simp[Oper.wp,go_sem]);obtain⟨rfl,rfl⟩:=he;exact⟨v2,v3,v4,v5,v6,_,_,v9,v10,v11,v12,v13,v14,v15,t,u,ra,rc,vs,_,rfl,⟨by simpa using h.sz,h.bel,h.hsz,h.bx,h.fr.add (i:=5) (qJ _) h.hsz (fun _=>False) (fun g hg=>hg.elim),fun q=>h.f0 (I 0 (by omega) q),fun q=>h.f1 (I 1 (by omega) q),fun q=>⟨(h.f2 (I 2 (by omega) q)).1,(h.f2 (I 2 (by omega) q)).2.1,fun g hg=>by simpa using (h.f2 (I 2 (by omega) q)).2.2 g hg⟩,fun q=>h.f3 (I 3 (by omega) q),fun q=>h.f4 (I 4 (by omega) q),fun _=>rfl,fun q=>⟨(h.f6 (I 6 (by omega) q)).1,(h.f6 (I 6 (by omega) q)).2.1,by simpa using (h.f6 (I 6 (by omega) q)).2.2⟩,fun q=>h.f7 (I 7 (by omega) q),fun q=>h.f8 (I 8 (by omega) q),fun q=>h.f9 (I 9 (by omega) q),fun q=>⟨(h.f10 (I 10 (by omega) q)).1,(h.f10 (I 10 (by omega) q)).2.1,by simpa using (h.f10 (I 10 (by omega) q)).2.2⟩,fun q=>h.f11 (I 11 (by omega) q),fun q=>h.f12 (I 12 (by omega) q),fun q=>h.f13 (I 13 (by omega) q),fun q=>⟨J 0 (h.g11 (I 11 (by omega) q)).1,J 2 (h.g11 (I 11 (by omega) q)).2.1,J 6 (h.g11 (I 11 (by omega) q)).2.2.1,J 10 (h.g11 (I 11 (by omega) q)).2.2.2⟩,fun q=>J 11 (h.g12 (I 12 (by omega) q)),fun q=>J 12 (h.g13 (I 13 (by omega) q))⟩⟩
  |6,ho=>
   cases ho;refine Bc rfl rfl ?_;obtain rfl:=h.f5 (Z ⟨5,.data⟩ (by simp) rfl);refine qR (K:=fun a2 w2=>a2=⟨#[.agg #[sT nm,sT tx,.slice sa N sc],qP0 H,(v2),(v3),(v4),(v5),(v6),(v7),(nI N),(.slice (oA (V.heap.size) 0) N N),(v10),(v11),(v12),(v13),(v14),(v15)],[]⟩∧w2=V.alloc (.cells (madeCells #[.int .u8 0,.int .i64 0,.int .i64 0,.bool false] (N*4)) 163)) (fun a2 w2 he=>?_) (by simp[Oper.wp,go_sem,aY]);obtain⟨rfl,rfl⟩:=he;have hz:=h.hsz;have k4:Below V.heap.size V (V.alloc (.cells (madeCells #[.int .u8 0,.int .i64 0,.int .i64 0,.bool false] (N*4)) 163)):=(qU _ V).alloc (qJ _) _;exact⟨v2,v3,v4,v5,v6,v7,_,_,v10,v11,v12,v13,v14,v15,V.heap.size,u,ra,rc,vs,_,rfl,⟨by simpa using h.sz,h.bel.trans (k4.mono (by omega)),qK hz k4.size,(k4.block H (by omega)).trans h.bx,h.fr.add (i:=6) k4.size hz (fun g=>g=V.heap.size) (fun g hg=>by subst hg;exact⟨qJ _,by simp⟩),fun q=>h.f0 (I 0 (by omega) q),fun q=>h.f1 (I 1 (by omega) q),fun q=>⟨(h.f2 (I 2 (by omega) q)).1,(h.f2 (I 2 (by omega) q)).2.1.keep (fun g hg=>k4.block g hg),fun g hg=>by simpa using (h.f2 (I 2 (by omega) q)).2.2 g hg⟩,fun q=>h.f3 (I 3 (by omega) q),fun q=>h.f4 (I 4 (by omega) q),fun q=>h.f5 (I 5 (by omega) q),fun _=>⟨rfl,Mm V N,by simp⟩,fun q=>h.f7 (I 7 (by omega) q),fun q=>h.f8 (I 8 (by omega) q),fun q=>h.f9 (I 9 (by omega) q),fun q=>⟨(h.f10 (I 10 (by omega) q)).1,(h.f10 (I 10 (by omega) q)).2.1.of_block (k4.block _ (World.rowIs.lt (h.f10 (I 10 (by omega) q)).2.1)),by simpa using (h.f10 (I 10 (by omega) q)).2.2⟩,fun q=>absurd ((h.g11 (I 11 (by omega) q)).2.2.1) (by rw[aA];decide),fun q=>absurd ((h.g11 (h.g12 (I 12 (by omega) q))).2.2.1) (by rw[aA];decide),fun q=>h.f13 (I 13 (by omega) q),fun q=>⟨J 0 (h.g11 (I 11 (by omega) q)).1,J 2 (h.g11 (I 11 (by omega) q)).2.1,J 6 (h.g11 (I 11 (by omega) q)).2.2.1,J 10 (h.g11 (I 11 (by omega) q)).2.2.2⟩,fun q=>J 11 (h.g12 (I 12 (by omega) q)),fun q=>J 12 (h.g13 (I 13 (by omega) q))⟩⟩
  |7,ho=>
   cases ho;refine Bc rfl rfl ?_;refine qR (K:=fun a2 w2=>a2=⟨#[.agg #[sT nm,sT tx,.slice sa N sc],qP0 H,(v2),(v3),(v4),(v5),(v6),(v7),(v8),(v9),(pT H 2),(v11),(v12),(v13),(v14),(v15)],[]⟩∧w2=V) (fun a2 w2 he=>?_) (by simp[Oper.wp,go_sem]);obtain⟨rfl,rfl⟩:=he;exact⟨v2,v3,v4,v5,v6,v7,v8,v9,_,v11,v12,v13,v14,v15,t,u,ra,rc,vs,_,rfl,⟨by simpa using h.sz,h.bel,h.hsz,h.bx,h.fr.add (i:=7) (qJ _) h.hsz (fun _=>False) (fun g hg=>hg.elim),fun q=>h.f0 (I 0 (by omega) q),fun q=>h.f1 (I 1 (by omega) q),fun q=>⟨(h.f2 (I 2 (by omega) q)).1,(h.f2 (I 2 (by omega) q)).2.1,fun g hg=>by simpa using (h.f2 (I 2 (by omega) q)).2.2 g hg⟩,fun q=>h.f3 (I 3 (by omega) q),fun q=>h.f4 (I 4 (by omega) q),fun q=>h.f5 (I 5 (by omega) q),fun q=>⟨(h.f6 (I 6 (by omega) q)).1,(h.f6 (I 6 (by omega) q)).2.1,by simpa using (h.f6 (I 6 (by omega) q)).2.2⟩,fun _=>rfl,fun q=>h.f8 (I 8 (by omega) q),fun q=>h.f9 (I 9 (by omega) q),fun q=>⟨(h.f10 (I 10 (by omega) q)).1,(h.f10 (I 10 (by omega) q)).2.1,by simpa using (h.f10 (I 10 (by omega) q)).2.2⟩,fun q=>h.f11 (I 11 (by omega) q),fun q=>h.f12 (I 12 (by omega) q),fun q=>h.f13 (I 13 (by omega) q),fun q=>⟨J 0 (h.g11 (I 11 (by omega) q)).1,J 2 (h.g11 (I 11 (by omega) q)).2.1,J 6 (h.g11 (I 11 (by omega) q)).2.2.1,J 10 (h.g11 (I 11 (by omega) q)).2.2.2⟩,fun q=>J 11 (h.g12 (I 12 (by omega) q)),fun q=>J 12 (h.g13 (I 13 (by omega) q))⟩⟩
  |8,ho=>
   cases ho;refine Bc rfl rfl ?_;obtain rfl:=h.f7 (Z ⟨7,.data⟩ (by simp) rfl);obtain⟨⟨y0,_⟩,⟨y1,_⟩,⟨y2,_⟩⟩:=Ag h.bx;refine qR (K:=fun a2 w2=>a2=⟨#[.agg #[sT nm,sT tx,.slice sa N sc],qP0 H,(v2),(v3),(v4),(v5),(v6),(v7),(v8),(v9),(pT H 2),(.slice sa N sc),(v12),(v13),(v14),(v15)],[]⟩∧w2=V) (fun a2 w2 he=>?_) (by simp[Oper.wp,go_sem,y0,y1,y2]);obtain⟨rfl,rfl⟩:=he;exact⟨v2,v3,v4,v5,v6,v7,v8,v9,_,_,v12,v13,v14,v15,t,u,ra,rc,vs,_,rfl,⟨by simpa using h.sz,h.bel,h.hsz,h.bx,h.fr.add (i:=8) (qJ _) h.hsz (fun _=>False) (fun g hg=>hg.elim),fun q=>h.f0 (I 0 (by omega) q),fun q=>h.f1 (I 1 (by omega) q),fun q=>⟨(h.f2 (I 2 (by omega) q)).1,(h.f2 (I 2 (by omega) q)).2.1,fun g hg=>by simpa using (h.f2 (I 2 (by omega) q)).2.2 g hg⟩,fun q=>h.f3 (I 3 (by omega) q),fun q=>h.f4 (I 4 (by omega) q),fun q=>h.f5 (I 5 (by omega) q),fun q=>⟨(h.f6 (I 6 (by omega) q)).1,(h.f6 (I 6 (by omega) q)).2.1,by simpa using (h.f6 (I 6 (by omega) q)).2.2⟩,fun q=>h.f7 (I 7 (by omega) q),fun _=>rfl,fun q=>h.f9 (I 9 (by omega) q),fun q=>⟨(h.f10 (I 10 (by omega) q)).1,(h.f10 (I 10 (by omega) q)).2.1,by simpa using (h.f10 (I 10 (by omega) q)).2.2⟩,fun q=>h.f11 (I 11 (by omega) q),fun q=>h.f12 (I 12 (by omega) q),fun q=>h.f13 (I 13 (by omega) q),fun q=>⟨J 0 (h.g11 (I 11 (by omega) q)).1,J 2 (h.g11 (I 11 (by omega) q)).2.1,J 6 (h.g11 (I 11 (by omega) q)).2.2.1,J 10 (h.g11 (I 11 (by omega) q)).2.2.2⟩,fun q=>J 11 (h.g12 (I 12 (by omega) q)),fun q=>J 12 (h.g13 (I 13 (by omega) q))⟩⟩
  |9,ho=>
   cases ho;refine Bc rfl rfl ?_;obtain rfl:=h.f8 (Z ⟨8,.data⟩ (by simp) rfl);refine qR (K:=fun a2 w2=>a2=⟨#[.agg #[sT nm,sT tx,.slice sa N sc],qP0 H,(v2),(v3),(v4),(v5),(v6),(v7),(v8),(v9),(v10),(.slice sa N sc),(nI N),(v13),(v14),(v15)],[]⟩∧w2=V) (fun a2 w2 he=>?_) (by simp[Oper.wp,go_sem]);obtain⟨rfl,rfl⟩:=he;exact⟨v2,v3,v4,v5,v6,v7,v8,v9,v10,_,_,v13,v14,v15,t,u,ra,rc,vs,_,rfl,⟨by simpa using h.sz,h.bel,h.hsz,h.bx,h.fr.add (i:=9) (qJ _) h.hsz (fun _=>False) (fun g hg=>hg.elim),fun q=>h.f0 (I 0 (by omega) q),fun q=>h.f1 (I 1 (by omega) q),fun q=>⟨(h.f2 (I 2 (by omega) q)).1,(h.f2 (I 2 (by omega) q)).2.1,fun g hg=>by simpa using (h.f2 (I 2 (by omega) q)).2.2 g hg⟩,fun q=>h.f3 (I 3 (by omega) q),fun q=>h.f4 (I 4 (by omega) q),fun q=>h.f5 (I 5 (by omega) q),fun q=>⟨(h.f6 (I 6 (by omega) q)).1,(h.f6 (I 6 (by omega) q)).2.1,by simpa using (h.f6 (I 6 (by omega) q)).2.2⟩,fun q=>h.f7 (I 7 (by omega) q),fun q=>h.f8 (I 8 (by omega) q),fun _=>rfl,fun q=>⟨(h.f10 (I 10 (by omega) q)).1,(h.f10 (I 10 (by omega) q)).2.1,by simpa using (h.f10 (I 10 (by omega) q)).2.2⟩,fun q=>h.f11 (I 11 (by omega) q),fun q=>h.f12 (I 12 (by omega) q),fun q=>h.f13 (I 13 (by omega) q),fun q=>⟨J 0 (h.g11 (I 11 (by omega) q)).1,J 2 (h.g11 (I 11 (by omega) q)).2.1,J 6 (h.g11 (I 11 (by omega) q)).2.2.1,J 10 (h.g11 (I 11 (by omega) q)).2.2.2⟩,fun q=>J 11 (h.g12 (I 12 (by omega) q)),fun q=>J 12 (h.g13 (I 13 (by omega) q))⟩⟩
  |10,ho=>
   cases ho;refine Bc rfl rfl ?_;obtain rfl:=h.f9 (Z ⟨9,.data⟩ (by simp) rfl);refine qR (K:=fun a2 w2=>a2=⟨#[.agg #[sT nm,sT tx,.slice sa N sc],qP0 H,(v2),(v3),(v4),(v5),(v6),(v7),(v8),(v9),(v10),(v11),(nI N),(.slice (oA (V.heap.size) 0) N N),(v14),(v15)],[]⟩∧w2=V.alloc (.cells (madeCells #[.int .u8 0,.int .i64 0,.int .i64 0,.bool false] (N*4)) 163)) (fun a2 w2 he=>?_) (by simp[Oper.wp,go_sem,aY]);obtain⟨rfl,rfl⟩:=he;have hz:=h.hsz;have k4:Below V.heap.size V (V.alloc (.cells (madeCells #[.int .u8 0,.int .i64 0,.int .i64 0,.bool false] (N*4)) 163)):=(qU _ V).alloc (qJ _) _;exact⟨v2,v3,v4,v5,v6,v7,v8,v9,v10,v11,_,_,v14,v15,t,V.heap.size,ra,rc,vs,_,rfl,⟨by simpa using h.sz,h.bel.trans (k4.mono (by omega)),qK hz k4.size,(k4.block H (by omega)).trans h.bx,h.fr.add (i:=10) k4.size hz (fun g=>g=V.heap.size) (fun g hg=>by subst hg;exact⟨qJ _,by simp⟩),fun q=>h.f0 (I 0 (by omega) q),fun q=>h.f1 (I 1 (by omega) q),fun q=>⟨(h.f2 (I 2 (by omega) q)).1,(h.f2 (I 2 (by omega) q)).2.1.keep (fun g hg=>k4.block g hg),fun g hg=>by simpa using (h.f2 (I 2 (by omega) q)).2.2 g hg⟩,fun q=>h.f3 (I 3 (by omega) q),fun q=>h.f4 (I 4 (by omega) q),fun q=>h.f5 (I 5 (by omega) q),fun q=>⟨(h.f6 (I 6 (by omega) q)).1,(h.f6 (I 6 (by omega) q)).2.1.of_block (k4.block _ (World.rowIs.lt (h.f6 (I 6 (by omega) q)).2.1)),by simpa using (h.f6 (I 6 (by omega) q)).2.2⟩,fun q=>h.f7 (I 7 (by omega) q),fun q=>h.f8 (I 8 (by omega) q),fun q=>h.f9 (I 9 (by omega) q),fun _=>⟨rfl,Mm V N,by simp⟩,fun q=>absurd ((h.g11 (I 11 (by omega) q)).2.2.2) (by rw[aA];decide),fun q=>absurd ((h.g11 (h.g12 (I 12 (by omega) q))).2.2.2) (by rw[aA];decide),fun q=>h.f13 (I 13 (by omega) q),fun q=>⟨J 0 (h.g11 (I 11 (by omega) q)).1,J 2 (h.g11 (I 11 (by omega) q)).2.1,J 6 (h.g11 (I 11 (by omega) q)).2.2.1,J 10 (h.g11 (I 11 (by omega) q)).2.2.2⟩,fun q=>J 11 (h.g12 (I 12 (by omega) q)),fun q=>J 12 (h.g13 (I 13 (by omega) q))⟩⟩
  |11,ho=>
   cases ho;refine Bc rfl rfl ?_;have l0:=Z ⟨0,.data⟩ (by simp) rfl;have l2:=Z ⟨2,.data⟩ (by simp) rfl;have l6:=Z ⟨6,.data⟩ (by simp) rfl;have aC:=Z ⟨10,.data⟩ (by simp) rfl;have e3:=h.f0 l0;have e5:=(h.f2 l2).1;have e9:=(h.f6 l6).1;have bF:=(h.f10 aC).1;subst e3;subst e5;subst e9;subst bF;refine qR (K:=fun a2 w2=>a2=⟨#[.agg #[sT nm,sT tx,.slice sa N sc],qP0 H,(v2),(.agg #[sT nm,sT tx,.slice sa N sc]),(v4),(.slice ra N rc),(v6),(v7),(v8),(.slice (oA t 0) N N),(v10),(v11),(v12),(.slice (oA u 0) N N),(.agg #[sT nm,sT tx,.slice sa N sc,.slice ra N rc,.slice (oA t 0) N N,.slice (oA u 0) N N,.slice none 0 0,.slice none 0 0,.int .u8 0,.slice none 0 0]),(v15)],[]⟩∧w2=V) (fun a2 w2 he=>?_) (by simp[Oper.wp,go_sem];try exact⟨rfl,rfl⟩);obtain⟨rfl,rfl⟩:=he;exact⟨v2,_,v4,_,v6,v7,v8,_,v10,v11,v12,_,_,v15,t,u,ra,rc,vs,_,rfl,⟨by simpa using h.sz,h.bel,h.hsz,h.bx,h.fr.add (i:=11) (qJ _) h.hsz (fun _=>False) (fun g hg=>hg.elim),fun q=>h.f0 (I 0 (by omega) q),fun q=>h.f1 (I 1 (by omega) q),fun q=>⟨(h.f2 (I 2 (by omega) q)).1,(h.f2 (I 2 (by omega) q)).2.1,fun g hg=>by simpa using (h.f2 (I 2 (by omega) q)).2.2 g hg⟩,fun q=>h.f3 (I 3 (by omega) q),fun q=>h.f4 (I 4 (by omega) q),fun q=>h.f5 (I 5 (by omega) q),fun q=>⟨(h.f6 (I 6 (by omega) q)).1,(h.f6 (I 6 (by omega) q)).2.1,by simpa using (h.f6 (I 6 (by omega) q)).2.2⟩,fun q=>h.f7 (I 7 (by omega) q),fun q=>h.f8 (I 8 (by omega) q),fun q=>h.f9 (I 9 (by omega) q),fun q=>⟨(h.f10 (I 10 (by omega) q)).1,(h.f10 (I 10 (by omega) q)).2.1,by simpa using (h.f10 (I 10 (by omega) q)).2.2⟩,fun _=>rfl,fun q=>absurd (h.g12 (I 12 (by omega) q)) (by rw[aA];decide),fun q=>h.f13 (I 13 (by omega) q),fun _=>⟨J 0 l0,J 2 l2,J 6 l6,J 10 aC⟩,fun q=>J 11 (h.g12 (I 12 (by omega) q)),fun q=>J 12 (h.g13 (I 13 (by omega) q))⟩⟩
  |12,ho=>
   cases ho;refine Bc rfl rfl ?_;have aN:=Z ⟨11,.data⟩ (by simp) rfl;obtain⟨l0,l2,l6,aC⟩:=h.g11 aN;obtain rfl:=h.f11 aN;obtain⟨_,k2,kb⟩:=h.f2 l2;obtain⟨_,kt,bt⟩:=h.f6 l6;obtain⟨_,ku,bu⟩:=h.f10 aC;have hz:=h.hsz;have k4:Below V.heap.size V (V.alloc (.cells #[.string ⟨nm.toArray⟩,.string ⟨tx.toArray⟩,.slice sa N sc,.slice ra N rc,.slice (some ⟨t,0,none⟩) N N,.slice (some ⟨u,0,none⟩) N N,.slice none 0 0,.slice none 0 0,.int .u8 0,.slice none 0 0] 107)):=(qU _ V).alloc (qJ _) _;have aD:=h.fr;have bJ:=aD.lt 6 t l6 bt;have bE:=aD.lt 10 u aC bu;have bW:t≠u:=fun e=>aD.ap 6 10 t (by decide) l6 aC bt (e ▸ bu)
   have aE:∀j g,((fun _=>Value.slice none 0 0:Nat→Value) j).ownBlock=some g→False:=fun j g hg=>by
    have e:(none:Option Nat)=some g:=hg;cases e
   have bL:RS ⟨nm,tx,sa,sc,ss⟩ (H+1) (V.alloc (.cells #[.string ⟨nm.toArray⟩,.string ⟨tx.toArray⟩,.slice sa N sc,.slice ra N rc,.slice (some ⟨t,0,none⟩) N N,.slice (some ⟨u,0,none⟩) N N,.slice none 0 0,.slice none 0 0,.int .u8 0,.slice none 0 0] 107)) V.heap.size t u ra rc vs (fun _=>.slice none 0 0) (P32.S.new,[]):=by
    refine⟨Aa aW _ (h.bel.trans (k4.mono (by omega))),Aa aZ,?_,?_,?_,?_,A5.nil _ _,A5.nil _ _,Ba.nil _ _,⟨hz,bJ.1,bE.1⟩,?_,fun j _ g hg=>(aE j g hg).elim,fun g hg=>⟨fun hm=>?_,fun j _ e=>aE j g e⟩⟩
    ·rw[qB];unfold rsC;simp only[hN];rfl
    ·simp only[hN];rw[Aa bT];exact k2.keep (fun g hg=>k4.block g hg)
    ·simp only[hN];exact kt.of_block (k4.block _ (World.rowIs.lt kt))
    ·simp only[hN];exact ku.of_block (k4.block _ (World.rowIs.lt ku))
    ·simp only[List.nodup_cons,zW,zT,or_false,not_or,not_false_eq_true,List.nodup_nil,and_true];omega
    ·have hb:=kb g hg;have bV:=aD.lt 2 g l2 hb;simp only[zW,zT,or_false]at hm;rcases hm with e|e|e
     ·omega
     ·exact aD.ap 2 6 g (by decide) l2 l6 hb (e ▸ bt)
     ·exact aD.ap 2 10 g (by decide) l2 aC hb (e ▸ bu)
   refine qR (K:=fun a2 w2=>a2=⟨#[.agg #[sT nm,sT tx,.slice sa N sc],qP0 H,(v2),(v3),(v4),(v5),(v6),(v7),(v8),(v9),(v10),(v11),(v12),(v13),(.agg #[sT nm,sT tx,.slice sa N sc,.slice ra N rc,.slice (oA t 0) N N,.slice (oA u 0) N N,.slice none 0 0,.slice none 0 0,.int .u8 0,.slice none 0 0]),(qP0 (V.heap.size))],[]⟩∧w2=V.alloc (.cells #[.string ⟨nm.toArray⟩,.string ⟨tx.toArray⟩,.slice sa N sc,.slice ra N rc,.slice (some ⟨t,0,none⟩) N N,.slice (some ⟨u,0,none⟩) N N,.slice none 0 0,.slice none 0 0,.int .u8 0,.slice none 0 0] 107)) (fun a2 w2 he=>?_) (by simp[Oper.wp,go_sem]);obtain⟨rfl,rfl⟩:=he;exact⟨v2,v3,v4,v5,v6,v7,v8,v9,v10,v11,v12,v13,_,_,t,u,ra,rc,vs,_,rfl,⟨by simpa using h.sz,h.bel.trans (k4.mono (by omega)),qK hz k4.size,(k4.block H (by omega)).trans h.bx,h.fr.add (i:=12) k4.size hz (fun _=>False) (fun g hg=>hg.elim),fun q=>h.f0 (I 0 (by omega) q),fun q=>h.f1 (I 1 (by omega) q),fun q=>⟨(h.f2 (I 2 (by omega) q)).1,(h.f2 (I 2 (by omega) q)).2.1.keep (fun g hg=>k4.block g hg),fun g hg=>by simpa using (h.f2 (I 2 (by omega) q)).2.2 g hg⟩,fun q=>h.f3 (I 3 (by omega) q),fun q=>h.f4 (I 4 (by omega) q),fun q=>h.f5 (I 5 (by omega) q),fun q=>⟨(h.f6 (I 6 (by omega) q)).1,(h.f6 (I 6 (by omega) q)).2.1.of_block (k4.block _ (World.rowIs.lt (h.f6 (I 6 (by omega) q)).2.1)),by simpa using (h.f6 (I 6 (by omega) q)).2.2⟩,fun q=>h.f7 (I 7 (by omega) q),fun q=>h.f8 (I 8 (by omega) q),fun q=>h.f9 (I 9 (by omega) q),fun q=>⟨(h.f10 (I 10 (by omega) q)).1,(h.f10 (I 10 (by omega) q)).2.1.of_block (k4.block _ (World.rowIs.lt (h.f10 (I 10 (by omega) q)).2.1)),by simpa using (h.f10 (I 10 (by omega) q)).2.2⟩,fun q=>h.f11 (I 11 (by omega) q),fun _=>⟨V.heap.size,rfl,bL⟩,fun q=>absurd (h.g13 (I 13 (by omega) q)) (by rw[aA];decide),fun q=>⟨J 0 (h.g11 (I 11 (by omega) q)).1,J 2 (h.g11 (I 11 (by omega) q)).2.1,J 6 (h.g11 (I 11 (by omega) q)).2.2.1,J 10 (h.g11 (I 11 (by omega) q)).2.2.2⟩,fun _=>J 11 aN,fun q=>J 12 (h.g13 (I 13 (by omega) q))⟩⟩
  |13,ho=>
   cases ho;refine Bc rfl rfl ?_;have bK:=Z ⟨12,.data⟩ (by simp) rfl;refine qR (K:=fun a2 w2=>a2=⟨#[.agg #[sT nm,sT tx,.slice sa N sc],qP0 H,(v15),(v3),(v4),(v5),(v6),(v7),(v8),(v9),(v10),(v11),(v12),(v13),(v14),(v15)],[]⟩∧w2=V) (fun a2 w2 he=>?_) (by simp[Oper.wp,go_sem]);obtain⟨rfl,rfl⟩:=he;exact⟨_,v3,v4,v5,v6,v7,v8,v9,v10,v11,v12,v13,v14,v15,t,u,ra,rc,vs,_,rfl,⟨by simpa using h.sz,h.bel,h.hsz,h.bx,h.fr.add (i:=13) (qJ _) h.hsz (fun _=>False) (fun g hg=>hg.elim),fun q=>h.f0 (I 0 (by omega) q),fun q=>h.f1 (I 1 (by omega) q),fun q=>⟨(h.f2 (I 2 (by omega) q)).1,(h.f2 (I 2 (by omega) q)).2.1,fun g hg=>by simpa using (h.f2 (I 2 (by omega) q)).2.2 g hg⟩,fun q=>h.f3 (I 3 (by omega) q),fun q=>h.f4 (I 4 (by omega) q),fun q=>h.f5 (I 5 (by omega) q),fun q=>⟨(h.f6 (I 6 (by omega) q)).1,(h.f6 (I 6 (by omega) q)).2.1,by simpa using (h.f6 (I 6 (by omega) q)).2.2⟩,fun q=>h.f7 (I 7 (by omega) q),fun q=>h.f8 (I 8 (by omega) q),fun q=>h.f9 (I 9 (by omega) q),fun q=>⟨(h.f10 (I 10 (by omega) q)).1,(h.f10 (I 10 (by omega) q)).2.1,by simpa using (h.f10 (I 10 (by omega) q)).2.2⟩,fun q=>h.f11 (I 11 (by omega) q),fun q=>h.f12 (I 12 (by omega) q),fun _=>rfl,fun q=>⟨J 0 (h.g11 (I 11 (by omega) q)).1,J 2 (h.g11 (I 11 (by omega) q)).2.1,J 6 (h.g11 (I 11 (by omega) q)).2.2.1,J 10 (h.g11 (I 11 (by omega) q)).2.2.2⟩,fun q=>J 11 (h.g12 (I 12 (by omega) q)),fun _=>J 12 bK⟩⟩
  |n+14,ho=>simp at ho
 ·rintro L a V ⟨v2,v3,v4,v5,v6,v7,v8,v9,v10,v11,v12,v13,v14,v15,t,u,ra,rc,vs,B,rfl,h⟩ bD
  have al:∀i,i<14→L.getD i false=true:=fun i hi=>by
   have h1:=bD i;have hs:=h.sz;simp only[Array.getD_eq_getD_getElem?]at h1 ⊢;rw[Array.getElem?_eq_getElem (by omega)]at h1 ⊢;exact h1
  obtain⟨b,rfl,aM⟩:=h.f12 (al 12 (by omega));obtain rfl:=h.f13 (al 13 (by omega));obtain⟨_,_,kb⟩:=h.f2 (al 2 (by omega))
  have aK:∀g,E8 b t u (fun _=>.slice none 0 0) g∨Fk ra vs g→H+1≤g:=fun g hg=>by
   obtain⟨l1,l2,l3⟩:=aM.low;rcases hg with(hg|⟨j,_,hg⟩)|hg
   ·simp only[zW,zT,or_false]at hg;omega
   ·have e:(none:Option Nat)=some g:=hg;cases e
   ·exact(h.fr.lt 2 g (al 2 (by omega)) (kb g hg)).1
  have aI:=And.intro (And.intro aM aK) h.bel;have HE:=Ab aI;clear aI aM h aK;go_wp2;refine qV (results_tmp rfl _ _ _) rfl ?_;exact⟨b,rfl,_,_,⟨t,u,ra,rc,vs,_,(Aa HE).1.1,rfl,rfl⟩,(Aa HE).1.2,(Aa HE).2⟩
open Go.RowKit
theorem Dm(d:P22.Def):(Bw d).steps.length=d.steps.length:=by simp[Bw]
theorem Va(d:P22.Def):P28.names (Bw d)=P28.names d:=by simp[P28.names,Bw,List.map_map,Function.comp_def,Kx]
theorem Vd(d:P22.Def):P28.undos (Bw d)=P28.undos d:=by simp[P28.undos,Bw,List.map_map,Function.comp_def,Kx]
theorem R9(d:P22.Def):P28.afters (Bw d)=P28.afters d:=by simp[P28.afters,Bw,List.map_map,Function.comp_def,Kx]
theorem Xz(d:P22.Def):P28.refs (Bw d)=P28.refs d:=by unfold P28.refs;rw[Va,R9]
theorem X6(d:P22.Def):P33.undoOf (Bw d)=P33.undoOf d:=by funext i;unfold P33.undoOf;rw[Vd]
theorem Ey(d:P22.Def)(i:Nat):P32.stepAt (Bw d) i=Kx (P32.stepAt d i):=by
 unfold P32.stepAt Bw;simp only[List.getD_eq_getElem?_getD,zJ];cases d.steps[i]?<;>rfl
theorem Uc(s:P22.Step)(n:Int):P31.begin_ (Kx s) n=P31.begin_ s n:=rfl
theorem Pv(d:P22.Def):P32.anyP (Bw d)=P32.anyP d:=by funext s p;unfold P32.anyP;rw[Dm]
theorem Pw(d:P22.Def):P32.halt (Bw d)=P32.halt d:=by funext s;unfold P32.halt;rw[Dm]
theorem Vb(d:P22.Def):P32.ready (Bw d)=P32.ready d:=by funext s i;unfold P32.ready;rw[Xz]
theorem Zh(d:P22.Def)(n:Int):P32.go1 (Bw d) n=P32.go1 d n:=by funext x i;unfold P32.go1;rw[Vb,Ey,Uc]
theorem U8(d:P22.Def)(n:Int):P32.forth (Bw d) n=P32.forth d n:=by funext x;unfold P32.forth;rw[Pv,Pw,Dm,Zh]
theorem Ky(d:P22.Def)(n:Int):∀(f:Nat) (x:P32.S × List P32.Order),P32.backGo (Bw d) n f x=P32.backGo d n f x
 |0,_=>rfl
 |f+1,x=>by
  unfold P32.backGo;cases P32.turn x.1 with
  |none=>rfl
  |some i=>
   simp only[X6,Ey,Uc,Ky d n f]
theorem Sb(d:P22.Def)(n:Int):P32.back (Bw d) n=P32.back d n:=by funext x;unfold P32.back;rw[Pv,Ky]
theorem Og(d:P22.Def)(n:Int):P32.on (Bw d) n=P32.on d n:=by
 funext x
 unfold P32.on P32.on2 P32.on1;rw[U8,Sb]
theorem U9(d:P22.Def):P32.has (Bw d)=P32.has d:=by funext i;unfold P32.has;rw[Dm]
theorem Vc(d:P22.Def)(n:Int):P32.start (Bw d) n=P32.start d n:=by funext s;unfold P32.start;rw[Og]
theorem Sa(d:P22.Def)(n:Int)(a:P33.Ans):P32.answer (Bw d) n a=P32.answer d n a:=by funext s;unfold P32.answer;rw[U9,Og,Ey];rfl
theorem Mt(d:P22.Def)(n:Int)(u:Bool):P32.tick1 (Bw d) n u=P32.tick1 d n u:=by funext x i;unfold P32.tick1;rw[Ey];rfl
theorem X5(d:P22.Def)(n:Int):P32.tick (Bw d) n=P32.tick d n:=by funext s;unfold P32.tick;rw[Og,Mt,Mt,Dm]
theorem Sc(d:P22.Def)(n:Int):P32.cancel (Bw d) n=P32.cancel d n:=by funext s;unfold P32.cancel;rw[Og,Pw]
theorem Xy(d:P22.Def):P32.open_ (Bw d)=P32.open_ d:=by funext s;unfold P32.open_;rw[Dm]
open Go.RowKit
def SgZ(b:Nat)(D:P22.Def)(x:P32.S × List P32.Order)(M R:Nat→Prop)(V:World)(v:Value)(V':World):Prop:=Cj V' v x.2∧∃M',Hc b D x.1 M' R V'∧KW M V V'∧(∀g,M' g→M g∨V.heap.size≤g)∧∀g,v.ownBlock=some g→(M g∨V.heap.size≤g)∧g<V'.heap.size∧¬M' g
theorem SE.evz{V W:World}{b bm rb C:Nat}{vs:Nat→Value}{d:Af}{dn un v:Value}{D:P22.Def}{x:P32.S × List P32.Order}(h:SE V (Mb b bm dn un) b bm rb C vs d x v W)(hd:d.bare=D)(hi:P32.Inv D x.1):SgZ b D x (Mb b bm dn un) (fun g=>Ce rb vs d.steps.length g∨d.blk g) V v W:=by
 obtain⟨I,J,k1,k2,Z,k4,k5⟩:=h;obtain⟨a,c,e,h1,h2⟩:=k2.slice;exact⟨⟨a,c,e,h1,h2⟩,_,⟨⟨bm,rb,C,vs,d,I,J,k1,hd,rfl,rfl⟩,hi⟩,k5,k4,fun g hg=>⟨(Z g hg).2,(k2.lt hg).2,(Z g hg).1⟩⟩
namespace Hc
variable {V V':World} {b:Nat} {D:P22.Def} {s:P32.S} {M R:Nat→Prop}
theorem startz(h:Hc b D s M R V)(n:Int):Calls Tryz.prog 64 #[qP0 b,.int .i64 n] V fun e V'=>∃v,e=.returned v∧SgZ b D (P32.start D n s) M R V v V':=by
 obtain⟨⟨bm,rb,C,vs,d,dn,un,h1,h2,rfl,rfl⟩,h3⟩:=h;subst h2;refine(Mn n V h1 h3 (fun hs=>P32.inv_start h3 hs)).mono ?_;rintro e W ⟨v,rfl,I⟩;exact⟨v,rfl,I.evz rfl (P32.good_start h3).1.inv⟩
theorem answerz(h:Hc b D s M R V)(n:Int)(a:P33.Ans):Calls Tryz.prog 61 #[qP0 b,.agg #[.int .i64 a.step,.int .i64 a.attempt,.bool a.undo,.int .u8 (a.outcome:Int)],.int .i64 n] V fun e V'=>∃v,e=.returned (.tuple #[v,.bool (P32.answer D n a s).2])∧SgZ b D (P32.answer D n a s).1 M R V v V':=by
 obtain⟨⟨bm,rb,C,vs,d,dn,un,h1,h2,rfl,rfl⟩,h3⟩:=h;subst h2;refine(Kg n a V h1 h3).mono ?_;rintro e W ⟨v,rfl,I⟩;exact⟨v,rfl,I.evz rfl (P32.good_answer h3).1.inv⟩
theorem tickz(h:Hc b D s M R V)(n:Int):Calls Tryz.prog 63 #[qP0 b,.int .i64 n] V fun e V'=>∃v,e=.returned v∧SgZ b D (P32.tick D n s) M R V v V':=by
 obtain⟨⟨bm,rb,C,vs,d,dn,un,h1,h2,rfl,rfl⟩,h3⟩:=h;subst h2;refine(Xn n V h1 h3).mono ?_;rintro e W ⟨v,rfl,I⟩;exact⟨v,rfl,I.evz rfl (P32.good_tick h3).1.inv⟩
theorem cancelz(h:Hc b D s M R V)(n:Int):Calls Tryz.prog 62 #[qP0 b,.int .i64 n] V fun e V'=>∃v,e=.returned (.tuple #[v,.bool (P32.cancel D n s).2])∧SgZ b D (P32.cancel D n s).1 M R V v V':=by
 obtain⟨⟨bm,rb,C,vs,d,dn,un,h1,h2,rfl,rfl⟩,h3⟩:=h;subst h2;refine(Rj n V h1 (fun hs=>P32.inv_halt h3 hs)).mono ?_;rintro e W ⟨v,rfl,I⟩;exact⟨v,rfl,I.evz rfl (P32.good_cancel h3).1.inv⟩
end Hc
namespace Cz
variable {d:Af} {C b:Nat} {x:P32.S × List P32.Order} {M R:Nat→Prop} {V V':World}
theorem lt(h:Cz d C b x M R V){g:Nat}(hg:M g∨R g∨d.blk g):g<V.heap.size:=by
 obtain⟨gd,gu,ra,rc,vs,o,h1,rfl,rfl⟩:=h.ex;exact h1.lt hg
theorem keep(h:Cz d C b x M R V)(hk:∀g,M g∨R g∨d.blk g→V'.heap[g]?=V.heap[g]?):Cz d C b x M R V':=by
 obtain⟨gd,gu,ra,rc,vs,o,h1,rfl,rfl⟩:=h.ex;exact⟨gd,gu,ra,rc,vs,o,h1.keep hk,rfl,rfl⟩
theorem below(h:Cz d C b x M R V)(hb:Below V.heap.size V V'):Cz d C b x M R V':=h.keep (fun g hg=>hb.block g (h.lt hg))
theorem cells(h:Cz d C b x M R V):V.cell? ⟨b,8,none⟩=some (.int .u8 (x.1.status:Int))∧(∃a c,V.cell? ⟨b,6,none⟩=some (.slice a x.1.done.length c)∧J4 V a x.1.done)∧(∃a c,V.cell? ⟨b,7,none⟩=some (.slice a x.1.undone.length c)∧J4 V a x.1.undone):=by
 obtain⟨gd,gu,ra,rc,vs,o,h1,rfl,rfl⟩:=h.ex;obtain⟨a,c,e,_,_,hi⟩:=h1.dno.slice;obtain⟨a2,c2,J,_,_,I⟩:=h1.uno.slice;refine⟨h1.cell (j:=8) rfl,⟨a,c,?_,hi⟩,⟨a2,c2,?_,I⟩⟩
 ·rw[←e];exact h1.cell (j:=6) rfl
 ·rw[←J];exact h1.cell (j:=7) rfl
end Cz
structure Tw (d:Af) (K b b2 C:Nat) (w0:World) (P:Nat→Prop) (s t:P32.S) (V:World):Prop where
 ex:∃M R M2 R2,Hc b (Bw d.bare) s M R V∧Cz d C b2 (t,[]) M2 R2 V∧(∀g,M g→¬M2 g∧¬R2 g∧¬d.blk g)∧(∀g,M2 g→¬R g)∧(∀g,M g∨M2 g→K≤g)∧∀g,P g→(¬M g∧¬M2 g)∧g<V.heap.size
 bel:Below K w0 V
 inv:P32.Inv d.bare t
 hN:d.steps.length≤100000
 hK:K≤V.heap.size
namespace Tw
variable {d:Af} {K b b2 C:Nat} {w0:World} {P:Nat→Prop} {s t:P32.S} {V V':World}
theorem below(h:Tw d K b b2 C w0 P s t V)(hb:Below V.heap.size V V'):Tw d K b b2 C w0 P s t V':=by
 obtain⟨M,R,M2,R2,h1,h2,h3,h4,J,I⟩:=h.ex;have:=hb.size;exact⟨⟨M,R,M2,R2,h1.below hb,h2.below hb,h3,h4,J,fun g hg=>⟨(I g hg).1,by have:=(I g hg).2;omega⟩⟩,h.bel.trans (hb.mono h.hK),h.inv,h.hN,qK h.hK hb.size⟩
theorem mono{Q:Nat→Prop}(h:Tw d K b b2 C w0 P s t V)(hq:∀g,Q g→P g):Tw d K b b2 C w0 Q s t V:=by
 obtain⟨M,R,M2,R2,h1,h2,h3,h4,I,J⟩:=h.ex;exact⟨⟨M,R,M2,R2,h1,h2,h3,h4,I,fun g hg=>J g (hq g hg)⟩,h.bel,h.inv,h.hN,h.hK⟩
theorem guard{Q:Nat→Prop}(h:Tw d K b b2 C w0 P s t V)(hb:Below V.heap.size V V')(hq:∀g,Q g→P g∨V.heap.size≤g∧g<V'.heap.size):Tw d K b b2 C w0 Q s t V':=by
 obtain⟨M,R,M2,R2,h1,h2,h3,h4,J,I⟩:=h.ex;have Z:=hb.size;refine⟨⟨M,R,M2,R2,h1.below hb,h2.below hb,h3,h4,J,fun g hg=>?_⟩,h.bel.trans (hb.mono h.hK),h.inv,h.hN,qK h.hK Z⟩;rcases hq g hg with e|e
 ·exact⟨(I g e).1,by have:=(I g e).2;omega⟩
 ·exact⟨⟨fun q=>by have:=h1.lt (.inl q);omega,fun q=>by have:=h2.lt (.inl q);omega⟩,e.2⟩
theorem ofP(h:Tw d K b b2 C w0 P s t V){x:P32.S × List P32.Order}{v:Value}{M R M2 R2:Nat→Prop}(aA:Hc b (Bw d.bare) s M R V)(h2:Cz d C b2 (t,[]) M2 R2 V)(h3:∀g,M g→¬M2 g∧¬R2 g∧¬d.blk g)(h4:∀g,M2 g→¬R g)(I:∀g,M g∨M2 g→K≤g)(J:∀g,P g→(¬M g∧¬M2 g)∧g<V.heap.size)
  (he:SgZ b (Bw d.bare) x M R V v V'):Cj V' v x.2∧Tw d K b b2 C w0 (fun g=>P g∨v.ownBlock=some g) x.1 t V'∧∀g,P g→V'.heap[g]?=V.heap[g]?:=by
 obtain⟨Z,M',h1,hk,hs,hv⟩:=he;have hK:=h.hK;have hz:=hk.size;refine⟨Z,⟨⟨M',R,M2,R2,h1,h2.keep (fun g hg=>hk.same g (fun hm=>?_) (h2.lt hg)),fun g hg=>?_,h4,fun g hg=>?_,fun g hg=>?_⟩,h.bel.trans ⟨hk.os,hk.tape,hk.output,hk.size,fun g hg=>hk.same g (fun hm=>?_) (by omega)⟩,h.inv,h.hN,qK h.hK hk.size⟩,fun g hg=>hk.same g (J g hg).1.1 (J g hg).2⟩
 ·obtain⟨a,b,c⟩:=h3 g hm;rcases hg with hg|hg|hg
  ·exact a hg
  ·exact b hg
  ·exact c hg
 ·rcases hs g hg with e|e
  ·exact h3 g e
  ·exact⟨fun q=>by have:=h2.lt (.inl q);omega,fun q=>by have:=h2.lt (.inr (.inl q));omega,fun q=>by have:=h2.lt (.inr (.inr q));omega⟩
 ·rcases hg with hg|hg
  ·rcases hs g hg with e|e
   ·exact I g (.inl e)
   ·omega
  ·exact I g (.inr hg)
 ·rcases hg with hg|hg
  ·obtain⟨⟨a,b⟩,c⟩:=J g hg;exact⟨⟨fun q=>(hs g q).elim a (fun e=>by omega),b⟩,by omega⟩
  ·obtain⟨a,b,c⟩:=hv g hg;refine⟨⟨c,fun hm=>?_⟩,b⟩;rcases a with e|e
   ·exact(h3 g e).1 hm
   ·have:=h2.lt (.inl hm);omega
 ·have:=I g (.inl hm);omega
theorem ofR(h:Tw d K b b2 C w0 P s t V){x:P32.S × List P32.Order}{v:Value}{M R M2 R2:Nat→Prop}(h1:Hc b (Bw d.bare) s M R V)(aA:Cz d C b2 (t,[]) M2 R2 V)(h3:∀g,M g→¬M2 g∧¬R2 g∧¬d.blk g)(h4:∀g,M2 g→¬R g)(I:∀g,M g∨M2 g→K≤g)(Z:∀g,P g→(¬M g∧¬M2 g)∧g<V.heap.size)
  (he:Nz d C b2 x M2 R2 V v V') (hi:P32.Inv d.bare x.1):Cj V' v x.2∧Tw d K b b2 C w0 P s x.1 V'∧∀g,P g→V'.heap[g]?=V.heap[g]?:=by
 obtain⟨k0,J,h2,hk⟩:=he;have hK:=h.hK;have hz:=hk.size;refine⟨k0,⟨⟨M,R,J,R2,h1.keep hk.size (fun g hg=>hk.same g (fun hm=>?_) (h1.lt hg)),h2,fun g hg=>⟨fun q=>?_,(h3 g hg).2⟩,fun g hg q=>?_,fun g hg=>?_,fun g hg=>?_⟩,h.bel.trans ⟨hk.os,hk.tape,hk.output,hk.size,fun g hg=>hk.same g (fun hm=>?_) (by omega)⟩,hi,h.hN,qK h.hK hk.size⟩,fun g hg=>hk.same g (Z g hg).1.2 (Z g hg).2⟩
 ·rcases hg with hg|hg
  ·exact(h3 g hg).1 hm
  ·exact h4 g hm hg
 ·rcases hk.sub g q with e|e
  ·exact(h3 g hg).1 e
  ·have:=h1.lt (.inl hg);omega
 ·rcases hk.sub g hg with e|e
  ·exact h4 g e q
  ·have:=h1.lt (.inr q);omega
 ·rcases hg with hg|hg
  ·exact I g (.inl hg)
  ·rcases hk.sub g hg with e|e
   ·exact I g (.inr e)
   ·omega
 ·obtain⟨⟨a,b⟩,c⟩:=Z g hg;exact⟨⟨a,fun q=>(hk.sub g q).elim b (fun e=>by omega)⟩,by omega⟩
 ·have:=I g (.inr hm);omega
theorem startP(h:Tw d K b b2 C w0 P s t V)(n:Int):Calls Tryz.prog 64 #[qP0 b,.int .i64 n] V fun e V'=>∃v,e=.returned v∧Cj V' v (P32.start d.bare n s).2∧Tw d K b b2 C w0 (fun g=>P g∨v.ownBlock=some g) (P32.start d.bare n s).1 t V'∧∀g,P g→V'.heap[g]?=V.heap[g]?:=by
 obtain⟨M,R,M2,R2,h1,h2,h3,h4,I,J⟩:=h.ex;refine(h1.startz n).mono ?_;rintro e V' ⟨v,rfl,k⟩;rw[Vc]at k;exact⟨v,rfl,h.ofP h1 h2 h3 h4 I J k⟩
theorem answerP(h:Tw d K b b2 C w0 P s t V)(n:Int)(a:P33.Ans):Calls Tryz.prog 61 #[qP0 b,.agg #[.int .i64 a.step,.int .i64 a.attempt,.bool a.undo,.int .u8 (a.outcome:Int)],.int .i64 n] V fun e V'=>∃v,e=.returned (.tuple #[v,.bool (P32.answer d.bare n a s).2])∧Cj V' v (P32.answer d.bare n a s).1.2∧Tw d K b b2 C w0 (fun g=>P g∨v.ownBlock=some g) (P32.answer d.bare n a s).1.1 t V'∧∀g,P g→V'.heap[g]?=V.heap[g]?:=by
 obtain⟨M,R,M2,R2,h1,h2,h3,h4,I,J⟩:=h.ex;refine(h1.answerz n a).mono ?_;rintro e V' ⟨v,rfl,k⟩;rw[Sa]at k ⊢;exact⟨v,rfl,h.ofP h1 h2 h3 h4 I J k⟩
theorem tickP(h:Tw d K b b2 C w0 P s t V)(n:Int):Calls Tryz.prog 63 #[qP0 b,.int .i64 n] V fun e V'=>∃v,e=.returned v∧Cj V' v (P32.tick d.bare n s).2∧Tw d K b b2 C w0 (fun g=>P g∨v.ownBlock=some g) (P32.tick d.bare n s).1 t V'∧∀g,P g→V'.heap[g]?=V.heap[g]?:=by
 obtain⟨M,R,M2,R2,h1,h2,h3,h4,I,J⟩:=h.ex;refine(h1.tickz n).mono ?_;rintro e V' ⟨v,rfl,k⟩;rw[X5]at k;exact⟨v,rfl,h.ofP h1 h2 h3 h4 I J k⟩
theorem cancelP(h:Tw d K b b2 C w0 P s t V)(n:Int):Calls Tryz.prog 62 #[qP0 b,.int .i64 n] V fun e V'=>∃v,e=.returned (.tuple #[v,.bool (P32.cancel d.bare n s).2])∧Cj V' v (P32.cancel d.bare n s).1.2∧Tw d K b b2 C w0 (fun g=>P g∨v.ownBlock=some g) (P32.cancel d.bare n s).1.1 t V'∧∀g,P g→V'.heap[g]?=V.heap[g]?:=by
 obtain⟨M,R,M2,R2,h1,h2,h3,h4,I,J⟩:=h.ex;refine(h1.cancelz n).mono ?_;rintro e V' ⟨v,rfl,k⟩;rw[Sc]at k ⊢;exact⟨v,rfl,h.ofP h1 h2 h3 h4 I J k⟩
theorem startR(h:Tw d K b b2 C w0 P s t V)(n:Int):Calls Tryz.prog 95 #[qP0 b2,.int .i64 n] V fun e V'=>∃v,e=.returned v∧Cj V' v (P32.start d.bare n t).2∧Tw d K b b2 C w0 P s (P32.start d.bare n t).1 V'∧∀g,P g→V'.heap[g]?=V.heap[g]?:=by
 obtain⟨M,R,M2,R2,h1,h2,h3,h4,I,J⟩:=h.ex;refine(N6 n V h2 h.inv h.hN).mono ?_;rintro e V' ⟨v,rfl,k⟩;exact⟨v,rfl,h.ofR h1 h2 h3 h4 I J k (P32.good_start h.inv).1.inv⟩
theorem answerR(h:Tw d K b b2 C w0 P s t V)(n:Int)(a:P33.Ans):Calls Tryz.prog 92 #[qP0 b2,.agg #[.int .i64 a.step,.int .i64 a.attempt,.bool a.undo,.int .u8 (a.outcome:Int)],.int .i64 n] V fun e V'=>∃v,e=.returned (.tuple #[v,.bool (P32.answer d.bare n a t).2])∧Cj V' v (P32.answer d.bare n a t).1.2∧Tw d K b b2 C w0 P s (P32.answer d.bare n a t).1.1 V'∧∀g,P g→V'.heap[g]?=V.heap[g]?:=by
 obtain⟨M,R,M2,R2,h1,h2,h3,h4,I,J⟩:=h.ex;refine(L0 n a V h2 h.inv h.hN).mono ?_;rintro e V' ⟨v,rfl,k⟩;exact⟨v,rfl,h.ofR h1 h2 h3 h4 I J k (P32.good_answer h.inv).1.inv⟩
theorem tickR(h:Tw d K b b2 C w0 P s t V)(n:Int):Calls Tryz.prog 93 #[qP0 b2,.int .i64 n] V fun e V'=>∃v,e=.returned v∧Cj V' v (P32.tick d.bare n t).2∧Tw d K b b2 C w0 P s (P32.tick d.bare n t).1 V'∧∀g,P g→V'.heap[g]?=V.heap[g]?:=by
 obtain⟨M,R,M2,R2,h1,h2,h3,h4,I,J⟩:=h.ex;refine(Pg n V h2 h.inv h.hN).mono ?_;rintro e V' ⟨v,rfl,k⟩;exact⟨v,rfl,h.ofR h1 h2 h3 h4 I J k (P32.good_tick h.inv).1.inv⟩
theorem cancelR(h:Tw d K b b2 C w0 P s t V)(n:Int):Calls Tryz.prog 94 #[qP0 b2,.int .i64 n] V fun e V'=>∃v,e=.returned (.tuple #[v,.bool (P32.cancel d.bare n t).2])∧Cj V' v (P32.cancel d.bare n t).1.2∧Tw d K b b2 C w0 P s (P32.cancel d.bare n t).1.1 V'∧∀g,P g→V'.heap[g]?=V.heap[g]?:=by
 obtain⟨M,R,M2,R2,h1,h2,h3,h4,I,J⟩:=h.ex;refine(L4 n V h2 h.inv h.hN).mono ?_;rintro e V' ⟨v,rfl,k⟩;exact⟨v,rfl,h.ofR h1 h2 h3 h4 I J k (P32.good_cancel h.inv).1.inv⟩
theorem openP(h:Tw d K b b2 C w0 P s t V):Calls Tryz.prog 56 #[qP0 b] V fun e V'=>∃v,e=.returned v∧Cj V' v (P32.open_ d.bare s)∧Below V.heap.size V V':=by
 obtain⟨M,R,M2,R2,h1,h2,h3,h4,I,J⟩:=h.ex;have:=h1.opens
 rwa [Xy]at this
theorem openR(h:Tw d K b b2 C w0 P s t V):Calls Tryz.prog 57 #[qP0 b2] V fun e V'=>∃v,e=.returned v∧Cj V' v (P32.open_ d.bare t)∧Below V.heap.size V V':=by
 obtain⟨M,R,M2,R2,h1,h2,h3,h4,I,J⟩:=h.ex;exact Pf V h2 h.hN
theorem view(h:Tw d K b b2 C w0 P s t V) :
  Calls Tryz.prog 52 #[qP0 b] V (fun e V'=>e=.returned (.int .u8 s.status)∧V'=V) ∧
  Calls Tryz.prog 58 #[qP0 b] V (fun e V'=>e=.returned (.bool (decide (2<s.status)))∧V'=V) ∧
  Calls Tryz.prog 53 #[qP0 b] V (fun e V'=>∃a c,e=.returned (.slice a s.done.length c)∧J4 V' a s.done∧Below V.heap.size V V') ∧
  Calls Tryz.prog 54 #[qP0 b] V (fun e V'=>∃a c,e=.returned (.slice a s.undone.length c)∧J4 V' a s.undone∧Below V.heap.size V V') ∧
  Calls Tryz.prog 56 #[qP0 b] V (fun e V'=>∃a c,e=.returned (.slice a (P32.open_ d.bare s).length c)∧Cs V' a (P32.open_ d.bare s)∧Below V.heap.size V V') ∧
  Calls Tryz.prog 57 #[qP0 b2] V (fun e V'=>∃a c,e=.returned (.slice a (P32.open_ d.bare t).length c)∧Cs V' a (P32.open_ d.bare t)∧Below V.heap.size V V') ∧
  (V.cell? ⟨b2,8,none⟩=some (.int .u8 t.status)∧(∃a c,V.cell? ⟨b2,6,none⟩=some (.slice a t.done.length c)∧J4 V a t.done)∧(∃a c,V.cell? ⟨b2,7,none⟩=some (.slice a t.undone.length c)∧J4 V a t.undone)):=by
 obtain⟨M,R,M2,R2,h1,h2,h3,h4,h5,h6⟩:=h.ex;refine⟨h1.status,h1.over,h1.done.mono ?_,h1.undone.mono ?_,h.openP.mono ?_,h.openR.mono ?_,h2.cells⟩
 iterate 2
  ·rintro e V' ⟨v',rfl,Z,J⟩;obtain⟨a,c,rfl,_,I⟩:=I2 Z;exact⟨a,c,rfl,I,J⟩
 iterate 2
  ·rintro e V' ⟨v',rfl,⟨a,c,rfl,_,I⟩,J⟩;exact⟨a,c,rfl,I,J⟩
end Tw
open Go.RowKit
structure Hb (d:Af) (K b b2 C:Nat) (w0:World) (H:Nat) (W0:World) (s t:P32.S) (l:List (Value × List P32.Order)) (V:World):Prop where
 tw:Tw d K b b2 C w0 (fun g=>(g=H∨g=H+1)∨∃p∈l,p.1.ownBlock=some g) s t V
 bH:V.heap[H]?=W0.heap[H]?
 bA:V.heap[H+1]?=W0.heap[H+1]?
 os:∀p∈l,Cj V p.1 p.2
namespace Hb
variable {d:Af} {K b b2 C H:Nat} {w0 W0:World} {s t s' t':P32.S} {l:List (Value × List P32.Order)} {V V':World} {v:Value} {os:List P32.Order}
theorem start(h:Tw d K b b2 C w0 (fun _=>False) s t V)(hb:Below V.heap.size V W0)(J:V.heap.size=H)(I:H+1<W0.heap.size):Hb d K b b2 C w0 H W0 s t [] W0:=
 ⟨h.guard hb (fun g hg=>.inr (by rcases hg with(e|e)|⟨p,hp,_⟩<;>first|omega|cases hp)),rfl,rfl,fun p hp=>by cases hp⟩
theorem below(h:Hb d K b b2 C w0 H W0 s t l V)(hb:Below V.heap.size V V'):Hb d K b b2 C w0 H W0 s t l V':=by
 have hl:∀g,((g=H∨g=H+1)∨∃p∈l,p.1.ownBlock=some g)→g<V.heap.size:=fun g hg=>by
  obtain⟨M,R,M2,R2,_,_,_,_,_,I⟩:=h.tw.ex;exact(I g hg).2
 exact⟨h.tw.below hb,(hb.block H (hl H (.inl (.inl rfl)))).trans h.bH,(hb.block _ (hl _ (.inl (.inr rfl)))).trans h.bA,fun p hp=>(h.os p hp).keep (fun g hg=>hb.block g (hl g (.inr ⟨p,hp,hg⟩)))⟩
theorem stepP(h:Hb d K b b2 C w0 H W0 s t l V)(hx:Cj V' v os∧Tw d K b b2 C w0 (fun g=>((g=H∨g=H+1)∨∃p∈l,p.1.ownBlock=some g)∨v.ownBlock=some g) s' t V'∧∀g,((g=H∨g=H+1)∨∃p∈l,p.1.ownBlock=some g)→V'.heap[g]?=V.heap[g]?):Hb d K b b2 C w0 H W0 s' t ((v,os)::l) V':=by
 obtain⟨h1,h2,h3⟩:=hx;refine⟨h2.mono (fun g hg=>?_),(h3 H (.inl (.inl rfl))).trans h.bH,(h3 _ (.inl (.inr rfl))).trans h.bA,fun p hp=>?_⟩
 ·rcases hg with e|⟨p,hp,e⟩
  ·exact .inl (.inl e)
  ·rcases zW.1 hp with rfl|hp
   ·exact .inr e
   ·exact .inl (.inr ⟨p,hp,e⟩)
 ·rcases zW.1 hp with rfl|hp
  ·exact h1
  ·exact(h.os p hp).keep (fun g hg=>h3 g (.inr ⟨p,hp,hg⟩))
theorem stepR(h:Hb d K b b2 C w0 H W0 s t l V)(hx:Cj V' v os∧Tw d K b b2 C w0 (fun g=>(g=H∨g=H+1)∨∃p∈l,p.1.ownBlock=some g) s t' V'∧∀g,((g=H∨g=H+1)∨∃p∈l,p.1.ownBlock=some g)→V'.heap[g]?=V.heap[g]?):Hb d K b b2 C w0 H W0 s t' l V'∧Cj V' v os:=by
 obtain⟨h1,h2,h3⟩:=hx;exact⟨⟨h2,(h3 H (.inl (.inl rfl))).trans h.bH,(h3 _ (.inl (.inr rfl))).trans h.bA,fun p hp=>(h.os p hp).keep (fun g hg=>h3 g (.inr ⟨p,hp,hg⟩))⟩,h1⟩
theorem orders(h:Hb d K b b2 C w0 H W0 s t [(v,os)] V){v2:Value}(h2:Cj V v2 os)(hl:os.length≤1000000):Calls Tryz.prog 55 #[v,v2] V fun e V'=>e=.returned (.bool true)∧Hb d K b b2 C w0 H W0 s t [(v,os)] V':=by
 obtain⟨a,c,e,_,J⟩:=h.os _ (zX.2 rfl);have e:v=.slice a os.length c:=e;subst e;obtain⟨a2,c2,rfl,_,I⟩:=h2;refine(Jk a a2 c c2 os V J I hl).mono ?_;rintro e V' ⟨rfl,hb⟩;exact⟨rfl,h.below hb⟩
theorem fin(h:Hb d K b b2 C w0 H W0 s t l V):Tw d K b b2 C w0 (fun _=>False) s t V:=h.tw.mono (fun g hg=>hg.elim)
end Hb
theorem Qam{d:Af}{K b b2 C:Nat}{w0:World}{s:P32.S}{V:World}(a:P32.Ask)(hp:a.pos<256)(h:Tw d K b b2 C w0 (fun _=>False) s s V) :
  Calls Tryz.prog 51 #[qP0 b,qP0 b2,.agg #[.int .u8 (a.kind:Int),.int .i64 a.a.step,.int .i64 a.a.attempt,.bool a.a.undo,.int .u8 (a.a.outcome:Int),.int .i64 a.now,.int .u8 (a.pos:Int)]] V fun e V'=>e=.returned (.bool true)∧Tw d K b b2 C w0 (fun _=>False) (P32.give d.bare s a).1 (P32.give d.bare s a).1 V':=by
 obtain⟨H,hH⟩:=qeX V.heap.size;have aU:=X8 h.inv a;rw[Md.blen]at aU;have cT:=h.hN;obtain⟨k,⟨si,aa,au,ao⟩,n,ps⟩:=a;obtain⟨⟨s',os⟩,hX⟩:∃X,P32.give d.bare s ⟨k,⟨si,aa,au,ao⟩,n,ps⟩=X:=⟨_,rfl⟩;have bT:os.length≤1000000:=by rw[hX]at aU;simp only at aU;omega
 have aJ:=fun o=>Yr (D:=d.bare) (s:=s) (a:=⟨k,⟨si,aa,au,ao⟩,n,ps⟩) (o:=o);have aW:=Zv (D:=d.bare) (s:=s) (a:=⟨k,⟨si,aa,au,ao⟩,n,ps⟩);have cN:(if k=0∨k=4 then (P32.answer d.bare n (P32.pick d.bare s ⟨k,⟨si,aa,au,ao⟩,n,ps⟩) s).1 else if k=1 then P32.tick d.bare n s else if k=2 then (P32.cancel d.bare n s).1 else P32.start d.bare n s)=(s',os):=hX;simp only at aJ aW hp;obtain⟨W1,cG,bK,g0,bZ⟩:=As V (.cells #[.int .u8 (k:Int),.int .i64 si,.int .i64 aa,.bool au,.int .u8 (ao:Int),.int .i64 n,.int .u8 (ps:Int)] 103) H hH;obtain⟨W2,cK,bG,g1,dA⟩:=As W1 (.cells #[.int .i64 si,.int .i64 aa,.bool au,.int .u8 (ao:Int)] 37) (H+1) bZ;have bU:=(bG.block H (by omega)).trans g0;have aQ:Below H V W2:=bK.trans (bG.mono (by omega));have bE:=(h.below (by rw[hH];exact aQ)).openR;obtain⟨OL,cC⟩:∃l,P32.open_ d.bare s=l:=⟨_,rfl⟩;rw[cC]at aJ aW bE;obtain⟨L,hL⟩:=qeX OL.length
 have aK:∀j v,([.int .u8 (k:Int),.int .i64 si,.int .i64 aa,.bool au,.int .u8 (ao:Int),.int .i64 n,.int .u8 (ps:Int)]:List Value)[j]?=some v→∀W:World,W.heap[H]?=W2.heap[H]?→W.cell? ⟨H,j,none⟩=some v:=fun j v hj W hW=>by
  rw[World.cell?,hW,bU];simpa using hj
 have cD:∀W:World,Below H V W→H+1<W.heap.size→Hb d K b b2 C w0 H W s s [] W:=fun W hW hz=>Hb.start h (by rw[hH];exact hW) hH hz
 have aC:∀j v,([.int .u8 (k:Int),.int .i64 si,.int .i64 aa,.bool au,.int .u8 (ao:Int),.int .i64 n,.int .u8 (ps:Int)]:List Value)[j]?=some v→W1.cell? ⟨H,j,none⟩=some v:=fun j v hj=>by
  rw[World.cell?,g0];simpa using hj
 have i1:=aC 1 _ rfl;have i2:=aC 2 _ rfl;have i3:=aC 3 _ rfl;have i4:=aC 4 _ rfl
 have aZ:Calls Tryz.prog 57 #[qP0 b2] W2 fun e V'=>∃oa oc,e=.returned (.slice oa L oc)∧Cs V' oa OL∧Below W2.heap.size W2 V':=by
  refine bE.mono ?_;rintro e V' ⟨v,rfl,⟨oa,oc,rfl,q1,q2⟩,q3⟩;rw[hL];exact⟨oa,oc,rfl,q2,q3⟩
 have bD:=fun(t t':P32.S) (v v2:Value) (W0 V:World) (h1:Hb d K b b2 C w0 H W0 t t' [(v,os)] V) (h2:Cj V v2 os)=>h1.orders h2 bT;have bO:=Ab aZ;have cL:=Ab cG;have bV:=Ab cK;have aB:=Ab aK;have cM:=Ab g1;have bW:=Ab cD;have bL:=Ab aQ;have aN:=Ab cN;have bQ:=Ab aJ;have cH:=Ab aW;have HL:=Ab hL;have aM:=Ab bD;have cX:H+1+1=W2.heap.size:=by omega
 rw[hX];simp only;clear cG cK aK cD aQ cN aJ aW hL bE aZ g0 g1 bU bK bG h cC aC bD hX aU cT bT;go_enter Tryz.func51,Tryz.ntmps51
 go_upto_region 1 with fail
 try rw[hH]
 rw[Aa cL];go_upto_region 2 with fail
 try rw[bZ]
 rw[Aa bV];clear i1 i2 i3 i4;go_upto_region 3 with(go_at_call 57;refine(Aa bO).mono ?_;rintro e V3 ⟨oa,oc,rfl,cJ,aR⟩)
 have aS:Below H V V3:=(Aa bL).trans (aR.mono (by omega));have cO:H+1<V3.heap.size:=by have:=aR.size;omega
 have aD:=aR.block H (by omega);have aP:=(aR.block (H+1) (by omega)).trans (Aa cM);have h0:=Aa bW V3 aS cO;have x0:=Aa aB 0 _ rfl _ aD;have x4:=Aa aB 4 _ rfl _ aD;have x5:=Aa aB 5 _ rfl _ aD;have x6:=Aa aB 6 _ rfl _ aD;obtain⟨⟨y0,f0⟩,⟨y1,f1⟩,⟨y2,f2⟩,⟨y3,f3⟩⟩:=Bl aP;have cW:=Ab cJ;have cV:=Ab aS;have aH:=Ab aD;have bF:=Ab aP;have H0:=Ab h0;clear cJ aR aS aD aP h0 cL bV bO bL cM;by_cases h4:k=4
 ·have p0:((k:Int)==0)=false:=by simp;omega
  have p4:((k:Int)==4)=true:=by simp;omega
  have H4:=Ab h4;by_cases hl:L=0
  ·have cB:OL=[]:=qT ((Aa HL).trans hl);have pk:=Aa cH (.inr cB);have aT:=Ab pk;have l1:(L:Int)≤0:=by omega
   have l2:decide ((L:Int) > 0)=false:=by simp;omega
   clear h4 hl cB pk x4 x6 f0 f1 f2 f3;have I:(P32.answer d.bare n ⟨si,aa,au,ao⟩ s).1=(s',os):=by rw[←Aa aN,if_pos (.inr (Aa H4)),Aa aT]
   obtain⟨OK,aG⟩:∃q,(P32.answer d.bare n ⟨si,aa,au,ao⟩ s).2=q:=⟨_,rfl⟩;have hP:=fun X (hd:Hb d K b b2 C w0 H V3 s s [] X)=>hd.tw.answerP n ⟨si,aa,au,ao⟩;have hR:=fun v X (hd:Hb d K b b2 C w0 H V3 s' s [(v,os)] X)=>hd.tw.answerR n ⟨si,aa,au,ao⟩;simp only[I,aG]at hP hR;have HP:=Ab hP;have HR:=Ab hR;clear hP hR I aG;go_upto_region 10 with(go_at_call 61;refine(Aa HP _ (Aa H0)).mono ?_;rintro e V4 ⟨v4,rfl,k4⟩;have aA:=Ab ((Aa H0).stepP k4);clear k4)
   have u5:=Aa aB 5 _ rfl _ ((Aa aA).bH.trans (Aa aH));obtain⟨⟨u0,_⟩,⟨u1,_⟩,⟨u2,_⟩,⟨u3,_⟩⟩:=Bl ((Aa aA).bA.trans (Aa bF));go_upto_region 11 with(go_at_call 92;refine(Aa HR _ _ (Aa aA)).mono ?_;rintro e V5 ⟨v5,rfl,k5⟩;have aE:=Ab ((Aa aA).stepR k5);clear k5)
   clear u0 u1 u2 u3 u5
   cases OK <;>
    ·go_wp2_with (go_at_call 55;refine(Aa aM _ _ _ _ _ _ (Aa aE).1 (Aa aE).2).mono ?_;rintro e V6 ⟨rfl,h6⟩;have aI:=Ab h6;clear h6)
     go_ret;exact⟨rfl,(Aa aI).fin⟩
  ·have l1:(0:Int)<(L:Int):=by omega
   have l2:decide ((L:Int) > 0)=true:=by simp;omega
   obtain⟨J,hJ⟩:=qeX (ps % L);have cP:J<L:=by rw[←hJ];exact Nat.mod_lt _ (by omega)
   have cZ:(J:Int)<(L:Int):=by omega
   obtain⟨o,ho⟩:=Ap (Aa HL) cP;have pk:=Aa bQ o h4 (by rw[Aa HL,hJ];exact ho);have cY:(ps:Int).tmod (L:Int)=(J:Int):=by rw[Int.tmod_eq_emod_of_nonneg (by omega)];omega
   have dC:(ps:Int) % (L:Int)=(J:Int):=by omega
   have hw:IntKind.i64.wrap (ps:Int)=(ps:Int):=qG _ (by omega);have aT:=Ab pk;obtain⟨g,q,rfl,o0,o1,o2,o3⟩:=Aa cW J o ho;obtain⟨W5,cF,aX,g5,dB⟩:=As V3 (.cells #[.int .i64 (o.step:Int),.int .i64 o.att,.bool o.undo,.int .i64 o.til] 35) V3.heap.size rfl;have cU:=Ab cF;have aD:=(aX.block H (by omega)).trans (Aa aH);have aP:=(aX.block (H+1) (by omega)).trans (Aa bF);have cS:=Aa aB 0 _ rfl _ aD;have w4:=Aa aB 4 _ rfl _ aD;have aY:Below H V W5:=(Aa cV).trans (aX.mono (by omega));have bJ:=Ab aY;have bC:=Ab aP;have bM:=Ab aD;have cR:=Ab g5;clear cF aX g5 aD aP aY h4 hl pk ho hJ;go_upto_region 5 with fail
   rw[Aa cU];clear x0 x4 x5 x6 y0 y1 y2 y3 f0 f1 f2 f3;obtain⟨⟨z0,f0⟩,⟨z1,f1⟩,⟨z2,f2⟩,⟨z3,f3⟩⟩:=Bl (Aa bC);obtain⟨⟨v0,_⟩,⟨v1,_⟩,⟨v2,_⟩,⟨v3,_⟩⟩:=Bl (Aa cR);go_upto_region 6 with fail
   obtain⟨W6,aO⟩:∃Z,((((W5.setCell ⟨H+1,0,none⟩ (.int .i64 (o.step:Int))).setCell ⟨H+1,1,none⟩ (.int .i64 o.att)).setCell ⟨H+1,2,none⟩ (.bool o.undo)).setCell ⟨H+1,3,none⟩ (.int .u8 (ao:Int)))=Z:=⟨_,rfl⟩;rw[aO];have g6:W6.heap[H+1]?=some (.cells #[.int .i64 (o.step:Int),.int .i64 o.att,.bool o.undo,.int .u8 (ao:Int)] 37):=by rw[←aO];exact(R2.put4 (R2.put4 (R2.put4 (R2.put4 (Aa bC) _).1 _).2.1 _).2.2.1 _).2.2.2
   have cI:Below H V W6:=by rw[←aO];exact Below.set4 (Aa bJ) (by omega) _ _ _ _
   have cA:H+1<W6.heap.size:=by rw[←aO];simp;omega
   have aL:W6.heap[H]?=W2.heap[H]?:=by
    have hq:=fun(Z:World) (j:Nat) (v:Value)=>qC Z ⟨H+1,j,none⟩ v H (by show H≠H+1;omega);rw[←aO,hq,hq,hq,hq];exact Aa bM
   have hD:=Aa bW W6 cI cA;have r0:=Aa aB 0 _ rfl _ aL;have r5:=Aa aB 5 _ rfl _ aL;clear cS w4 z0 z1 z2 z3 f0 f1 f2 f3 v0 v1 v2 v3 o0 o1 o2 o3;obtain⟨⟨z0,_⟩,⟨z1,_⟩,⟨z2,_⟩,⟨z3,_⟩⟩:=Bl g6;have HD:=Ab hD;have bY:=Ab aL;have bX:=Ab g6;clear aO g6 cI aL hD cA;have I:(P32.answer d.bare n ⟨(o.step:Int),o.att,o.undo,ao⟩ s).1=(s',os):=by rw[←Aa aN,if_pos (.inr (Aa H4)),Aa aT]
   obtain⟨OK,aG⟩:∃q,(P32.answer d.bare n ⟨(o.step:Int),o.att,o.undo,ao⟩ s).2=q:=⟨_,rfl⟩;have hP:=fun X (hd:Hb d K b b2 C w0 H W6 s s [] X)=>hd.tw.answerP n ⟨(o.step:Int),o.att,o.undo,ao⟩;have hR:=fun v X (hd:Hb d K b b2 C w0 H W6 s' s [(v,os)] X)=>hd.tw.answerR n ⟨(o.step:Int),o.att,o.undo,ao⟩;simp only[I,aG]at hP hR;have HP:=Ab hP;have HR:=Ab hR;clear hP hR I aG;go_upto_region 10 with(go_at_call 61;refine(Aa HP _ (Aa HD)).mono ?_;rintro e V4 ⟨v4,rfl,k4⟩;have aA:=Ab ((Aa HD).stepP k4);clear k4)
   have u5:=Aa aB 5 _ rfl _ ((Aa aA).bH.trans (Aa bY));obtain⟨⟨u0,_⟩,⟨u1,_⟩,⟨u2,_⟩,⟨u3,_⟩⟩:=Bl ((Aa aA).bA.trans (Aa bX));go_upto_region 11 with(go_at_call 92;refine(Aa HR _ _ (Aa aA)).mono ?_;rintro e V5 ⟨v5,rfl,k5⟩;have aE:=Ab ((Aa aA).stepR k5);clear k5)
   clear u0 u1 u2 u3 u5
   cases OK <;>
    ·go_wp2_with (go_at_call 55;refine(Aa aM _ _ _ _ _ _ (Aa aE).1 (Aa aE).2).mono ?_;rintro e V6 ⟨rfl,h6⟩;have aI:=Ab h6;clear h6)
     go_ret;exact⟨rfl,(Aa aI).fin⟩
 ·have p4:((k:Int)==4)=false:=by simp;omega
  have pk:=Aa cH (.inl h4);have aT:=Ab pk;clear pk;by_cases h0:k=0
  ·have p0:((k:Int)==0)=true:=by simp;omega
   have cQ:=Ab h0;clear h0 h4 x4 x6 f0 f1 f2 f3;have I:(P32.answer d.bare n ⟨si,aa,au,ao⟩ s).1=(s',os):=by rw[←Aa aN,if_pos (.inl (Aa cQ)),Aa aT]
   obtain⟨OK,aG⟩:∃q,(P32.answer d.bare n ⟨si,aa,au,ao⟩ s).2=q:=⟨_,rfl⟩;have hP:=fun X (hd:Hb d K b b2 C w0 H V3 s s [] X)=>hd.tw.answerP n ⟨si,aa,au,ao⟩;have hR:=fun v X (hd:Hb d K b b2 C w0 H V3 s' s [(v,os)] X)=>hd.tw.answerR n ⟨si,aa,au,ao⟩;simp only[I,aG]at hP hR;have HP:=Ab hP;have HR:=Ab hR;clear hP hR I aG;go_upto_region 10 with(go_at_call 61;refine(Aa HP _ (Aa H0)).mono ?_;rintro e V4 ⟨v4,rfl,k4⟩;have aA:=Ab ((Aa H0).stepP k4);clear k4)
   have u5:=Aa aB 5 _ rfl _ ((Aa aA).bH.trans (Aa aH));obtain⟨⟨u0,_⟩,⟨u1,_⟩,⟨u2,_⟩,⟨u3,_⟩⟩:=Bl ((Aa aA).bA.trans (Aa bF));go_upto_region 11 with(go_at_call 92;refine(Aa HR _ _ (Aa aA)).mono ?_;rintro e V5 ⟨v5,rfl,k5⟩;have aE:=Ab ((Aa aA).stepR k5);clear k5)
   clear u0 u1 u2 u3 u5
   cases OK <;>
    ·go_wp2_with (go_at_call 55;refine(Aa aM _ _ _ _ _ _ (Aa aE).1 (Aa aE).2).mono ?_;rintro e V6 ⟨rfl,h6⟩;have aI:=Ab h6;clear h6)
     go_ret;exact⟨rfl,(Aa aI).fin⟩
  ·have p0:((k:Int)==0)=false:=by simp;omega
   have bI:=Ab (show ¬(k=0∨k=4) by omega);by_cases h1:k=1
   ·have p1:((k:Int)==1)=true:=by simp;omega
    have H1:=Ab h1;clear h0 h4 h1;have I:P32.tick d.bare n s=(s',os):=by rw[←Aa aN,if_neg (Aa bI),if_pos (Aa H1)]
    have hP:=fun X (hd:Hb d K b b2 C w0 H V3 s s [] X)=>hd.tw.tickP n;have hR:=fun v X (hd:Hb d K b b2 C w0 H V3 s' s [(v,os)] X)=>hd.tw.tickR n;simp only[I]at hP hR;have HP:=Ab hP;have HR:=Ab hR;clear hP hR I y0 y1 y2 y3 f0 f1 f2 f3 x4 x6;go_upto_region 13 with fail
    go_region_held3 (fun w'=>w'.cell? ⟨H,5,none⟩=some (.int .i64 n)) (first|exact x5|exact S4|exact S5|exact S6) (first
     |(go_at_call 63;with_reducible refine(Aa HP _ (by first|exact Aa H0|exact(Aa H0).below ((qU _ _).drew))).mono ?_;rintro e V4 ⟨v4,rfl,k4⟩;have D4:=(show Hb d K b b2 C w0 H V3 s s [] _ by first|exact Aa H0|exact(Aa H0).below ((qU _ _).drew)).stepP k4;have S4:V4.cell? ⟨H,5,none⟩=some (.int .i64 n):=Aa aB 5 _ rfl _ (D4.bH.trans (Aa aH)))
     |(go_at_call 93;with_reducible refine(Aa HR _ _ (by first|exact D4|exact D4.below ((qU _ _).drew))).mono ?_;rintro e V5 ⟨v5,rfl,k5⟩;have D5:=(show Hb d K b b2 C w0 H V3 s' s [(v4,os)] _ by first|exact D4|exact D4.below ((qU _ _).drew)).stepR k5;have S5:V5.cell? ⟨H,5,none⟩=some (.int .i64 n):=Aa aB 5 _ rfl _ (D5.1.bH.trans (Aa aH)))
     | (go_at_call 55;refine(Aa aM _ _ _ _ _ _ (by first|exact D5.1|exact D5.1.below ((qU _ _).drew)) (by first|exact D5.2|exact D5.2.keep (fun _ _=>rfl))).mono ?_;rintro e V6 ⟨rfl,D6⟩;have S6:V6.cell? ⟨H,5,none⟩=some (.int .i64 n):=Aa aB 5 _ rfl _ (D6.bH.trans (Aa aH))))
    go_wp2;go_ret;exact⟨rfl,(by first|exact D6.fin|exact(D6.below ((qU _ _).drew)).fin)⟩
   ·have p1:((k:Int)==1)=false:=by simp;omega
    have H1:=Ab h1;by_cases h2:k=2
    ·have p2:((k:Int)==2)=true:=by simp;omega
     have H2:=Ab h2;clear h0 h4 h1 h2;have I:(P32.cancel d.bare n s).1=(s',os):=by rw[←Aa aN,if_neg (Aa bI),if_neg (Aa H1),if_pos (Aa H2)]
     obtain⟨OK,aG⟩:∃q,(P32.cancel d.bare n s).2=q:=⟨_,rfl⟩;have hP:=fun X (hd:Hb d K b b2 C w0 H V3 s s [] X)=>hd.tw.cancelP n;have hR:=fun v X (hd:Hb d K b b2 C w0 H V3 s' s [(v,os)] X)=>hd.tw.cancelR n;simp only[I,aG]at hP hR;have HP:=Ab hP;have HR:=Ab hR;clear hP hR I aG y0 y1 y2 y3 f0 f1 f2 f3 x4 x6;go_upto_region 16 with(go_at_call 62;refine(Aa HP _ (Aa H0)).mono ?_;rintro e V4 ⟨v4,rfl,k4⟩;have aA:=Ab ((Aa H0).stepP k4);clear k4)
     have u5:=Aa aB 5 _ rfl _ ((Aa aA).bH.trans (Aa aH));go_upto_region 17 with(go_at_call 94;refine(Aa HR _ _ (Aa aA)).mono ?_;rintro e V5 ⟨v5,rfl,k5⟩;have aE:=Ab ((Aa aA).stepR k5);clear k5)
     clear u5
     cases OK <;>
      ·go_wp2_with (go_at_call 55;refine(Aa aM _ _ _ _ _ _ (Aa aE).1 (Aa aE).2).mono ?_;rintro e V6 ⟨rfl,h6⟩;have aI:=Ab h6;clear h6)
       go_ret;exact⟨rfl,(Aa aI).fin⟩
    ·have p2:((k:Int)==2)=false:=by simp;omega
     have H2:=Ab h2;clear h0 h4 h1 h2;have I:P32.start d.bare n s=(s',os):=by rw[←Aa aN,if_neg (Aa bI),if_neg (Aa H1),if_neg (Aa H2)]
     have hP:=fun X (hd:Hb d K b b2 C w0 H V3 s s [] X)=>hd.tw.startP n;have hR:=fun v X (hd:Hb d K b b2 C w0 H V3 s' s [(v,os)] X)=>hd.tw.startR n;simp only[I]at hP hR;have HP:=Ab hP;have HR:=Ab hR;clear hP hR I y0 y1 y2 y3 f0 f1 f2 f3 x4 x6;go_upto_region 18 with fail
     go_region_held3 (fun w'=>w'.cell? ⟨H,5,none⟩=some (.int .i64 n)) (first|exact x5|exact S4|exact S5|exact S6) (first
      |(go_at_call 64;with_reducible refine(Aa HP _ (by first|exact Aa H0|exact(Aa H0).below ((qU _ _).drew))).mono ?_;rintro e V4 ⟨v4,rfl,k4⟩;have D4:=(show Hb d K b b2 C w0 H V3 s s [] _ by first|exact Aa H0|exact(Aa H0).below ((qU _ _).drew)).stepP k4;have S4:V4.cell? ⟨H,5,none⟩=some (.int .i64 n):=Aa aB 5 _ rfl _ (D4.bH.trans (Aa aH)))
      |(go_at_call 95;with_reducible refine(Aa HR _ _ (by first|exact D4|exact D4.below ((qU _ _).drew))).mono ?_;rintro e V5 ⟨v5,rfl,k5⟩;have D5:=(show Hb d K b b2 C w0 H V3 s' s [(v4,os)] _ by first|exact D4|exact D4.below ((qU _ _).drew)).stepR k5;have S5:V5.cell? ⟨H,5,none⟩=some (.int .i64 n):=Aa aB 5 _ rfl _ (D5.1.bH.trans (Aa aH)))
      | (go_at_call 55;refine(Aa aM _ _ _ _ _ _ (by first|exact D5.1|exact D5.1.below ((qU _ _).drew)) (by first|exact D5.2|exact D5.2.keep (fun _ _=>rfl))).mono ?_;rintro e V6 ⟨rfl,D6⟩;have S6:V6.cell? ⟨H,5,none⟩=some (.int .i64 n):=Aa aB 5 _ rfl _ (D6.bH.trans (Aa aH))))
     go_wp2;go_ret;exact⟨rfl,(by first|exact D6.fin|exact(D6.below ((qU _ _).drew)).fin)⟩
open Go.RowKit
theorem Eu.rok{d:Af}(h:Eu d):ROk d where
 len:=by have:=h.len;omega
 after:=fun s hs=>by obtain⟨_,_,_,a,_⟩:=h.st s hs;omega
 name:=by have:=h.name;omega
 text:=by have:=h.text;omega
 st:=fun s hs=>by
  obtain⟨a,b,c,e,⟨m,f⟩,g⟩:=h.st s hs;have I:=(P20.T.small_ok _ _ _ _ f (by omega)).2.1;exact⟨by omega,by omega,by omega,by omega,fun x hx=>by have:=g x hx;omega,⟨18,150,m,f,by omega,by omega⟩,by omega⟩
structure PlB (d:Af) (K b b2 C:Nat) (w:World) (s:P32.S) (x70 x80:Value) (W:World):Prop where
 tw:Tw d K b b2 C w (fun _=>False) s s W
 c8:W.cell? ⟨b2,8,none⟩=some (.int .u8 (s.status:Int))
 dn:∃a c,x70=.slice a s.done.length c∧W.cell? ⟨b2,6,none⟩=some x70∧J4 W a s.done
 un:∃a c,x80=.slice a s.undone.length c∧W.cell? ⟨b2,7,none⟩=some x80∧J4 W a s.undone
section
variable {d:Af} {K b b2 C:Nat} {w W W':World} {s:P32.S} {x70 x80:Value}
theorem PlB.of(h:Tw d K b b2 C w (fun _=>False) s s W):∃x70 x80,PlB d K b b2 C w s x70 x80 W:=by
 obtain⟨_,_,_,_,_,_,c8,⟨a,c,c6,J⟩,⟨a2,c2,c7,I⟩⟩:=h.view;exact⟨_,_,h,c8,⟨a,c,rfl,c6,J⟩,⟨a2,c2,rfl,c7,I⟩⟩
theorem PlB.below(h:PlB d K b b2 C w s x70 x80 W)(hb:Below W.heap.size W W'):PlB d K b b2 C w s x70 x80 W':=by
 obtain⟨a,c,e,c6,J⟩:=h.dn;obtain⟨a2,c2,Z,c7,I⟩:=h.un;have hk:=fun {v:Value} {j:Nat} (hc:W.cell? ⟨b2,j,none⟩=some v)=>(Ae (hb.block b2 (Ad hc)) j).trans hc;exact⟨h.tw.below hb,hk h.c8,⟨a,c,e,hk c6,J.below' hb⟩,⟨a2,c2,Z,hk c7,I.below' hb⟩⟩
end
theorem Cj.below{V V':World}{v:Value}{os:List P32.Order}(h:Cj V v os)(hb:Below V.heap.size V V'):Cj V' v os:=by
 obtain⟨a,c,rfl,h1,h2⟩:=h;exact⟨a,c,rfl,h1,h2.below hb⟩
def Qbs(d:Af)(K b b2 C:Nat)(w:World)(s s':P32.S)(k:Nat)(Z x70 J x80 aA I:Value)(W:World):Prop:=
 (k=0→Tw d K b b2 C w (fun _=>False) s s W)∧(0<k→PlB d K b b2 C w s' x70 x80 W)∧(k=3→∃a c,Z=.slice a s'.done.length c∧J4 W a s'.done)∧(k=5→∃a c,J=.slice a s'.undone.length c∧J4 W a s'.undone)∧(k=7∨k=8→Cj W aA (P32.open_ d.bare s'))∧(k=8→Cj W I (P32.open_ d.bare s'))
theorem Tw.start{d:Af}{w J I:World}{b b2:Nat}{M R M2 R2:Nat→Prop}{w4 w6:World}(h1:Hc b (Bw d.bare) P32.S.new M R J)(hM:∀g,M g→w4.heap.size≤g)(h4:Below w.heap.size w w4)(h5:Below w4.heap.size w4 J)(h6:Below J.heap.size J w6)
  (h2:Cz d (w6.heap.size+1) b2 (P32.S.new,[]) M2 R2 I) (hl:∀g,M2 g∨R2 g→w6.heap.size+1≤g) (Z:Below w6.heap.size w6 I) (hd:∀g,d.blk g→g<w.heap.size) (hN:d.steps.length≤100000) :
  Tw d w.heap.size b b2 (w6.heap.size+1) w (fun _=>False) P32.S.new P32.S.new I:=by
 have z4:=h4.size;have z5:=h5.size;have z6:=h6.size;have z7:=Z.size;have aA:Below w4.heap.size w4 I:=(h5.trans (h6.mono z5)).trans (Z.mono (by omega));refine⟨⟨M,R,M2,R2,(h1.below (h6.trans (Z.mono z6))),h2,fun g hg=>?_,fun g hg q=>?_,fun g hg=>?_,fun g hg=>hg.elim⟩,h4.trans (aA.mono z4),P32.inv_new _,hN,by omega⟩
 ·have a:=h1.lt (.inl hg);have b:=hM g hg;refine⟨fun q=>?_,fun q=>?_,fun q=>?_⟩
  ·have:=hl g (.inl q);omega
  ·have:=hl g (.inr q);omega
  ·have:=hd g q;omega
 ·have a:=h1.lt (.inr q);have:=hl g (.inl hg);omega
 ·rcases hg with hg|hg
  ·have:=hM g hg;omega
  ·have:=hl g (.inl hg);omega
theorem Yo(d:P22.Def)(s:P32.S):(P32.open_ d s).length≤2*d.steps.length:=by
 unfold P32.open_;have I:∀i u,(P32.openU s i u).length≤1:=fun i u=>by unfold P32.openU;split<;>simp
 have hm:∀m,((List.range m).flatMap fun i=>P32.openU s i false++P32.openU s i true).length≤2*m:=fun m=>by
  induction m with
  |zero=>simp
  |succ m ih=>
   rw[List.range_succ,List.flatMap_append,qH];have h1:=I m false;have h2:=I m true;simp only[List.flatMap_cons,List.flatMap_nil,List.append_nil,qH];omega
 exact hm _
theorem L5(d:Af)(ad:Option Addr)(cap:Nat)(l:List Fv)(w:World)(aM:d.In w)(ha:Z6 w 7 Fv.cs ad l)(hl:l.length≤maxLen) :
    Calls Tryz.prog 8 #[d.val,.slice ad l.length cap] w fun e w'=>e=.returned (.bool true)∧Below w.heap.size w w':=by
  obtain⟨H,hH⟩:=qeX w.heap.size;rw[hH];obtain⟨W1,cC,cL,g0,dY⟩:=As w (Be d) H hH;have aT:=Ss W1;have aJ:∀V,Below H w V→d.In V:=fun V hV=>aM.below (by rw[hH];exact hV);have cY:∀V,Below H w V→Z6 V 7 Fv.cs ad l:=fun V hV=>ha.below (by rw[hH];exact hV);have aZ:∀V,Below (H+1) W1 V→V.heap[H]?=some (Be d):=fun V hV=>(hV.block H (by omega)).trans g0;have aD:=fun V (hV:Below H w V)=>Pk d V (aJ V hV);obtain⟨SM,aG⟩:∃x,P21.small d.bare=x:=⟨_,rfl⟩;rw[aG]at aD;obtain⟨CL,aW⟩:∃x,P28.clean d.bare=x:=⟨_,rfl⟩;have Z:=fun V (hV:Below H w V) (hs:SM=true)=>Rn d V (aJ V hV) (Cr (aG.trans hs)).rok;rw[aW]at Z;have aX:=fun V (hV:Below H w V) (hs:SM=true) (hc:CL=false)=>Pi d V (aJ V hV) (Cr (aG.trans hs)).ok (aW.trans hc);have aY:=fun V (hV:Below H w V) (hs:SM=true) (hc:CL=true)=>Hc.new d V (aJ V hV) (Cr (aG.trans hs)).ok ((Cr (aG.trans hs)).cp (by have:=Xv (aW.trans hc);simpa[Af.bare]using this)) (aW.trans hc) (Cr (aG.trans hs)).af;have aL:=fun V (hV:Below H w V) (hs:SM=true)=>Ro d V (aJ V hV) (by have:=(Cr (aG.trans hs)).len;omega) (Cr (aG.trans hs)).af;have bU:SM=true→d.steps.length≤30:=fun hs=>(Cr (aG.trans hs)).len;have cX:∀g,d.blk g→g<H:=fun g hg=>by rw[←hH];exact aM.lt hg
  obtain⟨nm,cA⟩:∃x,(⟨d.name.toArray⟩:ByteArray)=x:=⟨_,rfl⟩;obtain⟨tx,cI⟩:∃x,(⟨d.text.toArray⟩:ByteArray)=x:=⟨_,rfl⟩;obtain⟨sa,bX⟩:∃x,d.sa=x:=⟨_,rfl⟩;obtain⟨sc,bZ⟩:∃x,d.sc=x:=⟨_,rfl⟩;obtain⟨N,hN⟩:=qeX d.steps.length;have cG:d.val=.agg #[.string nm,.string tx,.slice sa N sc]:=by unfold Af.val;rw[cA,cI,bX,bZ,hN]
  have aQ:Be d=.cells #[.string nm,.string tx,.slice sa N sc] 24:=by unfold Be;rw[cA,cI,bX,bZ,hN]
  obtain⟨NL,bO⟩:=qeX l.length;rw[bO]at hl;rw[aQ]at cC aZ;rw[cG]at aD Z aX aY aL;rw[cG,bO];have cU:=Ab aT;have aR:=Ab aZ;have bI:=Ab aD;have cH:=Ab Z;have bW:=Ab aX;have dD:=Ab aY;have cK:=Ab aL;have dN:=Ab cY;have cZ:=Ab cX;have bV:=Ab bU;have eH:=Ab cC;have aU:=Ab cL;have eI:=Ab bO;have eV:NL≤9223372036854775807:=by unfold maxLen at hl;omega
  clear aT aJ cY aZ aD Z aX aY aL cC cL g0 aM ha aG aW cX bU bO hl cA cI bX bZ hN cG aQ;go_enter Tryz.func8,Tryz.ntmps8
  go_upto_region 1 with fail
  try rw[hH]
  rw[Aa eH];go_upto_region 3 with(go_at_call 48;refine(Aa cU).mono ?_;rintro e w2 ⟨rfl,b2⟩)
  have aK:Below (H+1) W1 w2:=by rw[←dY];exact b2
  have dA:Below H w w2:=(Aa aU).trans (aK.mono (by omega));obtain⟨⟨k0,_⟩,⟨k1,_⟩,⟨k2,_⟩⟩:=Ag (Aa aR w2 aK);have eQ:H+1≤w2.heap.size:=by have:=aK.size;omega
  have cM:=Ab aK;have aO:=Ab dA;clear b2 aK dA;cases SM with
  |false=>
    go_wp2_with (go_at_call 12;refine(Aa bI _ (Aa aO)).mono ?_;rintro e w3 ⟨rfl,b3⟩)
    go_ret;exact⟨rfl,(Aa aO).trans (b3.mono (by omega))⟩
  |true=>
    by_cases eO:120<NL
    · have h1:(120:Int)<(NL:Int):=by omega
      go_wp2_with (go_at_call 12;refine(Aa bI _ (Aa aO)).mono ?_;rintro e w3 ⟨rfl,b3⟩)
      go_ret;exact⟨rfl,(Aa aO).trans (b3.mono (by omega))⟩
    · have h1:(NL:Int)≤120:=by omega
      have hd:decide ((120:Int)<(NL:Int))=false:=by simp;omega
      go_upto_region 5 with(go_at_call 12;refine(Aa bI _ (Aa aO)).mono ?_;rintro e w4 ⟨rfl,b4⟩)
      have aS:Below (H+1) W1 w4:=(Aa cM).trans (b4.mono (by omega));have dB:Below H w w4:=(Aa aU).trans (aS.mono (by omega));have eT:H+1≤w4.heap.size:=by have:=aS.size;omega
      clear k0 k1 k2 b4;obtain⟨⟨k0,_⟩,⟨k1,_⟩,⟨k2,_⟩⟩:=Ag (Aa aR w4 aS);have eR:=Aa bV (by simp);have bY:=Ab aS;have cJ:=Ab dB;clear aS dB;cases CL with
      |false=>
        have aN:=Ab (Aa bW w4 (Aa cJ) (by simp) (by simp));go_upto_region 6 with(go_at_call 49;refine(Aa aN).mono ?_;rintro e w5 ⟨rfl,b5⟩)
        have aI:Below (H+1) W1 w5:=(Aa bY).trans (b5.mono (by omega));have aP:Below H w w5:=(Aa aU).trans (aI.mono (by omega));have dU:H+1≤w5.heap.size:=by have:=aI.size;omega
        clear k0 k1 k2 b5;obtain⟨⟨k0,_⟩,⟨k1,_⟩,⟨k2,_⟩⟩:=Ag (Aa aR w5 aI);have bE:=Ab (Aa cH w5 aP (by simp));have eA:=Ab aP;clear aI aP;go_wp2_with (go_at_call 14;refine(Aa bE).mono ?_;rintro e w6 ⟨rfl,b6⟩)
        go_ret;exact⟨rfl,(Aa eA).trans (b6.mono (by omega))⟩
      |true=>
        have aN:=Ab (Aa dD w4 (Aa cJ) (by simp) (by simp));go_upto_region 6 with(go_at_call 49;refine(Aa aN).mono ?_;rintro e w5 ⟨b,M,R,rfl,bG,bK,b5⟩)
        have aI:Below (H+1) W1 w5:=(Aa bY).trans (b5.mono (by omega));have aP:Below H w w5:=(Aa aU).trans (aI.mono (by omega));have dU:H+1≤w5.heap.size:=by have:=aI.size;omega
        clear k0 k1 k2;obtain⟨⟨k0,_⟩,⟨k1,_⟩,⟨k2,_⟩⟩:=Ag (Aa aR w5 aI);have bE:=Ab (Aa cH w5 aP (by simp));have dP:=Ab (And.intro bG (And.intro bK b5));have dL:=Ab aI;clear aI aP bG bK b5;go_upto_region 8 with(go_at_call 14;refine(Aa bE).mono ?_;rintro e w6 ⟨rfl,b6⟩)
        have cD:Below (H+1) W1 w6:=(Aa dL).trans (b6.mono (by omega));have cP:Below H w w6:=(Aa aU).trans (cD.mono (by omega));clear k0 k1 k2;obtain⟨⟨k0,_⟩,⟨k1,_⟩,⟨k2,_⟩⟩:=Ag (Aa aR w6 cD);have cT:=Ab (Aa cK w6 cP (by simp));have cW:=Ab b6;clear cD cP b6;go_upto_region 11 with(go_at_call 50;refine(Aa cT).mono ?_;rintro e w7 ⟨b2,M2,R2,rfl,dI,dG,b7⟩)
        have bF:Tw d w.heap.size b b2 (w6.heap.size+1) w (fun _=>False) P32.S.new P32.S.new w7:=by
          obtain⟨bG,bK,b5⟩:=Aa dP;refine Tw.start bG bK (by rw[hH];exact Aa cJ) b5 (Aa cW) dI dG b7 (fun g hg=>by rw[hH];exact Aa cZ g hg) (by have:=Aa bV (by simp);omega)
        rw[hH]at bF;obtain⟨C,hC⟩:=qeX (w6.heap.size+1);rw[hC]at bF;have eF:=Ab bF;clear bF hC k0 k1 k2 dI dG b7 dP dL bE cT cW aN dD cK bW cZ aR cH bI cU cM aO bY;go_wp2
        go_loopg [8] NL (fun g s8 wx=>∃(i:Nat) (s:P32.S),i+g=NL∧s8=.int .i64 i∧Hid (Tw d H b b2 C w (fun _=>False) s s wx))
        case atStart=>exact⟨0,_,by omega,by go_num,eF⟩
        case round=>
          obtain⟨i,s,eP,rfl,cB⟩:=hrel;cases gk with
          |zero=>
            have e1:(NL:Int)≤(i:Int):=by omega
            have j1:decide ((i:Int)<(NL:Int))=false:=by simp;omega
            go_wp2;go_ret;exact⟨rfl,(Aa cB).bel⟩
          |succ g'=>
            have eS:(i:Int)<(NL:Int):=by omega
            have hkj:IntKind.i64.wrap ((i:Int)+1)=(i:Int)+1:=qG _ (by omega);obtain⟨a,cF⟩:=Ap (Aa eI) (show i<NL by omega);have dJ:Below H w wr:=(Aa cB).bel;obtain⟨ab,ao,rfl,dZ⟩:=Aa dN wr dJ i a cF;have dH:=a.lt;obtain⟨⟨kk,⟨ks,ka,ku,ko⟩,kn,kp⟩,dT⟩:=a
            have aE:∀V,Below H w V→∀k v,(Fv.cs ⟨⟨kk,⟨ks,ka,ku,ko⟩,kn,kp⟩,dT⟩)[k]?=some v→V.cell? ⟨ab,ao+i*7+k,none⟩=some v:=fun V hV k v hk=>by
              obtain⟨eW,eU,e,h2⟩:=Aa dN V hV i _ cF;cases e;exact h2 k v hk
            obtain⟨s',dM⟩:∃z,(P32.give d.bare s ⟨kk,⟨ks,ka,ku,ko⟩,kn,kp⟩).1=z:=⟨_,rfl⟩;have aQ:=fun V (hV:Tw d H b b2 C w (fun _=>False) s s V)=>Qam ⟨kk,⟨ks,ka,ku,ko⟩,kn,kp⟩ dH hV;rw[dM]at aQ;obtain⟨ST,bC⟩:∃z,s'.status=z:=⟨_,rfl⟩;obtain⟨OV,bJ⟩:∃z,decide (2<s'.status)=z:=⟨_,rfl⟩;have bQ:=fun V (hV:Tw d H b b2 C w (fun _=>False) s' s' V)=>hV.view
            have cN:∀V,Tw d H b b2 C w (fun _=>False) s' s' V→s'.done.length≤100000000∧s'.undone.length≤100000000:=fun V hV=>by
              have h1:=P32.len_le _ s'.done hV.inv.nodup (fun i hi=>hV.inv.lt hi);have h2:=hV.inv.len;have h3:=hV.hN;rw[Md.blen]at h1;omega
            have dC:∀V,Tw d H b b2 C w (fun _=>False) s' s' V→(P32.open_ d.bare s').length≤1000000:=fun V hV=>by
              have h1:=Yo d.bare s';have h3:=hV.hN;rw[Md.blen]at h1;omega
            have bD:decide ((ST:Int) > 2)=OV:=by rw[←bJ,bC];simp only[decide_eq_decide];omega
            have eN:decide ((2:Int)<(ST:Int))=OV:=by rw[←bJ,bC];simp only[decide_eq_decide];omega
            have eM:(OV != OV)=false:=by simp
            simp only[bJ]at bQ;simp only[bC]at bQ;have eB:=Ab aE;have eJ:=Ab aQ;have bT:=Ab bQ;have cQ:=Ab cN;have eC:=Ab dC;have cS:=Ab bC;have bL:=enters_of Tryz.func51 (by kernel_rfl) rfl;have dS:=enters_of Tryz.func52 (by kernel_rfl) rfl;have dQ:=enters_of Tryz.func53 (by kernel_rfl) rfl;have dE:=enters_of Tryz.func26 (by kernel_rfl) rfl;have eK:=enters_of Tryz.func54 (by kernel_rfl) rfl;have eG:=enters_of Tryz.func56 (by kernel_rfl) rfl;have dX:=enters_of Tryz.func57 (by kernel_rfl) rfl;have dW:=enters_of Tryz.func55 (by kernel_rfl) rfl;have eL:=enters_of Tryz.func58 (by kernel_rfl) rfl;clear aE dZ cF dJ aQ bQ cN dC bJ dM bC;go_upto_region 14 with fail
            refine Jh Bj [6,10,19,24,29,34,39,41,42,47] (fun pk aF W=>∃aB x70 aA x80 aC J:Value,aF={ tmps:=#[.agg #[.string nm,.string tx,.slice sa N sc],.slice (oA ab ao) NL cap,qP0 H,uZ,u4,qP0 b,.int .i64 0,qP0 b2,nI i,.bool true,.bool false,.agg #[.string nm,.string tx,.slice sa N sc],.bool true,.bool false,.bool false,.slice (oA ab ao) NL cap,nI NL,.bool false,.bool false,.tuple #[qP0 b,.int .i64 0],.agg #[.string nm,.string tx,.slice sa N sc],.tuple #[qP0 b,.int .i64 0],qP0 b,.int .i64 0,.agg #[.string nm,.string tx,.slice sa N sc],.bool true,.bool false,uZ,uZ,uZ,uZ,uZ,uZ,.agg #[.string nm,.string tx,.slice sa N sc],qP0 b2,qP0 b,.bool false,.bool false,.int .i64 0,.bool false,.bool false,nI i,.slice (oA ab ao) NL cap,nI NL,.bool true,u45,u46,qP0 b,qP0 b2,.slice (oA ab ao) NL cap,nI i,pT ab (ao+i*7),.agg #[.int .u8 (kk:Int),.int .i64 ks,.int .i64 ka,.bool ku,.int .u8 (ko:Int),.int .i64 kn,.int .u8 (kp:Int)],.bool true,.bool false,.bool false,qP0 b,.int .u8 (ST:Int),qP0 b2,qP0 b2,pT b2 8,.int .u8 (ST:Int),.bool false,.bool false,.bool false,qP0 b,aB,qP0 b2,qP0 b2,pT b2 6,x70,.bool true,.bool false,.bool false,.bool false,qP0 b,aA,qP0 b2,qP0 b2,pT b2 7,x80,.bool true,.bool false,.bool false,.bool false,qP0 b,aC,qP0 b2,J,.bool true,.bool false,.bool false,.bool false,qP0 b,.bool OV,qP0 b2,qP0 b2,pT b2 8,.int .u8 (ST:Int),.bool OV,.bool false,.bool false],defers:=[] }∧Qbs d H b b2 C w s s' pk aB x70 aA x80 aC J W) (by kernel_rfl) (R5 (by kernel_rfl) _ [[8],[17],[],[27],[],[37],[],[],[45]] (by kernel_rfl)) (by decide) ⟨undef,undef,undef,undef,undef,undef,rfl,fun _=>(Aa cB).below (qU _ _).drew,fun h=>by omega,fun h=>by omega,fun h=>by omega,fun h=>by omega,fun h=>by omega⟩ rfl rfl (Bs 47 55 102 0 (by kernel_rfl) (by kernel_rfl) (by decide) rfl rfl rfl) ?hpure ?hwrite ?hfin
            case hpure=>
              rintro pk aF W ix o ⟨aB,x70,aA,x80,aC,J,rfl,aH⟩ ho eE eD bM;by_cases e5:ix=5
              · subst e5
                refine wq ho rfl rfl rfl rfl ?_;have hpk:pk≤0:=eD 0 6 rfl (C6 (by kernel_rfl) [] (by kernel_rfl));have aE:=Aa eB W (aH.1 (by omega)).bel;have c0:W.cell? ⟨ab,ao+i*7,none⟩=some (.int .u8 (kk:Int)):=aE 0 _ rfl;have c1:=aE 1 _ rfl;have c2:=aE 2 _ rfl;have c3:=aE 3 _ rfl;have c4:=aE 4 _ rfl;have c5:=aE 5 _ rfl;have c6:=aE 6 _ rfl;clear aE;simp only at c1 c2 c3 c4 c5 c6
                go_simp
              by_cases dK:ix=14
              · subst dK
                refine wq ho rfl rfl rfl rfl ?_;have hpk:0<pk:=bM 0 6 rfl (C6 (by kernel_rfl) [8] (by kernel_rfl));have c8:=(aH.2.1 hpk).c8;rw[Aa cS]at c8
                go_simp
              by_cases cV:ix=23
              · subst cV
                refine wq ho rfl rfl rfl rfl ?_;have hpk:0<pk:=bM 0 6 rfl (C6 (by kernel_rfl) [17,16,8] (by kernel_rfl));obtain⟨a6,m6,_,c6,_⟩:=(aH.2.1 hpk).dn
                go_simp
              by_cases cR:ix=33
              · subst cR
                refine wq ho rfl rfl rfl rfl ?_;have hpk:0<pk:=bM 0 6 rfl (C6 (by kernel_rfl) [27,26,17,16,8] (by kernel_rfl));obtain⟨a7,m7,_,c7,_⟩:=(aH.2.1 hpk).un
                go_simp
              by_cases bL:ix=51
              · subst bL
                refine wq ho rfl rfl rfl rfl ?_;have hpk:0<pk:=bM 0 6 rfl (C6 (by kernel_rfl) [45,44,37,36,27,26,17,16,8] (by kernel_rfl));have c8:=(aH.2.1 hpk).c8;rw[Aa cS]at c8
                go_simp
              rcases ix with _|_|_|_|_|_|_|_|_|_|_|_|_|_|_|_|_|_|_|_|_|_|_|_|_|_|_|_|_|_|_|_|_|_|_|_|_|_|_|_|_|_|_|_|_|_|_|_|_|_|_|_|_|_|_|ix
              all_goals first
                |(refine absurd ?_ eE;simp;done)
                |(exact absurd rfl e5)
                |(exact absurd rfl dK)
                |(exact absurd rfl cV)
                |(exact absurd rfl cR)
                |(exact absurd rfl bL)
                | (refine wq ho rfl rfl rfl rfl ?_
                   go_simp
                   done)
                |(exfalso;simp at ho;done)
            case hwrite=>
              rintro pk aF W ix o ⟨aB,x70,aA,x80,aC,J,rfl,aH⟩ hi ho;obtain⟨q0,q1,q3,q5,q7,q8⟩:=aH;rcases pk with _|_|_|_|_|_|_|_|_|_|pk
              · cases (show some 6=some ix from hi)
                have I:some _=some o:=ho;cases I
                skip
                refine⟨rfl,.inr (.inr ⟨51,#[qP0 b,qP0 b2,.agg #[.int .u8 (kk:Int),.int .i64 ks,.int .i64 ka,.bool ku,.int .u8 (ko:Int),.int .i64 kn,.int .u8 (kp:Int)]],W,?_,?_⟩)⟩
                · simp[execOp,resolve,invoke,Act.eval,bL,Result.andThen,Deferred.ofValue]
                · refine(Aa eJ W (q0 rfl)).mono ?_
                  rintro e W2 ⟨rfl,hm⟩;obtain⟨dF,cO,hb⟩:=PlB.of hm;refine⟨_,rfl,{ tmps:=#[.agg #[.string nm,.string tx,.slice sa N sc],.slice (oA ab ao) NL cap,qP0 H,uZ,u4,qP0 b,.int .i64 0,qP0 b2,nI i,.bool true,.bool false,.agg #[.string nm,.string tx,.slice sa N sc],.bool true,.bool false,.bool false,.slice (oA ab ao) NL cap,nI NL,.bool false,.bool false,.tuple #[qP0 b,.int .i64 0],.agg #[.string nm,.string tx,.slice sa N sc],.tuple #[qP0 b,.int .i64 0],qP0 b,.int .i64 0,.agg #[.string nm,.string tx,.slice sa N sc],.bool true,.bool false,uZ,uZ,uZ,uZ,uZ,uZ,.agg #[.string nm,.string tx,.slice sa N sc],qP0 b2,qP0 b,.bool false,.bool false,.int .i64 0,.bool false,.bool false,nI i,.slice (oA ab ao) NL cap,nI NL,.bool true,u45,u46,qP0 b,qP0 b2,.slice (oA ab ao) NL cap,nI i,pT ab (ao+i*7),.agg #[.int .u8 (kk:Int),.int .i64 ks,.int .i64 ka,.bool ku,.int .u8 (ko:Int),.int .i64 kn,.int .u8 (kp:Int)],.bool true,.bool false,.bool false,qP0 b,.int .u8 (ST:Int),qP0 b2,qP0 b2,pT b2 8,.int .u8 (ST:Int),.bool false,.bool false,.bool false,qP0 b,aB,qP0 b2,qP0 b2,pT b2 6,dF,.bool true,.bool false,.bool false,.bool false,qP0 b,aA,qP0 b2,qP0 b2,pT b2 7,cO,.bool true,.bool false,.bool false,.bool false,qP0 b,aC,qP0 b2,J,.bool true,.bool false,.bool false,.bool false,qP0 b,.bool OV,qP0 b2,qP0 b2,pT b2 8,.int .u8 (ST:Int),.bool OV,.bool false,.bool false],defers:=[] },⟨aB,dF,aA,cO,aC,J,rfl,fun h=>by omega,fun _=>hb,fun h=>by omega,fun h=>by omega,fun h=>by omega,fun h=>by omega⟩,?_⟩;exact Yv 70 80 23 33 (by kernel_rfl) (by kernel_rfl) (C6 (by kernel_rfl) [17,16,8] (by kernel_rfl)) (C6 (by kernel_rfl) [27,26,17,16,8] (by kernel_rfl)) (by decide) rfl rfl rfl rfl
              · cases (show some 10=some ix from hi)
                have I:some _=some o:=ho;cases I
                skip
                refine⟨rfl,.inr (.inr ⟨52,#[qP0 b],W,?_,?_⟩)⟩
                · simp[execOp,resolve,invoke,Act.eval,dS,Result.andThen,Deferred.ofValue]
                · refine((Aa bT W (q1 (by omega)).tw).1).mono ?_
                  rintro e W2 ⟨rfl,rfl⟩;exact⟨_,rfl,_,⟨aB,x70,aA,x80,aC,J,rfl,fun h=>by omega,fun _=>q1 (by omega),fun h=>by omega,fun h=>by omega,fun h=>by omega,fun h=>by omega⟩,Fx.refl _ _ _⟩
              · cases (show some 19=some ix from hi)
                have I:some _=some o:=ho;cases I
                skip
                refine⟨rfl,.inr (.inr ⟨53,#[qP0 b],W,?_,?_⟩)⟩
                · simp[execOp,resolve,invoke,Act.eval,dQ,Result.andThen,Deferred.ofValue]
                · refine((Aa bT W (q1 (by omega)).tw).2.2.1).mono ?_
                  rintro e W2 ⟨a,c,rfl,aM,hb⟩;exact⟨_,rfl,_,⟨_,x70,aA,x80,aC,J,rfl,fun h=>by omega,fun _=>(q1 (by omega)).below hb,fun _=>⟨a,c,rfl,aM⟩,fun h=>by omega,fun h=>by omega,fun h=>by omega⟩,Fx.refl _ _ _⟩
              · cases (show some 24=some ix from hi)
                have I:some _=some o:=ho;cases I;have hb:=q1 (by omega);obtain⟨a3,c3,rfl,i3⟩:=q3 rfl;obtain⟨a6,c6,rfl,k6,i6⟩:=hb.dn;refine⟨rfl,.inr (.inr ⟨26,#[.slice a3 s'.done.length c3,.slice a6 s'.done.length c6],W,?_,?_⟩)⟩
                · simp[execOp,resolve,invoke,Act.eval,dE,Result.andThen,Deferred.ofValue]
                · refine(Iy a3 a6 c3 c6 s'.done W i3 i6 (Aa cQ W (q1 (by omega)).tw).1).mono ?_
                  rintro e W2 ⟨rfl,nq,rfl⟩;exact⟨_,rfl,_,⟨_,_,aA,x80,aC,J,rfl,fun h=>by omega,fun _=>hb.below (Ac (qU _ _)),fun h=>by omega,fun h=>by omega,fun h=>by omega,fun h=>by omega⟩,Fx.refl _ _ _⟩
              · cases (show some 29=some ix from hi)
                have I:some _=some o:=ho;cases I
                skip
                refine⟨rfl,.inr (.inr ⟨54,#[qP0 b],W,?_,?_⟩)⟩
                · simp[execOp,resolve,invoke,Act.eval,eK,Result.andThen,Deferred.ofValue]
                · refine((Aa bT W (q1 (by omega)).tw).2.2.2.1).mono ?_
                  rintro e W2 ⟨a,c,rfl,aM,hb⟩;exact⟨_,rfl,_,⟨aB,x70,_,x80,aC,J,rfl,fun h=>by omega,fun _=>(q1 (by omega)).below hb,fun h=>by omega,fun _=>⟨a,c,rfl,aM⟩,fun h=>by omega,fun h=>by omega⟩,Fx.refl _ _ _⟩
              · cases (show some 34=some ix from hi)
                have I:some _=some o:=ho;cases I;have hb:=q1 (by omega);obtain⟨a3,c3,rfl,i3⟩:=q5 rfl;obtain⟨a6,c6,rfl,k6,i6⟩:=hb.un;refine⟨rfl,.inr (.inr ⟨26,#[.slice a3 s'.undone.length c3,.slice a6 s'.undone.length c6],W,?_,?_⟩)⟩
                · simp[execOp,resolve,invoke,Act.eval,dE,Result.andThen,Deferred.ofValue]
                · refine(Iy a3 a6 c3 c6 s'.undone W i3 i6 (Aa cQ W (q1 (by omega)).tw).2).mono ?_
                  rintro e W2 ⟨rfl,nq,rfl⟩;exact⟨_,rfl,_,⟨aB,x70,_,_,aC,J,rfl,fun h=>by omega,fun _=>hb.below (Ac (qU _ _)),fun h=>by omega,fun h=>by omega,fun h=>by omega,fun h=>by omega⟩,Fx.refl _ _ _⟩
              · cases (show some 39=some ix from hi)
                have I:some _=some o:=ho;cases I
                skip
                refine⟨rfl,.inr (.inr ⟨56,#[qP0 b],W,?_,?_⟩)⟩
                · simp[execOp,resolve,invoke,Act.eval,eG,Result.andThen,Deferred.ofValue]
                · refine((q1 (by omega)).tw.openP).mono ?_
                  rintro e W2 ⟨v,rfl,bD,hb⟩;exact⟨_,rfl,_,⟨aB,x70,aA,x80,_,J,rfl,fun h=>by omega,fun _=>(q1 (by omega)).below hb,fun h=>by omega,fun h=>by omega,fun _=>bD,fun h=>by omega⟩,Fx.refl _ _ _⟩
              · cases (show some 41=some ix from hi)
                have I:some _=some o:=ho;cases I
                skip
                refine⟨rfl,.inr (.inr ⟨57,#[qP0 b2],W,?_,?_⟩)⟩
                · simp[execOp,resolve,invoke,Act.eval,dX,Result.andThen,Deferred.ofValue]
                · refine((q1 (by omega)).tw.openR).mono ?_
                  rintro e W2 ⟨v,rfl,bD,hb⟩;exact⟨_,rfl,_,⟨aB,x70,aA,x80,aC,_,rfl,fun h=>by omega,fun _=>(q1 (by omega)).below hb,fun h=>by omega,fun h=>by omega,fun _=>(q7 (.inl rfl)).below hb,fun _=>bD⟩,Fx.refl _ _ _⟩
              · cases (show some 42=some ix from hi)
                have I:some _=some o:=ho;cases I;have hb:=q1 (by omega);obtain⟨a3,c3,rfl,_,i3⟩:=q7 (.inr rfl);obtain⟨a6,c6,rfl,_,i6⟩:=q8 rfl;refine⟨rfl,.inr (.inr ⟨55,#[.slice a3 (P32.open_ d.bare s').length c3,.slice a6 (P32.open_ d.bare s').length c6],W,?_,?_⟩)⟩
                · simp[execOp,resolve,invoke,Act.eval,dW,Result.andThen,Deferred.ofValue]
                · refine(Jk a3 a6 c3 c6 _ W i3 i6 (Aa eC W (q1 (by omega)).tw)).mono ?_
                  rintro e W2 ⟨rfl,aK⟩;exact⟨_,rfl,_,⟨aB,x70,aA,x80,_,_,rfl,fun h=>by omega,fun _=>hb.below aK,fun h=>by omega,fun h=>by omega,fun h=>by omega,fun h=>by omega⟩,Fx.refl _ _ _⟩
              · cases (show some 47=some ix from hi)
                have I:some _=some o:=ho;cases I
                skip
                refine⟨rfl,.inr (.inr ⟨58,#[qP0 b],W,?_,?_⟩)⟩
                · simp[execOp,resolve,invoke,Act.eval,eL,Result.andThen,Deferred.ofValue]
                · refine((Aa bT W (q1 (by omega)).tw).2.1).mono ?_
                  rintro e W2 ⟨rfl,rfl⟩;exact⟨_,rfl,_,⟨aB,x70,aA,x80,aC,J,rfl,fun h=>by omega,fun _=>q1 (by omega),fun h=>by omega,fun h=>by omega,fun h=>by omega,fun h=>by omega⟩,Fx.refl _ _ _⟩
              · simp at hi
            case hfin=>
              rintro pk aF W6 hk ⟨aB,x70,aA,x80,aC,J,rfl,aH⟩;have hb:=(aH.2.1 (by simp at hk;omega)).tw;have dR:=Ab hb;clear aH hb;go_wp2;go_roundg g'
              case measure=>omega
              case rel=>exact⟨i+1,s',by omega,by go_num,dR⟩
theorem L6(v0 I:Value)(w:World)(h0:Qa7 w v0)(h1:Wx w I):Calls Tryz.prog 8 #[v0,I] w fun e w'=>e=.returned (.bool true)∧Below w.heap.size w w':=by
 obtain⟨D,rfl,h2,_⟩:=h0;obtain⟨ad,l,cap,rfl,h3,h4⟩:=h1;exact L5 D ad cap l w h2 h3 h4
end Go.Proofs.YtefokfbgpfcbkaaGreat
