import Derived.Test.YtefokfbgpfcbkaaGreatS32aZ
set_option maxRecDepth 100000
set_option maxHeartbeats 8000000
set_option linter.unusedVariables false
set_option linter.unusedSimpArgs false
namespace Go.Proofs.YtefokfbgpfcbkaaGreat
open Go.RowKit
theorem Qah(d:Af)(w:World)(J:d.In w)(I:d.cp):Calls Tryz.prog 67 #[d.val] w (Mk w d):=by
 obtain⟨nm,tx,sa,sc,ss⟩:=d;by_cases h:ss=[]
 ·subst h;have:=I.none_ rfl;simp only at this;subst this;exact Um nm tx sc w
 ·obtain⟨x,r,rfl⟩:∃x r,ss=x::r:=by cases ss with|nil=>exact absurd rfl h|cons x r=>exact⟨x,r,rfl⟩
  obtain⟨⟨b,o,e,_⟩,_⟩:=J.steps 0 x rfl;simp only at e;subst e;exact Un nm tx b o sc (x::r) w J I h
theorem Tk{L:Array Bool}{i:Nat}(h:L.getD i true=false):(L.setIfInBounds i true).getD i false=true:=by
 obtain⟨hl,_⟩:=Ca h;simp[Array.getD,hl]
theorem Cf{L:Array Bool}{i j:Nat}(h:j≠i)(hj:(L.setIfInBounds i true).getD j false=true):L.getD j false=true:=by
 rwa [getD_set_ne false (Ne.symm h)]at hj
theorem Q8{L:Array Bool}{i j:Nat}(h:L.getD i true=false)(hj:L.getD j false=true):(L.setIfInBounds i true).getD j false=true:=by
 by_cases e:j=i
 ·rw[e];exact Tk h
 ·rwa [getD_set_ne false (Ne.symm e)]
theorem R4{f:FuncId}{args:Array Value}{w:World}{o:Oper}{a:Act}{K:Act→World→Prop}{Q:Exit→Act→World→Prop}{R:Ending→World→Prop}
  (J:(execOp a.eval o).run Tryz.prog w=.ok (.enter f args) w) (h:Calls Tryz.prog f args w R) (hk:∀e w',R e w'→∃v,e=.returned v∧K (a.put o.dst v) w'):Oper.wp Tryz.prog o a w K Q:=by
 unfold Oper.wp;rw[J,Oper.upon_enter];refine h.mono (fun e w' hr=>?_);obtain⟨v,rfl,I⟩:=hk e w' hr;exact I
open Go.RowKit
def Ww(l:Int):Ai:={ Ai.zero with name:=[97],action:=[120],undo:=[117],limit:=l }
def Y8(I:Nat)(u:List UInt8)(l:Int):Ai:={ Ai.zero with name:=[98],action:=[121],undo:=u,aa:=some ⟨I,0,none⟩,ac:=1,after:=[[97]],limit:=l }
def Y6(g I:Nat)(u:List UInt8)(l:Int):Af:=⟨[116],[],some ⟨g,0,none⟩,2,[Ww l,Y8 I u l]⟩
theorem Sz:Ov Ai.zero.note.bare:=⟨Nat.zero_le _,Nat.zero_le _,(fun x hx=>nomatch hx),Nat.zero_le _,trivial⟩
theorem Qav(l:Int)(W:World):(Ww l).In W:=⟨fun i x h=>by simp[Ww,Ai.zero]at h,qJ _,Nat.zero_le _,Nd.zero_in W⟩
theorem Qaw{W:World}{I:Nat}{u:List UInt8}{l:Int}(h:W.heap[I]?=some (.cells #[.string ⟨#[97]⟩] 9)):(Y8 I u l).In W where
 keys:=fun i x hx=>by
  match i,hx with
  |0,hx=>
   cases (show some [97]=some x from hx);exact⟨I,0,rfl,(A1 h).1⟩
 len:=qJ _
 cap:=by show 1≤maxLen;unfold maxLen;omega
 note:=Nd.zero_in W
theorem Qak{W:World}{g J:Nat}{u:List UInt8}{l:Int}(h:W.heap[g]?=some (.cells ((Ww l).cs++(Y8 J u l).cs).toArray 63))(h2:W.heap[J]?=some (.cells #[.string ⟨#[97]⟩] 9)):(Y6 g J u l).In W where
 steps:=fun j s hj=>by
  match j,hj with
  |0,hj=>
   cases (show some (Ww l)=some s from hj);refine⟨⟨g,0,rfl,fun k v hk=>?_⟩,Qav l W⟩;have I:k<13:=(qI.1 hk).1;simp only[Nat.zero_mul,Nat.zero_add,Nat.add_zero];simp only[World.cell?,h,Option.bind_some];refine(List.getElem?_toArray ..).trans ?_;rw[qZ (by show k<13;exact I)];exact hk
  |1,hj=>
   cases (show some (Y8 J u l)=some s from hj);refine⟨⟨g,0,rfl,fun k v hk=>?_⟩,Qaw h2⟩;simp only[Nat.one_mul,Nat.zero_add];simp only[World.cell?,h,Option.bind_some];refine(List.getElem?_toArray ..).trans ?_;rw[zA (by show 13≤13+k;omega)];have e:13+k-(Ww l).cs.length=k:=by show 13+k-13=k;omega
   rw[e];exact hk
 len:=qJ _
 cap:=by show 2≤maxLen;unfold maxLen;omega
theorem Gu{α:Type}{a b x:α}(h:x∈[a,b]):x=a∨x=b:=by simpa using h
theorem Qal(g I:Nat)(u:List UInt8)(l:Int)(hu:u.length≤1):(Y6 g I u l).ok where
 fit:=⟨by show 2≤100000;omega,by show 1≤maxLen;unfold maxLen;omega,fun s hs=>by
  rcases Gu (show s∈[Ww l,Y8 I u l] from hs)with rfl|rfl
  ·exact⟨by show 1≤maxLen;unfold maxLen;omega,by show 1≤maxLen;unfold maxLen;omega,by show 1≤maxLen;unfold maxLen;omega⟩
  ·exact⟨by show 1≤maxLen;unfold maxLen;omega,by show 1≤maxLen;unfold maxLen;omega,by show u.length≤maxLen;unfold maxLen;omega⟩,fun s hs=>by
  rcases Gu (show s∈[Ww l,Y8 I u l] from hs)with rfl|rfl
  ·exact Nat.zero_le _
  ·show 1≤_;omega⟩
 short:=⟨by show 1≤1000000;omega,Nat.zero_le _,by show 2≤100000;omega,fun s hs=>by
  rcases Gu (show s∈[Ww l,Y8 I u l] from hs)with rfl|rfl
  ·exact⟨by show 1≤1000000;omega,by show 1≤1000000;omega,by show 1≤1000000;omega,(fun x hx=>nomatch hx),Nat.zero_le _,Sz⟩
  ·exact⟨by show 1≤1000000;omega,by show 1≤1000000;omega,by show u.length≤1000000;omega,(fun x hx=>by
    have hx:x∈[[97]]:=hx;rw[zX]at hx;subst hx
    show 1≤1000000;omega),by show 1≤_;omega,Sz⟩⟩
theorem Qaj(g I:Nat)(u:List UInt8)(l:Int):(Y6 g I u l).cp:=
 ⟨by show 2≤100000;omega,(fun h=>nomatch h),fun s hs=>by
  rcases Gu (show s∈[Ww l,Y8 I u l] from hs)with rfl|rfl
  ·exact Nat.zero_le _
  ·show 1≤_;omega,fun s hs=>by
  rcases Gu (show s∈[Ww l,Y8 I u l] from hs)with rfl|rfl<;>exact Sz⟩
structure MdX (w:World) (b:Nat) (D:P22.Def) (s:P33.S) (V:World):Prop where
 ex:∃(bm rb C:Nat) (vs:Nat→Value) (d:Af) (dn un:Value),Md V b bm rb w.heap.size C vs d dn un s∧d.bare=D
 inv:P33.Inv D s
 bel:Below w.heap.size w V
namespace MdX
variable {w V:World} {b:Nat} {D:P22.Def} {s:P33.S}
theorem iv_of{v:Value}{l:List Nat}{B:Nat}(h:A5 V B v l):Iv V v (l.map fun k:Nat=>(k:Int)):=by
 obtain⟨a,c,rfl,I,J,h2⟩:=h.slice;refine⟨a,c,by simp,⟨by simpa using I,J⟩,fun j z hj=>?_⟩;rw[zJ]at hj;cases hk:l[j]? with
 |none=>rw[hk]at hj;cases hj
 |some k=>
  rw[hk]at hj;simp only[Option.map_some,zK]at hj;subst hj;obtain⟨b,o,e,hc⟩:=h2 j k hk;exact⟨b,o,e,hc⟩
end MdX
open Go.RowKit
namespace Lv33
variable {w V:World} {b:Nat}
end Lv33
theorem Wu:Af.zero.ok where
 fit:=⟨Nat.zero_le _,Nat.zero_le _,(fun s hs=>nomatch hs),(fun s hs=>nomatch hs)⟩
 short:=⟨Nat.zero_le _,Nat.zero_le _,Nat.zero_le _,(fun s hs=>nomatch hs)⟩
open Go.RowKit
theorem Pi(d:Af)(w:World)(aA:d.In w)(aB:d.ok)(hc:P28.clean d.bare=false):Calls Tryz.prog 49 #[d.val] w fun e w'=>e=.returned (.tuple #[.pointer none,.int .i64 3])∧Below w.heap.size w w':=by
 obtain⟨H,hH⟩:=qeX w.heap.size;rw[hH];obtain⟨W1,aC,Z,g0,aE⟩:=As w (Be d) H hH;have J:=Mj d W1 (aA.below (by rw[hH];exact Z)) aB;rw[hc]at J;have g1:=g0;unfold Be at g1;obtain⟨⟨q0,r0⟩,⟨q1,r1⟩,⟨q2,r2⟩⟩:=Ag g1;have HC:=Ab J;have I:=Ab aC;have aD:=Ab Z;obtain⟨nm,tx,sa,sc,ss⟩:=d;obtain⟨N,hN⟩:=qeX ss.length;unfold Be at I;unfold Af.val at HC ⊢;simp only[hN]at HC I q2 ⊢;clear J aC Z g0 g1 aA aB hc hN;go_enter Tryz.func49,Tryz.ntmps49
 go_upto_region 1 with fail
 try rw[hH]
 rw[Aa I];go_wp2_with (go_at_call 30;with_reducible refine(Aa HC).mono ?_;rintro e w2 ⟨rfl,b2⟩)
 exact qV (results_tmp2 rfl _ _ _) rfl ⟨rfl,(Aa aD).trans (b2.mono (by omega))⟩
structure NJs (w:World) (H:Nat) (dv:Value) (dc:Array Value) (N:Nat) (RS:List (List Nat)) (CD:P22.Def) (L:Array Bool) (V:World) (d':Af) (rb:Nat) (vs:Nat→Value) (bm:Nat) (v2 v3 v7 v8 v9 v10 v11 v12 v13:Value):Prop where
 sz:L.size=9
 bel:Below H w V
 hsz:H+1≤V.heap.size
 bx:V.heap[H]?=some (.cells dc 24)
 f0:L.getD 0 false=true→v7=dv
 f1:L.getD 1 false=true→v8=d'.val∧d'.In V∧d'.bare=CD∧∀g,d'.blk g→H+1≤g
 f2:L.getD 2 false=true→v9=dv
 f3:L.getD 3 false=true→v10=.slice (some ⟨rb,0,none⟩) N N∧C0 V 0 rb vs RS∧∀g,Ce rb vs N g→H+1≤g
 f4:L.getD 4 false=true→v11=.map (some bm)∧H+1≤bm∧V.heap[bm]?=some (.map #[] 0)
 s1:L.getD 1 false=true→L.getD 4 false=true→¬d'.blk bm
 s3:L.getD 3 false=true→L.getD 4 false=true→¬Ce rb vs N bm
 f5:L.getD 5 false=true→v12=.agg #[.string ⟨d'.name.toArray⟩,.string ⟨d'.text.toArray⟩,.slice d'.sa d'.steps.length d'.sc,.slice (some ⟨rb,0,none⟩) N N,.map (some bm),.slice none 0 0,.slice none 0 0,.int .u8 0]
 f6:L.getD 6 false=true→∃b,v13=.pointer (some ⟨b,0,none⟩)∧H≤b∧H≤bm∧Sg V b bm rb (b+1) vs d' (.slice none 0 0) (.slice none 0 0) P32.S.new
 f7:L.getD 7 false=true→v2=v13
 f8:L.getD 8 false=true→v3=.int .i64 0
 g5:L.getD 5 false=true→L.getD 1 false=true∧L.getD 3 false=true∧L.getD 4 false=true
 g6:L.getD 6 false=true→L.getD 5 false=true
 g7:L.getD 7 false=true→L.getD 6 false=true
theorem Uz(d:Af)(w:World)(bG:d.In w)(aX:d.ok)(aI:d.cp)(hc:P28.clean d.bare=true)(bI:∀s∈d.steps,s.after.length≤1000000):Calls Tryz.prog 49 #[d.val] w fun e w'=>
  ∃(b bm rb C:Nat) (vs:Nat→Value) (d':Af),e=.returned (.tuple #[qP0 b,.int .i64 0])∧((w.heap.size≤b∧w.heap.size≤bm∧Sg w' b bm rb C vs d' (.slice none 0 0) (.slice none 0 0) P32.S.new)∧d'.bare=Bw d.bare)∧Below w.heap.size w w':=by
 obtain⟨H,hH⟩:=qeX w.heap.size;rw[hH];obtain⟨W1,bE,aP,g0,bY⟩:=As w (Be d) H hH;have aG:∀V,Below H w V→d.In V:=fun V hV=>bG.below (by rw[hH];exact hV);have aO:=Mj d W1 (aG W1 aP) aX;rw[hc]at aO;have aB:=fun V (hV:Below H w V)=>Qah d V (aG V hV) aI;have aE:=fun V (hV:Below H w V)=>Ko d V (aG V hV) aI.len bI;have bQ:=@run_makeMap Tryz.prog
 have aZ:d.steps≠[]:=fun e=>by
  have h9:P28.clean d.bare=true:=hc;unfold P28.clean P28.namesP at h9;simp[Af.bare,e,P28.nt]at h9
 have hcut:(Bw d.bare).steps.length=d.steps.length:=by simp[Bw,Af.bare]
 have aD:P28.refs (Bw d.bare)=P28.refs d.bare:=by
  unfold P28.refs P28.names P28.afters Bw;simp[List.map_map,Function.comp_def,Kx]
 have bC:=aI.len;have g1:=g0;unfold Be at g1;obtain⟨⟨q0,r0⟩,⟨q1,r1⟩,⟨q2,r2⟩⟩:=Ag g1;obtain⟨CD,aJ⟩:=qeX (Bw d.bare);obtain⟨RS,aR⟩:=qeX (P28.refs d.bare);rw[aJ]at hcut aD;rw[aR]at aE aD;rw[aJ];unfold Mk at aB;rw[aJ]at aB;have HC:=Ab aO;have aT:=Ab bE;have bM:=Ab aP;have bD:=Ab g1;have aQ:=Ab aB;have aS:=Ab aE;obtain⟨nm,tx,sa,sc,ss⟩:=d;obtain⟨N,hN⟩:=qeX ss.length
 have bO:N≠0:=by
  rw[←hN];intro e;exact aZ (List.length_eq_zero_iff.1 e)
 unfold Be at aT;unfold Af.val at HC;simp only[hN]at HC aT bD q2 hcut bC
 have aQ:Hid (∀V,Below H w V→Calls Tryz.prog 67 #[.agg #[.string ⟨nm.toArray⟩,.string ⟨tx.toArray⟩,.slice sa N sc]] V fun e w'=>∃d':Af,e=.returned d'.val∧d'.In w'∧(∀g,d'.blk g→V.heap.size≤g)∧d'.bare=CD∧Below V.heap.size V w'):=by
  have h:=Aa aQ;unfold Af.val at h;simp only[hN]at h;exact Ab h
 have aS:Hid (∀V,Below H w V→Calls Tryz.prog 59 #[.agg #[.string ⟨nm.toArray⟩,.string ⟨tx.toArray⟩,.slice sa N sc]] V fun e w'=>∃b vs,e=.returned (.slice (some ⟨b,0,none⟩) N N)∧C0 w' V.heap.size b vs RS∧Below V.heap.size V w'):=by
  have h:=Aa aS;unfold Af.val at h;simp only[hN]at h;exact Ab h
 simp only[Af.val,hN];have bX:=Bj;have aH:RS.length=N:=by rw[←aR,P28.refs_len,Md.blen];exact hN
 clear aO bE aP g0 g1 bG aX aI hc bI aG aB aE aJ aR aZ;go_enter Tryz.func49,Tryz.ntmps49
 go_upto_region 1 with fail
 try rw[hH]
 rw[Aa aT];go_upto_region 3 with(go_at_call 30;with_reducible refine(Aa HC).mono ?_;rintro e w2 ⟨rfl,b2⟩)
 have bU:Below H w w2:=(Aa bM).trans (b2.mono (by omega));have g2:=(b2.block H (by omega)).trans (Aa bD);have bL:H+1≤w2.heap.size:=by have:=b2.size;omega
 have bJ:=enters_of Tryz.func67 (by kernel_rfl) rfl;have bT:=enters_of Tryz.func59 (by kernel_rfl) rfl;refine D9 bX (fun L a V=>∃(v2 v3 v7 v8 v9 v10 v11 v12 v13:Value) (d':Af) (rb bm:Nat) (vs:Nat→Value),a=⟨#[.agg #[sT nm,sT tx,.slice sa N sc],qP0 H,v2,v3,.agg #[sT nm,sT tx,.slice sa N sc],.bool true,.bool false,(v7),(v8),(v9),(v10),(v11),(v12),(v13)],[]⟩∧NJs w H (.agg #[.string ⟨nm.toArray⟩,.string ⟨tx.toArray⟩,.slice sa N sc]) #[.string ⟨nm.toArray⟩,.string ⟨tx.toArray⟩,.slice sa N sc] N RS CD L V d' rb vs bm v2 v3 v7 v8 v9 v10 v11 v12 v13) (by kernel_rfl) ?_ ?_ ?_
 ·refine⟨_,_,_,_,_,_,_,_,_,Af.zero,0,0,fun _=>undef,rfl,by kernel_rfl,bU.drew,bL,g2,?_,?_,?_,?_,?_,?_,?_,?_,?_,?_,?_,?_,?_,?_⟩;all_goals (intro h;exact absurd h (by decide))
 ·rintro L a V i o ⟨v2,v3,v7,v8,v9,v10,v11,v12,v13,d',rb,bm,vs,rfl,h⟩ ho hi Z;have I:∀j,j≠i→(L.setIfInBounds i true).getD j false=true→L.getD j false=true:=fun j hj q=>Cf hj q;have J:∀j,L.getD j false=true→(L.setIfInBounds i true).getD j false=true:=fun j q=>Q8 hi q;have aC:=(Ca hi).2
  match i,ho with
  |0,ho=>
   cases ho;refine Bc rfl rfl ?_;obtain⟨⟨y0,_⟩,⟨y1,_⟩,⟨y2,_⟩⟩:=Ag h.bx;refine qR (K:=fun a2 w2=>a2=⟨#[.agg #[sT nm,sT tx,.slice sa N sc],qP0 H,v2,v3,.agg #[sT nm,sT tx,.slice sa N sc],.bool true,.bool false,(.agg #[sT nm,sT tx,.slice sa N sc]),(v8),(v9),(v10),(v11),(v12),(v13)],[]⟩∧w2=V) (fun a2 w2 he=>?_) (by simp[Oper.wp,go_sem,y0,y1,y2]);obtain⟨rfl,rfl⟩:=he;exact⟨v2,v3,_,v8,v9,v10,v11,v12,v13,d',rb,bm,vs,rfl,⟨by simpa using h.sz,h.bel,h.hsz,h.bx,fun _=>rfl,fun q=>h.f1 (I 1 (by omega) q),fun q=>h.f2 (I 2 (by omega) q),fun q=>h.f3 (I 3 (by omega) q),fun q=>h.f4 (I 4 (by omega) q),fun q r=>h.s1 (I 1 (by omega) q) (I 4 (by omega) r),fun q r=>h.s3 (I 3 (by omega) q) (I 4 (by omega) r),fun q=>h.f5 (I 5 (by omega) q),fun q=>h.f6 (I 6 (by omega) q),fun q=>h.f7 (I 7 (by omega) q),fun q=>h.f8 (I 8 (by omega) q),fun q=>⟨J 1 (h.g5 (I 5 (by omega) q)).1,J 3 (h.g5 (I 5 (by omega) q)).2.1,J 4 (h.g5 (I 5 (by omega) q)).2.2⟩,fun q=>J 5 (h.g6 (I 6 (by omega) q)),fun q=>J 6 (h.g7 (I 7 (by omega) q))⟩⟩
  |1,ho=>
   cases ho;refine Bc rfl rfl ?_;obtain rfl:=h.f0 (Z ⟨0,.data⟩ (by simp) rfl);refine R4 (f:=67) (args:=#[.agg #[.string ⟨nm.toArray⟩,.string ⟨tx.toArray⟩,.slice sa N sc]]) (by simp[execOp,go_sem,bJ]) (Aa aQ V h.bel) ?_;rintro e W ⟨d2,rfl,k1,k2,k3,k4⟩;have hz:=h.hsz;refine⟨_,rfl,v2,v3,_,d2.val,v9,v10,v11,v12,v13,d2,rb,bm,vs,rfl,⟨by simpa using h.sz,h.bel.trans (k4.mono (by omega)),qK hz k4.size,(k4.block H (by omega)).trans h.bx,fun q=>h.f0 (I 0 (by omega) q),fun _=>⟨rfl,k1,k3,fun g hg=>qK hz (k2 g hg)⟩,fun q=>h.f2 (I 2 (by omega) q),fun q=>⟨(h.f3 (I 3 (by omega) q)).1,(h.f3 (I 3 (by omega) q)).2.1.below k4,(h.f3 (I 3 (by omega) q)).2.2⟩,fun q=>⟨(h.f4 (I 4 (by omega) q)).1,(h.f4 (I 4 (by omega) q)).2.1,(k4.block bm (qA.1 (h.f4 (I 4 (by omega) q)).2.2).1).trans (h.f4 (I 4 (by omega) q)).2.2⟩,fun _ r hb=>by have h1:=(qA.1 (h.f4 (I 4 (by omega) r)).2.2).1;have:=k2 bm hb;omega,fun q r=>h.s3 (I 3 (by omega) q) (I 4 (by omega) r),fun q=>absurd ((h.g5 (I 5 (by omega) q)).1) (by rw[aC];decide),fun q=>absurd ((h.g5 (h.g6 (I 6 (by omega) q))).1) (by rw[aC];decide),fun q=>h.f7 (I 7 (by omega) q),fun q=>h.f8 (I 8 (by omega) q),fun q=>⟨J 1 (h.g5 (I 5 (by omega) q)).1,J 3 (h.g5 (I 5 (by omega) q)).2.1,J 4 (h.g5 (I 5 (by omega) q)).2.2⟩,fun q=>J 5 (h.g6 (I 6 (by omega) q)),fun q=>J 6 (h.g7 (I 7 (by omega) q))⟩⟩
  |2,ho=>
   cases ho;refine Bc rfl rfl ?_;obtain⟨⟨y0,_⟩,⟨y1,_⟩,⟨y2,_⟩⟩:=Ag h.bx;refine qR (K:=fun a2 w2=>a2=⟨#[.agg #[sT nm,sT tx,.slice sa N sc],qP0 H,v2,v3,.agg #[sT nm,sT tx,.slice sa N sc],.bool true,.bool false,(v7),(v8),(.agg #[sT nm,sT tx,.slice sa N sc]),(v10),(v11),(v12),(v13)],[]⟩∧w2=V) (fun a2 w2 he=>?_) (by simp[Oper.wp,go_sem,y0,y1,y2]);obtain⟨rfl,rfl⟩:=he;exact⟨v2,v3,v7,v8,_,v10,v11,v12,v13,d',rb,bm,vs,rfl,⟨by simpa using h.sz,h.bel,h.hsz,h.bx,fun q=>h.f0 (I 0 (by omega) q),fun q=>h.f1 (I 1 (by omega) q),fun _=>rfl,fun q=>h.f3 (I 3 (by omega) q),fun q=>h.f4 (I 4 (by omega) q),fun q r=>h.s1 (I 1 (by omega) q) (I 4 (by omega) r),fun q r=>h.s3 (I 3 (by omega) q) (I 4 (by omega) r),fun q=>h.f5 (I 5 (by omega) q),fun q=>h.f6 (I 6 (by omega) q),fun q=>h.f7 (I 7 (by omega) q),fun q=>h.f8 (I 8 (by omega) q),fun q=>⟨J 1 (h.g5 (I 5 (by omega) q)).1,J 3 (h.g5 (I 5 (by omega) q)).2.1,J 4 (h.g5 (I 5 (by omega) q)).2.2⟩,fun q=>J 5 (h.g6 (I 6 (by omega) q)),fun q=>J 6 (h.g7 (I 7 (by omega) q))⟩⟩
  |3,ho=>
   cases ho;refine Bc rfl rfl ?_;obtain rfl:=h.f2 (Z ⟨2,.data⟩ (by simp) rfl);refine R4 (f:=59) (args:=#[.agg #[.string ⟨nm.toArray⟩,.string ⟨tx.toArray⟩,.slice sa N sc]]) (by simp[execOp,go_sem,bT]) (Aa aS V h.bel) ?_;rintro e W ⟨aU,bV,rfl,k1,k4⟩;have hz:=h.hsz;refine⟨_,rfl,v2,v3,v7,v8,_,.slice (some ⟨aU,0,none⟩) N N,v11,v12,v13,d',aU,bm,bV,rfl,⟨by simpa using h.sz,h.bel.trans (k4.mono (by omega)),qK hz k4.size,(k4.block H (by omega)).trans h.bx,fun q=>h.f0 (I 0 (by omega) q),fun q=>⟨(h.f1 (I 1 (by omega) q)).1,(h.f1 (I 1 (by omega) q)).2.1.below k4,(h.f1 (I 1 (by omega) q)).2.2⟩,fun q=>h.f2 (I 2 (by omega) q),fun _=>⟨rfl,k1.low (Nat.zero_le _),fun g hg=>qK hz (k1.lt (by rw[aH];exact hg)).1⟩,fun q=>⟨(h.f4 (I 4 (by omega) q)).1,(h.f4 (I 4 (by omega) q)).2.1,(k4.block bm (qA.1 (h.f4 (I 4 (by omega) q)).2.2).1).trans (h.f4 (I 4 (by omega) q)).2.2⟩,fun q r=>h.s1 (I 1 (by omega) q) (I 4 (by omega) r),fun _ r hb=>by have h1:=(qA.1 (h.f4 (I 4 (by omega) r)).2.2).1;have:=(k1.lt (by rw[aH];exact hb)).1;omega,fun q=>absurd ((h.g5 (I 5 (by omega) q)).2.1) (by rw[aC];decide),fun q=>absurd ((h.g5 (h.g6 (I 6 (by omega) q))).2.1) (by rw[aC];decide),fun q=>h.f7 (I 7 (by omega) q),fun q=>h.f8 (I 8 (by omega) q),fun q=>⟨J 1 (h.g5 (I 5 (by omega) q)).1,J 3 (h.g5 (I 5 (by omega) q)).2.1,J 4 (h.g5 (I 5 (by omega) q)).2.2⟩,fun q=>J 5 (h.g6 (I 6 (by omega) q)),fun q=>J 6 (h.g7 (I 7 (by omega) q))⟩⟩
  |4,ho=>
   cases ho;refine Bc rfl rfl ?_;refine qR (K:=fun a2 w2=>a2=⟨#[.agg #[sT nm,sT tx,.slice sa N sc],qP0 H,v2,v3,.agg #[sT nm,sT tx,.slice sa N sc],.bool true,.bool false,(v7),(v8),(v9),(v10),(.map (some V.heap.size)),(v12),(v13)],[]⟩∧w2=V.alloc (.map #[] 0)) (fun a2 w2 he=>?_) (by simp[Oper.wp,go_sem,bQ]);obtain⟨rfl,rfl⟩:=he;have hz:=h.hsz;have k4:Below V.heap.size V (V.alloc (.map #[] 0)):=(qU _ V).alloc (qJ _) _;exact⟨v2,v3,v7,v8,v9,v10,_,v12,v13,d',rb,V.heap.size,vs,rfl,⟨by simpa using h.sz,h.bel.trans (k4.mono (by omega)),qK hz k4.size,(k4.block H (by omega)).trans h.bx,fun q=>h.f0 (I 0 (by omega) q),fun q=>⟨(h.f1 (I 1 (by omega) q)).1,(h.f1 (I 1 (by omega) q)).2.1.below k4,(h.f1 (I 1 (by omega) q)).2.2⟩,fun q=>h.f2 (I 2 (by omega) q),fun q=>⟨(h.f3 (I 3 (by omega) q)).1,(h.f3 (I 3 (by omega) q)).2.1.below k4,(h.f3 (I 3 (by omega) q)).2.2⟩,fun _=>⟨rfl,hz,qB _ _⟩,fun q _ hb=>by have:=(h.f1 (I 1 (by omega) q)).2.1.lt hb;omega,fun q _ hb=>by have:=((h.f3 (I 3 (by omega) q)).2.1.lt (by rw[aH];exact hb)).2;omega,fun q=>absurd ((h.g5 (I 5 (by omega) q)).2.2) (by rw[aC];decide),fun q=>absurd ((h.g5 (h.g6 (I 6 (by omega) q))).2.2) (by rw[aC];decide),fun q=>h.f7 (I 7 (by omega) q),fun q=>h.f8 (I 8 (by omega) q),fun q=>⟨J 1 (h.g5 (I 5 (by omega) q)).1,J 3 (h.g5 (I 5 (by omega) q)).2.1,J 4 (h.g5 (I 5 (by omega) q)).2.2⟩,fun q=>J 5 (h.g6 (I 6 (by omega) q)),fun q=>J 6 (h.g7 (I 7 (by omega) q))⟩⟩
  |5,ho=>
   cases ho;refine Bc rfl rfl ?_;have l1:=Z ⟨1,.data⟩ (by simp) rfl;have l3:=Z ⟨3,.data⟩ (by simp) rfl;have l4:=Z ⟨4,.data⟩ (by simp) rfl;have e8:=(h.f1 l1).1;have bW:=(h.f3 l3).1;have bK:=(h.f4 l4).1;unfold Af.val at e8;subst e8;subst bW;subst bK;refine qR (K:=fun a2 w2=>a2=⟨#[.agg #[sT nm,sT tx,.slice sa N sc],qP0 H,v2,v3,.agg #[sT nm,sT tx,.slice sa N sc],.bool true,.bool false,(v7),(.agg #[sT d'.name,sT d'.text,.slice d'.sa d'.steps.length d'.sc]),(v9),(.slice (oA rb 0) N N),(.map (some bm)),((.agg #[sT d'.name,sT d'.text,.slice d'.sa d'.steps.length d'.sc,.slice (oA rb 0) N N,.map (some bm),.slice none 0 0,.slice none 0 0,.int .u8 0])),(v13)],[]⟩∧w2=V) (fun a2 w2 he=>?_) (by simp[Oper.wp,go_sem];try exact⟨rfl,rfl⟩);obtain⟨rfl,rfl⟩:=he;exact⟨v2,v3,v7,_,v9,_,_,_,v13,d',rb,bm,vs,rfl,⟨by simpa using h.sz,h.bel,h.hsz,h.bx,fun q=>h.f0 (I 0 (by omega) q),fun q=>h.f1 (I 1 (by omega) q),fun q=>h.f2 (I 2 (by omega) q),fun q=>h.f3 (I 3 (by omega) q),fun q=>h.f4 (I 4 (by omega) q),fun q r=>h.s1 (I 1 (by omega) q) (I 4 (by omega) r),fun q r=>h.s3 (I 3 (by omega) q) (I 4 (by omega) r),fun _=>rfl,fun q=>absurd (h.g6 (I 6 (by omega) q)) (by rw[aC];decide),fun q=>h.f7 (I 7 (by omega) q),fun q=>h.f8 (I 8 (by omega) q),fun _=>⟨J 1 l1,J 3 l3,J 4 l4⟩,fun q=>J 5 (h.g6 (I 6 (by omega) q)),fun q=>J 6 (h.g7 (I 7 (by omega) q))⟩⟩
  |6,ho=>
   cases ho;refine Bc rfl rfl ?_;have l5:=Z ⟨5,.data⟩ (by simp) rfl;obtain⟨l1,l3,l4⟩:=h.g5 l5;obtain rfl:=h.f5 l5;obtain⟨k1,k2,k3,k4⟩:=h.f1 l1;obtain⟨m1,m2,m3⟩:=h.f3 l3;obtain⟨n1,n2,n3⟩:=h.f4 l4;have bF:=h.s1 l1 l4;have aW:=h.s3 l3 l4;have hz:=h.hsz;have aA:∀o:Obj,Below V.heap.size V (V.alloc o):=fun o=>(qU _ V).alloc (qJ _) o
   have aL:d'.steps.length=N:=by
    have h7:d'.bare.steps.length=N:=by rw[k3];exact hcut
    rw[Md.blen]at h7;exact h7
   have aN:=(qA.1 n3).1
   have aK:Sg (V.alloc (.cells #[.string ⟨d'.name.toArray⟩,.string ⟨d'.text.toArray⟩,.slice d'.sa d'.steps.length d'.sc,.slice (some ⟨rb,0,none⟩) N N,.map (some bm),.slice none 0 0,.slice none 0 0,.int .u8 0] 153)) V.heap.size bm rb (V.heap.size+1) vs d' (.slice none 0 0) (.slice none 0 0) P32.S.new:={
    bx:=(qB _ _).trans (by simp[P32.S.new,aL,Y7]),
    mp:=⟨[],⟨#[],0,((aA _).block bm aN).trans n3,⟨by simp,by simp⟩,rfl⟩,fun i u=>rfl⟩,
    odn:=A5.nil _ _,
    oun:=A5.nil _ _,
    apart:=fun g hg=>(by cases hg),
    df:=k2.below (aA _),
    dlt:=fun g hg=>by
     have q1:=k2.lt hg;exact⟨by omega,fun e=>bF (e ▸ hg),by omega⟩,
    gr:=by rw[k3,aD];exact m2.below (aA _),
    glt:=fun g hg=>by
     rw[aL]at hg;have q1:=(m2.lt (by rw[aH];exact hg)).2;exact⟨by omega,fun e=>aW (e ▸ hg),by omega⟩,
    bne:=by omega,
    bc:=by omega,
    mc:=by omega,
    cw:=by simp,
    ok:=fun i u=>P31.zero_ok,
    nd:=List.nodup_nil,
    dl:=fun i hi=>(by cases hi),
    ul:=qJ _,
    ne:=fun e=>bO (by rw[←aL,e];rfl),
    nle:=by rw[aL];exact bC }
   refine qR (K:=fun a2 w2=>a2=⟨#[.agg #[sT nm,sT tx,.slice sa N sc],qP0 H,v2,v3,.agg #[sT nm,sT tx,.slice sa N sc],.bool true,.bool false,(v7),(v8),(v9),(v10),(v11),((.agg #[sT d'.name,sT d'.text,.slice d'.sa d'.steps.length d'.sc,.slice (oA rb 0) N N,.map (some bm),.slice none 0 0,.slice none 0 0,.int .u8 0])),(qP0 (V.heap.size))],[]⟩∧w2=V.alloc (.cells #[.string ⟨d'.name.toArray⟩,.string ⟨d'.text.toArray⟩,.slice d'.sa d'.steps.length d'.sc,.slice (some ⟨rb,0,none⟩) N N,.map (some bm),.slice none 0 0,.slice none 0 0,.int .u8 0] 153)) (fun a2 w2 he=>?_) (by simp[Oper.wp,go_sem]);obtain⟨rfl,rfl⟩:=he;exact⟨v2,v3,v7,v8,v9,v10,v11,_,_,d',rb,bm,vs,rfl,⟨by simpa using h.sz,h.bel.trans ((aA _).mono (by omega)),qK hz (aA _).size,((aA _).block H (by omega)).trans h.bx,fun q=>h.f0 (I 0 (by omega) q),fun _=>⟨k1,k2.below (aA _),k3,k4⟩,fun q=>h.f2 (I 2 (by omega) q),fun _=>⟨m1,m2.below (aA _),m3⟩,fun _=>⟨n1,n2,((aA _).block bm aN).trans n3⟩,fun q r=>h.s1 (I 1 (by omega) q) (I 4 (by omega) r),fun q r=>h.s3 (I 3 (by omega) q) (I 4 (by omega) r),fun _=>rfl,fun _=>⟨V.heap.size,rfl,by omega,by omega,aK⟩,fun q=>absurd (h.g7 (I 7 (by omega) q)) (by rw[aC];decide),fun q=>h.f8 (I 8 (by omega) q),fun q=>⟨J 1 (h.g5 (I 5 (by omega) q)).1,J 3 (h.g5 (I 5 (by omega) q)).2.1,J 4 (h.g5 (I 5 (by omega) q)).2.2⟩,fun _=>J 5 l5,fun q=>J 6 (h.g7 (I 7 (by omega) q))⟩⟩
  |7,ho=>
   cases ho;refine Bc rfl rfl ?_;have l6:=Z ⟨6,.data⟩ (by simp) rfl;refine qR (K:=fun a2 w2=>a2=⟨#[.agg #[sT nm,sT tx,.slice sa N sc],qP0 H,v13,v3,.agg #[sT nm,sT tx,.slice sa N sc],.bool true,.bool false,(v7),(v8),(v9),(v10),(v11),(v12),(v13)],[]⟩∧w2=V) (fun a2 w2 he=>?_) (by simp[Oper.wp,go_sem]);obtain⟨rfl,rfl⟩:=he;exact⟨_,v3,v7,v8,v9,v10,v11,v12,v13,d',rb,bm,vs,rfl,⟨by simpa using h.sz,h.bel,h.hsz,h.bx,fun q=>h.f0 (I 0 (by omega) q),fun q=>h.f1 (I 1 (by omega) q),fun q=>h.f2 (I 2 (by omega) q),fun q=>h.f3 (I 3 (by omega) q),fun q=>h.f4 (I 4 (by omega) q),fun q r=>h.s1 (I 1 (by omega) q) (I 4 (by omega) r),fun q r=>h.s3 (I 3 (by omega) q) (I 4 (by omega) r),fun q=>h.f5 (I 5 (by omega) q),fun q=>h.f6 (I 6 (by omega) q),fun _=>rfl,fun q=>h.f8 (I 8 (by omega) q),fun q=>⟨J 1 (h.g5 (I 5 (by omega) q)).1,J 3 (h.g5 (I 5 (by omega) q)).2.1,J 4 (h.g5 (I 5 (by omega) q)).2.2⟩,fun q=>J 5 (h.g6 (I 6 (by omega) q)),fun _=>J 6 l6⟩⟩
  |8,ho=>
   cases ho;refine Bc rfl rfl ?_;refine qR (K:=fun a2 w2=>a2=⟨#[.agg #[sT nm,sT tx,.slice sa N sc],qP0 H,v2,.int .i64 0,.agg #[sT nm,sT tx,.slice sa N sc],.bool true,.bool false,(v7),(v8),(v9),(v10),(v11),(v12),(v13)],[]⟩∧w2=V) (fun a2 w2 he=>?_) (by simp[Oper.wp,go_sem]);obtain⟨rfl,rfl⟩:=he;exact⟨v2,_,v7,v8,v9,v10,v11,v12,v13,d',rb,bm,vs,rfl,⟨by simpa using h.sz,h.bel,h.hsz,h.bx,fun q=>h.f0 (I 0 (by omega) q),fun q=>h.f1 (I 1 (by omega) q),fun q=>h.f2 (I 2 (by omega) q),fun q=>h.f3 (I 3 (by omega) q),fun q=>h.f4 (I 4 (by omega) q),fun q r=>h.s1 (I 1 (by omega) q) (I 4 (by omega) r),fun q r=>h.s3 (I 3 (by omega) q) (I 4 (by omega) r),fun q=>h.f5 (I 5 (by omega) q),fun q=>h.f6 (I 6 (by omega) q),fun q=>h.f7 (I 7 (by omega) q),fun _=>rfl,fun q=>⟨J 1 (h.g5 (I 5 (by omega) q)).1,J 3 (h.g5 (I 5 (by omega) q)).2.1,J 4 (h.g5 (I 5 (by omega) q)).2.2⟩,fun q=>J 5 (h.g6 (I 6 (by omega) q)),fun q=>J 6 (h.g7 (I 7 (by omega) q))⟩⟩
  |n+9,ho=>simp at ho
 ·rintro L a V ⟨v2,v3,v7,v8,v9,v10,v11,v12,v13,d',rb,bm,vs,rfl,h⟩ aY
  have al:∀i,i<9→L.getD i false=true:=fun i hi=>by
   have h1:=aY i;have hs:=h.sz;simp only[Array.getD_eq_getD_getElem?]at h1 ⊢;rw[Array.getElem?_eq_getElem (by omega)]at h1 ⊢;exact h1
  obtain⟨b,rfl,aK⟩:=h.f6 (al 6 (by omega));obtain rfl:=h.f7 (al 7 (by omega));obtain rfl:=h.f8 (al 8 (by omega));have aM:=And.intro (And.intro aK (h.f1 (al 1 (by omega))).2.2.1) h.bel;have HE:=Ab aM;clear aM aK h;go_wp2;exact qV (results_tmp2 rfl _ _ _) rfl ⟨b,bm,rb,b+1,vs,d',rfl,(Aa HE).1,(Aa HE).2⟩
end Go.Proofs.YtefokfbgpfcbkaaGreat
