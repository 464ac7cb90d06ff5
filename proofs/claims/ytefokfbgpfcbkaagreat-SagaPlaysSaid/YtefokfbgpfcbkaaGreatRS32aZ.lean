import Derived.Test.YtefokfbgpfcbkaaGreatRS31aZ
import Derived.Test.YtefokfbgpfcbkaaGreatS32eZ
set_option maxRecDepth 100000
set_option maxHeartbeats 8000000
set_option linter.unusedVariables false
set_option linter.unusedSimpArgs false
namespace Go.Proofs.YtefokfbgpfcbkaaGreat
open Go.RowKit
def O3(r:P31.Run):Nat→Value
 |0=>.int .u8 (r.phase:Int)
 |1=>.int .i64 r.att
 |2=>.int .i64 r.til
 |_=>.bool r.last
def Jv(f:Nat→P31.Run)(k:Nat):Value:=O3 (f (k / 4)) (k % 4)
def Gv(W:World)(g n:Nat)(f:Nat→P31.Run):Prop:=W.rowIs g 163 (n*4) (Jv f)
theorem Q4(f:Nat→P31.Run)(i:Nat):Jv f (i*4)=.int .u8 ((f i).phase:Int)∧Jv f (i*4+1)=.int .i64 (f i).att∧Jv f (i*4+2)=.int .i64 (f i).til∧Jv f (i*4+3)=.bool (f i).last:=by
 unfold Jv;refine⟨?_,?_,?_,?_⟩
 ·rw[show i*4 % 4=0 by omega,show i*4 / 4=i by omega];rfl
 ·rw[show (i*4+1) % 4=1 by omega,show (i*4+1) / 4=i by omega];rfl
 ·rw[show (i*4+2) % 4=2 by omega,show (i*4+2) / 4=i by omega];rfl
 ·rw[show (i*4+3) % 4=3 by omega,show (i*4+3) / 4=i by omega];rfl
namespace Gv
variable {W W':World} {g n:Nat} {f f':Nat→P31.Run}
theorem cells(h:Gv W g n f){i:Nat}(hi:i<n):(W.cell? ⟨g,i*4,none⟩=some (.int .u8 ((f i).phase:Int))∧W.frozen? ⟨g,i*4,none⟩=false)∧(W.cell? ⟨g,i*4+1,none⟩=some (.int .i64 (f i).att)∧W.frozen? ⟨g,i*4+1,none⟩=false)∧(W.cell? ⟨g,i*4+2,none⟩=some (.int .i64 (f i).til)∧W.frozen? ⟨g,i*4+2,none⟩=false)∧(W.cell? ⟨g,i*4+3,none⟩=some (.bool (f i).last)∧W.frozen? ⟨g,i*4+3,none⟩=false):=by
 obtain⟨I,J,Z,e3⟩:=Q4 f i;refine⟨⟨?_,h.frozen _⟩,⟨?_,h.frozen _⟩,⟨?_,h.frozen _⟩,⟨?_,h.frozen _⟩⟩
 ·rw[←I];exact World.rowIs.cell h (by omega)
 ·rw[←J];exact World.rowIs.cell h (by omega)
 ·rw[←Z];exact World.rowIs.cell h (by omega)
 ·rw[←e3];exact World.rowIs.cell h (by omega)
theorem congr(h:Gv W g n f)(e:∀i,i<n→f i=f' i):Gv W g n f':=World.rowIs.congr h (fun k hk=>by
 unfold Jv
 rw[e (k / 4) (by omega)])
theorem of_block(h:Gv W g n f)(e:W'.heap[g]?=W.heap[g]?):Gv W' g n f:=World.rowIs.of_block h e
theorem set(h:Gv W g n f)(i:Nat)(r:P31.Run):Gv ((((W.setCell ⟨g,i*4,none⟩ (.int .u8 (r.phase:Int))).setCell ⟨g,i*4+1,none⟩ (.int .i64 r.att)).setCell ⟨g,i*4+2,none⟩ (.int .i64 r.til)).setCell ⟨g,i*4+3,none⟩ (.bool r.last)) g n (fun j=>if j=i then r else f j):=by
 refine World.rowIs.congr (World.rowIs.set (World.rowIs.set (World.rowIs.set (World.rowIs.set h _ _) _ _) _ _) _ _) (fun k hk=>?_);have hq:k / 4=i↔(k=i*4∨k=i*4+1∨k=i*4+2∨k=i*4+3):=by omega
 obtain⟨I,J,Z,e3⟩:=Q4 (fun j=>if j=i then r else f j) i;simp only[if_true]at I J Z e3;by_cases h3:k=i*4+3
 ·rw[if_pos h3,h3,e3]
 ·rw[if_neg h3];by_cases h2:k=i*4+2
  ·rw[if_pos h2,h2,Z]
  ·rw[if_neg h2];by_cases h1:k=i*4+1
   ·rw[if_pos h1,h1,J]
   ·rw[if_neg h1];by_cases h0:k=i*4
    ·rw[if_pos h0,h0,I]
    ·rw[if_neg h0];have hn:¬k / 4=i:=fun e=>by rcases hq.1 e with e|e|e|e<;>contradiction
     show O3 (f (k / 4)) (k % 4)=O3 (if k / 4=i then r else f (k / 4)) (k % 4);rw[if_neg hn]
end Gv
def rsC(d:Af)(gd gu:Nat)(ra:Option Addr)(rc:Nat)(o:Nat→Value)(st:Nat):Array Value:=
 #[.string ⟨d.name.toArray⟩,.string ⟨d.text.toArray⟩,.slice d.sa d.steps.length d.sc,.slice ra d.steps.length rc,.slice (some ⟨gd,0,none⟩) d.steps.length d.steps.length,.slice (some ⟨gu,0,none⟩) d.steps.length d.steps.length,o 0,o 1,.int .u8 (st:Int),o 2]
def Ri(o:Nat→Value)(k:Nat)(v:Value):Nat→Value:=fun j=>if j=k then v else o j
structure RS (d:Af) (C:Nat) (W:World) (b gd gu:Nat) (ra:Option Addr) (rc:Nat) (vs:List Value) (o:Nat→Value) (x:P32.S × List P32.Order):Prop where
 din:d.In W
 dlt:∀g,d.blk g→g<C
 box:W.heap[b]?=some (.cells (rsC d gd gu ra rc o x.1.status) 107)
 rows:Bn W C (.slice ra d.steps.length rc) vs (P28.refs d.bare)
 dr:Gv W gd d.steps.length (fun j=>x.1.run j false)
 ur:Gv W gu d.steps.length (fun j=>x.1.run j true)
 dno:A5 W C (o 0) x.1.done
 uno:A5 W C (o 1) x.1.undone
 oo:Ba W C (o 2) x.2
 low:C≤b∧C≤gd∧C≤gu
 nd:[b,gd,gu].Nodup
 fo:∀j,j<3→∀g,(o j).ownBlock=some g→g∉[b,gd,gu]∧∀i,i<3→i≠j→(o i).ownBlock≠some g
 fr:∀g,Fk ra vs g→g∉[b,gd,gu]∧∀j,j<3→(o j).ownBlock≠some g
def E8(b gd gu:Nat)(o:Nat→Value)(g:Nat):Prop:=g∈[b,gd,gu]∨∃j,j<3∧(o j).ownBlock=some g
section
variable {d:Af} {C:Nat} {W W':World} {b gd gu rc:Nat} {ra:Option Addr} {vs:List Value} {o:Nat→Value} {x x':P32.S × List P32.Order}
theorem RS.inM(h:RS d C W b gd gu ra rc vs o x){g:Nat}(hg:g∈[b,gd,gu]):g<W.heap.size:=by
 simp only[zW,zT,or_false]at hg;rcases hg with rfl|rfl|rfl
 ·exact(qA.1 h.box).1
 ·exact World.rowIs.lt h.dr
 ·exact World.rowIs.lt h.ur
theorem RS.inR(h:RS d C W b gd gu ra rc vs o x){g:Nat}(hg:Fk ra vs g):g<W.heap.size:=by
 rcases hg with⟨o,rfl⟩|⟨u,hu,hg⟩
 ·exact(Ax h.rows.own g rfl).2
 ·obtain⟨i,hi⟩:=List.mem_iff_getElem?.1 hu;obtain⟨l,_,ho⟩:=h.rows.at hi;exact(ho.lt hg).2
theorem RS.inO(h:RS d C W b gd gu ra rc vs o x){j g:Nat}(hj:j<3)(hg:(o j).ownBlock=some g):C≤g∧g<W.heap.size:=by
 have h3:j=0∨j=1∨j=2:=by omega
 rcases h3 with rfl|rfl|rfl
 ·exact h.dno.lt hg
 ·exact h.uno.lt hg
 ·exact h.oo.lt hg
theorem RS.keep(h:RS d C W b gd gu ra rc vs o x)(hk:∀g,E8 b gd gu o g∨Fk ra vs g∨d.blk g→W'.heap[g]?=W.heap[g]?):RS d C W' b gd gu ra rc vs o x:=
  ⟨h.din.keep (fun g hg=>hk g (.inr (.inr hg))),h.dlt,(hk b (.inl (.inl (by simp)))).trans h.box,h.rows.keepB (fun g hg=>hk g (.inr (.inl hg))),h.dr.of_block (hk _ (.inl (.inl (by simp)))),h.ur.of_block (hk _ (.inl (.inl (by simp)))),
   h.dno.keep (fun g hg=>hk g (.inl (.inr ⟨0,by decide,hg⟩))),h.uno.keep (fun g hg=>hk g (.inl (.inr ⟨1,by decide,hg⟩))),h.oo.keep (fun g hg=>hk g (.inl (.inr ⟨2,by decide,hg⟩))),h.low,h.nd,h.fo,h.fr⟩
theorem RS.lt(h:RS d C W b gd gu ra rc vs o x){g:Nat}(hg:E8 b gd gu o g∨Fk ra vs g∨d.blk g):g<W.heap.size:=by
 rcases hg with(hg|⟨j,hj,hg⟩)|hg|hg
 ·exact h.inM hg
 ·exact(h.inO hj hg).2
 ·exact h.inR hg
 ·exact h.din.lt hg
theorem RS.below(h:RS d C W b gd gu ra rc vs o x)(hb:Below W.heap.size W W'):RS d C W' b gd gu ra rc vs o x:=h.keep (fun g hg=>hb.block g (h.lt hg))
theorem RS.cell(h:RS d C W b gd gu ra rc vs o x){j:Nat}{v:Value}(I:(rsC d gd gu ra rc o x.1.status)[j]?=some v):W.cell? ⟨b,j,none⟩=some v:=A9 h.box I
theorem RS.froz(h:RS d C W b gd gu ra rc vs o x)(j:Nat):W.frozen? ⟨b,j,none⟩=false:=by have:=h.box;simp[World.frozen?,this]
theorem RS.ne(h:RS d C W b gd gu ra rc vs o x):b≠gd∧b≠gu∧gd≠gu:=by
 have I:=h.nd;simp only[List.nodup_cons,zW,zT,or_false,not_or]at I;exact⟨I.1.1,I.1.2,I.2.1⟩
theorem RS.setM(h:RS d C W b gd gu ra rc vs o x){y:Nat}(hy:y∈[b,gd,gu])(ho:∀g,g≠y→W'.heap[g]?=W.heap[g]?)
  (hb:W'.heap[b]?=some (.cells (rsC d gd gu ra rc o x'.1.status) 107)) (h1:Gv W' gd d.steps.length (fun j=>x'.1.run j false)) (h2:Gv W' gu d.steps.length (fun j=>x'.1.run j true))
  (hd:x'.1.done=x.1.done) (hu:x'.1.undone=x.1.undone) (I:x'.2=x.2):RS d C W' b gd gu ra rc vs o x':=by
 have J:C≤y:=by
  obtain⟨l1,Z,l3⟩:=h.low;simp only[zW,zT,or_false]at hy;omega
 refine⟨h.din.keep (fun g hg=>ho g (by have:=h.dlt g hg;omega)),h.dlt,hb,h.rows.keepB (fun g hg=>ho g (fun e=>(h.fr g hg).1 (by rw[e];exact hy))),h1,h2,?_,?_,?_,h.low,h.nd,h.fo,h.fr⟩
 ·rw[hd];exact h.dno.keep (fun g hg=>ho g (fun e=>(h.fo 0 (by decide) g hg).1 (by rw[e];exact hy)))
 ·rw[hu];exact h.uno.keep (fun g hg=>ho g (fun e=>(h.fo 1 (by decide) g hg).1 (by rw[e];exact hy)))
 ·rw[I];exact h.oo.keep (fun g hg=>ho g (fun e=>(h.fo 2 (by decide) g hg).1 (by rw[e];exact hy)))
theorem RS.status(h:RS d C W b gd gu ra rc vs o x)(st:Nat):RS d C (W.setCell ⟨b,8,none⟩ (.int .u8 st)) b gd gu ra rc vs o (⟨x.1.run,x.1.done,x.1.undone,st⟩,x.2):=by
 obtain⟨J,I,Z⟩:=h.ne;exact h.setM (y:=b) (by simp) (fun g hg=>qC _ _ _ _ hg) (Wk h.box) (h.dr.of_block (qC _ _ _ _ (fun e=>J e.symm))) (h.ur.of_block (qC _ _ _ _ (fun e=>I e.symm))) rfl rfl rfl
theorem B4(W:World)(g a:Nat)(v0 I v2 v3:Value)(k:Nat)(hk:k≠g):((((W.setCell ⟨g,a,none⟩ v0).setCell ⟨g,a+1,none⟩ I).setCell ⟨g,a+2,none⟩ v2).setCell ⟨g,a+3,none⟩ v3).heap[k]?=W.heap[k]?:=by
 rw[qC _ _ _ _ hk,qC _ _ _ _ hk,qC _ _ _ _ hk,qC _ _ _ _ hk]
theorem RS.setRun(h:RS d C W b gd gu ra rc vs o x)(i:Nat)(u:Bool)(r:P31.Run) :
  RS d C ((((W.setCell ⟨if u=true then gu else gd,i*4,none⟩ (.int .u8 (r.phase:Int))).setCell ⟨if u=true then gu else gd,i*4+1,none⟩ (.int .i64 r.att)).setCell ⟨if u=true then gu else gd,i*4+2,none⟩ (.int .i64 r.til)).setCell ⟨if u=true then gu else gd,i*4+3,none⟩ (.bool r.last)) b gd gu ra rc vs o (⟨P32.setR x.1.run i u r,x.1.done,x.1.undone,x.1.status⟩,x.2):=by
 obtain⟨J,Z,I⟩:=h.ne;cases u with
 |true=>
  refine h.setM (y:=gu) (by simp) (fun g hg=>B4 _ _ _ _ _ _ _ _ hg) ((B4 _ _ _ _ _ _ _ _ Z).trans h.box) ((h.dr.of_block (B4 _ _ _ _ _ _ _ _ I)).congr (fun j hj=>?_)) ((h.ur.set i r).congr (fun j hj=>?_)) rfl rfl rfl
  ·simp[P32.setR]
  ·simp[P32.setR]
 |false=>
  refine h.setM (y:=gd) (by simp) (fun g hg=>B4 _ _ _ _ _ _ _ _ hg) ((B4 _ _ _ _ _ _ _ _ J).trans h.box) ((h.dr.set i r).congr (fun j hj=>?_)) ((h.ur.of_block (B4 _ _ _ _ _ _ _ _ (fun e=>I e.symm))).congr (fun j hj=>?_)) rfl rfl rfl
  ·simp[P32.setR]
  ·simp[P32.setR]
theorem RS.grow(h:RS d C W b gd gu ra rc vs o x){k c g:Nat}{v:Value}(aP:k=0∧c=6∨k=1∧c=7∨k=2∧c=9)(hg:W.grownBy W' (o k).ownBlock)(he:v.ownBlock=some g)(aC:(o k).ownBlock=some g∨W.heap.size≤g)
  (hr:x'.1.run=x.1.run) (hs:x'.1.status=x.1.status) (h0:if k=0 then A5 W' C v x'.1.done else x'.1.done=x.1.done) (h1:if k=1 then A5 W' C v x'.1.undone else x'.1.undone=x.1.undone) (h2:if k=2 then Ba W' C v x'.2 else x'.2=x.2) :
  RS d C (W'.setCell ⟨b,c,none⟩ v) b gd gu ra rc vs (Ri o k v) x'∧KM (E8 b gd gu o) W (E8 b gd gu (Ri o k v)) (W'.setCell ⟨b,c,none⟩ v):=by
 have I:k<3:=by omega
 have J:∀q,v.ownBlock=some q→q=g:=fun q hq=>by rw[he]at hq;cases hq;rfl
 have aH:g∉[b,gd,gu]:=fun hm=>by
  rcases aC with h1|h1
  ·exact(h.fo k I g h1).1 hm
  ·have:=h.inM hm;omega
 have aB:∀q,q<W.heap.size→some q≠(o k).ownBlock→q≠b→(W'.setCell ⟨b,c,none⟩ v).heap[q]?=W.heap[q]?:=fun q hq h1 h2=>(qC _ _ _ _ h2).trans (hg.block q hq h1);have hM:∀q,q∈[b,gd,gu]→some q≠(o k).ownBlock:=fun q hq e=>(h.fo k I q e.symm).1 hq;have aM:g≠b:=fun e=>aH (by rw[e];simp);obtain⟨n1,n2,n3⟩:=h.ne;have aL:W'.heap[b]?=some (.cells (rsC d gd gu ra rc o x.1.status) 107):=(hg.block b (h.inM (by simp)) (hM b (by simp))).trans h.box
 have aJ:(W'.setCell ⟨b,c,none⟩ v).heap[b]?=some (.cells (rsC d gd gu ra rc (Ri o k v) x'.1.status) 107):=by
  rw[Wk aL,hs];rcases aP with⟨rfl,rfl⟩|⟨rfl,rfl⟩|⟨rfl,rfl⟩<;>rfl
 have aD:∀j,j<3→j≠k→∀q,(o j).ownBlock=some q→(W'.setCell ⟨b,c,none⟩ v).heap[q]?=W.heap[q]?:=fun j hj aN q hq=>
  aB q (h.inO hj hq).2 (fun e=>(h.fo j hj q hq).2 k I (fun e=>aN e.symm) e.symm) (fun e=>(h.fo j hj q hq).1 (by rw[e];simp))
 have aA:∀q,v.ownBlock=some q→(W'.setCell ⟨b,c,none⟩ v).heap[q]?=W'.heap[q]?:=fun q hq=>qC _ _ _ _ (by rw[J q hq];exact aM);refine⟨⟨h.din.keep (fun q hq=>?_),h.dlt,aJ,h.rows.keepB (fun q hq=>?_),?_,?_,?_,?_,?_,h.low,h.nd,fun j hj q hq=>?_,fun q hq=>?_⟩,?_,?_,?_,hg.os,hg.tape,hg.output⟩
 ·have h1:=h.dlt q hq;exact aB q (h.din.lt hq) (fun e=>by have:=(h.inO I e.symm).1;omega) (by have:=h.low.1;omega)
 ·obtain⟨f1,f2⟩:=h.fr q hq;exact aB q (h.inR hq) (fun e=>f2 k I e.symm) (fun e=>f1 (by rw[e];simp))
 ·rw[hr];exact h.dr.of_block (aB _ (World.rowIs.lt h.dr) (hM _ (by simp)) (fun e=>n1 e.symm))
 ·rw[hr];exact h.ur.of_block (aB _ (World.rowIs.lt h.ur) (hM _ (by simp)) (fun e=>n2 e.symm))
 ·unfold Ri;by_cases e:k=0
  ·rw[if_pos e]at h0;rw[if_pos e.symm];exact h0.keep aA
  ·rw[if_neg e]at h0;rw[if_neg (fun h=>e h.symm),h0];exact h.dno.keep (aD 0 (by decide) (fun h=>e h.symm))
 ·unfold Ri;by_cases e:k=1
  ·rw[if_pos e]at h1;rw[if_pos e.symm];exact h1.keep aA
  ·rw[if_neg e]at h1;rw[if_neg (fun h=>e h.symm),h1];exact h.uno.keep (aD 1 (by decide) (fun h=>e h.symm))
 ·unfold Ri;by_cases e:k=2
  ·rw[if_pos e]at h2;rw[if_pos e.symm];exact h2.keep aA
  ·rw[if_neg e]at h2;rw[if_neg (fun h=>e h.symm),h2];exact h.oo.keep (aD 2 (by decide) (fun h=>e h.symm))
 ·unfold Ri at hq ⊢;by_cases e:j=k
  ·rw[if_pos e]at hq;rw[J q hq];refine⟨aH,fun i hi aK=>?_⟩;rw[if_neg (by omega)];intro aI;rcases aC with Z|Z
   ·exact(h.fo k I g Z).2 i hi (by omega) aI
   ·have:=(h.inO hi aI).2;omega
  ·rw[if_neg e]at hq;obtain⟨f1,f2⟩:=h.fo j hj q hq;refine⟨f1,fun i hi aK=>?_⟩;by_cases e2:i=k
   ·rw[if_pos e2];intro aG;have aE:=J q aG;rcases aC with Z|Z
    ·exact f2 k I (by omega) (by rw[aE];exact Z)
    ·have:=(h.inO hj hq).2;omega
   ·rw[if_neg e2];exact f2 i hi aK
 ·obtain⟨f1,f2⟩:=h.fr q hq;refine⟨f1,fun j hj=>?_⟩;unfold Ri;by_cases e:j=k
  ·rw[if_pos e];intro aG;have aE:=J q aG;rcases aC with Z|Z
   ·exact f2 k I (by rw[aE];exact Z)
   ·have:=h.inR hq;omega
  ·rw[if_neg e];exact f2 j hj
 ·have:=hg.size;simpa using this
 ·exact fun r hr hl=>aB r hl (fun e=>hr (.inr ⟨k,I,e.symm⟩)) (fun e=>hr (.inl (by rw[e];simp)))
 ·intro r hr;rcases hr with Z|⟨j,hj,Z⟩
  ·exact .inl (.inl Z)
  ·unfold Ri at Z;by_cases e:j=k
   ·rw[if_pos e]at Z;have aO:=J r Z;rcases aC with h6|h6
    ·exact .inl (.inr ⟨k,I,by rw[aO];exact h6⟩)
    ·exact .inr (by omega)
   ·rw[if_neg e]at Z;exact .inl (.inr ⟨j,hj,Z⟩)
theorem RS.keepsSet(h:RS d C W b gd gu ra rc vs o x){y:Nat}(hy:y∈[b,gd,gu])(a:Nat)(v:Value):KM (E8 b gd gu o) W (E8 b gd gu o) (W.setCell ⟨y,a,none⟩ v):=
 ⟨by simp,fun r hr _=>qC _ _ _ _ (fun e=>hr (.inl (by rw[e];exact hy))),fun _ hr=>.inl hr,rfl,rfl,rfl⟩
end
structure Cz (d:Af) (C b:Nat) (x:P32.S × List P32.Order) (M R:Nat→Prop) (V:World):Prop where
 ex:∃(gd gu:Nat) (ra:Option Addr) (rc:Nat) (vs:List Value) (o:Nat→Value),RS d C V b gd gu ra rc vs o x∧M=E8 b gd gu o∧R=Fk ra vs
open Go.RowKit
theorem KM.of_below{M:Nat→Prop}{W V V':World}{M':Nat→Prop}(h:KM M W M' V)(hb:Below V.heap.size V V'):KM M W M' V':=
 ⟨qK h.size hb.size,fun g hg hl=>(hb.block g (zD hl h.size)).trans (h.same g hg hl),h.sub,hb.os.trans h.os,hb.tape.trans h.tape,hb.output.trans h.output⟩
def Fj(s:P32.S)(i:Nat):P32.S:=⟨fun j u=>if u=false∧j<i then P31.stop (s.run j u) else s.run j u,s.done,s.undone,2⟩
theorem Sn(s:P32.S):Fj s 0=⟨s.run,s.done,s.undone,2⟩:=by
 unfold Fj;simp
theorem Sl(s:P32.S)(i:Nat):Fj s (i+1)=⟨P32.setR (Fj s i).run i false (P31.stop (s.run i false)),s.done,s.undone,2⟩:=by
 unfold Fj
 congr 1
 funext j u
 unfold P32.setR;by_cases h:j=i∧u=false
 ·rw[if_pos h,if_pos ⟨h.2,by omega⟩,h.1,h.2]
 ·rw[if_neg h];show _=if u=false∧j<i then P31.stop (s.run j u) else s.run j u;by_cases h2:u=false∧j<i
  ·rw[if_pos h2,if_pos ⟨h2.1,by omega⟩]
  ·rw[if_neg h2,if_neg (fun e=>h ⟨by
    by_cases hj:j<i
    ·exact absurd ⟨e.1,hj⟩ h2
    ·omega,e.1⟩)]
theorem P3(s:P32.S)(i:Nat):(Fj s i).run i false=s.run i false:=by
 unfold Fj;simp
theorem RS.keeps4{d:Af}{C:Nat}{W:World}{b gd gu rc:Nat}{ra:Option Addr}{vs:List Value}{o:Nat→Value}{x:P32.S × List P32.Order}(h:RS d C W b gd gu ra rc vs o x){y:Nat}(hy:y∈[b,gd,gu])(a:Nat)(v0 I v2 v3:Value) :
  KM (E8 b gd gu o) W (E8 b gd gu o) ((((W.setCell ⟨y,a,none⟩ v0).setCell ⟨y,a+1,none⟩ I).setCell ⟨y,a+2,none⟩ v2).setCell ⟨y,a+3,none⟩ v3):=
 ⟨by simp,fun r hr _=>B4 _ _ _ _ _ _ _ _ (fun e=>hr (.inl (by rw[e];exact hy))),fun _ hr=>.inl hr,rfl,rfl,rfl⟩
def L7(d:Af)(C b gd gu:Nat)(ra:Option Addr)(rc:Nat)(vs:List Value)(o:Nat→Value)(x y:P32.S × List P32.Order)(U:World)(k:Nat)(W:World):Prop:=
 (k≤1→RS d C W b gd gu ra rc vs o x∧Below U.heap.size U W)∧(1<k→RS d C W b gd gu ra rc vs o y∧KM (E8 b gd gu o) U (E8 b gd gu o) W)
theorem L7.start{d:Af}{C b gd gu rc:Nat}{ra:Option Addr}{vs:List Value}{o:Nat→Value}{x y:P32.S × List P32.Order}{U:World}(h:RS d C U b gd gu ra rc vs o x):L7 d C b gd gu ra rc vs o x y U 0 U.drew:=
 ⟨fun _=>⟨h.below (qU _ _).drew,(qU _ _).drew⟩,fun h=>by omega⟩
theorem L7.call{d:Af}{C b gd gu rc:Nat}{ra:Option Addr}{vs:List Value}{o:Nat→Value}{x y:P32.S × List P32.Order}{U W W':World}(h:L7 d C b gd gu ra rc vs o x y U 0 W)(hb:Below W.heap.size W W'):L7 d C b gd gu ra rc vs o x y U 1 W':=by
 obtain⟨h1,h2⟩:=h.1 (by omega);exact⟨fun _=>⟨h1.below hb,h2.trans (hb.mono h2.size)⟩,fun h=>by omega⟩
theorem L7.store{d:Af}{C b gd gu rc:Nat}{ra:Option Addr}{vs:List Value}{o:Nat→Value}{x y:P32.S × List P32.Order}{U W:World}(h:L7 d C b gd gu ra rc vs o x y U 1 W)(i:Nat)(r:P31.Run)(hy:y=(⟨P32.setR x.1.run i false r,x.1.done,x.1.undone,x.1.status⟩,x.2)) :
  L7 d C b gd gu ra rc vs o x y U 2 ((((W.setCell ⟨gd,i*4,none⟩ (.int .u8 (r.phase:Int))).setCell ⟨gd,i*4+1,none⟩ (.int .i64 r.att)).setCell ⟨gd,i*4+2,none⟩ (.int .i64 r.til)).setCell ⟨gd,i*4+3,none⟩ (.bool r.last)):=by
 obtain⟨h1,h2⟩:=h.1 (by omega);refine⟨fun h=>by omega,fun _=>⟨?_,?_⟩⟩
 ·rw[hy];exact h1.setRun i false r
 ·exact(KM.of_below (KM.refl _ _) h2).trans (h1.keeps4 (y:=gd) (by simp) _ _ _ _ _)
theorem Ml{d:Af}{C b:Nat}{x:P32.S × List P32.Order}{M R:Nat→Prop}(w:World)(h:Cz d C b x M R w)(aP:d.steps.length≤100000) :
  Calls Tryz.prog 138 #[qP0 b] w fun e w'=>(∃v,e=.returned v)∧∃M',Cz d C b (P32.halt d.bare x.1,x.2) M' R w'∧KM M w M' w':=by
 obtain⟨gd,gu,ra,rc,vs,o,h1,rfl,rfl⟩:=h.ex
 have hfin:Fj x.1 d.steps.length=P32.halt d.bare x.1:=by
  unfold Fj P32.halt;rw[Md.blen]
 rw[←hfin];have h2:=h1.status 2;have aE:=h1.keepsSet (y:=b) (by simp) 8 (.int .u8 2);rw[←Sn]at h2;have f8:=h1.froz 8;have c8:w.cell? ⟨b,8,none⟩=some (.int .u8 (x.1.status:Int)):=h1.cell (j:=8) rfl;have aD:=fun V r=>Uu r V;have aK:=enters_of Tryz.func183 (by kernel_rfl) rfl;obtain⟨N,hN⟩:=qeX d.steps.length;rw[hN]at aP ⊢;have HN:=Ab hN;have H2:=Ab h2;have aM:=Ab aE;have aJ:=Ab aD;clear h h1 h2 aE aD hfin hN;go_enter Tryz.func138,Tryz.ntmps138
 go_upto_region 1 with fail
 clear f8 c8;go_wp2
 go_loopg [2] N (fun g s2 wx=>∃i:Nat,i+g=N∧s2=.int .i64 i∧Hid (RS d C wx b gd gu ra rc vs o (Fj x.1 i,x.2))∧Hid (KM (E8 b gd gu o) w (E8 b gd gu o) wx))
 case atStart=>exact⟨0,by omega,by go_num,H2,aM⟩
 case round=>
  obtain⟨i,aQ,rfl,HI,aG⟩:=hrel;have k4:wr.cell? ⟨b,4,none⟩=some (.slice (some ⟨gd,0,none⟩) d.steps.length d.steps.length):=(Aa HI).cell (j:=4) rfl;rw[Aa HN]at k4;cases gk with
  |zero=>
   have e1:(N:Int)≤(i:Int):=by omega
   have j1:decide ((i:Int)<(N:Int))=false:=by simp;omega
   have aO:i=N:=by omega
   subst aO;go_wp2;go_end0;exact⟨⟨_,rfl⟩,_,⟨_,_,_,_,_,_,Aa HI,rfl,rfl⟩,Aa aG⟩
  |succ g'=>
   have aR:(i:Int)<(N:Int):=by omega
   have hkj:IntKind.i64.wrap ((i:Int)+1)=(i:Int)+1:=qG _ (by omega);obtain⟨⟨y0,z0⟩,⟨y1,z1⟩,⟨y2,z2⟩,⟨y3,z3⟩⟩:=(Aa HI).dr.cells (i:=i) (by rw[Aa HN];omega);simp only[P3]at y0 y1 y2 y3;have aA:=Sl x.1 i;obtain⟨⟨rp,rn,rt,rl⟩,hr⟩:∃r,x.1.run i false=r:=⟨_,rfl⟩;rw[hr]at y0 y1 y2 y3 aA;simp only at y0 y1 y2 y3;obtain⟨⟨sp,sa,st,sl⟩,hs⟩:∃r,P31.stop ⟨rp,rn,rt,rl⟩=r:=⟨_,rfl⟩;rw[hs]at aA;have Z:=fun V=>Aa aJ V ⟨rp,rn,rt,rl⟩;rw[hs]at Z;unfold Au at Z;simp only at Z;have aI:=Ab Z;have aL:=Ab aA;have HR:=Ab hr;clear Z hs hr aA;go_upto_region 4 with fail
   refine A7 Bj [12,14] (fun pk aF W=>aF={ tmps:=#[qP0 b,uZ,nI i,qP0 b,qP0 b,pT b 8,nI i,qP0 b,qP0 b,pT b 4,.slice (oA gd 0) N N,nI N,.bool true,u13,u14,qP0 b,qP0 b,pT b 4,.slice (oA gd 0) N N,nI i,qP0 b,qP0 b,pT b 4,.slice (oA gd 0) N N,nI i,pT gd (i*4),.agg #[.int .u8 (rp:Int),.int .i64 rn,.int .i64 rt,.bool rl],.agg #[.int .u8 (sp:Int),.int .i64 sa,.int .i64 st,.bool sl],pT gd (i*4)],defers:=[] }∧L7 d C b gd gu ra rc vs o (Fj x.1 i,x.2) (Fj x.1 (i+1),x.2) wr pk W) (by kernel_rfl) (by kernel_rfl) (by decide) ⟨rfl,L7.start (Aa HI)⟩ rfl rfl (Bs 15 14 29 0 (by kernel_rfl) (by kernel_rfl) (by decide) rfl rfl rfl) ?hpure ?hwrite ?hfin
   case hpure=>
    rintro pk aF W ix o ⟨rfl,I⟩ ho aH aC;rcases ix with _|_|_|_|_|_|_|_|_|_|_|_|_|_|_|ix
    iterate 11
     ·have J:=(I.1 (aC 1 14 rfl (by kernel_rfl))).1;have q4:W.cell? ⟨b,4,none⟩=some (.slice (some ⟨gd,0,none⟩) d.steps.length d.steps.length):=J.cell (j:=4) rfl;rw[Aa HN]at q4;refine wq ho rfl rfl rfl rfl ?_;clear y0 y1 y2 y3 k4
      go_simp
    ·have J:=(I.1 (aC 1 14 rfl (by kernel_rfl))).1;have q4:W.cell? ⟨b,4,none⟩=some (.slice (some ⟨gd,0,none⟩) d.steps.length d.steps.length):=J.cell (j:=4) rfl;rw[Aa HN]at q4;obtain⟨⟨v0,_⟩,⟨v1,_⟩,⟨v2,_⟩,⟨v3,_⟩⟩:=J.dr.cells (i:=i) (by rw[Aa HN];omega);simp only[P3,Aa HR]at v0 v1 v2 v3;refine wq ho rfl rfl rfl rfl ?_;clear y0 y1 y2 y3 k4
     go_simp
    ·exact absurd (by simp) aH
    ·have J:=(I.1 (aC 1 14 rfl (by kernel_rfl))).1;have q4:W.cell? ⟨b,4,none⟩=some (.slice (some ⟨gd,0,none⟩) d.steps.length d.steps.length):=J.cell (j:=4) rfl;rw[Aa HN]at q4;refine wq ho rfl rfl rfl rfl ?_;clear y0 y1 y2 y3 k4
     go_simp
    ·exact absurd (by simp) aH
    ·exfalso;simp at ho
   case hwrite=>
    rintro pk aF W ix o ⟨rfl,I⟩ hi ho;rcases pk with _|_|pk
    ·cases (show some 12=some ix from hi);have aB:some _=some o:=ho;cases aB;refine⟨rfl,.inr (.inr ⟨183,#[.agg #[.int .u8 (rp:Int),.int .i64 rn,.int .i64 rt,.bool rl]],W,?_,?_⟩)⟩
     ·simp[execOp,resolve,invoke,Act.eval,aK,Result.andThen,Deferred.ofValue]
     ·refine(Aa aI W).mono ?_;rintro e w4 ⟨rfl,b4⟩;exact⟨_,rfl,⟨rfl,I.call b4⟩⟩
    ·cases (show some 14=some ix from hi);have aB:some _=some o:=ho;cases aB;have J:=(I.1 (by omega)).1;obtain⟨⟨v0,f0⟩,⟨v1,f1⟩,⟨v2,f2⟩,⟨v3,f3⟩⟩:=J.dr.cells (i:=i) (by rw[Aa HN];omega);clear y0 y1 y2 y3 k4;refine⟨rfl,.inr (.inl ⟨_,?_,⟨rfl,I.store i ⟨sp,sa,st,sl⟩ (by rw[Aa aL];rfl)⟩⟩)⟩
     go_simp
    ·simp at hi
   case hfin=>
    rintro pk aF W6 hk ⟨rfl,I⟩;obtain⟨h6,k6⟩:=I.2 (by simp at hk;omega);have H6:=Ab h6;have aN:=Ab ((Aa aG).trans k6);clear I h6 k6 y0 y1 y2 y3 k4;go_wp2;go_roundg g'
    case measure=>omega
    case rel=>exact⟨i+1,by omega,by go_num,H6,aN⟩
open Go.RowKit
def Qab(U:World)(oo:Obj)(b C n:Nat)(v:Value)(os:List P32.Order)(k:Nat)(X Y:Value)(W:World):Prop:=match k with
 |0=>W=U
 |1=>W=U.alloc oo∧X=.slice (some ⟨U.heap.size,0,none⟩) 1 1
 |2=>∃g c,Y=.slice (some ⟨g,0,none⟩) (n+1) c∧Ba W C Y os∧(U.alloc oo).grownBy W v.ownBlock∧(some g=v.ownBlock∨some g=some (U.alloc oo).heap.size)
 |_=>∃g c I,Y=.slice (some ⟨g,0,none⟩) (n+1) c∧Ba I C Y os∧(U.alloc oo).grownBy I v.ownBlock∧(some g=v.ownBlock∨some g=some (U.alloc oo).heap.size)∧W=I.setCell ⟨b,9,none⟩ Y
theorem Km{d:Af}{C b:Nat}{x:P32.S × List P32.Order}{M R:Nat→Prop}(i:Nat)(u:Bool)(r:P31.Run)(w:World)(h:Cz d C b x M R w)(hn:x.2.length≤1000000) :
  Calls Tryz.prog 179 #[qP0 b,.int .i64 (i:Int),.bool u,Au r] w fun e w'=>(∃v,e=.returned v)∧∃M',Cz d C b (x.1,x.2++[⟨i,r.att,u,r.til⟩]) M' R w'∧KM M w M' w':=by
 obtain⟨H,hH⟩:=qeX w.heap.size;obtain⟨gd,gu,ra,rc,vs,o,h1,rfl,rfl⟩:=h.ex;obtain⟨rp,rn,rt,rl⟩:=r;obtain⟨W1,aL,aE,g1,aU⟩:=As w (.cells #[.int .u8 (rp:Int),.int .i64 rn,.int .i64 rt,.bool rl] 163) H hH;have h2:RS d C W1 b gd gu ra rc vs o x:=h1.below (by rw[hH];exact aE);have k2:KM (E8 b gd gu o) w (E8 b gd gu o) W1:=KM.of_below (KM.refl _ _) (by rw[hH];exact aE);obtain⟨n,hN⟩:=qeX x.2.length;obtain⟨va,vc,hv⟩:=h2.oo.form;rw[hN]at hv hn;have hU:RS d C W1.drew b gd gu ra rc vs o x:=h2.below (qU _ _).drew;obtain⟨U,aC⟩:=qeX W1.drew;have kU:KM (E8 b gd gu o) w (E8 b gd gu o) U:=by rw[←aC];exact KM.of_below k2 (qU _ _).drew
 have gU:U.heap[H]?=some (.cells #[.int .u8 (rp:Int),.int .i64 rn,.int .i64 rt,.bool rl] 163):=by rw[←aC];exact g1
 rw[aC]at hU;obtain⟨⟨u0,_⟩,⟨u1,_⟩,⟨u2,_⟩,⟨u3,_⟩⟩:=Av.cells (c:=⟨rp,rn,rt,rl⟩) gU;simp only at u0 u1 u2 u3;obtain⟨oo,aJ⟩:=qeX ((Obj.cells #[.int .i64 (i:Int),.int .i64 rn,.bool u,.int .i64 rt] 35));have hA:RS d C (U.alloc oo) b gd gu ra rc vs o x:=hU.below ((qU _ _).alloc (qJ _) _);have kA:KM (E8 b gd gu o) w (E8 b gd gu o) (U.alloc oo):=KM.of_below kU ((qU _ _).alloc (qJ _) _)
 have aD:(U.alloc oo).heap[U.heap.size]?=some (.cells #[.int .i64 ((⟨i,rn,u,rt⟩:P32.Order).step:Int),.int .i64 (⟨i,rn,u,rt⟩:P32.Order).att,.bool (⟨i,rn,u,rt⟩:P32.Order).undo,.int .i64 (⟨i,rn,u,rt⟩:P32.Order).til] 35):=by
  rw[←aJ];exact qB _ _
 have c9:U.cell? ⟨b,9,none⟩=some (.slice va n vc):=by have:=hU.cell (j:=9) (v:=o 2) rfl;rw[this,hv]
 have aI:(U.alloc oo).cell? ⟨b,9,none⟩=some (.slice va n vc):=by have:=hA.cell (j:=9) (v:=o 2) rfl;rw[this,hv]
 have f9:=hA.froz 9;have aG:=hA.oo;have aX:=hA.inM (g:=b) (by simp);have aN:(o 2).ownBlock≠some b:=fun e=>(hA.fo 2 (by decide) b e).1 (by simp);have aO:C≤(U.alloc oo).heap.size:=by have:=hA.low.1;omega
 rw[hv]at aG aN;have HA:=Ab hA;have aP:=Ab kA;have aW:=Ab aL;have aR:=Ab aC;have HN:=Ab hN;have HV:=Ab hv;have aQ:=Ab aG;have aT:=Ab aD;clear h h1 h2 k2 hU kU gU hA kA aL aE g1 aU aC hN hv aG aD;unfold Au;simp only;go_enter Tryz.func179,Tryz.ntmps179
 go_upto_region 1 with fail
 try rw[hH]
 rw[Aa aW];refine A7 Bj [12,13,16] (fun k aF W=>∃X Y,aF={ tmps:=#[qP0 b,nI i,.bool u,.agg #[.int .u8 (rp:Int),.int .i64 rn,.int .i64 rt,.bool rl],uZ,uZ,uZ,qP0 H,qP0 b,qP0 b,qP0 b,pT b 9,.slice va n vc,nI i,pT H 1,.int .i64 rn,.bool u,pT H 2,.int .i64 rt,.agg #[nI i,.int .i64 rn,.bool u,.int .i64 rt],X,Y,qP0 b,pT b 9],defers:=[] }∧Qab U oo b C n (.slice va n vc) (x.2++[⟨i,rn,u,rt⟩]) k X Y W) (by kernel_rfl) (by kernel_rfl) (by decide) ⟨undef,undef,rfl,Aa aR⟩ rfl rfl (Bs 8 16 24 0 (by kernel_rfl) (by kernel_rfl) (by decide) rfl rfl rfl) ?pure ?write ?fin
 case pure=>
  rintro k aF W ix o ⟨X,Y,rfl,J⟩ ho aH aA;rcases ix with _|_|_|_|_|_|_|_|_|_|_|_|_|_|_|_|_|ix
  iterate 4
   ·refine wq ho rfl rfl rfl rfl ?_
    go_simp
  ·have aZ:k≤1:=aA 1 13 rfl (by kernel_rfl)
   have aY:W.cell? ⟨b,9,none⟩=some (.slice va n vc):=by
    rcases k with _|_|k
    ·have Z:W=U:=J;rw[Z];exact c9
    ·have Z:=J.1;rw[Z];exact aI
    ·omega
   refine wq ho rfl rfl rfl rfl ?_
   go_simp
  ·refine wq ho rfl rfl rfl rfl ?_
   go_simp
  ·refine wq ho rfl rfl rfl rfl ?_
   go_simp
  ·have aS:k≤0:=aA 0 12 rfl (by kernel_rfl);obtain rfl:k=0:=by omega
   have Z:W=U:=J;subst Z;refine wq ho rfl rfl rfl rfl ?_
   go_simp
  ·refine wq ho rfl rfl rfl rfl ?_
   go_simp
  ·refine wq ho rfl rfl rfl rfl ?_
   go_simp
  ·have aS:k≤0:=aA 0 12 rfl (by kernel_rfl);obtain rfl:k=0:=by omega
   have Z:W=U:=J;subst Z;refine wq ho rfl rfl rfl rfl ?_
   go_simp
  ·refine wq ho rfl rfl rfl rfl ?_
   go_simp
  ·exact absurd (by simp) aH
  ·exact absurd (by simp) aH
  ·refine wq ho rfl rfl rfl rfl ?_
   go_simp
  ·refine wq ho rfl rfl rfl rfl ?_
   go_simp
  ·exact absurd (by simp) aH
  ·exfalso;simp at ho
 case write=>
  rintro k aF W ix o ⟨X,Y,rfl,J⟩ hi ho;rcases k with _|_|_|k
  ·cases (show some 12=some ix from hi);have aB:some _=some o:=ho;cases aB;have Z:W=U:=J;subst Z;refine⟨rfl,.inl ⟨.slice (some ⟨W.heap.size,0,none⟩) 1 1,W.alloc oo,?_,⟨_,Y,rfl,rfl,rfl⟩⟩⟩;rw[←aJ]
   go_simp
  ·cases (show some 13=some ix from hi);have aB:some _=some o:=ho;cases aB;obtain⟨rfl,rfl⟩:=J;obtain⟨g',I,w',hr,h5,h6,h7⟩:=F9 (j:=⟨i,rn,u,rt⟩) 105 (Aa aQ) U.heap.size 1 (Aa aT) n (Aa HN) (by omega) aO;refine⟨rfl,.inl ⟨.slice (some ⟨g',0,none⟩) (n+1) I,w',?_,⟨_,_,rfl,g',I,rfl,h5,h6,h7⟩⟩⟩;simp[execOp,resolve,invoke,builtin,Act.eval,hr,Result.andThen,Deferred.ofValue]
  ·cases (show some 16=some ix from hi);have aB:some _=some o:=ho;cases aB;obtain⟨g',I,rfl,h5,h6,h7⟩:=J;have aK:=h6.block b aX (fun e=>aN e.symm);have hf:=(World.frozen?_of_block (a:=⟨b,9,none⟩) aK).trans f9;have hc:=(zC (a:=⟨b,9,none⟩) aK).trans aI;refine⟨rfl,.inr (.inl ⟨W.setCell ⟨b,9,none⟩ (.slice (some ⟨g',0,none⟩) (n+1) I),?_,⟨_,_,rfl,g',I,W,rfl,h5,h6,h7,rfl⟩⟩)⟩
   go_simp
  ·simp at hi
 case fin=>
  rintro k aF W6 hk ⟨X,Y,rfl,J⟩;obtain⟨k,rfl⟩:∃k',k=k'+3:=⟨k-3,by simp at hk;omega⟩;obtain⟨g',I,w1,rfl,h5,h6,h7,rfl⟩:=J;have HF:=Ab (And.intro h5 (And.intro h6 h7));clear h5 h6 h7 u0 u1 u2 u3 c9 aI;go_wp2
  (try simp only[Exit.inBlock,Exit.then])
  go_end0;refine⟨⟨_,rfl⟩,?_⟩;obtain⟨h5,h6,h7⟩:=Aa HF;have hv:=Aa HV;have aM:=(Aa HA).grow (W':=w1) (x':=(x.1,x.2++[⟨i,rn,u,rt⟩])) (k:=2) (c:=9) (g:=g') (v:=.slice (some ⟨g',0,none⟩) (n+1) I) (.inr (.inr ⟨rfl,rfl⟩)) (by rw[hv];exact h6) rfl (by rw[hv];exact h7.imp Eq.symm (fun e=>by cases e;exact qJ _)) rfl rfl rfl rfl (by rw[if_pos rfl];exact h5);exact⟨_,⟨_,_,_,_,_,_,aM.1,rfl,rfl⟩,(Aa aP).trans aM.2⟩
open Go.RowKit
theorem Fy{d:Af}{C b:Nat}{x:P32.S × List P32.Order}{M R:Nat→Prop}(i:Nat)(u:Bool)(r:P31.Run)(w:World)(h:Cz d C b x M R w)(hi:i<d.steps.length)(cL:d.steps.length≤100000)(hn:x.2.length≤1000000)(cI:x.1.done.length≤1000000) :
  Calls Tryz.prog 135 #[qP0 b,.int .i64 (i:Int),.bool u,Au r] w fun e w'=>(∃v,e=.returned v)∧∃M',Cz d C b (P32.put i u r x) M' R w'∧KM M w M' w':=by
 obtain⟨H,hH⟩:=qeX w.heap.size;obtain⟨gd,gu,ra,rc,vs,o,h1,rfl,rfl⟩:=h.ex;obtain⟨I,J,rt,rl⟩:=r;obtain⟨⟨fp,fn,ft,fl⟩,hf⟩:∃q,x.1.run i false=q:=⟨_,rfl⟩;obtain⟨⟨tp,tn,tt,tl⟩,ht⟩:∃q,x.1.run i true=q:=⟨_,rfl⟩;obtain⟨W1,bY,bI,g1,bM⟩:=As w (.cells #[.int .u8 (I:Int),.int .i64 J,.int .i64 rt,.bool rl] 163) H hH;obtain⟨W2,cC,aW,g2,bV⟩:=As W1 (.cells #[.int .u8 (fp:Int),.int .i64 fn,.int .i64 ft,.bool fl] 163) (H+1) bM;have bC:RS d C W1 b gd gu ra rc vs o x:=h1.below (by rw[hH];exact bI);have cB:RS d C W2 b gd gu ra rc vs o x:=bC.below (by rw[bM];exact aW);have bF:Below H w W2:=bI.trans (aW.mono (by omega));have g12:W2.heap[H]?=some (.cells #[.int .u8 (I:Int),.int .i64 J,.int .i64 rt,.bool rl] 163):=(aW.block H (by omega)).trans g1
 have dA:b<H∧gd<H∧gu<H:=by
  have q1:=h1.inM (g:=b) (by simp);have q2:=h1.inM (g:=gd) (by simp);have q3:=h1.inM (g:=gu) (by simp);omega
 obtain⟨N,hN⟩:=qeX d.steps.length;have a4:W1.cell? ⟨b,4,none⟩=some (.slice (some ⟨gd,0,none⟩) d.steps.length d.steps.length):=bC.cell (j:=4) rfl;obtain⟨⟨a0,_⟩,⟨a1,_⟩,⟨a2,_⟩,⟨a3,_⟩⟩:=bC.dr.cells hi;simp only[hf]at a0 a1 a2 a3;rw[hN]at a4 hi cL;have cZ:(i:Int)<(N:Int):=by omega
 have HN:=Ab hN;have HF:=Ab hf;have HT:=Ab ht;have cU:=Ab bY;have cH:=Ab cC;have aK:=Ab cB;have bQ:=Ab bF;have aY:=Ab g12;have aU:=Ab g2;have H1:=Ab h1;clear h h1 hN hf ht bY cC bC cB bI aW bF g1 g2 g12;unfold Au;simp only;go_enter Tryz.func135,Tryz.ntmps135
 go_upto_region 1 with fail
 try rw[hH]
 rw[Aa cU];go_upto_region 2 with fail
 try rw[bM]
 rw[Aa cH];clear a0 a1 a2 a3 a4;cases u with
 |true=>
  have k5:W2.cell? ⟨b,5,none⟩=some (.slice (some ⟨gu,0,none⟩) d.steps.length d.steps.length):=(Aa aK).cell (j:=5) rfl;obtain⟨⟨y0,z0⟩,⟨y1,z1⟩,⟨y2,z2⟩,⟨y3,z3⟩⟩:=(Aa aK).ur.cells (i:=i) (by rw[Aa HN];exact hi);simp only[Aa HT]at y0 y1 y2 y3;rw[Aa HN]at k5;obtain⟨⟨q0,s0⟩,⟨q1,s1⟩,⟨q2,s2⟩,⟨q3,s3⟩⟩:=Bl (Aa aU);go_upto_region 4 with fail
  obtain⟨W3,aP⟩:=qeX ((((W2.setCell ⟨H+1,0,none⟩ (.int .u8 (tp:Int))).setCell ⟨H+1,1,none⟩ (.int .i64 tn)).setCell ⟨H+1,2,none⟩ (.int .i64 tt)).setCell ⟨H+1,3,none⟩ (.bool tl));rw[aP];have g3:Av W3 (H+1) ⟨tp,tn,tt,tl⟩:=by rw[←aP];exact Av.out (c:=⟨fp,fn,ft,fl⟩) (Aa aU) ⟨tp,tn,tt,tl⟩
  have b3:Below (H+1) W2 W3:=by rw[←aP];exact Below.set4 (qU _ _) (qJ _) _ _ _ _
  have zV:W3.heap.size=H+1+1:=by rw[←aP];simpa using bV
  have g13:=(b3.block H (by omega)).trans (Aa aY);have bL:Below H w W3:=(Aa bQ).trans (b3.mono (by omega));have aX:RS d C W3 b gd gu ra rc vs o x:=(Aa H1).below (by rw[hH];exact bL);have k3:KM (E8 b gd gu o) w (E8 b gd gu o) W3:=KM.of_below (KM.refl _ _) (by rw[hH];exact bL);clear k5 y0 z0 y1 z1 y2 z2 y3 z3 q0 s0 q1 s1 q2 s2 q3 s3 aP aU aY aK;have k5:W3.cell? ⟨b,5,none⟩=some (.slice (some ⟨gu,0,none⟩) d.steps.length d.steps.length):=aX.cell (j:=5) rfl;obtain⟨⟨y0,z0⟩,⟨y1,z1⟩,⟨y2,z2⟩,⟨y3,z3⟩⟩:=aX.ur.cells (i:=i) (by rw[Aa HN];exact hi);rw[Aa HN]at k5;obtain⟨⟨p0,_⟩,⟨p1,_⟩,⟨p2,_⟩,⟨p3,_⟩⟩:=Bl g13;have bO:=Ab aX;have cV:=Ab k3;have bW:=Ab g13;have cQ:=Ab g3
  have aA:Hid (I=1∧J≠tn→P32.put i true ⟨I,J,rt,rl⟩ x=(⟨P32.setR x.1.run i true ⟨I,J,rt,rl⟩,x.1.done,x.1.undone,x.1.status⟩,x.2++[⟨i,J,true,rt⟩])):=Ab (fun hq=>by
   rw[Id _ _ _ _ (by simp),Aa HT,if_pos hq])
  have aB:Hid (¬(I=1∧J≠tn)→P32.put i true ⟨I,J,rt,rl⟩ x=(⟨P32.setR x.1.run i true ⟨I,J,rt,rl⟩,x.1.done,x.1.undone,x.1.status⟩,x.2)):=Ab (fun hq=>by
   rw[Id _ _ _ _ (by simp),Aa HT,if_neg hq])
  clear aX k3 g13 g3 b3 bL;refine Ak 7 (by kernel_rfl) (by kernel_rfl) (by kernel_rfl) (by kernel_rfl) (by kernel_rfl) ?_;simp only[List.take_succ_cons,List.take_zero,List.drop_succ_cons,List.drop_zero]
  repeat (go_big_quiet_step (fail))
  refine wpQuiet_nil ?_;rintro _ ⟨nq,rfl⟩;go_upto_region 8 with fail
  clear p0 p1 p2 p3 k5;have h4:RS d C (((((W3.drewN nq).setCell ⟨gu,i*4,none⟩ (.int .u8 (I:Int))).setCell ⟨gu,i*4+1,none⟩ (.int .i64 J)).setCell ⟨gu,i*4+2,none⟩ (.int .i64 rt)).setCell ⟨gu,i*4+3,none⟩ (.bool rl)) b gd gu ra rc vs o (⟨P32.setR x.1.run i true ⟨I,J,rt,rl⟩,x.1.done,x.1.undone,x.1.status⟩,x.2):=((Aa bO).below (W':=W3.drewN nq) (Ac (qU _ _))).setRun i true ⟨I,J,rt,rl⟩;have aN:KM (E8 b gd gu o) w (E8 b gd gu o) (((((W3.drewN nq).setCell ⟨gu,i*4,none⟩ (.int .u8 (I:Int))).setCell ⟨gu,i*4+1,none⟩ (.int .i64 J)).setCell ⟨gu,i*4+2,none⟩ (.int .i64 rt)).setCell ⟨gu,i*4+3,none⟩ (.bool rl)):=((Aa cV).trans (KM.of_below (KM.refl _ _) (Ac (n:=nq) (qU _ _)))).trans (((Aa bO).below (W':=W3.drewN nq) (Ac (qU _ _))).keeps4 (y:=gu) (by simp) _ _ _ _ _);have aM:(((((W3.drewN nq).setCell ⟨gu,i*4,none⟩ (.int .u8 (I:Int))).setCell ⟨gu,i*4+1,none⟩ (.int .i64 J)).setCell ⟨gu,i*4+2,none⟩ (.int .i64 rt)).setCell ⟨gu,i*4+3,none⟩ (.bool rl)).heap[H]?=some (.cells #[.int .u8 (I:Int),.int .i64 J,.int .i64 rt,.bool rl] 163):=(B4 _ _ _ _ _ _ _ _ (by omega)).trans (Aa bW);have aL:(((((W3.drewN nq).setCell ⟨gu,i*4,none⟩ (.int .u8 (I:Int))).setCell ⟨gu,i*4+1,none⟩ (.int .i64 J)).setCell ⟨gu,i*4+2,none⟩ (.int .i64 rt)).setCell ⟨gu,i*4+3,none⟩ (.bool rl)).heap[H+1]?=some (.cells #[.int .u8 (tp:Int),.int .i64 tn,.int .i64 tt,.bool tl] 163):=(B4 _ _ _ _ _ _ _ _ (by omega)).trans (Aa cQ);have z4:(((((W3.drewN nq).setCell ⟨gu,i*4,none⟩ (.int .u8 (I:Int))).setCell ⟨gu,i*4+1,none⟩ (.int .i64 J)).setCell ⟨gu,i*4+2,none⟩ (.int .i64 rt)).setCell ⟨gu,i*4+3,none⟩ (.bool rl)).heap.size=H+1+1:=by simpa using zV
  obtain⟨V4,aR⟩:∃V,(((((W3.drewN nq).setCell ⟨gu,i*4,none⟩ (.int .u8 (I:Int))).setCell ⟨gu,i*4+1,none⟩ (.int .i64 J)).setCell ⟨gu,i*4+2,none⟩ (.int .i64 rt)).setCell ⟨gu,i*4+3,none⟩ (.bool rl))=V:=⟨_,rfl⟩;rw[aR]at h4 aN aM aL z4 ⊢;have aD:=Ab h4;have aG:=Ab aN;have aH:=Ab aM;have aI:=Ab aL;clear h4 aN aM aL aR y0 z0 y1 z1 y2 z2 y3 z3;obtain⟨⟨p0,_⟩,⟨p1,_⟩,⟨p2,_⟩,⟨p3,_⟩⟩:=Bl (Aa aH);obtain⟨⟨q0,_⟩,⟨q1,_⟩,⟨q2,_⟩,⟨q3,_⟩⟩:=Bl (Aa aI);by_cases hq:I=1∧J≠tn
  ·have m1:((I:Int)==1)=true:=by rw[hq.1];rfl
   have m2:(J != tn)=true:=by simpa using hq.2
   have Z:=Km (d:=d) (C:=C) (b:=b) i true ⟨I,J,rt,rl⟩ V4 ⟨_,_,_,_,_,_,Aa aD,rfl,rfl⟩ (by simpa using hn);unfold Au at Z;simp only at Z;have aJ:=Ab Z;have HP:=Ab (Aa aA hq);clear Z hq aA;go_wp2_with (go_at_call 179;with_reducible refine(Aa aJ).mono ?_;rintro e w9 ⟨⟨v9,rfl⟩,M9,h9,k9⟩)
   (try simp only[Exit.inBlock,Exit.then])
   go_end0;refine⟨⟨_,rfl⟩,M9,?_,(Aa aG).trans k9⟩;rw[Aa HP];exact h9
  ·have HP:=Ab (Aa aB hq);by_cases aC:I=1
   ·have m1:((I:Int)==1)=true:=by rw[aC];rfl
    have m2:(J != tn)=false:=by
     have:¬J≠tn:=fun e=>hq ⟨aC,e⟩;simpa using this
    clear hq aC aA aB;go_wp2
    (try simp only[Exit.inBlock,Exit.then])
    go_end0;refine⟨⟨_,rfl⟩,_,?_,Aa aG⟩;rw[Aa HP];exact⟨_,_,_,_,_,_,Aa aD,rfl,rfl⟩
   ·have m1:((I:Int)==1)=false:=by simp;omega
    clear hq aC aA aB;go_wp2
    (try simp only[Exit.inBlock,Exit.then])
    go_end0;refine⟨⟨_,rfl⟩,_,?_,Aa aG⟩;rw[Aa HP];exact⟨_,_,_,_,_,_,Aa aD,rfl,rfl⟩
 |false=>
  have k4:W2.cell? ⟨b,4,none⟩=some (.slice (some ⟨gd,0,none⟩) d.steps.length d.steps.length):=(Aa aK).cell (j:=4) rfl;obtain⟨⟨y0,z0⟩,⟨y1,z1⟩,⟨y2,z2⟩,⟨y3,z3⟩⟩:=(Aa aK).dr.cells (i:=i) (by rw[Aa HN];exact hi);rw[Aa HN]at k4;obtain⟨⟨p0,_⟩,⟨p1,_⟩,⟨p2,_⟩,⟨p3,_⟩⟩:=Bl (Aa aY);have cJ:Hid (KM (E8 b gd gu o) w (E8 b gd gu o) W2):=Ab (KM.of_below (KM.refl _ _) (by rw[hH];exact Aa bQ));have zV:=bV;go_upto_region 5 with fail
  refine Ak 7 (by kernel_rfl) (by kernel_rfl) (by kernel_rfl) (by kernel_rfl) (by kernel_rfl) ?_;simp only[List.take_succ_cons,List.take_zero,List.drop_succ_cons,List.drop_zero]
  repeat (go_big_quiet_step (fail))
  refine wpQuiet_nil ?_;rintro _ ⟨nq,rfl⟩;go_upto_region 6 with fail
  clear p0 p1 p2 p3 k4;have h4:RS d C (((((W2.drewN nq).setCell ⟨gd,i*4,none⟩ (.int .u8 (I:Int))).setCell ⟨gd,i*4+1,none⟩ (.int .i64 J)).setCell ⟨gd,i*4+2,none⟩ (.int .i64 rt)).setCell ⟨gd,i*4+3,none⟩ (.bool rl)) b gd gu ra rc vs o (⟨P32.setR x.1.run i false ⟨I,J,rt,rl⟩,x.1.done,x.1.undone,x.1.status⟩,x.2):=((Aa aK).below (W':=W2.drewN nq) (Ac (qU _ _))).setRun i false ⟨I,J,rt,rl⟩;have aN:KM (E8 b gd gu o) w (E8 b gd gu o) (((((W2.drewN nq).setCell ⟨gd,i*4,none⟩ (.int .u8 (I:Int))).setCell ⟨gd,i*4+1,none⟩ (.int .i64 J)).setCell ⟨gd,i*4+2,none⟩ (.int .i64 rt)).setCell ⟨gd,i*4+3,none⟩ (.bool rl)):=((Aa cJ).trans (KM.of_below (KM.refl _ _) (Ac (n:=nq) (qU _ _)))).trans (((Aa aK).below (W':=W2.drewN nq) (Ac (qU _ _))).keeps4 (y:=gd) (by simp) _ _ _ _ _);have aM:(((((W2.drewN nq).setCell ⟨gd,i*4,none⟩ (.int .u8 (I:Int))).setCell ⟨gd,i*4+1,none⟩ (.int .i64 J)).setCell ⟨gd,i*4+2,none⟩ (.int .i64 rt)).setCell ⟨gd,i*4+3,none⟩ (.bool rl)).heap[H]?=some (.cells #[.int .u8 (I:Int),.int .i64 J,.int .i64 rt,.bool rl] 163):=(B4 _ _ _ _ _ _ _ _ (by omega)).trans (Aa aY);have aL:(((((W2.drewN nq).setCell ⟨gd,i*4,none⟩ (.int .u8 (I:Int))).setCell ⟨gd,i*4+1,none⟩ (.int .i64 J)).setCell ⟨gd,i*4+2,none⟩ (.int .i64 rt)).setCell ⟨gd,i*4+3,none⟩ (.bool rl)).heap[H+1]?=some (.cells #[.int .u8 (fp:Int),.int .i64 fn,.int .i64 ft,.bool fl] 163):=(B4 _ _ _ _ _ _ _ _ (by omega)).trans (Aa aU);have z4:(((((W2.drewN nq).setCell ⟨gd,i*4,none⟩ (.int .u8 (I:Int))).setCell ⟨gd,i*4+1,none⟩ (.int .i64 J)).setCell ⟨gd,i*4+2,none⟩ (.int .i64 rt)).setCell ⟨gd,i*4+3,none⟩ (.bool rl)).heap.size=H+1+1:=by simpa using zV
  obtain⟨V4,aR⟩:∃V,(((((W2.drewN nq).setCell ⟨gd,i*4,none⟩ (.int .u8 (I:Int))).setCell ⟨gd,i*4+1,none⟩ (.int .i64 J)).setCell ⟨gd,i*4+2,none⟩ (.int .i64 rt)).setCell ⟨gd,i*4+3,none⟩ (.bool rl))=V:=⟨_,rfl⟩;rw[aR]at h4 aN aM aL z4 ⊢;have aD:=Ab h4;have aG:=Ab aN;have aH:=Ab aM;have aI:=Ab aL;clear h4 aN aM aL aR y0 z0 y1 z1 y2 z2 y3 z3;by_cases hA:I=3∧fp≠3
  ·have m1:((I:Int)==3)=true:=by rw[hA.1];rfl
   have m2:((fp:Int) != 3)=true:=by simp;omega
   have m3:((I:Int)==1)=false:=by rw[hA.1];rfl
   have cM:=Ab (Qt i false ⟨I,J,rt,rl⟩ x ⟨hA.1,by rw[Aa HF];exact hA.2,rfl⟩);clear hA;obtain⟨⟨p0,_⟩,⟨p1,_⟩,⟨p2,_⟩,⟨p3,_⟩⟩:=Bl (Aa aH);obtain⟨⟨q0,_⟩,⟨q1,_⟩,⟨q2,_⟩,⟨q3,_⟩⟩:=Bl (Aa aI);have k6:V4.cell? ⟨b,6,none⟩=some (o 0):=(Aa aD).cell (j:=6) rfl;obtain⟨da,dc,aO,_⟩:=(Aa aD).dno.slice;obtain⟨L,hL⟩:=qeX x.1.done.length;simp only[hL]at aO;rw[hL]at cI;rw[aO]at k6;obtain⟨W5,bX,aZ,g5,cY⟩:=As V4 (.cells #[.int .i64 (i:Int)] 3) (H+1+1) z4;have h5:=(Aa aD).below (W':=W5) (by rw[z4];exact aZ);have bT:C≤W5.heap.size:=by have:=h5.low.1;have:=h5.inM (g:=b) (by simp);omega
   have bD:b<W5.heap.size∧some b≠(Value.slice da L dc).ownBlock:=⟨h5.inM (by simp),fun e=>(h5.fo 0 (by decide) b (by rw[aO];exact e.symm)).1 (by simp)⟩;have bU:=(Aa aG).of_below (V':=W5) (by rw[z4];exact aZ);have cD:=(aZ.block H (by omega)).trans (Aa aH);have cS:H<W5.heap.size:=by omega
   have cT:some H≠(Value.slice da L dc).ownBlock:=fun e=>by
    have:=(Aa H1).inO (j:=0) (by decide) (g:=H) (by rw[aO];exact e.symm);omega
   have H5:=Ab h5;have cR:=Ab bU;have cP:=Ab bX;have cK:=Ab g5;have cA:=Ab cD;have HL:=Ab hL;have bK:=Ab aO;clear h5 aZ bX g5 hL aO bU cD;have h7:A5 W5 C (.slice da L dc) x.1.done:=by rw[←Aa bK];exact(Aa H5).dno
   go_upto_region 8 with(rw[Aa cP];refine Bf (j:=i) (by rfl) _ _ (by rfl) (by rfl) h7 (H+1+1) 1 (by rfl) (Aa cK) L (Aa HL) (by omega) bT ?_;intro g6 bE w6 aS aE bG cX;have aQ:=(aE.block b bD.1 bD.2).trans (Aa H5).box;have cG:w6.cell? ⟨b,6,none⟩=some (o 0):=A9 (o:=6) aQ rfl;have cW:w6.frozen? ⟨b,6,none⟩=false:=(by simp[World.frozen?,aQ]);have cF:=(aE.block H cS cT).trans (Aa cA);have cO:=Ab cF;have bZ:=Ab ((Aa H5).grow (W':=w6) (x':=(⟨P32.setR x.1.run i false ⟨I,J,rt,rl⟩,x.1.done++[i],x.1.undone,x.1.status⟩,x.2)) (k:=0) (c:=6) (v:=.slice (some ⟨g6,0,none⟩) (L+1) bE) (g:=g6) (.inl ⟨rfl,rfl⟩) (by rw[Aa bK];exact aE) rfl (by rw[Aa bK];exact bG.imp id (fun e=>Nat.le_of_eq e.symm)) rfl rfl (by rw[if_pos rfl];exact aS) rfl rfl);clear aQ aS aE bG cF)
   have cN:=(qC w6 ⟨b,6,none⟩ (.slice (some ⟨g6,0,none⟩) (L+1) bE) H (by show H≠b;omega)).trans (Aa cO);clear p0 p1 p2 p3 q0 q1 q2 q3 k6 cG cW;obtain⟨⟨p0,_⟩,⟨p1,_⟩,⟨p2,_⟩,⟨p3,_⟩⟩:=Bl cN;go_wp2
   (try simp only[Exit.inBlock,Exit.then])
   go_end0;refine⟨⟨_,rfl⟩,_,?_,(Aa cR).trans (Aa bZ).2⟩;rw[Aa cM];exact⟨_,_,_,_,_,_,(Aa bZ).1,rfl,rfl⟩
  ·obtain⟨⟨p0,_⟩,⟨p1,_⟩,⟨p2,_⟩,⟨p3,_⟩⟩:=Bl (Aa aH);obtain⟨⟨q0,_⟩,⟨q1,_⟩,⟨q2,_⟩,⟨q3,_⟩⟩:=Bl (Aa aI);have bJ:¬((⟨I,J,rt,rl⟩:P31.Run).phase=3∧(x.1.run i false).phase≠3∧false=false):=fun e=>hA ⟨e.1,by have:=e.2.1;rwa [Aa HF]at this⟩
   have aA:Hid (I=1∧J≠fn→P32.put i false ⟨I,J,rt,rl⟩ x=(⟨P32.setR x.1.run i false ⟨I,J,rt,rl⟩,x.1.done,x.1.undone,x.1.status⟩,x.2++[⟨i,J,false,rt⟩])):=Ab (fun hq=>by
    rw[Id _ _ _ _ bJ,Aa HF,if_pos hq])
   have aB:Hid (¬(I=1∧J≠fn)→P32.put i false ⟨I,J,rt,rl⟩ x=(⟨P32.setR x.1.run i false ⟨I,J,rt,rl⟩,x.1.done,x.1.undone,x.1.status⟩,x.2)):=Ab (fun hq=>by
    rw[Id _ _ _ _ bJ,Aa HF,if_neg hq])
   clear bJ;by_cases aT:I=3
   ·have n1:((I:Int)==3)=true:=by rw[aT];rfl
    have n2:((fp:Int) != 3)=false:=by
     have:fp=3:=Classical.byContradiction fun e=>hA ⟨aT,e⟩;rw[this];rfl
    clear aT hA;go_upto_region 8 with fail
    clear p0 p1 p2 p3 q0 q1 q2 q3 n1 n2;obtain⟨⟨p0,_⟩,⟨p1,_⟩,⟨p2,_⟩,⟨p3,_⟩⟩:=Bl (Aa aH);obtain⟨⟨q0,_⟩,⟨q1,_⟩,⟨q2,_⟩,⟨q3,_⟩⟩:=Bl (Aa aI);by_cases hq:I=1∧J≠fn
    ·have m1:((I:Int)==1)=true:=by rw[hq.1];rfl
     have m2:(J != fn)=true:=by simpa using hq.2
     have Z:=Km (d:=d) (C:=C) (b:=b) i false ⟨I,J,rt,rl⟩ V4 ⟨_,_,_,_,_,_,Aa aD,rfl,rfl⟩ (by simpa using hn);unfold Au at Z;simp only at Z;have aJ:=Ab Z;have HP:=Ab (Aa aA hq);clear Z hq aA;go_wp2_with (go_at_call 179;with_reducible refine(Aa aJ).mono ?_;rintro e w9 ⟨⟨v9,rfl⟩,M9,h9,k9⟩)
     (try simp only[Exit.inBlock,Exit.then])
     go_end0;refine⟨⟨_,rfl⟩,M9,?_,(Aa aG).trans k9⟩;rw[Aa HP];exact h9
    ·have HP:=Ab (Aa aB hq);by_cases aC:I=1
     ·have m1:((I:Int)==1)=true:=by rw[aC];rfl
      have m2:(J != fn)=false:=by
       have:¬J≠fn:=fun e=>hq ⟨aC,e⟩;simpa using this
      clear hq aC aA aB;go_wp2
      (try simp only[Exit.inBlock,Exit.then])
      go_end0;refine⟨⟨_,rfl⟩,_,?_,Aa aG⟩;rw[Aa HP];exact⟨_,_,_,_,_,_,Aa aD,rfl,rfl⟩
     ·have m1:((I:Int)==1)=false:=by simp;omega
      clear hq aC aA aB;go_wp2
      (try simp only[Exit.inBlock,Exit.then])
      go_end0;refine⟨⟨_,rfl⟩,_,?_,Aa aG⟩;rw[Aa HP];exact⟨_,_,_,_,_,_,Aa aD,rfl,rfl⟩
   ·have n1:((I:Int)==3)=false:=by simp;omega
    clear aT hA;go_upto_region 8 with fail
    clear p0 p1 p2 p3 q0 q1 q2 q3 n1;obtain⟨⟨p0,_⟩,⟨p1,_⟩,⟨p2,_⟩,⟨p3,_⟩⟩:=Bl (Aa aH);obtain⟨⟨q0,_⟩,⟨q1,_⟩,⟨q2,_⟩,⟨q3,_⟩⟩:=Bl (Aa aI);by_cases hq:I=1∧J≠fn
    ·have m1:((I:Int)==1)=true:=by rw[hq.1];rfl
     have m2:(J != fn)=true:=by simpa using hq.2
     have Z:=Km (d:=d) (C:=C) (b:=b) i false ⟨I,J,rt,rl⟩ V4 ⟨_,_,_,_,_,_,Aa aD,rfl,rfl⟩ (by simpa using hn);unfold Au at Z;simp only at Z;have aJ:=Ab Z;have HP:=Ab (Aa aA hq);clear Z hq aA;go_wp2_with (go_at_call 179;with_reducible refine(Aa aJ).mono ?_;rintro e w9 ⟨⟨v9,rfl⟩,M9,h9,k9⟩)
     (try simp only[Exit.inBlock,Exit.then])
     go_end0;refine⟨⟨_,rfl⟩,M9,?_,(Aa aG).trans k9⟩;rw[Aa HP];exact h9
    ·have HP:=Ab (Aa aB hq);by_cases aC:I=1
     ·have m1:((I:Int)==1)=true:=by rw[aC];rfl
      have m2:(J != fn)=false:=by
       have:¬J≠fn:=fun e=>hq ⟨aC,e⟩;simpa using this
      clear hq aC aA aB;go_wp2
      (try simp only[Exit.inBlock,Exit.then])
      go_end0;refine⟨⟨_,rfl⟩,_,?_,Aa aG⟩;rw[Aa HP];exact⟨_,_,_,_,_,_,Aa aD,rfl,rfl⟩
     ·have m1:((I:Int)==1)=false:=by simp;omega
      clear hq aC aA aB;go_wp2
      (try simp only[Exit.inBlock,Exit.then])
      go_end0;refine⟨⟨_,rfl⟩,_,?_,Aa aG⟩;rw[Aa HP];exact⟨_,_,_,_,_,_,Aa aD,rfl,rfl⟩
end Go.Proofs.YtefokfbgpfcbkaaGreat
