import Derived.Test.YtefokfbgpfcbkaaGreatS31aZ
import Derived.Test.YtefokfbgpfcbkaaGreatM33yZ
set_option maxRecDepth 100000
set_option maxHeartbeats 4000000
set_option linter.unusedVariables false
set_option linter.unusedSimpArgs false
namespace Go.Proofs.YtefokfbgpfcbkaaGreat
open Go.RowKit
def Bk(k:Int × Bool):Value:=.agg #[.int .i64 k.1,.bool k.2]
theorem Px(a c:Int)(s t:Bool)(w:World):(Op.equalIn 10000 157 (.agg #[.int .i64 a,.bool s]) (.agg #[.int .i64 c,.bool t])).run Tryz.prog w=.ok (a==c&&s==t) w:=by
 have Z:=Tryz.underlying3;have J:=Tryz.underlying4;have I:Tryz.prog.underlying 157=some (.struct (Tryz.prog.fieldsOf 157)):=by kernel_rfl
 rw[show (10000:Nat)=9999+1 from rfl,run_equalIn_agg w 9999 157 _ _ I (by kernel_rfl)];simp only[Program.fieldsOf,Tryz.underlying157]
 go_simp
 by_cases h1:a=c<;>by_cases h2:s=t<;>simp[h1,h2]
theorem Od(e:Bool)(a:Int)(s:Bool)(w:World):(Instr.checkKey e 10000 157 (.agg #[.int .i64 a,.bool s])).run Tryz.prog w=.ok () w:=by
 have J:=Tryz.underlying3;have I:=Tryz.underlying4;have b1:∀(n:Nat) (W:World) (e:Bool) (a:Int),(Instr.checkKey e (n+1) 3 (.int .i64 a)).run Tryz.prog W=.ok () W:=fun n W e a=>by simp[Instr.checkKey,run_underlying J]
 have b2:∀(n:Nat) (W:World) (e:Bool) (s:Bool),(Instr.checkKey e (n+1) 4 (.bool s)).run Tryz.prog W=.ok () W:=fun n W e s=>by simp[Instr.checkKey,run_underlying I]
 have c1:∀(W:World) (e:Bool) (a:Int),(Instr.checkKey e 9999 3 (.int .i64 a)).run Tryz.prog W=.ok () W:=fun W e a=>b1 9998 W e a;have c2:∀(W:World) (e:Bool) (s:Bool),(Instr.checkKey e 9999 4 (.bool s)).run Tryz.prog W=.ok () W:=fun W e s=>b2 9998 W e s;clear b1 b2;unfold Instr.checkKey;simp only[Sem.run_bind,run_underlying Tryz.underlying157,Result.andThen_ok]
 go_simp
theorem E0:Ea Tryz.prog 157 Bk:=by
 refine .wide (by rw[Tryz.underlying157]) (fun x e W=>Od e _ _ W) (fun x y W=>?_) (fun x=>?_)
 ·have h:=Px x.1 y.1 x.2 y.2 W;have e:Op.equal 157 (Bk x) (Bk y)=Op.equalIn 10000 157 (Bk x) (Bk y):=by unfold Op.equal Op.maxDepth;rfl
  rw[e];refine Eq.trans h ?_
  congr 1
  obtain⟨J,I⟩:=x;obtain⟨y1,y2⟩:=y;rw[Bool.eq_iff_iff];simp
 ·have b1:∀(n:Nat) (a:Int),Instr.sameBits (n+1) (.int .i64 a) (.int .i64 a)=true:=fun n a=>by simp[Instr.sameBits]
  have b2:∀(n:Nat) (s:Bool),Instr.sameBits (n+1) (.bool s) (.bool s)=true:=fun n s=>by simp[Instr.sameBits]
  have h1:=b1 9998 x.1;have h2:=b2 9998 x.2;simp only[Bk,Instr.sameBits];simp;try exact⟨h1,h2⟩
theorem Z1(w:World):(zeroValue 159).run Tryz.prog w=.ok (Au P31.Run.zero) w:=by kernel_rfl
def Ec(W:World)(bm:Nat)(f:Nat→Bool→P31.Run):Prop:=∃L,Bi Bk W bm L∧∀(i:Nat) u,(lk L ((i:Int),u)).getD (Au P31.Run.zero)=Au (f i u)
theorem Ec.keep{W W':World}{bm:Nat}{f:Nat→Bool→P31.Run}(h:Ec W bm f)(hb:W'.heap[bm]?=W.heap[bm]?):Ec W' bm f:=by
 obtain⟨L,h1,h2⟩:=h;exact⟨L,h1.keep hb,h2⟩
theorem Ec.lt{W:World}{bm:Nat}{f:Nat→Bool→P31.Run}(h:Ec W bm f):bm<W.heap.size:=by
 obtain⟨L,h1,h2⟩:=h;exact h1.lt
theorem Ec.look{W:World}{bm:Nat}{f:Nat→Bool→P31.Run}(h:Ec W bm f)(i:Nat)(u:Bool):(Instr.lookup 151 (.map (some bm)) (.agg #[.int .i64 (i:Int),.bool u]) false).run Tryz.prog W=.ok (Au (f i u)) W:=by
 obtain⟨L,h1,h2⟩:=h;have h3:=h1.look (mt:=151) E0 Tryz.underlying151 (Z1 W) ((i:Int),u) false
 have e:(if false=true then Value.tuple #[(lk L ((i:Int),u)).getD (Au P31.Run.zero),.bool (lk L ((i:Int),u)).isSome] else (lk L ((i:Int),u)).getD (Au P31.Run.zero))=Au (f i u):=by
  rw[if_neg (by simp)];exact h2 i u
 rw[e]at h3;exact h3
theorem Ec.set{W':World}{bm:Nat}{f:Nat→Bool→P31.Run}{L:List ((Int × Bool) × Value)}(h2:∀(i:Nat) u,(lk L ((i:Int),u)).getD (Au P31.Run.zero)=Au (f i u))(i:Nat)(u:Bool)(v:P31.Run)(hm:Bi Bk W' bm (De L ((i:Int),u) (Au v))):Ec W' bm (P32.setR f i u v):=by
 refine⟨_,hm,fun j b=>?_⟩;rw[F5];unfold P32.setR;by_cases h:j=i∧b=u
 ·rw[if_pos (by rw[h.1,h.2]),if_pos h];rfl
 ·rw[if_neg (by simp only[Prod.mk.injEq,not_and];intro J I;exact h ⟨by omega,I⟩),if_neg h];exact h2 j b
def Y7(d:Af)(I:Value)(bm:Nat)(dn un:Value)(st:Int):Obj:=.cells #[.string ⟨d.name.toArray⟩,.string ⟨d.text.toArray⟩,.slice d.sa d.steps.length d.sc,I,.map (some bm),dn,un,.int .u8 st] 153
structure Sg (W:World) (b bm rb C:Nat) (vs:Nat→Value) (d:Af) (dn un:Value) (s:P32.S):Prop where
 bx:W.heap[b]?=some (Y7 d (.slice (some ⟨rb,0,none⟩) d.steps.length d.steps.length) bm dn un s.status)
 mp:Ec W bm s.run
 odn:A5 W C dn s.done
 oun:A5 W C un s.undone
 apart:∀g,dn.ownBlock=some g→un.ownBlock≠some g
 df:d.In W
 dlt:∀g,d.blk g→g≠b∧g≠bm∧g<C
 gr:C0 W 0 rb vs (P28.refs d.bare)
 glt:∀g,Ce rb vs d.steps.length g→g≠b∧g≠bm∧g<C
 bne:b≠bm
 bc:b<C
 mc:bm<C
 cw:C≤W.heap.size
 ok:∀i u,(s.run i u).ok
 nd:s.done.Nodup
 dl:∀i∈s.done,i<d.steps.length
 ul:s.undone.length≤s.done.length
 ne:d.steps≠[]
 nle:d.steps.length≤100000
namespace Sg
variable {W W':World} {b bm rb C:Nat} {vs:Nat→Value} {d:Af} {dn un:Value} {s:P32.S}
theorem lt(h:Sg W b bm rb C vs d dn un s){g:Nat}(hg:Mb b bm dn un g∨Ce rb vs d.steps.length g∨d.blk g):g<W.heap.size:=by
 rcases hg with(rfl|rfl|e|e)|e|e
 ·exact zD h.bc h.cw
 ·exact zD h.mc h.cw
 ·exact(h.odn.lt e).2
 ·exact(h.oun.lt e).2
 ·exact(h.gr.lt (by rw[P28.refs_len,Md.blen];exact e)).2
 ·exact h.df.lt e
theorem keep(h:Sg W b bm rb C vs d dn un s)(hs:W.heap.size≤W'.heap.size)(hk:∀g,Mb b bm dn un g∨Ce rb vs d.steps.length g∨d.blk g→W'.heap[g]?=W.heap[g]?):Sg W' b bm rb C vs d dn un s where
 bx:=(hk b (.inl (.inl rfl))).trans h.bx
 mp:=h.mp.keep (hk bm (.inl (.inr (.inl rfl))))
 odn:=h.odn.keep (fun g hg=>hk g (.inl (.inr (.inr (.inl hg)))))
 oun:=h.oun.keep (fun g hg=>hk g (.inl (.inr (.inr (.inr hg)))))
 apart:=h.apart
 df:=h.df.keep (fun g hg=>hk g (.inr (.inr hg)))
 dlt:=h.dlt
 gr:=h.gr.keep (fun g hg=>hk g (.inr (.inl (by rw[P28.refs_len,Md.blen]at hg;exact hg))))
 glt:=h.glt
 bne:=h.bne
 bc:=h.bc
 mc:=h.mc
 cw:=qK h.cw hs
 ok:=h.ok
 nd:=h.nd
 dl:=h.dl
 ul:=h.ul
 ne:=h.ne
 nle:=h.nle
theorem below(h:Sg W b bm rb C vs d dn un s)(hb:Below W.heap.size W W'):Sg W' b bm rb C vs d dn un s:=h.keep hb.size (fun g hg=>hb.block g (h.lt hg))
theorem dlen(h:Sg W b bm rb C vs d dn un s):s.done.length≤d.steps.length:=P32.len_le _ s.done h.nd h.dl
theorem rest(h:Sg W b bm rb C vs d dn un s){g:Nat}(hg:Ce rb vs d.steps.length g∨d.blk g):g≠b∧g≠bm∧g<C:=hg.elim (h.glt g) (h.dlt g)
theorem ownC(h:Sg W b bm rb C vs d dn un s){g:Nat}(hg:dn.ownBlock=some g∨un.ownBlock=some g):C≤g:=hg.elim (fun e=>(h.odn.lt e).1) (fun e=>(h.oun.lt e).1)
theorem setWay{f:Nat→Bool→P31.Run}(h:Sg W b bm rb C vs d dn un s)(hm:Ec W' bm f)(hg:W.grownBy W' (some bm))(hf:∀i u,(f i u).ok):Sg W' b bm rb C vs d dn un ⟨f,s.done,s.undone,s.status⟩:=by
 have Z:=h.mc;have hk:∀g,g<W.heap.size→g≠bm→W'.heap[g]?=W.heap[g]?:=fun g hl J=>hg.block g hl (fun e=>J (by cases e;rfl))
 exact {
  bx:=(hk b (h.lt (.inl (.inl rfl))) h.bne).trans h.bx
  mp:=hm
  odn:=h.odn.keep (fun g I=>hk g (h.odn.lt I).2 (by have:=(h.odn.lt I).1;omega))
  oun:=h.oun.keep (fun g I=>hk g (h.oun.lt I).2 (by have:=(h.oun.lt I).1;omega))
  apart:=h.apart
  df:=h.df.keep (fun g I=>hk g (h.df.lt I) (h.dlt g I).2.1)
  dlt:=h.dlt
  gr:=h.gr.keep (fun g I=>hk g (h.gr.lt I).2 (h.glt g (by rw[P28.refs_len,Md.blen]at I;exact I)).2.1)
  glt:=h.glt
  bne:=h.bne
  bc:=h.bc
  mc:=h.mc
  cw:=qK h.cw hg.size
  ok:=hf
  nd:=h.nd
  dl:=h.dl
  ul:=h.ul
  ne:=h.ne
  nle:=h.nle }
theorem cells(h:Sg W b bm rb C vs d dn un s):(W.cell? ⟨b,2,none⟩=some (.slice d.sa d.steps.length d.sc)∧W.frozen? ⟨b,2,none⟩=false)∧(W.cell? ⟨b,3,none⟩=some (.slice (some ⟨rb,0,none⟩) d.steps.length d.steps.length)∧W.frozen? ⟨b,3,none⟩=false)∧(W.cell? ⟨b,4,none⟩=some (.map (some bm))∧W.frozen? ⟨b,4,none⟩=false) ∧
  (W.cell? ⟨b,5,none⟩=some dn∧W.frozen? ⟨b,5,none⟩=false)∧(W.cell? ⟨b,6,none⟩=some un∧W.frozen? ⟨b,6,none⟩=false)∧(W.cell? ⟨b,7,none⟩=some (.int .u8 s.status)∧W.frozen? ⟨b,7,none⟩=false):=by
 have hx:=h.bx;have hf:∀k,W.frozen? ⟨b,k,none⟩=false:=fun k=>by unfold Y7 at hx;simp[World.frozen?,hx]
 refine⟨⟨Gs hx rfl,hf _⟩,⟨Gs hx rfl,hf _⟩,⟨Gs hx rfl,hf _⟩,⟨Gs hx rfl,hf _⟩,⟨Gs hx rfl,hf _⟩,⟨Gs hx rfl,hf _⟩⟩
theorem setStatus(h:Sg W b bm rb C vs d dn un s)(st:Nat):Sg (W.setCell ⟨b,7,none⟩ (.int .u8 (st:Int))) b bm rb C vs d dn un ⟨s.run,s.done,s.undone,st⟩:=by
 have J:∀g,g≠b→(W.setCell ⟨b,7,none⟩ (.int .u8 (st:Int))).heap[g]?=W.heap[g]?:=fun g hg=>qC _ _ _ _ hg;have Z:=h.bc
 have hx:(W.setCell ⟨b,7,none⟩ (.int .u8 (st:Int))).heap[b]?=some (Y7 d (.slice (some ⟨rb,0,none⟩) d.steps.length d.steps.length) bm dn un st):=by
  have h0:=h.bx;unfold Y7 at h0 ⊢;simp[World.setCell,Array.getElem?_modify,h0]
 exact {
  bx:=hx
  mp:=h.mp.keep (J _ (fun e=>h.bne e.symm))
  odn:=h.odn.keep (fun g I=>J g (by have:=(h.odn.lt I).1;omega))
  oun:=h.oun.keep (fun g I=>J g (by have:=(h.oun.lt I).1;omega))
  apart:=h.apart
  df:=h.df.keep (fun g I=>J g (h.dlt g I).1)
  dlt:=h.dlt
  gr:=h.gr.keep (fun g I=>J g (h.glt g (by rw[P28.refs_len,Md.blen]at I;exact I)).1)
  glt:=h.glt
  bne:=h.bne
  bc:=h.bc
  mc:=h.mc
  cw:=by simpa using h.cw
  ok:=h.ok
  nd:=h.nd
  dl:=h.dl
  ul:=h.ul
  ne:=h.ne
  nle:=h.nle }
theorem appDn{W1:World}{i g' c':Nat}(h:Sg W b bm rb C vs d dn un s)(ho:A5 W1 C (.slice (some ⟨g',0,none⟩) (s.done.length+1) c') (s.done++[i]))(hg:W.grownBy W1 dn.ownBlock)
  (aA:some g'=dn.ownBlock∨some g'=some W.heap.size) (aC:(s.done++[i]).Nodup) (hi:i<d.steps.length):Sg (W1.setCell ⟨b,5,none⟩ (.slice (some ⟨g',0,none⟩) (s.done.length+1) c')) b bm rb C vs d (.slice (some ⟨g',0,none⟩) (s.done.length+1) c') un ⟨s.run,s.done++[i],s.undone,s.status⟩:=by
 have hC:=h.bc;have hM:=h.mc;have aE:=h.cw
 have aD:C≤g':=by
  rcases aA with e|e
  ·exact(h.odn.lt e.symm).1
  ·cases e;omega
 have J:∀g,g<W.heap.size→dn.ownBlock≠some g→g≠b→(W1.setCell ⟨b,5,none⟩ (.slice (some ⟨g',0,none⟩) (s.done.length+1) c')).heap[g]?=W.heap[g]?:=fun g hl aB hb=>(qC _ _ _ _ hb).trans (hg.block g hl (fun e=>aB e.symm));have Z:∀g,g<C→dn.ownBlock≠some g:=fun g hl e=>by have:=(h.odn.lt e).1;omega
 have hx:(W1.setCell ⟨b,5,none⟩ (.slice (some ⟨g',0,none⟩) (s.done.length+1) c')).heap[b]?=some (Y7 d (.slice (some ⟨rb,0,none⟩) d.steps.length d.steps.length) bm (.slice (some ⟨g',0,none⟩) (s.done.length+1) c') un s.status):=by
  have h0:=(hg.block b (by omega) (fun e=>Z b hC e.symm)).trans h.bx;unfold Y7 at h0 ⊢;simp[World.setCell,Array.getElem?_modify,h0]
 exact {
  bx:=hx
  mp:=h.mp.keep (J bm (by omega) (Z bm hM) (fun e=>h.bne e.symm))
  odn:=ho.keep (fun g I=>qC _ _ _ _ (by have e:some g'=some g:=I;injection e with e;show g≠b;omega))
  oun:=h.oun.keep (fun g I=>J g (h.oun.lt I).2 (fun e=>h.apart g e I) (by have:=(h.oun.lt I).1;omega))
  apart:=fun g I e=>by
   have I:some g'=some g:=I;cases I;rcases aA with q|q
   ·exact h.apart _ q.symm e
   ·have h1:=(h.oun.lt e).2;cases q;exact absurd h1 (Nat.lt_irrefl _)
  df:=h.df.keep (fun g I=>by have q:=h.dlt g I;exact J g (h.df.lt I) (Z g q.2.2) q.1)
  dlt:=h.dlt
  gr:=h.gr.keep (fun g I=>by have q:=h.glt g (by rw[P28.refs_len,Md.blen]at I;exact I);exact J g (h.gr.lt I).2 (Z g q.2.2) q.1)
  glt:=h.glt
  bne:=h.bne
  bc:=h.bc
  mc:=h.mc
  cw:=by have:=hg.size;simp;omega
  ok:=h.ok
  nd:=aC
  dl:=fun j hj=>by
   rcases zG.1 hj with hj|hj
   ·exact h.dl j hj
   ·simp at hj;rw[hj];exact hi
  ul:=by have:=h.ul;simp;omega
  ne:=h.ne
  nle:=h.nle }
theorem appUn{W1:World}{i g' c':Nat}(h:Sg W b bm rb C vs d dn un s)(ho:A5 W1 C (.slice (some ⟨g',0,none⟩) (s.undone.length+1) c') (s.undone++[i]))(hg:W.grownBy W1 un.ownBlock)
  (aA:some g'=un.ownBlock∨some g'=some W.heap.size) (aB:s.undone.length+1≤s.done.length):Sg (W1.setCell ⟨b,6,none⟩ (.slice (some ⟨g',0,none⟩) (s.undone.length+1) c')) b bm rb C vs d dn (.slice (some ⟨g',0,none⟩) (s.undone.length+1) c') ⟨s.run,s.done,s.undone++[i],s.status⟩:=by
 have hC:=h.bc;have hM:=h.mc;have aE:=h.cw
 have aD:C≤g':=by
  rcases aA with e|e
  ·exact(h.oun.lt e.symm).1
  ·cases e;omega
 have J:∀g,g<W.heap.size→un.ownBlock≠some g→g≠b→(W1.setCell ⟨b,6,none⟩ (.slice (some ⟨g',0,none⟩) (s.undone.length+1) c')).heap[g]?=W.heap[g]?:=fun g hl aC hb=>(qC _ _ _ _ hb).trans (hg.block g hl (fun e=>aC e.symm));have Z:∀g,g<C→un.ownBlock≠some g:=fun g hl e=>by have:=(h.oun.lt e).1;omega
 have hx:(W1.setCell ⟨b,6,none⟩ (.slice (some ⟨g',0,none⟩) (s.undone.length+1) c')).heap[b]?=some (Y7 d (.slice (some ⟨rb,0,none⟩) d.steps.length d.steps.length) bm dn (.slice (some ⟨g',0,none⟩) (s.undone.length+1) c') s.status):=by
  have h0:=(hg.block b (by omega) (fun e=>Z b hC e.symm)).trans h.bx;unfold Y7 at h0 ⊢;simp[World.setCell,Array.getElem?_modify,h0]
 exact {
  bx:=hx
  mp:=h.mp.keep (J bm (by omega) (Z bm hM) (fun e=>h.bne e.symm))
  odn:=h.odn.keep (fun g I=>J g (h.odn.lt I).2 (h.apart g I) (by have:=(h.odn.lt I).1;omega))
  oun:=ho.keep (fun g I=>qC _ _ _ _ (by have e:some g'=some g:=I;injection e with e;show g≠b;omega))
  apart:=fun g I e=>by
   have e:some g'=some g:=e;cases e;rcases aA with q|q
   ·exact h.apart _ I q.symm
   ·have h1:=(h.odn.lt I).2;cases q;exact absurd h1 (Nat.lt_irrefl _)
  df:=h.df.keep (fun g I=>by have q:=h.dlt g I;exact J g (h.df.lt I) (Z g q.2.2) q.1)
  dlt:=h.dlt
  gr:=h.gr.keep (fun g I=>by have q:=h.glt g (by rw[P28.refs_len,Md.blen]at I;exact I);exact J g (h.gr.lt I).2 (Z g q.2.2) q.1)
  glt:=h.glt
  bne:=h.bne
  bc:=h.bc
  mc:=h.mc
  cw:=by have:=hg.size;simp;omega
  ok:=h.ok
  nd:=h.nd
  dl:=h.dl
  ul:=by simpa using aB
  ne:=h.ne
  nle:=h.nle }
theorem steps(h:Sg W b bm rb C vs d dn un s):∃g o,d.sa=some ⟨g,o,none⟩∧∀i x,d.steps[i]?=some x→Me.At W g (o+i*13) x:=by
 obtain⟨x,r,e⟩:∃x r,d.steps=x::r:=by cases hd:d.steps with|nil=>exact absurd hd h.ne|cons x r=>exact⟨x,r,rfl⟩
 obtain⟨⟨g,o,J,_⟩,_⟩:=h.df.steps 0 x (by rw[e];rfl);refine⟨g,o,J,fun i y hy=>?_⟩;obtain⟨⟨g2,Z,I,h2⟩,_⟩:=h.df.steps i y hy;rw[J]at I;injection I with I;injection I with e3 e4;subst e3;subst e4;exact h2
end Sg
open Go.RowKit
theorem Q6(w:World)(bm:Nat):(binOp BinOp.neq 151 (.map (some bm)) (.map none)).run Tryz.prog w=.ok (.bool true) w:=by kernel_rfl
attribute [local go_sem] Q6
theorem F6(b bm:Nat)(w:World)(h:w.cell? ⟨b,4,none⟩=some (.map (some bm))):Calls Tryz.prog 96 #[qP0 b] w fun e w'=>e=.returned (.bool true)∧w'=w:=by
 go_enter Tryz.func96,Tryz.ntmps96
 go_wp2;go_ret;exact⟨rfl,rfl⟩
theorem Qf(w:World):Calls Tryz.prog 96 #[.pointer none] w fun e w'=>e=.returned (.bool false)∧w'=w:=by
 go_enter Tryz.func96,Tryz.ntmps96
 go_wp2;go_ret;exact⟨rfl,rfl⟩
theorem Dz(b bm:Nat)(st:Int)(w:World)(h:w.cell? ⟨b,4,none⟩=some (.map (some bm)))(J:w.cell? ⟨b,7,none⟩=some (.int .u8 st)):Calls Tryz.prog 52 #[qP0 b] w fun e w'=>e=.returned (.int .u8 st)∧w'=w:=by
 have I:=Ab (F6 b bm w h);go_enter Tryz.func52,Tryz.ntmps52
 go_wp2_with (go_at_call 96;refine(Aa I).mono ?_;rintro e w' ⟨rfl,hw⟩;obtain rfl:=hw.symm)
 go_ret;exact⟨rfl,rfl⟩
theorem Fz(w:World):Calls Tryz.prog 52 #[.pointer none] w fun e w'=>e=.returned (.int .u8 0)∧w'=w:=by
 have I:=Ab (Qf w);go_enter Tryz.func52,Tryz.ntmps52
 go_wp2_with (go_at_call 96;refine(Aa I).mono ?_;rintro e w' ⟨rfl,hw⟩;obtain rfl:=hw.symm)
 go_ret;exact⟨rfl,rfl⟩
theorem Xf(b bm:Nat)(st:Nat)(w:World)(h:w.cell? ⟨b,4,none⟩=some (.map (some bm)))(J:w.cell? ⟨b,7,none⟩=some (.int .u8 (st:Int))):Calls Tryz.prog 58 #[qP0 b] w fun e w'=>e=.returned (.bool (decide (2<st)))∧w'=w:=by
 have I:=Ab (Dz b bm st w h J);have e:decide (2<st)=decide ((2:Int)<(st:Int)):=by rw[Bool.eq_iff_iff];simp;omega
 rw[e];go_enter Tryz.func58,Tryz.ntmps58
 go_wp2_with (go_at_call 52;refine(Aa I).mono ?_;rintro e w' ⟨rfl,hw⟩;obtain rfl:=hw.symm)
 go_ret;exact⟨rfl,rfl⟩
theorem Xg(w:World):Calls Tryz.prog 58 #[.pointer none] w fun e w'=>e=.returned (.bool false)∧w'=w:=by
 have I:=Ab (Fz w);go_enter Tryz.func58,Tryz.ntmps58
 go_wp2_with (go_at_call 52;refine(Aa I).mono ?_;rintro e w' ⟨rfl,hw⟩;obtain rfl:=hw.symm)
 go_ret;exact⟨rfl,rfl⟩
theorem Jw(b bm:Nat)(st:Nat)(w:World)(h:w.cell? ⟨b,4,none⟩=some (.map (some bm)))(Z:w.cell? ⟨b,7,none⟩=some (.int .u8 (st:Int))):Calls Tryz.prog 102 #[qP0 b] w fun e w'=>e=.returned (.bool (st==1||st==2))∧w'=w:=by
 have J:=Ab (Dz b bm st w h Z);by_cases h1:st=1
 ·have e1:((st:Int)==1)=true:=by simp;omega
  have I:(st==1||st==2)=true:=by simp;omega
  rw[I];clear h1 I;go_enter Tryz.func102,Tryz.ntmps102
  go_wp2_with (go_at_call 52;refine(Aa J).mono ?_;rintro e w' ⟨rfl,hw⟩;obtain rfl:=hw.symm)
  go_ret;exact⟨rfl,rfl⟩
 ·have e1:((st:Int)==1)=false:=by simp;omega
  obtain⟨q,hq⟩:=qeX (((st:Int)==2));have I:(st==1||st==2)=q:=by rw[←hq,Bool.eq_iff_iff];simp;omega
  rw[I];clear h1 I;go_enter Tryz.func102,Tryz.ntmps102
  go_wp2_with (go_at_call 52;refine(Aa J).mono ?_;rintro e w' ⟨rfl,hw⟩;obtain rfl:=hw.symm)
  go_ret;exact⟨rfl,rfl⟩
theorem Ra(w:World):Calls Tryz.prog 102 #[.pointer none] w fun e w'=>e=.returned (.bool false)∧w'=w:=by
 have I:=Ab (Fz w);go_enter Tryz.func102,Tryz.ntmps102
 go_wp2_with (go_at_call 52;refine(Aa I).mono ?_;rintro e w' ⟨rfl,hw⟩;obtain rfl:=hw.symm)
 go_ret;exact⟨rfl,rfl⟩
theorem Uy(b bm:Nat)(v:Value)(zs:List Int)(w:World)(h:w.cell? ⟨b,4,none⟩=some (.map (some bm)))(hb:w.cell? ⟨b,5,none⟩=some v)(J:Iv w v zs)(hl:zs.length≤1000000):Calls Tryz.prog 53 #[qP0 b] w fun e w'=>∃I,e=.returned I∧Iv w' I zs∧Below w.heap.size w w':=by
 have HM:=Ab (F6 b bm w h);have Z:=Ab (Kw v zs w J hl);obtain⟨a,c,rfl,_⟩:=J;go_enter Tryz.func53,Tryz.ntmps53
 go_wp2_with (first|(go_at_call 96;with_reducible refine(Aa HM).mono ?_;rintro e w' ⟨rfl,hw⟩;obtain rfl:=hw.symm)|(go_at_call 78;with_reducible refine(Aa Z).mono ?_;rintro e w' ⟨I,rfl,h1,h2⟩))
 go_ret;exact⟨_,rfl,h1,h2⟩
theorem Pj(b bm:Nat)(v:Value)(zs:List Int)(w:World)(h:w.cell? ⟨b,4,none⟩=some (.map (some bm)))(hb:w.cell? ⟨b,6,none⟩=some v)(J:Iv w v zs)(hl:zs.length≤1000000):Calls Tryz.prog 54 #[qP0 b] w fun e w'=>∃I,e=.returned I∧Iv w' I zs∧Below w.heap.size w w':=by
 have HM:=Ab (F6 b bm w h);have Z:=Ab (Kw v zs w J hl);obtain⟨a,c,rfl,_⟩:=J;go_enter Tryz.func54,Tryz.ntmps54
 go_wp2_with (first|(go_at_call 96;with_reducible refine(Aa HM).mono ?_;rintro e w' ⟨rfl,hw⟩;obtain rfl:=hw.symm)|(go_at_call 78;with_reducible refine(Aa Z).mono ?_;rintro e w' ⟨I,rfl,h1,h2⟩))
 go_ret;exact⟨_,rfl,h1,h2⟩
theorem Fo(w:World)(a b c d:Value):(Instr.field 159 (.agg #[a,b,c,d]) 0).run Tryz.prog w=.ok a w:=by kernel_rfl
attribute [local go_sem] Fo
section
variable {b bm rb C:Nat} {vs:Nat→Value} {d:Af} {dn un:Value} {s:P32.S}
theorem Nc(i:Nat)(w:World)(h:Sg w b bm rb C vs d dn un s):Calls Tryz.prog 213 #[qP0 b,.int .i64 (i:Int)] w fun e w'=>e=.returned (.int .u8 ((s.run i false).phase:Int))∧w'=w:=by
 have c4:=h.cells.2.2.1.1;have hl:=h.mp.look i false;unfold Au at hl;clear h;go_enter Tryz.func213,Tryz.ntmps213
 go_wp2;go_ret;exact⟨rfl,rfl⟩
theorem Ua(p:Nat)(w:World)(h:Sg w b bm rb C vs d dn un s):Calls Tryz.prog 187 #[qP0 b,.int .u8 (p:Int)] w fun e w'=>e=.returned (.bool (P32.anyP d.bare s p))∧w'=w:=by
 have c2:=h.cells.1.1;have Z:=fun i=>Nc i w h;have aC:=h.nle
 have J:P32.anyP d.bare s p=(List.range' 0 d.steps.length).any fun i=>(s.run i false).phase==p:=by
  unfold P32.anyP;rw[Md.blen,List.range_eq_range']
 rw[J];obtain⟨N,hN⟩:=qeX d.steps.length;rw[hN]at c2 aC ⊢;obtain⟨I,hR⟩:∃R,((List.range' 0 N).any fun i=>(s.run i false).phase==p)=R:=⟨_,rfl⟩;rw[hR];have aD:=Ab Z;have HR:=Ab hR;clear h Z J hR hN;go_enter Tryz.func187,Tryz.ntmps187
 go_wp2
 go_loopg [12] N (fun g aE wx=>∃k:Nat,k+g=N∧aE=.int .i64 k∧w=wx∧Hid (((List.range' k g).any fun i=>(s.run i false).phase==p)=I))
 case atStart=>exact⟨0,by omega,by go_num,rfl,HR⟩
 case round=>
  obtain⟨k,aG,rfl,hw,HK⟩:=hrel;subst hw;cases gk with
  |zero=>
   have e1:(N:Int)≤(k:Int):=by omega
   have j1:decide ((k:Int)<(N:Int))=false:=by simp;omega
   have e:I=false:=(Aa HK).symm;subst e;go_wp2;go_ret;exact⟨rfl,rfl⟩
  |succ g'=>
   have aI:(k:Int)<(N:Int):=by omega
   have aH:IntKind.i64.wrap ((k:Int)+1)=(k:Int)+1:=qG _ (by omega);have hk:=Aa HK;rw[List.range'_succ,List.any_cons]at hk;have hh:=Aa aD k;obtain⟨ph,hp⟩:∃x,(s.run k false).phase=x:=⟨_,rfl⟩;rw[hp]at hh hk;have HH:=Ab hh;by_cases hq:ph=p
   ·have e1:((ph:Int)==(p:Int))=true:=by simp;omega
    have e:I=true:=by rw[←hk,hq];simp
    subst e;clear hk hh hq hp;go_wp2_with (go_at_call 213;refine(Aa HH).mono ?_;rintro e w' ⟨rfl,hw⟩;obtain rfl:=hw.symm)
    go_ret;exact⟨rfl,rfl⟩
   ·have e1:((ph:Int)==(p:Int))=false:=by simp;omega
    have aA:((List.range' (k+1) g').any fun i=>(s.run i false).phase==p)=I:=by rw[←hk];simp[hq]
    have aB:=Ab aA;clear hk hh hq hp aA;go_wp2_with (go_at_call 213;refine(Aa HH).mono ?_;rintro e w' ⟨rfl,hw⟩;obtain rfl:=hw.symm)
    go_roundg g'
    case measure=>omega
    case rel=>exact⟨k+1,by omega,by go_num,rfl,aB⟩
end
end Go.Proofs.YtefokfbgpfcbkaaGreat
namespace Go.Proofs.YtefokfbgpfcbkaaGreat
open Go.RowKit
section
variable {b bm rb C:Nat} {vs:Nat→Value} {d:Af} {dn un:Value} {s:P32.S}
theorem Xq(l:List Nat)(p:Nat→Bool)(k:Nat)(x:Nat)(h:l[k]?=some x):(l.drop k).all p=(p x&&(l.drop (k+1)).all p):=by
 obtain⟨hl,e⟩:=qI.1 h;rw[qL hl,e,List.all_cons]
theorem Wd(i:Nat)(w:World)(h:Sg w b bm rb C vs d dn un s)(hi:i<d.steps.length):Calls Tryz.prog 188 #[qP0 b,.int .i64 (i:Int)] w fun e w'=>e=.returned (.bool (P32.ready d.bare s i))∧w'=w:=by
 have I:(P28.refs d.bare).length=d.steps.length:=by rw[P28.refs_len,Md.blen]
 obtain⟨l,hl⟩:∃l,(P28.refs d.bare)[i]?=some l:=Ap I hi;have aD:(P28.refs d.bare).getD i []=l:=by rw[List.getD_eq_getElem?_getD,hl];rfl
 have hrd:P32.ready d.bare s i=((s.run i false).phase==0&&l.all fun j=>(s.run j false).phase==3):=by unfold P32.ready;rw[aD]
 obtain⟨ra,rc,aH,aO,aN,J⟩:=(h.gr.own i l hl).slice;have Z:=h.gr.row.cell (i:=i) (by rw[I];exact hi);rw[aH]at Z;have c3:=h.cells.2.1.1;have aA:=fun j=>Nc j w h;obtain⟨PH,aG⟩:∃x,(s.run i false).phase=x:=⟨_,rfl⟩;have aB:=aA i;rw[aG]at aB hrd;obtain⟨N,hN⟩:=qeX d.steps.length;obtain⟨L,hL⟩:=qeX l.length;have aP:L≤maxLen:=by omega
 unfold maxLen at aP;rw[hL]at Z;have aR:(i:Int)<(N:Int):=by omega
 rw[hN]at c3;obtain⟨AL,aC⟩:∃x,(l.all fun j=>(s.run j false).phase==3)=x:=⟨_,rfl⟩;rw[hrd,aC];have aL:=Ab aA;have aE:=Ab aB;have aK:=Ab J;have HL:=Ab hL;have aM:=Ab aC;clear h hi I hl aD hrd aH aO aN J aA aB aG hN hL aC;by_cases h0:PH=0
 ·have e0:((PH:Int) != 0)=false:=by simp;omega
  have e1:(PH==0)=true:=by simp;omega
  rw[e1,Bool.true_and];clear h0 e1;go_enter Tryz.func188,Tryz.ntmps188
  go_wp2_with (go_at_call 213;refine(Aa aE).mono ?_;rintro e w' ⟨rfl,hw⟩;obtain rfl:=hw.symm)
  go_loopg [19] L (fun g aQ wx=>∃k:Nat,k+g=L∧aQ=.int .i64 k∧w=wx∧Hid (((l.drop k).all fun j=>(s.run j false).phase==3)=AL))
  case atStart=>exact⟨0,by omega,by go_num,rfl,Ab (by simpa using Aa aM)⟩
  case round=>
   obtain⟨k,aS,rfl,hw,HK⟩:=hrel;subst hw;cases gk with
   |zero=>
    have e2:(L:Int)≤(k:Int):=by omega
    have j2:decide ((k:Int)<(L:Int))=false:=by simp;omega
    have e:AL=true:=by
     have:=Aa HK;rw[List.drop_eq_nil_of_le (by rw[Aa HL];omega)]at this;exact this.symm
    subst e;go_wp2;go_ret;exact⟨rfl,rfl⟩
   |succ g'=>
    have aU:(k:Int)<(L:Int):=by omega
    have aT:IntKind.i64.wrap ((k:Int)+1)=(k:Int)+1:=qG _ (by omega);obtain⟨x,hx⟩:=Ap (Aa HL) (show k<L by omega);obtain⟨b2,o2,rfl,cx⟩:=Aa aK k x hx;unfold iv at cx;have hk:=Aa HK;rw[Xq _ _ _ _ hx]at hk;have hh:=Aa aL x;obtain⟨ph,hp⟩:∃y,(s.run x false).phase=y:=⟨_,rfl⟩;rw[hp]at hh hk;have HH:=Ab hh;by_cases hq:ph=3
    ·have e1:((ph:Int) != 3)=false:=by simp;omega
     have aI:((l.drop (k+1)).all fun j=>(s.run j false).phase==3)=AL:=by rw[←hk,hq];rfl
     have aJ:=Ab aI;clear hk hh hq hp aI hx;go_wp2_with (go_at_call 213;refine(Aa HH).mono ?_;rintro e w' ⟨rfl,hw⟩;obtain rfl:=hw.symm)
     go_roundg g'
     case measure=>omega
     case rel=>exact⟨k+1,by omega,by go_num,rfl,aJ⟩
    ·have e1:((ph:Int) != 3)=true:=by simp;omega
     have e:AL=false:=by rw[←hk];simp[hq]
     subst e;clear hk hh hq hp hx;go_wp2_with (go_at_call 213;refine(Aa HH).mono ?_;rintro e w' ⟨rfl,hw⟩;obtain rfl:=hw.symm)
     go_ret;exact⟨rfl,rfl⟩
 ·have e0:((PH:Int) != 0)=true:=by simp;omega
  have e1:(PH==0)=false:=by simp;omega
  rw[e1,Bool.false_and];clear h0 e1;go_enter Tryz.func188,Tryz.ntmps188
  go_wp2_with (go_at_call 213;refine(Aa aE).mono ?_;rintro e w' ⟨rfl,hw⟩;obtain rfl:=hw.symm)
  go_ret;exact⟨rfl,rfl⟩
end
open Go.RowKit
def Ma(o:P32.Order):List Value:=[.int .i64 (o.step:Int),.int .i64 o.att,.bool o.undo,.int .i64 o.til]
def Co(os:List P32.Order):List Value:=os.flatMap Ma
theorem Jq(os:List P32.Order)(o:P32.Order):Co (os++[o])=Co os++Ma o:=by simp[Co]
def Ba(W:World)(B:Nat)(v:Value)(os:List P32.Order):Prop:=W.ownsRow B 35 4 v os.length (Co os)
theorem Ui:(Tryz.prog.info? 35).map (fun i=>(i.zero,i.size,i.bytes))=some (some (.agg #[.int .i64 0,.int .i64 0,.bool false,.int .i64 0]),4,32):=by kernel_rfl
theorem Ba.nil(W:World)(B:Nat):Ba W B (.slice none 0 0) []:=World.ownsRow_nil W B 35 4
theorem Ba.keep{W W':World}{B:Nat}{v:Value}{os:List P32.Order}(h:Ba W B v os)(hk:∀g,v.ownBlock=some g→W'.heap[g]?=W.heap[g]?):Ba W' B v os:=Du h hk
theorem Ba.lt{W:World}{B:Nat}{v:Value}{os:List P32.Order}(h:Ba W B v os){g:Nat}(hg:v.ownBlock=some g):B≤g∧g<W.heap.size:=Ax h g hg
theorem Ba.form{W:World}{B:Nat}{v:Value}{os:List P32.Order}(h:Ba W B v os):∃a c,v=.slice a os.length c:=by
 rcases h.2 with⟨rfl,h0⟩|⟨g,cap,I,rfl,_⟩
 ·exact⟨none,0,by rw[h0]⟩
 ·exact⟨_,cap,rfl⟩
theorem Qa3{w:World}{B:Nat}{v:Value}{l:List P32.Order}{j:P32.Order}{ops:Array Oper}{o:Oper}{a:Act}{K:Act→World→Prop}{Q:Exit→Act→World→Prop}{E:Prop}(aB:o.guard=none)(s x:Operand)
  (ho:o.op=.call { callee:=.builtin .append,args:=#[s,x],argTypes:=#[105,105] })
  (hs:a.eval s=v) (J:Ba w B v l) (g cap:Nat) (hx:a.eval x=.slice (some ⟨g,0,none⟩) 1 cap) (Z:w.heap[g]?=some (.cells #[.int .i64 (j.step:Int),.int .i64 j.att,.bool j.undo,.int .i64 j.til] 35))
  (m:Nat) (hm:l.length=m) (aD:m+1≤1000000000) (hB:B≤w.heap.size)
  (h:∀g' I w',Ba w' B (.slice (some ⟨g',0,none⟩) (m+1) I) (l++[j])→w.grownBy w' v.ownBlock→(some g'=v.ownBlock∨some g'=some w.heap.size)→K (a.put o.dst (.slice (some ⟨g',0,none⟩) (m+1) I)) w') :
  if Region.wanted o (yielded ops a.tmps)=true then Oper.wp Tryz.prog o a w K Q else E:=by
 subst hm;obtain⟨i,hi,hz,hsz,aC⟩:=info_parts Ui
 refine step_append_lies (P:=Tryz.prog) w aB s x 105 ho B 35 i (.agg #[.int .i64 0,.int .i64 0,.bool false,.int .i64 0]) 4 32 Tryz.underlying105 hi hz hsz aC rfl (by decide) v l.length (Co l) hs J
  ⟨g,0,none⟩ 1 cap (Ma j) hx rfl (World.news_of_block (fr:=(0,0)) Z) (by intro u hu;simp[Ma]at hu;rcases hu with rfl|rfl|rfl|rfl<;>rfl) (by decide) (by unfold maxLen;omega) (by omega) hB _ rfl ?_
 intro g' I w' h2 h3 aA _;refine h g' I w' ?_ h3 (aA.imp Eq.symm (fun e=>by rw[e]));unfold Ba;rw[qH,Jq];exact h2
theorem F9{w:World}{B:Nat}{v:Value}{l:List P32.Order}{j:P32.Order}(ty:TypeId)(Z:Ba w B v l)(g cap:Nat)(J:w.heap[g]?=some (.cells #[.int .i64 (j.step:Int),.int .i64 j.att,.bool j.undo,.int .i64 j.til] 35))
  (m:Nat) (hm:l.length=m) (aC:m+1≤1000000000) (hB:B≤w.heap.size) :
  ∃g' I w',(Builtin.append_ #[105,105] ty #[v,.slice (some ⟨g,0,none⟩) 1 cap]).run Tryz.prog w=.ok (.slice (some ⟨g',0,none⟩) (m+1) I) w'∧Ba w' B (.slice (some ⟨g',0,none⟩) (m+1) I) (l++[j])∧w.grownBy w' v.ownBlock∧(some g'=v.ownBlock∨some g'=some w.heap.size):=by
 subst hm;obtain⟨i,hi,hz,hsz,aB⟩:=info_parts Ui
 obtain⟨g',I,w',h1,h2,h3,aA,_⟩:=run_append_lies (P:=Tryz.prog) w 105 ty B 35 i (.agg #[.int .i64 0,.int .i64 0,.bool false,.int .i64 0]) 4 32 Tryz.underlying105 hi hz hsz aB rfl (by decide) v l.length (Co l) Z
  ⟨g,0,none⟩ 1 cap (Ma j) rfl (World.news_of_block (fr:=(0,0)) J) (by intro u hu;simp[Ma]at hu;rcases hu with rfl|rfl|rfl|rfl<;>rfl) (by decide) (by unfold maxLen;omega) (by omega) hB _ rfl
 refine⟨g',I,w',h1,?_,h3,aA.imp Eq.symm (fun e=>by rw[e])⟩;unfold Ba;rw[qH,Jq];exact h2
structure SA (w0:World) (M0:Nat→Prop) (b bm rb C h1 h2 ob:Nat) (vs:Nat→Value) (d:Af) (x:P32.S × List P32.Order) (W:World):Prop where
 ex:∃dn un v,Sg W b bm rb C vs d dn un x.1∧W.heap[ob]?=some (.cells #[v] 105)∧Ba W C v x.2∧(∀g,v.ownBlock=some g→¬Mb b bm dn un g∧g≠h1∧g≠h2∧g≠ob∧(M0 g∨w0.heap.size≤g))∧(∀g,Mb b bm dn un g→g≠h1∧g≠h2∧g≠ob)∧(∀g,Mb b bm dn un g→M0 g∨w0.heap.size≤g)
 c1:W.heap[h1]?=some (.cells #[qP0 b] 96)
 c2:W.heap[h2]?=some (.cells #[qP0 ob] 170)
 kw:KW M0 w0 W
 low:C≤w0.heap.size∧(M0 h1∨w0.heap.size≤h1)∧(M0 h2∨w0.heap.size≤h2)∧(M0 ob∨w0.heap.size≤ob)∧C≤h1∧C≤h2∧C≤ob
 ne:h1≠h2∧h1≠ob∧h2≠ob
section
variable {w0 W W':World} {M0:Nat→Prop} {b bm rb C h1 h2 ob:Nat} {vs:Nat→Value} {d:Af} {x:P32.S × List P32.Order}
theorem SA.below(h:SA w0 M0 b bm rb C h1 h2 ob vs d x W)(hb:Below W.heap.size W W'):SA w0 M0 b bm rb C h1 h2 ob vs d x W':=by
 obtain⟨dn,un,v,k1,J,I,Z,k5,k6⟩:=h.ex;exact⟨⟨dn,un,v,k1.below hb,(hb.block _ (qA.1 J).1).trans J,I.keep (fun g hg=>hb.block g (I.lt hg).2),Z,k5,k6⟩,(hb.block _ (qA.1 h.c1).1).trans h.c1,(hb.block _ (qA.1 h.c2).1).trans h.c2,h.kw.next hb h.kw.size,h.low,h.ne⟩
theorem SA.sg(h:SA w0 M0 b bm rb C h1 h2 ob vs d x W):∃dn un,Sg W b bm rb C vs d dn un x.1:=by
 obtain⟨dn,un,v,I,_⟩:=h.ex;exact⟨dn,un,I⟩
theorem SA.write{s':P32.S}{dn un I J v:Value}(h:SA w0 M0 b bm rb C h1 h2 ob vs d x W)(k1:Sg W b bm rb C vs d dn un x.1)(k2:W.heap[ob]?=some (.cells #[v] 105))(k3:Ba W C v x.2)(k4:∀g,v.ownBlock=some g→¬Mb b bm dn un g∧g≠h1∧g≠h2∧g≠ob∧(M0 g∨w0.heap.size≤g))(Z:∀g,Mb b bm dn un g→g≠h1∧g≠h2∧g≠ob)(k6:∀g,Mb b bm dn un g→M0 g∨w0.heap.size≤g)
  (hs:Sg W' b bm rb C vs d I J s') (hk:KW (Mb b bm dn un) W W') (hm:∀g,Mb b bm I J g→Mb b bm dn un g∨W.heap.size≤g):SA w0 M0 b bm rb C h1 h2 ob vs d (s',x.2) W':=by
 have z1:=(qA.1 h.c1).1;have z2:=(qA.1 h.c2).1;have z3:=(qA.1 k2).1;have zk:=h.kw.size;refine⟨⟨I,J,v,hs,(hk.same ob (fun e=>(Z ob e).2.2 rfl) z3).trans k2,k3.keep (fun g hg=>hk.same g (k4 g hg).1 (k3.lt hg).2),fun g hg=>?_,fun g hg=>?_,fun g hg=>?_⟩,(hk.same h1 (fun e=>(Z h1 e).1 rfl) z1).trans h.c1,(hk.same h2 (fun e=>(Z h2 e).2.1 rfl) z2).trans h.c2,?_,h.low,h.ne⟩
 ·obtain⟨a1,a2,a3,a4,a5⟩:=k4 g hg;refine⟨fun e=>?_,a2,a3,a4,a5⟩;rcases hm g e with e|e
  ·exact a1 e
  ·have:=(k3.lt hg).2;omega
 ·rcases hm g hg with e|e
  ·exact Z g e
  ·exact⟨by omega,by omega,by omega⟩
 ·rcases hm g hg with e|e
  ·exact k6 g e
  ·exact .inr (by omega)
 ·refine⟨hk.os.trans h.kw.os,hk.tape.trans h.kw.tape,hk.output.trans h.kw.output,qK zk hk.size,fun g hg hl=>(hk.same g (fun e=>?_) (zD hl zk)).trans (h.kw.same g hg hl)⟩;rcases k6 g e with e|e
  ·exact hg e
  ·omega
def MA(b bm h1 h2 ob:Nat)(dn un v:Value)(g:Nat):Prop:=Mb b bm dn un g∨g=h1∨g=h2∨g=ob∨v.ownBlock=some g
theorem SA.debase{J:Nat→Prop}{x':P32.S × List P32.Order}(h:SA w0 M0 b bm rb C h1 h2 ob vs d x W)(Z:∀g,J g→M0 g∨w0.heap.size≤g)(I:SA W J b bm rb C h1 h2 ob vs d x' W'):SA w0 M0 b bm rb C h1 h2 ob vs d x' W':=by
 obtain⟨dn,un,v,k1,k2,k3,k4,k5,k6⟩:=I.ex;have hz:=h.kw.size;have up:∀g,J g∨W.heap.size≤g→M0 g∨w0.heap.size≤g:=fun g hg=>hg.elim (Z g) (fun e=>.inr (by omega));refine⟨⟨dn,un,v,k1,k2,k3,fun g hg=>?_,k5,fun g hg=>up g (k6 g hg)⟩,I.c1,I.c2,?_,h.low,h.ne⟩
 ·obtain⟨a1,a2,a3,a4,a5⟩:=k4 g hg;exact⟨a1,a2,a3,a4,up g a5⟩
 ·refine⟨I.kw.os.trans h.kw.os,I.kw.tape.trans h.kw.tape,I.kw.output.trans h.kw.output,qK hz I.kw.size,fun g hg hl=>?_⟩;refine(I.kw.same g (fun e=>?_) (by omega)).trans (h.kw.same g hg hl);rcases Z g e with e|e
  ·exact hg e
  ·omega
end
theorem Gl{w0:World}{M0:Nat→Prop}{b bm rb C:Nat}{vs:Nat→Value}{d:Af}{dn un:Value}{s:P32.S}(w:World)(h:Sg w b bm rb C vs d dn un s)(hk:KW M0 w0 w)(hC:C≤w0.heap.size)(hm:∀g,Mb b bm dn un g→M0 g∨w0.heap.size≤g) :
  Calls Tryz.prog 104 #[qP0 b] w fun e w'=>∃h1 h2 ob,e=.returned (.tuple #[qP0 ob,.func (.func 146) #[] #[qP0 h1,qP0 h2]])∧SA w0 M0 b bm rb C h1 h2 ob vs d (s,[]) w'∧Below w.heap.size w w':=by
 obtain⟨H,Z⟩:=qeX w.heap.size;obtain⟨W1,aA,I,g0,g1,g2,aE⟩:=I5 w (.cells #[qP0 b] 96) (.cells #[.slice none 0 0] 105) (.cells #[.pointer (some ⟨H+1,0,none⟩)] 170) H Z;have hz:=hk.size;have hM:∀g,Mb b bm dn un g→g<H:=fun g hg=>by rw[←Z];exact h.lt (.inl hg)
 have J:SA w0 M0 b bm rb C H (H+1+1) (H+1) vs d (s,[]) W1:=by
  refine⟨⟨dn,un,_,h.below (by rw[Z];exact I),g1,Ba.nil _ _,fun g hg=>(by cases hg),fun g hg=>?_,hm⟩,g0,g2,hk.next I (by omega),⟨hC,.inr (by omega),.inr (by omega),.inr (by omega),by omega,by omega,by omega⟩,by omega,by omega,by omega⟩;have:=hM g hg;exact⟨by omega,by omega,by omega⟩
 have aD:=Ab J;have aC:=Ab aA;have aB:=Ab I;obtain⟨c2,_⟩:=A1 g2;clear J aA I g0 g1 g2 h hk hm hM;go_enter Tryz.func104,Tryz.ntmps104
 go_upto_region 2 with fail
 try rw[Z]
 rw[Aa aC];go_wp2;exact qV (results_tmp2 rfl _ _ _) rfl ⟨H,H+1+1,H+1,rfl,Aa aD,by rw[Z];exact Aa aB⟩
end Go.Proofs.YtefokfbgpfcbkaaGreat
