import Derived.Test.YtefokfbgpfcbkaaGreatGW20Z
set_option maxRecDepth 100000
set_option linter.unusedVariables false
set_option linter.unusedSimpArgs false
namespace Go.Proofs.YtefokfbgpfcbkaaGreat
open Go.RowKit
structure El (α:Type) where
 T:TypeId
 n:Nat
 cs:α→List Value
 In:World→α→Prop
 blk:α→Nat→Prop
 keep:∀W W' x,In W x→(∀r,blk x r→W'.heap[r]?=W.heap[r]?)→In W' x
 lt:∀W x r,In W x→blk x r→r<W.heap.size
 len:∀x,(cs x).length=n
 one:∀x,∀u∈cs x,u.oneCell'=true
 pos:0<n
namespace El
variable {α:Type} (E:El α)
def all(xs:List α):List Value:=xs.flatMap E.cs
theorem all_len:∀xs:List α,(E.all xs).length=xs.length*E.n
 | []=>by simp[all]
 |x::xs=>by
  have ih:=all_len xs;have e:E.all (x::xs)=E.cs x++E.all xs:=rfl;rw[e,qH,ih,E.len,qE,Nat.add_mul];omega
def At(W:World)(b o:Nat)(x:α):Prop:=∀i v,(E.cs x)[i]?=some v→W.cell? ⟨b,o+i,none⟩=some v
def InL(W:World)(a:Option Addr)(xs:List α):Prop:=∀j x,xs[j]?=some x→(∃b o,a=some ⟨b,o,none⟩∧E.At W b (o+j*E.n) x)∧E.In W x
def blkL(a:Option Addr)(xs:List α)(r:Nat):Prop:=(xs≠[]∧Ch a r)∨∃x∈xs,E.blk x r
variable {E}
theorem InL.keep{W W':World}{a:Option Addr}{xs:List α}(h:E.InL W a xs)(hk:∀r,E.blkL a xs r→W'.heap[r]?=W.heap[r]?):E.InL W' a xs:=by
 intro j x hj;obtain⟨⟨b,o,rfl,hc⟩,hi⟩:=h j x hj;have hm:=qN hj;refine⟨⟨b,o,rfl,fun i v I=>(Ae (hk b (.inl ⟨List.ne_nil_of_mem hm,o,rfl⟩)) _).trans (hc i v I)⟩,E.keep _ _ _ hi (fun r hr=>hk r (.inr ⟨x,hm,hr⟩))⟩
theorem InL.lt{W:World}{a:Option Addr}{xs:List α}(h:E.InL W a xs){r:Nat}(hr:E.blkL a xs r):r<W.heap.size:=by
 rcases hr with⟨hn,o,rfl⟩|⟨x,hm,hr⟩
 ·cases xs with
  |nil=>exact absurd rfl hn
  |cons x xs=>
   obtain⟨⟨b,o',e,hc⟩,_⟩:=h 0 x rfl;injection e with e;injection e with e;subst e;have hp:=E.pos;have hl:=E.len x;have:=hc 0 ((E.cs x)[0]'(by omega)) (qO _);exact Ad this
 ·obtain⟨j,hj⟩:=zM hm;exact E.lt _ _ _ (h j x hj).2 hr
theorem InL.below{W W':World}{a:Option Addr}{xs:List α}(h:E.InL W a xs)(hb:Below W.heap.size W W'):E.InL W' a xs:=h.keep (fun r hr=>hb.block r (h.lt hr))
theorem InL.nil(W:World)(a:Option Addr):E.InL W a []:=fun j x h=>by simp at h
theorem InL.get{W:World}{a:Option Addr}{xs:List α}(h:E.InL W a xs){j:Nat}{x:α}(hj:xs[j]?=some x):∃b o,a=some ⟨b,o,none⟩∧E.At W b (o+j*E.n) x∧E.In W x:=by
 obtain⟨⟨b,o,e,hc⟩,hi⟩:=h j x hj;exact⟨b,o,e,hc,hi⟩
end El
namespace P22
open P20 (T)
structure Try where
 most:Int
 first:Int
 factor:Int
structure Step where
 name:List UInt8
 action:List UInt8
 undo:List UInt8
 after:List (List UInt8)
 tries:Try
 limit:Int
 note:T
def Step.zero:Step:=⟨[],[],[],[],⟨0,0,0⟩,0,.mk 0 [] [] [] 0⟩
structure Def where
 name:List UInt8
 text:List UInt8
 steps:List Step
end P22
end Go.Proofs.YtefokfbgpfcbkaaGreat
namespace Go.Proofs.YtefokfbgpfcbkaaGreat
open Go.RowKit
structure Ai where
 name:List UInt8
 action:List UInt8
 undo:List UInt8
 aa:Option Addr
 ac:Nat
 after:List (List UInt8)
 most:Int
 first:Int
 factor:Int
 limit:Int
 note:Nd
namespace Ai
def aV(s:Ai):Value:=.slice s.aa s.after.length s.ac
def cs(s:Ai):List Value:=[.string ⟨s.name.toArray⟩,.string ⟨s.action.toArray⟩,.string ⟨s.undo.toArray⟩,s.aV,.int .i64 s.most,.int .i64 s.first,.int .i64 s.factor,.int .i64 s.limit,.int .u8 s.note.kind,.string ⟨s.note.text.toArray⟩,s.note.kV,s.note.dV,.int .i64 s.note.line]
def val(s:Ai):Value:=.agg s.cs.toArray
def bare(s:Ai):P22.Step:=⟨s.name,s.action,s.undo,s.after,⟨s.most,s.first,s.factor⟩,s.limit,s.note.bare⟩
structure In (W:World) (s:Ai):Prop where
 keys:Ft W s.aa s.after
 len:s.after.length≤s.ac
 cap:s.ac≤maxLen
 note:s.note.In W
def blk(s:Ai)(r:Nat):Prop:=(s.after≠[]∧Ch s.aa r)∨s.note.blk r
theorem In.keep{W W':World}{s:Ai}(h:s.In W)(hk:∀r,s.blk r→W'.heap[r]?=W.heap[r]?):s.In W':=
 ⟨h.keys.keep (fun r hn hr=>hk r (.inl ⟨hn,hr⟩)),h.len,h.cap,h.note.keep (fun r hr=>hk r (.inr hr))⟩
theorem inS_lt{W:World}{a:Option Addr}{ks:List (List UInt8)}(h:Ft W a ks){r:Nat}(hn:ks≠[])(hr:Ch a r):r<W.heap.size:=by
 obtain⟨o,rfl⟩:=hr;cases ks with
 |nil=>exact absurd rfl hn
 |cons x ks=>
  obtain⟨b,o',e,hc⟩:=h 0 x rfl;injection e with e;injection e with e;subst e;exact Ad hc
theorem In.lt{W:World}{s:Ai}(h:s.In W){r:Nat}(hr:s.blk r):r<W.heap.size:=by
 rcases hr with⟨hn,hr⟩|hr
 ·exact inS_lt h.keys hn hr
 ·exact h.note.lt hr
theorem In.below{W W':World}{s:Ai}(h:s.In W)(hb:Below W.heap.size W W'):s.In W':=h.keep (fun r hr=>hb.block r (h.lt hr))
def zero:Ai:=⟨[],[],[],none,0,[],0,0,0,0,Nd.zero⟩
theorem zero_in(W:World):zero.In W:=⟨fun i x h=>by simp[zero]at h,qJ _,Nat.zero_le _,Nd.zero_in W⟩
end Ai
@[reducible] def Me:El Ai where
 T:=63
 n:=13
 cs:=Ai.cs
 In:=fun W s=>s.In W
 blk:=Ai.blk
 keep:=fun _ _ _ h hk=>h.keep hk
 lt:=fun _ _ _ h hr=>h.lt hr
 len:=fun _=>rfl
 one:=fun s u hu=>by
  simp only[Ai.cs,zW,zT,or_false]at hu;rcases hu with rfl|rfl|rfl|rfl|rfl|rfl|rfl|rfl|rfl|rfl|rfl|rfl|rfl<;>rfl
 pos:=by decide
abbrev stZ:Value:=.agg #[.string ⟨#[]⟩,.string ⟨#[]⟩,.string ⟨#[]⟩,.slice none 0 0,.int .i64 0,.int .i64 0,.int .i64 0,.int .i64 0,.int .u8 0,.string ⟨#[]⟩,.slice none 0 0,.slice none 0 0,.int .i64 0]
structure Af where
 name:List UInt8
 text:List UInt8
 sa:Option Addr
 sc:Nat
 steps:List Ai
namespace Af
def val(d:Af):Value:=.agg #[.string ⟨d.name.toArray⟩,.string ⟨d.text.toArray⟩,.slice d.sa d.steps.length d.sc]
def bare(d:Af):P22.Def:=⟨d.name,d.text,d.steps.map Ai.bare⟩
structure In (W:World) (d:Af):Prop where
 steps:Me.InL W d.sa d.steps
 len:d.steps.length≤d.sc
 cap:d.sc≤maxLen
def blk(d:Af)(r:Nat):Prop:=Me.blkL d.sa d.steps r
theorem In.keep{W W':World}{d:Af}(h:d.In W)(hk:∀r,d.blk r→W'.heap[r]?=W.heap[r]?):d.In W':=⟨h.steps.keep hk,h.len,h.cap⟩
theorem In.lt{W:World}{d:Af}(h:d.In W){r:Nat}(hr:d.blk r):r<W.heap.size:=h.steps.lt hr
theorem In.below{W W':World}{d:Af}(h:d.In W)(hb:Below W.heap.size W W'):d.In W':=h.keep (fun r hr=>hb.block r (h.lt hr))
def zero:Af:=⟨[],[],none,0,[]⟩
theorem zero_in(W:World):zero.In W:=⟨El.InL.nil _ _,qJ _,Nat.zero_le _⟩
end Af
open Go.RowKit
theorem Am{W:World}{g:Nat}{T:TypeId}{u0 u1 Z u3 u4 u5 u6 u7 J u9 I u11 u12:Value}(h:W.heap[g]?=some (.cells #[u0,u1,Z,u3,u4,u5,u6,u7,J,u9,I,u11,u12] T)):(W.cell? ⟨g,0,none⟩=some u0∧W.frozen? ⟨g,0,none⟩=false)∧(W.cell? ⟨g,1,none⟩=some u1∧W.frozen? ⟨g,1,none⟩=false)∧(W.cell? ⟨g,2,none⟩=some Z∧W.frozen? ⟨g,2,none⟩=false)∧(W.cell? ⟨g,3,none⟩=some u3∧W.frozen? ⟨g,3,none⟩=false)∧(W.cell? ⟨g,4,none⟩=some u4∧W.frozen? ⟨g,4,none⟩=false)∧(W.cell? ⟨g,5,none⟩=some u5∧W.frozen? ⟨g,5,none⟩=false)∧(W.cell? ⟨g,6,none⟩=some u6∧W.frozen? ⟨g,6,none⟩=false)∧(W.cell? ⟨g,7,none⟩=some u7∧W.frozen? ⟨g,7,none⟩=false)∧(W.cell? ⟨g,8,none⟩=some J∧W.frozen? ⟨g,8,none⟩=false)∧(W.cell? ⟨g,9,none⟩=some u9∧W.frozen? ⟨g,9,none⟩=false)∧(W.cell? ⟨g,10,none⟩=some I∧W.frozen? ⟨g,10,none⟩=false)∧(W.cell? ⟨g,11,none⟩=some u11∧W.frozen? ⟨g,11,none⟩=false)∧(W.cell? ⟨g,12,none⟩=some u12∧W.frozen? ⟨g,12,none⟩=false):=by
 simp[World.cell?,World.frozen?,h]
theorem As(w:World)(o:Obj)(H:Nat)(I:w.heap.size=H):∃W,w.alloc o=W∧Below H w W∧W.heap[H]?=some o∧W.heap.size=H+1:=by
 subst I;exact⟨_,rfl,(qU _ w).alloc (qJ _) o,qB _ _,by simp⟩
theorem Dt(w:World)(J I:Obj)(H:Nat)(Z:w.heap.size=H):∃W,(w.alloc J).alloc I=W∧Below H w W∧W.heap[H]?=some J∧W.heap[H+1]?=some I∧W.heap.size=H+1+1:=by
 obtain⟨W1,e1,b1,h1,s1⟩:=As w J H Z;obtain⟨W2,e2,b2,h2,s2⟩:=As W1 I (H+1) s1;exact⟨W2,by rw[e1,e2],b1.trans (b2.mono (by omega)),(b2.block H (by omega)).trans h1,h2,s2⟩
theorem I5(w:World)(Z J o3:Obj)(H:Nat)(hH:w.heap.size=H):∃W,((w.alloc Z).alloc J).alloc o3=W∧Below H w W∧W.heap[H]?=some Z∧W.heap[H+1]?=some J∧W.heap[H+1+1]?=some o3∧W.heap.size=H+1+1+1:=by
 obtain⟨W1,e1,b1,h1,I,s1⟩:=Dt w Z J H hH;obtain⟨W2,e2,b2,h2,s2⟩:=As W1 o3 (H+1+1) s1;exact⟨W2,by rw[e1,e2],b1.trans (b2.mono (by omega)),(b2.block H (by omega)).trans h1,(b2.block (H+1) (by omega)).trans I,h2,s2⟩
theorem A1{W:World}{g:Nat}{T:TypeId}{a:Value}(h:W.heap[g]?=some (.cells #[a] T)):W.cell? ⟨g,0,none⟩=some a∧W.frozen? ⟨g,0,none⟩=false:=by
 simp[World.cell?,World.frozen?,h]
theorem Ag{W:World}{g:Nat}{T:TypeId}{a b c:Value}(h:W.heap[g]?=some (.cells #[a,b,c] T)):(W.cell? ⟨g,0,none⟩=some a∧W.frozen? ⟨g,0,none⟩=false)∧(W.cell? ⟨g,1,none⟩=some b∧W.frozen? ⟨g,1,none⟩=false)∧(W.cell? ⟨g,2,none⟩=some c∧W.frozen? ⟨g,2,none⟩=false):=by
 simp[World.cell?,World.frozen?,h]
theorem Wb{W:World}{g:Nat}{T:TypeId}{a:Value}(h:W.heap[g]?=some (.cells #[a] T))(v:Value):(W.setCell ⟨g,0,none⟩ v).heap[g]?=some (.cells #[v] T):=by
 simp[World.setCell,Array.getElem?_modify,h]
theorem Oc{W:World}{g:Nat}{a b c:Value}(h:W.heap[g]?=some (.cells #[a,b,c] 24)):(loadVar 24 ⟨g,0,none⟩).run Tryz.prog W=.ok (.agg #[a,b,c]) W:=qW _ _ _ _ _ _ _ h Tryz.underlying24 rfl (by kernel_rfl)
theorem Ar{W:World}{b o i:Nat}{s:Ai}(h:Me.At W b (o+i*13) s) :
  (W.cell? ⟨b,o+i*13,none⟩=some (.string ⟨s.name.toArray⟩)∧W.cell? ⟨b,o+i*13+1,none⟩=some (.string ⟨s.action.toArray⟩)∧W.cell? ⟨b,o+i*13+2,none⟩=some (.string ⟨s.undo.toArray⟩)∧W.cell? ⟨b,o+i*13+3,none⟩=some s.aV) ∧
  (W.cell? ⟨b,o+i*13+4,none⟩=some (.int .i64 s.most)∧W.cell? ⟨b,o+i*13+5,none⟩=some (.int .i64 s.first)∧W.cell? ⟨b,o+i*13+6,none⟩=some (.int .i64 s.factor)∧W.cell? ⟨b,o+i*13+7,none⟩=some (.int .i64 s.limit)) ∧
  (W.cell? ⟨b,o+i*13+8,none⟩=some (.int .u8 s.note.kind)∧W.cell? ⟨b,o+i*13+9,none⟩=some (.string ⟨s.note.text.toArray⟩)∧W.cell? ⟨b,o+i*13+10,none⟩=some s.note.kV∧W.cell? ⟨b,o+i*13+11,none⟩=some s.note.dV∧W.cell? ⟨b,o+i*13+12,none⟩=some (.int .i64 s.note.line)):=
 ⟨⟨h 0 _ rfl,h 1 _ rfl,h 2 _ rfl,h 3 _ rfl⟩,⟨h 4 _ rfl,h 5 _ rfl,h 6 _ rfl,h 7 _ rfl⟩,⟨h 8 _ rfl,h 9 _ rfl,h 10 _ rfl,h 11 _ rfl,h 12 _ rfl⟩⟩
theorem Bj:Tryz.prog.follows .mixedOrders=true:=by kernel_rfl
theorem Dc(w:World):(zeroValue 3).run Tryz.prog w=.ok (.int .i64 0) w:=by kernel_rfl
end Go.Proofs.YtefokfbgpfcbkaaGreat
