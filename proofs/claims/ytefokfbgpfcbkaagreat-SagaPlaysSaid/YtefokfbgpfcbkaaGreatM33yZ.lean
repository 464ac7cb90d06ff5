import Derived.Test.YtefokfbgpfcbkaaGreatPlain33Z
set_option maxRecDepth 100000
set_option linter.unusedVariables false
set_option linter.unusedSimpArgs false
namespace Go.Proofs.YtefokfbgpfcbkaaGreat
open Go.RowKit
def Oj(k:Int × Bool):Value:=.agg #[.int .i64 k.1,.bool k.2]
abbrev onV(p:Int × Bool):Value:=.agg #[.int .i64 p.1,.bool p.2]
def Qby(W:World)(bm:Nat)(f:Nat→Bool→Int × Bool):Prop:=∃L,Bi Oj W bm L∧∀(i:Nat) u,(lk L ((i:Int),u)).getD (onV (0,false))=onV (f i u)
def Mb(b bm:Nat)(dn un:Value)(g:Nat):Prop:=g=b∨g=bm∨dn.ownBlock=some g∨un.ownBlock=some g
structure KW (M:Nat→Prop) (w W:World):Prop where
 os:W.os=w.os
 tape:W.tape=w.tape
 output:W.output=w.output
 size:w.heap.size≤W.heap.size
 same:∀g,¬M g→g<w.heap.size→W.heap[g]?=w.heap[g]?
namespace KW
variable {M:Nat→Prop} {w A B:World} {K:Nat}
theorem refl(M:Nat→Prop)(w:World):KW M w w:=⟨rfl,rfl,rfl,qJ _,fun _ _ _=>rfl⟩
theorem of(h:Below K w A)(hK:w.heap.size≤K):KW M w A:=⟨h.os,h.tape,h.output,h.size,fun g _ hl=>h.block g (zD hl hK)⟩
theorem next(h:KW M w A)(k:Below K A B)(hK:w.heap.size≤K):KW M w B:=
 ⟨k.os.trans h.os,k.tape.trans h.tape,k.output.trans h.output,qK h.size k.size,fun g hg hl=>(k.block g (zD hl hK)).trans (h.same g hg hl)⟩
theorem trans(h:KW M w A)(k:KW M A B):KW M w B:=
 ⟨k.os.trans h.os,k.tape.trans h.tape,k.output.trans h.output,qK h.size k.size,fun g hg hl=>(k.same g hg (zD hl h.size)).trans (h.same g hg hl)⟩
theorem grown{row:Option Nat}(h:KW M w A)(hg:A.grownBy B row)(hr:∀k,row=some k→M k∨w.heap.size≤k):KW M w B:=
 ⟨hg.os.trans h.os,hg.tape.trans h.tape,hg.output.trans h.output,qK h.size hg.size,fun g I hl=>(hg.block g (zD hl h.size) (fun e=>(hr g e.symm).elim I (fun q=>by omega))).trans (h.same g I hl)⟩
theorem setCell{b o:Nat}(h:KW M w A)(hb:M b∨w.heap.size≤b)(v:Value):KW M w (A.setCell ⟨b,o,none⟩ v):=
 ⟨h.os,h.tape,h.output,by simpa using h.size,fun g I hl=>(qC _ _ _ _ (by rintro rfl;exact hb.elim I (fun q=>by omega))).trans (h.same g I hl)⟩
theorem drewN(h:KW M w A)(n:Nat):KW M w (A.drewN n):=⟨h.os,h.tape,h.output,h.size,h.same⟩
end KW
structure Md (W:World) (b bm rb G C:Nat) (vs:Nat→Value) (d:Af) (dn un:Value) (s:P33.S):Prop where
 bx:W.heap[b]?=some (mdC d (.slice (some ⟨rb,0,none⟩) d.steps.length d.steps.length) bm dn un s.failed s.status)
 mp:Qby W bm s.w
 odn:A5 W C dn s.done
 oun:A5 W C un s.undone
 apart:∀g,dn.ownBlock=some g→un.ownBlock≠some g
 df:d.In W
 dlt:∀g,d.blk g→g≠b∧g≠bm∧g<C
 gr:C0 W 0 rb vs (P28.refs d.bare)
 glt:∀g,Ce rb vs d.steps.length g→g≠b∧g≠bm∧g<C
 gb:G≤b
 gm:G≤bm
 bne:b≠bm
 bc:b<C
 mc:bm<C
 cw:C≤W.heap.size
 tr:∀i u,0≤(s.w i u).1∧(s.w i u).1≤10
 nd:s.done.Nodup
 dl:∀i∈s.done,i<d.steps.length
 ul:s.undone.length≤s.done.length
 ne:d.steps≠[]
 nle:d.steps.length≤100000
namespace Md
variable {W W':World} {b bm rb G C:Nat} {vs:Nat→Value} {d:Af} {dn un:Value} {s:P33.S}
theorem blen(d:Af):d.bare.steps.length=d.steps.length:=by simp[Af.bare]
theorem undo_eq(d:Af){i:Nat}{x:Ai}(h:d.steps[i]?=some x):P33.undoOf d.bare i=x.undo:=by
 unfold P33.undoOf P28.undos;simp[Af.bare,Ai.bare,List.getD_eq_getElem?_getD,h]
end Md
open Go.RowKit
theorem Bl{W:World}{g:Nat}{T:TypeId}{a b c e:Value}(h:W.heap[g]?=some (.cells #[a,b,c,e] T)):(W.cell? ⟨g,0,none⟩=some a∧W.frozen? ⟨g,0,none⟩=false)∧(W.cell? ⟨g,1,none⟩=some b∧W.frozen? ⟨g,1,none⟩=false)∧(W.cell? ⟨g,2,none⟩=some c∧W.frozen? ⟨g,2,none⟩=false)∧(W.cell? ⟨g,3,none⟩=some e∧W.frozen? ⟨g,3,none⟩=false):=by
 simp[World.cell?,World.frozen?,h]
open Go.RowKit
open Go.RowKit
theorem Wn{w:World}{B:Nat}{v:Value}{l:List Nat}{j:Nat}{ops:Array Oper}{o:Oper}{a:Act}{K:Act→World→Prop}{Q:Exit→Act→World→Prop}{E:Prop}(aB:o.guard=none)(s x:Operand)
  (ho:o.op=.call { callee:=.builtin .append,args:=#[s,x],argTypes:=#[48,48] })
  (hs:a.eval s=v) (J:A5 w B v l) (g cap:Nat) (hx:a.eval x=.slice (some ⟨g,0,none⟩) 1 cap) (Z:w.cell? ⟨g,0,none⟩=some (.int .i64 (j:Int)))
  (m:Nat) (hm:l.length=m) (aD:m+1≤1000000000) (hB:B≤w.heap.size)
  (h:∀g' I w',A5 w' B (.slice (some ⟨g',0,none⟩) (m+1) I) (l++[j])→w.grownBy w' v.ownBlock→(some g'=v.ownBlock∨some g'=some w.heap.size)→K (a.put o.dst (.slice (some ⟨g',0,none⟩) (m+1) I)) w') :
  if Region.wanted o (yielded ops a.tmps)=true then Oper.wp Tryz.prog o a w K Q else E:=by
 subst hm;obtain⟨i,hi,hz,hsz,aC⟩:=info_parts Oo
 refine step_append_lies (P:=Tryz.prog) w aB s x 48 ho B 3 i (.int .i64 0) 1 8 Tryz.underlying48 hi hz hsz aC rfl (by decide) v l.length (l.map iv) hs J
  ⟨g,0,none⟩ 1 cap [.int .i64 (j:Int)] hx rfl (by intro k u hk;match k,hk with|0,hk=>simp at hk;subst hk;exact Z) (by intro u hu;simp at hu;subst hu;rfl) (by decide) (by unfold maxLen;omega) (by omega) hB _ rfl ?_
 intro g' I w' h2 h3 aA _;refine h g' I w' ?_ h3 (aA.imp Eq.symm (fun e=>by rw[e]));unfold A5;rw[qH,List.map_append];exact h2
end Go.Proofs.YtefokfbgpfcbkaaGreat
