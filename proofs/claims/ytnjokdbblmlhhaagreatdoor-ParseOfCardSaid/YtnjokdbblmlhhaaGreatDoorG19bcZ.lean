/- Lemmas of this claim. -/
import Derived.Test.YtnjokdbblmlhhaaGreatDoorG19aZ
import Derived.Sort.CutIn
import Derived.Sort.LoopGhostIn
import Derived.Test.YtnjokdbblmlhhaaGreatDoorGT19Z
import Derived.Deep.RegionLaw
import Derived.Maps.OwnIn
import Derived.Deep.CutBlock
import Derived.Test.YtnjokdbblmlhhaaGreatDoorGR17Z
import Derived.Deep.CutRange
import Derived.Deep.RegionWith
import Derived.Shelf.RegionOpenPlain
namespace Go.Proofs.YtnjokdbblmlhhaaGreatDoor
set_option linter.unusedVariables false
set_option linter.unusedSimpArgs false
open Go.RowKit Go.Shelf
attribute [local go_sem] Oper.semAt_some
namespace P19
theorem next_left (v:Bool) (n col:Int) (s:List UInt8) (h:(next v n col s).2.2=0) (h2:(next v n col s).2.1.2.2≠[]) :
  (next v n col s).2.1.2.2.length<s.length∧(next v n col s).2.1.1=n∧col≤(next v n col s).2.1.2.1∧(next v n col s).2.1.2.1+(next v n col s).2.1.2.2.length≤col+s.length:=by
 unfold next at h h2 ⊢
 by_cases h3:(signB 45 s && !v)=true
 ·rw [if_pos h3] at h2 ⊢
  have hsk:=skip_le (s.drop 1)
  rw [List.length_drop] at hsk
  have hlen:1≤s.length:=by
   cases s with
   | nil=>cases h3
   | cons a r=>simp
  refine ⟨?_,rfl,?_,?_⟩
  ·show (s.drop (1+skip (s.drop 1))).length<s.length
   rw [List.length_drop];omega
  ·show col≤col+((1+skip (s.drop 1):Nat):Int)
   omega
  ·show col+((1+skip (s.drop 1):Nat):Int)+((s.drop (1+skip (s.drop 1))).length:Int)≤col+s.length
   rw [List.length_drop];omega
 ·rw [if_neg h3] at h h2 ⊢
  by_cases h4:s=[91,93]
  ·rw [if_pos h4] at h2
   exact absurd rfl h2
  rw [if_neg h4] at h h2 ⊢
  by_cases h5:s=[123,125]
  ·rw [if_pos h5] at h2
   exact absurd rfl h2
  rw [if_neg h5] at h h2 ⊢
  by_cases h6:(P18.cut s).2≠0
  ·rw [if_pos h6] at h
   exact absurd (by simpa using h) h6
  rw [if_neg h6] at h h2 ⊢
  split at h
  ·simp at h
  ·rename_i h7
   rw [if_neg h7] at h2 ⊢
   split at h
   ·rename_i h8
    exact absurd h h8
   ·rename_i h8
    rw [if_neg h8] at h2 ⊢
    by_cases h9:(signB 58 (s.drop (P18.cut s).1) && !v)=true
    ·rw [if_pos h9] at h2 ⊢
     have hsk:=skip_le (s.drop ((P18.cut s).1+1))
     rw [List.length_drop] at hsk
     have hl:(s.drop (P18.cut s).1).length≠0:=by
      intro e
      rw [List.eq_nil_of_length_eq_zero e] at h9
      cases h9
     rw [List.length_drop] at hl
     obtain ⟨q,hq⟩:∃ q,(P18.cut s).1+1+skip (s.drop ((P18.cut s).1+1))=q:=⟨_,rfl⟩
     rw [hq]
     refine ⟨?_,rfl,?_,?_⟩
     ·show (s.drop q).length<s.length
      rw [List.length_drop];omega
     ·show col≤col+(q:Int)
      omega
     ·show col+(q:Int)+((s.drop q).length:Int)≤col+s.length
      rw [List.length_drop];omega
    ·rw [if_neg h9] at h2
     exact absurd rfl h2
end P19
def T8 (x:Tk × Int):Array Value:=#[Ug x.1,.int .i64 x.2]
theorem Qt (k:Nat):((k:Int) == 4)=(k == 4):=by
 by_cases h:k=4
 ·subst h;rfl
 ·rw [beq_eq_false_iff_ne.2 h,beq_eq_false_iff_ne]
  omega
set_option maxRecDepth 100000 in
set_option maxHeartbeats 4000000 in
theorem Lf (n:Nat) (N C:Int) (s:ByteArray) (b:Nat) (R T:Nat→Prop) (W:World) (hb:W.heap[b]?=some (.cells #[.int .i64 N,.int .i64 C,.string s] 107))
  (hR:∀ r,R r→r<W.heap.size) (hs:s.size≤1100000) (hc0:0≤C) (hc1:C+s.size≤1000000000) (hn:8≤n) :
  Tb Fence.wide n Tryz.prog 139 #[.pointer (some ⟨b,0,none⟩)] T8 (P19.steps (s.size+1) false N C s.data.toList) R T W:=by
 intro l J Jx hJ hJx hM hY M0 hT h0
 have h1:1≤n:=by omega
 obtain ⟨⟨x0,_⟩,⟨x1,_⟩,⟨x2,_⟩⟩:=Ay hb
 obtain ⟨L,hL⟩:∃ L,P19.steps (s.size+1) false N C s.data.toList=L:=⟨_,rfl⟩
 rw [hL] at hY ⊢
 have HL:=Ab hL
 have HM:=Ab hM
 have HJ:=Ab hJ
 have HJX:=Ab hJx
 have HRR:=Ab hR
 clear hL hM hT hJ hJx hR
 refine callsIn_of_wp Tryz.func139 rfl trivial ?_ rfl
 simp only [Tryz.ntmps139,List.size_toArray,List.length_cons,List.length_nil,Nat.reduceAdd,Nat.reduceSub,Array.replicate_succ,Array.replicate_zero,List.push_toArray,List.append_toArray,List.nil_append,List.cons_append]
 gi_wp2
 gi_loopg [3,4] (s.size+1) (fun f s3 s4 wx=>∃ (i:Nat) (M:Nat→Prop) (v:Bool) (col:Int) (x:ByteArray) (g:Nat),s3=.bool v∧s4=.pointer (some ⟨g,0,none⟩) ∧
  wx.heap[g]?=some (.cells #[.int .i64 N,.int .i64 col,.string x] 187)∧Hid (¬ M g∧¬ R g)∧x.size<f∧x.size≤1100000∧0≤col∧col+x.size≤1000000000∧W.heap.size≤wx.heap.size∧i≤L.length ∧
  Hid (L.drop i=P19.steps f v N col x.data.toList)∧Hid (J i M wx))
 case atStart=>
  refine ⟨0,M0,false,C,s,W.heap.size,rfl,rfl,?_,Ab ⟨fun h=>?_,fun h=>?_⟩,by omega,hs,hc0,hc1,by simp,Nat.zero_le _,Ab (Aa HL).symm,Ab ((Aa HJ).alloc _ h0)⟩
  ·exact World.alloc_heap_new W _
  ·have:=(Aa HM 0 M0 W h0 _ h).1;omega
  ·have:=Aa HRR _ h;omega
 case round=>
  obtain ⟨i,M,v,col,x,g,rfl,rfl,hg,HG,hf,hx,hcol,hcx,hsz,hil,HD,HJi⟩:=hrel
  cases gk with
  | zero=>exact absurd hf (Nat.not_lt_zero _)
  | succ f=>
   obtain ⟨⟨y0,_⟩,⟨y1,_⟩,⟨y2,_⟩⟩:=Ay hg
   have hgl:g<wr.heap.size:=(Array.getElem?_eq_some_iff.1 hg).1
   obtain ⟨⟨T1,P1,E1⟩,hN⟩:∃ r,P19.next v N col x.data.toList=r:=⟨_,rfl⟩
   have hnx:=Rs v N col x wr hx hcol (by omega)
   have hst:=Aa HD
   rw [P19.steps,hN] at hst
   simp only at hst
   rw [hN] at hnx
   have hleft:=P19.next_left v N col x.data.toList
   rw [hN] at hleft
   simp only at hleft
   rw [← Lib.size_eq] at hleft
   have hLi:L[i]?=some (T1,E1):=by
    have:=congrArg (fun z=>z[0]?) hst
    simpa using this
   have hil2:i<L.length:=(List.getElem?_eq_some_iff.1 hLi).1
   have hLn:L.drop (i+1)=if E1≠0∨P1.2.2=[] then [] else P19.steps f (T1.1 == 4) P1.1 P1.2.1 P1.2.2:=by
    have:=congrArg (fun z=>z.drop 1) hst
    simpa [List.drop_drop] using this
   have HNX:=Ab hnx
   have HLI:=Ab hLi
   have HLN:=Ab hLn
   have HLF:=Ab hleft
   clear hnx hLi hLn hst hN hleft HD
   obtain ⟨k,t,tn,tc⟩:=T1
   obtain ⟨pn,pc,ps⟩:=P1
   unfold Ug Vm C0 at HNX
   gi_upto_region 3 with (refine ⟨trivial,?_⟩;gi_at_call 140;refine (callsIn_wide.2 (Aa HNX)).mono ?_;rintro e w1 ⟨rfl,hb1⟩)
   obtain ⟨H,hH⟩:∃ H,w1.heap.size=H:=⟨_,rfl⟩
   obtain ⟨V2,hV2⟩:∃ V2,(w1.alloc (.cells #[.int .u8 k,.string ⟨t.toArray⟩,.int .i64 tn,.int .i64 tc] 124)).alloc (.cells #[.int .i64 pn,.int .i64 pc,.string ⟨ps.toArray⟩] 187)=V2:=⟨_,rfl⟩
   have hsz1:=hb1.size
   have hT2:V2.heap[H]?=some (.cells #[.int .u8 k,.string ⟨t.toArray⟩,.int .i64 tn,.int .i64 tc] 124):=by
    rw [← hV2,← hH];exact (Below.heap_alloc _ _ _ (by simp)).trans (World.alloc_heap_new w1 _)
   have hP2:V2.heap[H+1]?=some (.cells #[.int .i64 pn,.int .i64 pc,.string ⟨ps.toArray⟩] 187):=by
    rw [← hV2,← hH];exact Cy w1 _ _
   have hg2:V2.heap[g]?=some (.cells #[.int .i64 N,.int .i64 col,.string x] 187):=by
    rw [← hV2];exact (Below.heap_alloc _ _ _ (by simp;omega)).trans ((Below.heap_alloc _ _ _ (by omega)).trans ((hb1.block g hgl).trans hg))
   have hgr2:wr.grownBy V2 none:=by
    rw [← hV2];exact Cd (Cd (Aj hb1 none) (World.grownBy_alloc _ _ none)) (World.grownBy_alloc _ _ none)
   rw [hV2,hH]
   clear hV2 x0 x1 x2 y0 y1 y2 hb hg
   have hJ2:=(Aa HJ) i M wr V2 none (Aa HJi) hgr2 (fun r e=>by cases e)
   have hsz2:=hgr2.size
   have hMl:∀ r,M r→r<wr.heap.size:=fun r hr=>(Aa HM i M wr (Aa HJi) r hr).1
   have hMR:∀ r,M r→¬ R r:=fun r hr=>(Aa HM i M wr (Aa HJi) r hr).2
   have hYa:=(hY i _ M V2 (Aa HLI) hJ2 (by omega)).mono
    (R':=fun e W'=>∃ bb,e=.returned (.bool bb)∧Hid (∃ M',Au M V2 M' W'∧((bb=true∧J (i+1) M' W')∨(bb=false∧Jx (i+1) M' W')))) (by
     rintro e W' ⟨M',hk,(⟨rfl,h⟩ | ⟨rfl,h⟩)⟩
     ·exact ⟨true,rfl,Ab ⟨M',hk,.inl ⟨rfl,h⟩⟩⟩
     ·exact ⟨false,rfl,Ab ⟨M',hk,.inr ⟨rfl,h⟩⟩⟩)
   have HML:=Ab hMl
   have HMR:=Ab hMR
   clear hY hJ2 hMl hMR
   obtain ⟨fn,tmps,assign,body,hy,hR⟩:=hYa
   replace hy:(Instr.yield l #[.agg #[.int .u8 k,.string ⟨t.toArray⟩,.int .i64 tn,.int .i64 tc],.int .i64 E1]).run Tryz.prog V2=.ok (.round l fn tmps assign body) V2:=hy
   obtain ⟨⟨t0,_⟩,⟨t1,_⟩,⟨t2,_⟩,⟨t3,_⟩⟩:=A1 hT2
   gi_wp2
   refine hR.mono ?_
   rintro e W3 ⟨bb,rfl,HB⟩
   have hgl2:g<V2.heap.size:=(Array.getElem?_eq_some_iff.1 hg2).1
   have hHl2:H+1<V2.heap.size:=(Array.getElem?_eq_some_iff.1 hP2).1
   have hk3:∀ r,¬ M r→r<V2.heap.size→W3.heap[r]?=V2.heap[r]?:=by
    obtain ⟨M',hk,_⟩:=Aa HB
    exact hk.same
   have hs3:V2.heap.size≤W3.heap.size:=by
    obtain ⟨M',hk,_⟩:=Aa HB
    exact hk.size
   have hT3:=(hk3 H (fun h=>by have:=Aa HML H h;omega) (by omega)).trans hT2
   have hP3:=(hk3 (H+1) (fun h=>by have:=Aa HML (H+1) h;omega) hHl2).trans hP2
   have hg3:=(hk3 g (Aa HG).1 hgl2).trans hg2
   obtain ⟨⟨u0,_⟩,⟨u1,_⟩,⟨u2,_⟩,⟨u3,_⟩⟩:=A1 hT3
   obtain ⟨⟨q0,_⟩,⟨q1,_⟩,⟨q2,_⟩⟩:=Ay hP3
   obtain ⟨⟨g0,f0⟩,⟨g1,f1⟩,⟨g2,f2⟩⟩:=Ay hg3
   clear hk3 t0 t1 t2 t3 hy hR hT2 hP2 hg2 hT3 hP3
   cases bb
   ·gi_wp2
    refine bodyPost_ret (results_none rfl _ _ _) rfl ?_
    obtain ⟨M',hk,(⟨h,_⟩ | ⟨_,h⟩)⟩:=Aa HB
    ·cases h
    ·exact ⟨⟨_,rfl⟩,M',.inr ⟨i+1,hil2,h⟩⟩
   ·have hJ3:∃ M',Au M V2 M' W3∧J (i+1) M' W3:=by
     obtain ⟨M',hk,(⟨_,h⟩ | ⟨h,_⟩)⟩:=Aa HB
     ·exact ⟨M',hk,h⟩
     ·cases h
    have HJ3:=Ab hJ3
    clear hJ3 HB
    by_cases hstop:E1≠0∨ps=[]
    ·have hend:L.length=i+1:=by
      have h1:=Aa HLN
      rw [if_pos hstop,List.drop_eq_nil_iff] at h1
      omega
     have HEND:=Ab hend
     have hcase:(E1 != 0)=true∨((E1 != 0)=false∧ps=[]):=by
      by_cases hE:E1=0
      ·right;exact ⟨by simpa using hE,hstop.resolve_left (fun h=>h hE)⟩
      ·left;simpa using hE
     clear hstop hend
     rcases hcase with hE | ⟨hE,hps⟩
     ·gi_wp2
      refine bodyPost_ret (results_none rfl _ _ _) rfl ?_
      obtain ⟨M',_,h⟩:=Aa HJ3
      exact ⟨⟨_,rfl⟩,M',.inl (by rw [Aa HEND];exact h)⟩
     ·subst hps
      gi_wp2
      refine bodyPost_ret (results_none rfl _ _ _) rfl ?_
      obtain ⟨M',_,h⟩:=Aa HJ3
      exact ⟨⟨_,rfl⟩,M',.inl (by rw [Aa HEND];exact h)⟩
    ·have hE:(E1 != 0)=false:=by simpa using fun h=>hstop (.inl h)
     have hpn:ps≠[]:=fun h=>hstop (.inr h)
     have hln:=Aa HLN
     rw [if_neg hstop] at hln
     obtain ⟨l1,l2,l3,l4⟩:=Aa HLF (by simpa using hE) hpn
     subst l2
     have hne:ps.isEmpty=false:=by
      cases ps with
      | nil=>exact absurd rfl hpn
      | cons a r=>rfl
     have HLN2:=Ab hln
     have HPS:=Ab (show (⟨ps.toArray⟩:ByteArray).size=ps.length from by rw [Lib.size_eq])
     clear hstop hpn hln HLN
     obtain ⟨M',hkm,hj⟩:=Aa HJ3
     have hMg:¬ M' g:=fun h=>(hkm.more g h).elim (Aa HG).1 (by omega)
     have hnew:¬ M' W3.heap.size∧¬ R W3.heap.size:=by
      have h1:=Aa HJ
      refine ⟨fun h=>?_,fun h=>by have:=Aa HRR _ h;omega⟩
      have:=(Aa HM (i+1) M' W3 hj _ h).1
      omega
     have hjj:=(Aa HJ).alloc (.cells #[.int .i64 pn,.int .i64 pc,.string ⟨ps.toArray⟩] 187) ((Aa HJ) _ _ _ _ (some g) ((Aa HJ) _ _ _ _ (some g) ((Aa HJ) _ _ _ _ (some g) hj (Ap W3 g 0 (.int .i64 pn)) (fun r e=>by cases e;exact ⟨hMg,(Aa HG).2⟩)) (Ap _ g 1 (.int .i64 pc)) (fun r e=>by cases e;exact ⟨hMg,(Aa HG).2⟩)) (Ap _ g 2 (.string ⟨ps.toArray⟩)) (fun r e=>by cases e;exact ⟨hMg,(Aa HG).2⟩))
     have hb4:=Qt k
     have HJJ:=Ab hjj
     have HNEW:=Ab hnew
     clear hjj hnew hj hkm
     have hsz3:(((W3.setCell ⟨g,0,none⟩ (.int .i64 pn)).setCell ⟨g,1,none⟩ (.int .i64 pc)).setCell ⟨g,2,none⟩ (.string ⟨ps.toArray⟩)).heap.size=W3.heap.size:=by simp
     have hlast:=World.alloc_heap_new (((W3.setCell ⟨g,0,none⟩ (.int .i64 pn)).setCell ⟨g,1,none⟩ (.int .i64 pc)).setCell ⟨g,2,none⟩ (.string ⟨ps.toArray⟩)) (.cells #[.int .i64 pn,.int .i64 pc,.string ⟨ps.toArray⟩] 187)
     rw [hsz3] at hlast
     have HLAST:=Ab hlast
     have HB4:=Ab hb4
     clear hlast hb4 hsz3
     gi_wp2
     gi_roundg f
     case measure=>omega
     case rel=>
      refine ⟨i+1,M',k == 4,pc,⟨ps.toArray⟩,W3.heap.size,by rw [Aa HB4],rfl,Aa HLAST,HNEW,by rw [Aa HPS];omega,by rw [Aa HPS];omega,by omega,by rw [Aa HPS];omega,by simp;omega,hil2,HLN2,HJJ⟩
end Go.Proofs.YtnjokdbblmlhhaaGreatDoor
namespace Go.Proofs.YtnjokdbblmlhhaaGreatDoor
set_option linter.unusedVariables false
set_option linter.unusedSimpArgs false
open Go.RowKit
set_option maxRecDepth 100000 in
theorem Ri (n col:Int) (s:ByteArray) (w:World) :
  Calls Tryz.prog 102 #[.agg #[.int .i64 n,.int .i64 col,.string s]] w fun e w'=>e=.returned (.func (.func 139) #[] #[.pointer (some ⟨w.heap.size,0,none⟩)])∧w'=w.alloc (.cells #[.int .i64 n,.int .i64 col,.string s] 107):=by
 go_enter Tryz.func102,Tryz.ntmps102
 go_wp2
 go_ret
 exact ⟨rfl,rfl⟩
end Go.Proofs.YtnjokdbblmlhhaaGreatDoor
namespace Go.Proofs.YtnjokdbblmlhhaaGreatDoor
set_option linter.unusedVariables false
set_option linter.unusedSimpArgs false
open Go.RowKit
def Gd (W:World) (B:Nat) (v:Value) (zs:List Int):Prop:=W.ownsRow B 3 1 v zs.length (zs.map (Value.int .i64))
theorem S7:(Tryz.prog.info? 3).map (fun i=>(i.zero,i.size,i.bytes))=some (some (.int .i64 0),1,8):=by kernel_rfl
theorem Gd.drop_last {W:World} {B:Nat} {zs:List Int} {z:Int} {g n cap:Nat} (h:Gd W B (.slice (some ⟨g,0,none⟩) n cap) (zs ++ [z])):Gd W B (.slice (some ⟨g,0,none⟩) zs.length cap) zs:=by
 unfold Gd at h ⊢
 rcases h.2 with ⟨h1,_⟩ | ⟨g2,cap2,cur,h1,h2,h3,h4,h5,h6,h7⟩
 ·cases h1
 ·injection h1 with e1 e2 e3
  injection e1 with e1
  injection e1 with e1
  subst e1
  subst e3
  rw [List.length_append,List.length_singleton] at h4 h7
  refine ⟨by simp,.inr ⟨g,cap,cur,rfl,h2,h3,by omega,h5,h6,?_⟩⟩
  have:=congrArg (List.take zs.length) h7
  rw [List.take_take,show min zs.length ((zs.length+1) * 1)=zs.length from by omega] at this
  have e:List.take zs.length (List.map (Value.int .i64) (zs ++ [z]))=zs.map (Value.int .i64):=by simp
  rw [Nat.mul_one,this,e]
structure A7 (W:World) (B b:Nat) (v r:Value) (out:List Tk) (st:List Int):Prop where
 lies:W.heap[b]?=some (.cells #[v,r] 105)
 toks:Fc W B v out
 row:Gd W B r st.reverse
def Mn (b:Nat) (v r:Value) (x:Nat):Prop:=x=b∨v.ownBlock=some x∨r.ownBlock=some x
theorem Dj (M:Nat→Prop) (W:World) (o:Obj):Au M W M (W.alloc o):=.grown (World.grownBy_alloc W o none) (fun r e=>by cases e)
theorem Bi (M:Nat→Prop) (W:World) (n:Nat):Au M W M (W.drewN n):=⟨Nat.le_refl _,fun _ _ _=>rfl,fun _ h=>.inl h⟩
theorem Qi (b i:Nat) (v r r' u:Value) (W:World) (h:r'.ownBlock=r.ownBlock):Au (Mn b v r) W (Mn b v r') (W.setCell ⟨b,i,none⟩ u):=by
 have hk:=Au.grown (M:=Mn b v r) (Ap W b i u) (fun k e=>by cases e;exact .inl (.inl rfl))
 refine ⟨hk.size,hk.same,fun x hx=>.inl ?_⟩
 unfold Mn at hx ⊢
 rwa [h] at hx
theorem Fw {b:Nat} {v v' r u:Value} {W W1:World} (hg:W.grownBy W1 v.ownBlock) (hat:v'.ownBlock=v.ownBlock∨v'.ownBlock=some W.heap.size):Au (Mn b v r) W (Mn b v' r) (W1.setCell ⟨b,0,none⟩ u):=by
 have hk:=(Au.grown (M:=Mn b v r) hg (fun k e=>.inl (.inr (.inl e)))).trans (Au.grown (M:=Mn b v r) (Ap W1 b 0 u) (fun k e=>by cases e;exact .inl (.inl rfl)))
 refine ⟨hk.size,hk.same,fun x hx=>?_⟩
 rcases hx with h | h | h
 ·exact .inl (.inl h)
 ·rcases hat with h2 | h2
  ·exact .inl (.inr (.inl (h2.symm.trans h)))
  ·rw [h] at h2;injection h2 with h2;exact .inr (by omega)
 ·exact .inl (.inr (.inr h))
theorem Mu {b:Nat} {v r r' u:Value} {W W1:World} (hg:W.grownBy W1 r.ownBlock) (hat:r'.ownBlock=r.ownBlock∨r'.ownBlock=some W.heap.size):Au (Mn b v r) W (Mn b v r') (W1.setCell ⟨b,1,none⟩ u):=by
 have hk:=(Au.grown (M:=Mn b v r) hg (fun k e=>.inl (.inr (.inr e)))).trans (Au.grown (M:=Mn b v r) (Ap W1 b 1 u) (fun k e=>by cases e;exact .inl (.inl rfl)))
 refine ⟨hk.size,hk.same,fun x hx=>?_⟩
 rcases hx with h | h | h
 ·exact .inl (.inl h)
 ·exact .inl (.inr (.inl h))
 ·rcases hat with h2 | h2
  ·exact .inl (.inr (.inr (h2.symm.trans h)))
  ·rw [h] at h2;injection h2 with h2;exact .inr (by omega)
theorem Jn {w:World} {B:Nat} {v:Value} {ts:List Tk} {t:Tk} {ops:Array Oper} {rest:List Oper} {o:Oper} {a:Act} {Q:Exit→Act→World→Prop} (hgd:o.guard=none) (s x:Operand)
  (ho:o.op=.call { callee:=.builtin .append,args:=#[s,x],argTypes:=#[55,55] })
  (hs:a.eval s=v) (hown:Fc w B v ts) (g cap:Nat) (hx:a.eval x=.slice (some ⟨g,0,none⟩) 1 cap) (hnews:∀ j u,(Df t)[j]?=some u→w.cell? ((⟨g,0,none⟩:Addr).add j)=some u)
  (hlen:ts.length+1≤1000000000) (hB:B≤w.heap.size)
  (h:∀ g' cap' w',Fc w' B (.slice (some ⟨g',0,none⟩) (ts.length+1) cap') (ts ++ [t])→w.grownBy w' v.ownBlock→(some g'=v.ownBlock∨some g'=some w.heap.size)→wpList Tryz.prog ops Q rest (a.put o.dst (.slice (some ⟨g',0,none⟩) (ts.length+1) cap')) w') :
  wpList Tryz.prog ops Q (o :: rest) a w:=by
 obtain ⟨i,hi,hz,hsz,hby⟩:=info_parts Lk
 refine wpList_append_lies (P:=Tryz.prog) w hgd s x 55 ho B 124 i (.agg #[.int .u8 0,.string ⟨#[]⟩,.int .i64 0,.int .i64 0]) 4 40 Tryz.underlying55 hi hz hsz hby rfl (by decide) v ts.length (A5 ts) hs hown
  ⟨g,0,none⟩ 1 cap (Df t) hx rfl hnews (by intro u hu;exact Rr [t] u (by simpa [A5] using hu)) (by decide) (by unfold maxLen;omega) (by omega) hB _ rfl ?_
 intro g' cap' w' h2 h3 hat _
 refine h g' cap' w' ?_ h3 (hat.imp Eq.symm (fun e=>by rw [e]))
 unfold Fc
 rw [List.length_append,Ec]
 have e:A5 [t]=Df t:=by simp [A5]
 rw [e]
 exact h2
theorem I8 {W:World} {B size n:Nat} {e:TypeId} {v:Value} {xs:List Value} (h:W.ownsRow B e size v n xs) {g:Nat} (hg:v.ownBlock=some g):∃ cs,W.heap[g]?=some (.cells cs e (0,0)):=by
 rcases h.2 with ⟨h1,_⟩ | ⟨g2,cap2,cur,h1,h2,h3,_⟩
 ·subst h1;cases hg
 ·subst h1
  injection hg with hg
  subst hg
  exact ⟨cur,h3⟩
theorem Ef {W:World} {B size n b:Nat} {e t:TypeId} {v:Value} {xs:List Value} {cs:Array Value} (h:W.ownsRow B e size v n xs) (hb:W.heap[b]?=some (.cells cs t)) (hte:t≠e):v.ownBlock≠some b:=by
 intro hg
 obtain ⟨cs2,h2⟩:=I8 h hg
 rw [hb] at h2
 injection h2 with h2
 injection h2 with _ h2
 exact hte h2
theorem J4 {W:World} {B B' size size' n n':Nat} {e t:TypeId} {v v':Value} {xs xs':List Value} (h:W.ownsRow B e size v n xs) (h':W.ownsRow B' t size' v' n' xs') (hte:t≠e):v.ownBlock=none∨v.ownBlock≠v'.ownBlock:=by
 cases hv:v.ownBlock with
 | none=>exact .inl rfl
 | some g=>
  refine .inr fun e=>?_
  obtain ⟨cs,h2⟩:=I8 h' e.symm
  exact Ef h h2 hte hv
theorem Cj {W W':World} {B size n:Nat} {e:TypeId} {v:Value} {xs:List Value} {row:Option Nat} (h:W.ownsRow B e size v n xs) (hg:W.grownBy W' row) (hne:v.ownBlock=none∨v.ownBlock≠row):W'.ownsRow B e size v n xs:=World.ownsRow.kept h hg hne
theorem A7.alloc {W:World} {B b:Nat} {v r:Value} {out:List Tk} {st:List Int} (h:A7 W B b v r out st) (o:Obj):A7 (W.alloc o) B b v r out st:=
 ⟨(Below.heap_alloc _ _ _ (Array.getElem?_eq_some_iff.1 h.lies).1).trans h.lies,World.ownsRow.alloc h.toks o,World.ownsRow.alloc h.row o⟩
theorem A7.drewN {W:World} {B b:Nat} {v r:Value} {out:List Tk} {st:List Int} (h:A7 W B b v r out st) (n:Nat):A7 (W.drewN n) B b v r out st:=⟨h.lies,h.toks,h.row⟩
theorem A7.drew {W:World} {B b:Nat} {v r:Value} {out:List Tk} {st:List Int} (h:A7 W B b v r out st):A7 W.drew B b v r out st:=⟨h.lies,h.toks,h.row⟩
theorem A7.set1 {W:World} {B b:Nat} {v r r':Value} {out:List Tk} {st st':List Int} (h:A7 W B b v r out st) (hr:Gd W B r' st'.reverse):A7 (W.setCell ⟨b,1,none⟩ r') B b v r' out st':=by
 have hg:=Ap W b 1 r'
 refine ⟨by simp [World.setCell,Array.getElem?_modify,h.lies],Cj h.toks hg (.inr (Ef h.toks h.lies (by decide))),Cj hr hg (.inr (Ef hr h.lies (by decide)))⟩
theorem A7.far0 {W W1:World} {B b:Nat} {v r:Value} {out:List Tk} {st:List Int} (h:A7 W B b v r out st) (hg:W.grownBy W1 v.ownBlock):W1.heap[b]?=some (.cells #[v,r] 105)∧Gd W1 B r st.reverse:=
 ⟨(hg.block b (Array.getElem?_eq_some_iff.1 h.lies).1 (fun e=>Ef h.toks h.lies (by decide) e.symm)).trans h.lies,Cj h.row hg (J4 h.row h.toks (by decide))⟩
theorem A7.far1 {W W1:World} {B b:Nat} {v r:Value} {out:List Tk} {st:List Int} (h:A7 W B b v r out st) (hg:W.grownBy W1 r.ownBlock):W1.heap[b]?=some (.cells #[v,r] 105)∧Fc W1 B v out:=
 ⟨(hg.block b (Array.getElem?_eq_some_iff.1 h.lies).1 (fun e=>Ef h.row h.lies (by decide) e.symm)).trans h.lies,Cj h.toks hg (J4 h.toks h.row (by decide))⟩
theorem A7.push0 {W W1:World} {B b:Nat} {v r v':Value} {out out':List Tk} {st:List Int} (h:A7 W B b v r out st) (hg:W.grownBy W1 v.ownBlock) (ho:Fc W1 B v' out'):A7 (W1.setCell ⟨b,0,none⟩ v') B b v' r out' st:=by
 obtain ⟨h1,h2⟩:=h.far0 hg
 have hs:=Ap W1 b 0 v'
 exact ⟨by simp [World.setCell,Array.getElem?_modify,h1],Cj ho hs (.inr (Ef ho h1 (by decide))),Cj h2 hs (.inr (Ef h2 h1 (by decide)))⟩
theorem A7.push1 {W W1:World} {B b:Nat} {v r r':Value} {out:List Tk} {st st':List Int} (h:A7 W B b v r out st) (hg:W.grownBy W1 r.ownBlock) (ho:Gd W1 B r' st'.reverse):A7 (W1.setCell ⟨b,1,none⟩ r') B b v r' out st':=by
 obtain ⟨h1,h2⟩:=h.far1 hg
 have hs:=Ap W1 b 1 r'
 exact ⟨by simp [World.setCell,Array.getElem?_modify,h1],Cj h2 hs (.inr (Ef h2 h1 (by decide))),Cj ho hs (.inr (Ef ho h1 (by decide)))⟩
theorem A7.below0 {w W W1:World} {B b:Nat} {v r:Value} {out:List Tk} {st:List Int} (h:A7 W B b v r out st) (hB:B≤b) (hb:Below B w W) (hg:W.grownBy W1 v.ownBlock) (v':Value):Below B w (W1.setCell ⟨b,0,none⟩ v'):=by
 have hl:=(Array.getElem?_eq_some_iff.1 h.lies).1
 have h1:=hb.grown hg (by omega) (fun k e=>(World.ownsRow.lt h.toks k e).1)
 exact h1.grown (Ap W1 b 0 v') (by have:=hg.size;omega) (fun k e=>by cases e;exact hB)
theorem A7.below1 {w W W1:World} {B b:Nat} {v r:Value} {out:List Tk} {st:List Int} (h:A7 W B b v r out st) (hB:B≤b) (hb:Below B w W) (hg:W.grownBy W1 r.ownBlock) (v':Value):Below B w (W1.setCell ⟨b,1,none⟩ v'):=by
 have hl:=(Array.getElem?_eq_some_iff.1 h.lies).1
 have h1:=hb.grown hg (by omega) (fun k e=>(World.ownsRow.lt h.row k e).1)
 exact h1.grown (Ap W1 b 1 v') (by have:=hg.size;omega) (fun k e=>by cases e;exact hB)
theorem Gd.form {W:World} {B:Nat} {v:Value} {zs:List Int} (h:Gd W B v zs) (hn:zs≠[]):∃ g cap,v=.slice (some ⟨g,0,none⟩) zs.length cap∧B≤g∧g<W.heap.size:=
 World.ownsRow.form h (List.length_pos_iff.2 hn)
theorem Gd.cell {W:World} {B g n cap:Nat} {zs:List Int} (h:Gd W B (.slice (some ⟨g,0,none⟩) n cap) zs) (hn:n=zs.length) {j:Nat} {z:Int} (hj:zs[j]?=some z):W.cell? ⟨g,j,none⟩=some (.int .i64 z):=by
 subst hn
 have h1:=World.ownsRow.cellAt h j (by have:=(List.getElem?_eq_some_iff.1 hj).1;omega)
 rw [h1,List.getElem?_map,hj]
 rfl
theorem Ln {W:World} {B g n cap size:Nat} {e:TypeId} {xs:List Value} (h:W.ownsRow B e size (.slice (some ⟨g,0,none⟩) n cap) n xs):n≤cap∧cap≤9223372036854775807:=by
 rcases h.2 with ⟨h1,_⟩ | ⟨g2,cap2,cur,h1,h2,h3,h4,h5,h6,h7⟩
 ·cases h1
 ·injection h1 with e1 e2 e3
  subst e3
  exact ⟨h4,by unfold maxLen at h5;omega⟩
theorem Cb {W:World} {g:Nat} {t:TypeId} {a b:Value} (h:W.heap[g]?=some (.cells #[a,b] t)) :
  (W.cell? ⟨g,0,none⟩=some a∧W.frozen? ⟨g,0,none⟩=false)∧(W.cell? ⟨g,1,none⟩=some b∧W.frozen? ⟨g,1,none⟩=false):=by
 simp [World.cell?,World.frozen?,h]
set_option maxRecDepth 100000 in
set_option maxHeartbeats 1600000 in
theorem Dr (B b:Nat) (v r:Value) (out:List Tk) (x:Int) (st:List Int) (w:World) (h:A7 w B b v r out (x :: st)) (hl:st.length≤1000) :
  Calls Tryz.prog 103 #[.pointer (some ⟨b,0,none⟩)] w fun e w'=>e=.returned (.int .i64 x)∧∃ n,w'=w.drewN n:=by
 obtain ⟨hb,ho,hr⟩:=h
 obtain ⟨g,cap,rfl,hg1,hg2⟩:=hr.form (by simp)
 have hlen:(x :: st).reverse.length=st.length+1:=by simp
 rw [hlen] at hb hr
 have hc:=hr.cell (by simp) (j:=st.length) (z:=x) (by simp)
 obtain ⟨⟨c0,_⟩,⟨c1,_⟩⟩:=Cb hb
 obtain ⟨m,hm⟩:∃ m,st.length=m:=⟨_,rfl⟩
 rw [hm] at hc c1 hl
 clear hb ho hr hlen hm
 go_enter Tryz.func103,Tryz.ntmps103
 go_wp2
 go_quiet (fail)
 go_wp2_with fail
 go_ret
 exact ⟨rfl,_,rfl⟩
theorem B2 {B:Nat} {a w:World} (h:Below B a w) (n:Nat):Below B a (w.drewN n):=⟨h.os,h.tape,h.output,h.size,h.block⟩
theorem Cv {B:Nat} {a w:World} (h:Below B a w) (hB:B≤w.heap.size) (o:Obj):Below B a (w.alloc o):=h.grown (World.grownBy_alloc w o none) hB (fun k e=>by cases e)
theorem Fe (W:World) (a b c d:Value) (t:TypeId):∀ j u,[a,b,c,d][j]?=some u→(W.alloc (.cells #[a,b,c,d] t)).cell? ((⟨W.heap.size,0,none⟩:Addr).add j)=some u:=by
 obtain ⟨⟨k0,_⟩,⟨k1,_⟩,⟨k2,_⟩,⟨k3,_⟩⟩:=A1 (World.alloc_heap_new W (.cells #[a,b,c,d] t))
 intro j u h
 match j,h with
 | 0,h=>simp at h;subst h;exact k0
 | 1,h=>simp at h;subst h;exact k1
 | 2,h=>simp at h;subst h;exact k2
 | 3,h=>simp at h;subst h;exact k3
set_option maxRecDepth 100000 in
set_option maxHeartbeats 3200000 in
theorem Kf (B b:Nat) (v0 r0:Value) (out:List Tk) (st:List Int) (n col tc:Int) (w:World) (h:A7 w B b v0 r0 out st) (hB:B≤b) (hl:st.length≤1000) (ho:out.length≤101000000) (hr:P19.Row st) (hc:0≤col) :
  Calls Tryz.prog 66 #[.pointer (some ⟨b,0,none⟩),.int .i64 n,.int .i64 col,.int .i64 tc] w fun e w'=>(∃ v,e=.returned v) ∧
   (∃ v' r',A7 w' B b v' r' (out ++ (P19.close n col tc st).1) (P19.close n col tc st).2∧Au (Mn b v0 r0) w (Mn b v' r') w')∧Below B w w':=by
 have hmx:Tryz.prog.follows .mixedOrders=true:=by kernel_rfl
 go_enter Tryz.func66,Tryz.ntmps66
 go_wp2
 go_loopg [] st.length (fun g wx=>∃ (o2:List Tk) (s2:List Int),Hid (s2.length=g)∧P19.Row s2∧(∃ v2 r2,A7 wx B b v2 r2 o2 s2∧Hid (Au (Mn b v0 r0) w (Mn b v2 r2) wx))∧s2.length≤1000∧o2.length+s2.length≤101001000 ∧
  Hid (out ++ (P19.close n col tc st).1=o2 ++ (P19.close n col tc s2).1)∧Hid ((P19.close n col tc st).2=(P19.close n col tc s2).2)∧Below B w wx)
 case atStart=>exact ⟨out,st,rfl,hr,⟨v0,r0,h,Ab (Au.refl _ _)⟩,hl,by omega,Ab rfl,Ab rfl,⟨rfl,rfl,rfl,Nat.le_refl _,fun _ _=>rfl⟩⟩
 case round=>
  obtain ⟨o2,s2,hg,hrow,⟨v,r,hN,HKP⟩,hl2,hol,H1,H2,hbel⟩:=hrel
  cases s2 with
  | nil=>exact absurd rfl (P19.row_ne hrow)
  | cons x s3=>
   simp only [List.length_cons] at hl2 hol
   by_cases hx:col<x
   ·have e1:=Aa H1
    have e2:=Aa H2
    rw [P19.close,if_pos hx] at e1 e2
    have E1:=Ab e1
    have E2:=Ab e2
    clear e1 e2 H1 H2
    have hrow3:=P19.row_pop hrow (by omega)
    go_wp2_with (go_at_call 103;refine (Dr B b v r o2 x s3 wr hN (by omega)).mono ?_;rintro e w' ⟨rfl,nd,hw⟩;have hV:A7 w' B b v r o2 (x :: s3):=(by rw [hw];exact hN.drewN nd);have HKW:Hid (Au (Mn b v0 r0) w (Mn b v r) w'):=Ab (by rw [hw];exact (Aa HKP).trans (Bi _ _ _));have hbel':Below B w w':=(by rw [hw];exact B2 hbel nd);clear hw)
    obtain ⟨gr,cap,rfl,hgr1,hgr2⟩:=hV.row.form (by simp)
    rw [List.length_reverse,List.length_cons] at hV
    have hrow':=hV.row
    rw [List.reverse_cons] at hrow'
    have hdl:=hrow'.drop_last
    rw [List.length_reverse] at hdl
    obtain ⟨⟨c0,f0⟩,⟨c1,f1⟩⟩:=Cb hV.lies
    obtain ⟨hcp1,hcp2⟩:=Ln (show w'.ownsRow B 3 1 (.slice (some ⟨gr,0,none⟩) (s3.length+1) cap) (s3.length+1) _ from by have:=hrow';unfold Gd at this;rw [List.length_append,List.length_reverse,List.length_singleton] at this;exact this)
    have hcpi:(s3.length:Int)+1≤(cap:Int):=by omega
    have hcpj:(cap:Int)≤9223372036854775807:=by omega
    have hcpk:(s3.length:Int)≤(cap:Int):=by omega
    have hcpl:s3.length≤cap:=by omega
    have hw1:IntKind.i64.wrap ((s3.length:Int)+1 - 1)=(s3.length:Int):=by rw [Int.add_sub_cancel];exact IntWalk.i64_in _ (by omega)
    have hbl:b<w'.heap.size:=(Array.getElem?_eq_some_iff.1 hV.lies).1
    have hV2:=hV.set1 (r':=.slice (some ⟨gr,0,none⟩) s3.length cap) hdl
    have hVX:=Ab ((hV2.alloc (.cells #[.int .u8 2,.string ⟨#[]⟩,.int .i64 n,.int .i64 tc] 124)).drew)
    have hNX:=Fe (w'.setCell ⟨b,1,none⟩ (.slice (some ⟨gr,0,none⟩) s3.length cap)) (.int .u8 2) (.string ⟨#[]⟩) (.int .i64 n) (.int .i64 tc) 124
    rw [show (w'.setCell ⟨b,1,none⟩ (.slice (some ⟨gr,0,none⟩) s3.length cap)).heap.size=w'.heap.size from by simp] at hNX
    have HNX:=Ab hNX
    clear hV2 hNX hrow' hdl hcp1 hV
    go_region
    go_wp2_with (at_builtin;refine Jn (t:=(2,[],n,tc)) rfl (.tmp 30) (.tmp 34) rfl rfl (Aa hVX).toks w'.heap.size 1 rfl (Aa HNX) (by omega) (by simp;omega) ?_;intro g1 cap1 w1 hown1 hgrow hat;obtain ⟨hl1,hr1⟩:=(Aa hVX).far0 hgrow;obtain ⟨⟨d0,k0⟩,⟨d1,k1⟩⟩:=Cb hl1)
    have hbX:Below B w ((w'.setCell ⟨b,1,none⟩ (.slice (some ⟨gr,0,none⟩) s3.length cap)).alloc (.cells #[.int .u8 2,.string ⟨#[]⟩,.int .i64 n,.int .i64 tc] 124)).drew:=
     B2 (Cv (hbel'.grown (Ap w' b 1 _) (by omega) (fun k e=>by cases e;exact hB)) (by simp;omega) _) 1
    have hown1':Fc w1 B (.slice (some ⟨g1,0,none⟩) (o2.length+1) cap1) (o2 ++ [(2,[],n,tc)]):=hown1
    have hpush:=(Aa hVX).push0 hgrow hown1'
    have hkeep:=(((Aa HKW).trans (Qi b 1 v _ (.slice (some ⟨gr,0,none⟩) s3.length cap) (.slice (some ⟨gr,0,none⟩) s3.length cap) w' rfl)).trans ((Dj _ _ (.cells #[.int .u8 2,.string ⟨#[]⟩,.int .i64 n,.int .i64 tc] 124)).trans (Bi _ _ 1))).trans (Fw (v':=.slice (some ⟨g1,0,none⟩) (o2.length+1) cap1) (u:=.slice (some ⟨g1,0,none⟩) (o2.length+1) cap1) hgrow hat)
    have hbelow:=(Aa hVX).below0 hB hbX hgrow (.slice (some ⟨g1,0,none⟩) (o2.length+1) cap1)
    go_roundg (gk - 1)
    case measure=>have:=Aa hg;simp at this;omega
    case rel=>
     refine ⟨o2 ++ [(2,[],n,tc)],s3,Ab (by have:=Aa hg;simp at this;omega),hrow3,⟨_,_,hpush,Ab hkeep⟩,by omega,by simp;omega,Ab (by rw [Aa E1];simp),E2,hbelow⟩
   ·have e1:=Aa H1
    have e2:=Aa H2
    rw [P19.close,if_neg hx] at e1 e2
    have E1:=Ab e1
    have E2:=Ab e2
    clear e1 e2 H1 H2
    have hx2:x≤col:=by omega
    go_wp2_with (go_at_call 103;refine (Dr B b v r o2 x s3 wr hN (by omega)).mono ?_;rintro e w' ⟨rfl,nd,hw⟩;have hV:A7 w' B b v r o2 (x :: s3):=(by rw [hw];exact hN.drewN nd);have HKW:Hid (Au (Mn b v0 r0) w (Mn b v r) w'):=Ab (by rw [hw];exact (Aa HKP).trans (Bi _ _ _));have hbel':Below B w w':=(by rw [hw];exact B2 hbel nd);clear hw)
    go_end0
    refine ⟨⟨_,rfl⟩,⟨v,r,?_,Aa HKW⟩,hbel'⟩
    rw [Aa E1,Aa E2]
    simpa using hV
end Go.Proofs.YtnjokdbblmlhhaaGreatDoor
namespace Go.Proofs.YtnjokdbblmlhhaaGreatDoor
set_option linter.unusedVariables false
set_option linter.unusedSimpArgs false
open Go.RowKit
theorem L9 {w:World} {B:Nat} {v:Value} {zs:List Int} {z:Int} {ops:Array Oper} {o:Oper} {a:Act} {K:Act→World→Prop} {Q:Exit→Act→World→Prop} {E:Prop} (hgd:o.guard=none) (s x:Operand)
  (ho:o.op=.call { callee:=.builtin .append,args:=#[s,x],argTypes:=#[103,103] })
  (hs:a.eval s=v) (hown:Gd w B v zs) (g cap:Nat) (hx:a.eval x=.slice (some ⟨g,0,none⟩) 1 cap) (hnew:w.cell? ⟨g,0,none⟩=some (.int .i64 z))
  (hlen:zs.length+1≤1000000000) (hB:B≤w.heap.size)
  (h:∀ g' cap' w',Gd w' B (.slice (some ⟨g',0,none⟩) (zs.length+1) cap') (zs ++ [z])→w.grownBy w' v.ownBlock→(some g'=v.ownBlock∨some g'=some w.heap.size)→K (a.put o.dst (.slice (some ⟨g',0,none⟩) (zs.length+1) cap')) w') :
  if Region.wanted o (yielded ops a.tmps)=true then Oper.wp Tryz.prog o a w K Q else E:=by
 obtain ⟨i,hi,hz,hsz,hby⟩:=info_parts S7
 refine step_append_lies (P:=Tryz.prog) w hgd s x 103 ho B 3 i (.int .i64 0) 1 8 Tryz.underlying103 hi hz hsz hby rfl (by decide) v zs.length (zs.map (Value.int .i64)) hs hown
  ⟨g,0,none⟩ 1 cap [.int .i64 z] hx rfl (by intro j u hj;match j,hj with | 0,hj=>simp at hj;subst hj;exact hnew) (by intro u hu;simp at hu;subst hu;rfl) (by decide) (by unfold maxLen;omega) (by omega) hB _ rfl ?_
 intro g' cap' w' h2 h3 hat _
 refine h g' cap' w' ?_ h3 (hat.imp Eq.symm (fun e=>by rw [e]))
 unfold Gd
 rw [List.length_append,List.map_append]
 exact h2
theorem H9 {w:World} {B:Nat} {v:Value} {ts:List Tk} {t:Tk} {ops:Array Oper} {o:Oper} {a:Act} {K:Act→World→Prop} {Q:Exit→Act→World→Prop} {E:Prop} (hgd:o.guard=none) (s x:Operand)
  (ho:o.op=.call { callee:=.builtin .append,args:=#[s,x],argTypes:=#[55,55] })
  (hs:a.eval s=v) (hown:Fc w B v ts) (g cap:Nat) (hx:a.eval x=.slice (some ⟨g,0,none⟩) 1 cap) (hnew:∀ j u,(Df t)[j]?=some u→w.cell? ((⟨g,0,none⟩:Addr).add j)=some u)
  (hlen:ts.length+1≤1000000000) (hB:B≤w.heap.size)
  (h:∀ g' cap' w',Fc w' B (.slice (some ⟨g',0,none⟩) (ts.length+1) cap') (ts ++ [t])→w.grownBy w' v.ownBlock→(some g'=v.ownBlock∨some g'=some w.heap.size)→K (a.put o.dst (.slice (some ⟨g',0,none⟩) (ts.length+1) cap')) w') :
  if Region.wanted o (yielded ops a.tmps)=true then Oper.wp Tryz.prog o a w K Q else E:=by
 obtain ⟨i,hi,hz,hsz,hby⟩:=info_parts Lk
 refine step_append_lies (P:=Tryz.prog) w hgd s x 55 ho B 124 i (.agg #[.int .u8 0,.string ⟨#[]⟩,.int .i64 0,.int .i64 0]) 4 40 Tryz.underlying55 hi hz hsz hby rfl (by decide) v ts.length (A5 ts) hs hown
  ⟨g,0,none⟩ 1 cap (Df t) hx rfl hnew (by intro u hu;exact Rr [t] u (by simpa [A5] using hu)) (by decide) (by unfold maxLen;omega) (by omega) hB _ rfl ?_
 intro g' cap' w' h2 h3 hat _
 refine h g' cap' w' ?_ h3 (hat.imp Eq.symm (fun e=>by rw [e]))
 unfold Fc
 rw [List.length_append,Ec]
 have e:A5 [t]=Df t:=by simp [A5]
 rw [e]
 exact h2
set_option maxRecDepth 100000 in
set_option maxHeartbeats 3200000 in
theorem Lm (B b:Nat) (v r:Value) (out:List Tk) (st:List Int) (k:Nat) (tb:ByteArray) (n col:Int) (w:World) (h:A7 w B b v r out st) (hB:B≤b) (hl:st.length≤1000) (ho:out.length≤101000000) :
  Calls Tryz.prog 104 #[.pointer (some ⟨b,0,none⟩),.agg #[.int .u8 k,.string tb,.int .i64 n,.int .i64 col]] w fun e w'=>Below B w w' ∧
   ((16≤st.length∧e=.returned (.int .i64 11)∧∃ M',Au (Mn b v r) w M' w')∨(st.length<16∧e=.returned (.int .i64 0)∧∃ v' r',A7 w' B b v' r' (out ++ [(1,[],n,col)]) (col :: st)∧Au (Mn b v r) w (Mn b v' r') w')):=by
 have hmx:Tryz.prog.follows .mixedOrders=true:=by kernel_rfl
 have hV0:=h
 have hbl:b<w.heap.size:=(Array.getElem?_eq_some_iff.1 hV0.lies).1
 have hVX:=Ab (((hV0.alloc (.cells #[.int .u8 k,.string tb,.int .i64 n,.int .i64 col] 124)).alloc (.cells #[.int .i64 col] 3)).drew)
 obtain ⟨⟨k0,_⟩,⟨k1,_⟩,⟨k2,_⟩,⟨k3,_⟩⟩:=A1 (World.alloc_heap_new w (.cells #[.int .u8 k,.string tb,.int .i64 n,.int .i64 col] 124))
 have hl0:=(hV0.alloc (.cells #[.int .u8 k,.string tb,.int .i64 n,.int .i64 col] 124)).lies
 obtain ⟨⟨c0,f0⟩,⟨c1,f1⟩⟩:=Cb hl0
 have hl2:=((hV0.alloc (.cells #[.int .u8 k,.string tb,.int .i64 n,.int .i64 col] 124)).alloc (.cells #[.int .i64 col] 3)).lies
 obtain ⟨⟨e0,m0⟩,⟨e1,m1⟩⟩:=Cb hl2
 obtain ⟨H,hH⟩:∃ H,w.heap.size=H:=⟨_,rfl⟩
 have hnx:((w.alloc (.cells #[.int .u8 k,.string tb,.int .i64 n,.int .i64 col] 124)).alloc (.cells #[.int .i64 col] 3)).drew.cell? ⟨H+1,0,none⟩=some (.int .i64 col):=by
  have h1:=World.alloc_heap_new (w.alloc (.cells #[.int .u8 k,.string tb,.int .i64 n,.int .i64 col] 124)) (.cells #[.int .i64 col] 3)
  rw [World.size_alloc,hH] at h1
  show World.cell? _ _=_
  simp [World.cell?,World.drew,h1]
 obtain ⟨ra,rm,rc,rfl⟩:=E8 hV0.row
 have HK0:=Ab (((Dj (Mn b v (.slice ra rm rc)) w (.cells #[.int .u8 k,.string tb,.int .i64 n,.int .i64 col] 124)).trans (Dj _ _ (.cells #[.int .i64 col] 3))).trans (Bi _ _ 1))
 have hstl:st.reverse.length+1≤1000000000:=by rw [List.length_reverse];omega
 have hBs:B≤((w.alloc (.cells #[.int .u8 k,.string tb,.int .i64 n,.int .i64 col] 124)).alloc (.cells #[.int .i64 col] 3)).drew.heap.size:=by
  show B≤((w.alloc (.cells #[.int .u8 k,.string tb,.int .i64 n,.int .i64 col] 124)).alloc (.cells #[.int .i64 col] 3)).heap.size
  simp;omega
 have hHT:((w.alloc (.cells #[.int .u8 k,.string tb,.int .i64 n,.int .i64 col] 124)).alloc (.cells #[.int .i64 col] 3)).drew.heap[H]?=some (.cells #[.int .u8 k,.string tb,.int .i64 n,.int .i64 col] 124):=by
  show ((w.alloc (.cells #[.int .u8 k,.string tb,.int .i64 n,.int .i64 col] 124)).alloc (.cells #[.int .i64 col] 3)).heap[H]?=_
  rw [← hH]
  exact (Below.heap_alloc _ _ _ (by simp)).trans (World.alloc_heap_new w _)
 have hbel0:Below B w ((w.alloc (.cells #[.int .u8 k,.string tb,.int .i64 n,.int .i64 col] 124)).alloc (.cells #[.int .i64 col] 3)).drew:=
  B2 (Cv (Cv (Below.refl _ _) (by omega) _) (by simp;omega) _) 1
 have HNX:=Ab hnx
 have HHT:=Ab hHT
 clear hHT
 clear hl0 hl2 hV0 hnx h
 go_enter Tryz.func104,Tryz.ntmps104
 go_wp2
 go_region_law (refine L9 (by rfl) _ _ (by rfl) (by rfl) (Aa hVX).row (H+1) 1 (by rfl) (Aa HNX) hstl hBs ?_;intro g1 cap1 w1 hown1 hgrow hat;obtain ⟨hl1,hr1⟩:=(Aa hVX).far1 hgrow;obtain ⟨⟨d0,j0⟩,⟨d1,j1⟩⟩:=Cb hl1)
 all_goals (
  rw [List.length_reverse,← List.reverse_cons] at hown1
  have hP:=(Aa hVX).push1 (st':=col :: st) hgrow hown1
  have HK1:=Ab ((Aa HK0).trans (Mu (v:=v) (r':=.slice (some ⟨g1,0,none⟩) (st.length+1) cap1) (u:=.slice (some ⟨g1,0,none⟩) (st.length+1) cap1) hgrow hat))
  have hB3:=(Aa hVX).below1 hB hbel0 hgrow (.slice (some ⟨g1,0,none⟩) (st.length+1) cap1)
  have hT3:(w1.setCell ⟨b,1,none⟩ (.slice (some ⟨g1,0,none⟩) (st.length+1) cap1)).heap[H]?=some (.cells #[.int .u8 k,.string tb,.int .i64 n,.int .i64 col] 124):=
   (Below.heap_setCell _ _ _ _ (by show H≠b;omega)).trans ((hgrow.block H (Array.getElem?_eq_some_iff.1 (Aa HHT)).1 (fun e=>Ef (Aa hVX).row (Aa HHT) (by decide) e.symm)).trans (Aa HHT))
  obtain ⟨W3,hW3⟩:∃ W3,w1.setCell ⟨b,1,none⟩ (.slice (some ⟨g1,0,none⟩) (st.length+1) cap1)=W3:=⟨_,rfl⟩
  rw [hW3] at hP hB3 hT3 HK1 ⊢
  clear hat HK0 hW3 hown1 hgrow hl1 hr1 d0 j0 d1 j1 hVX HNX HHT hbel0 k0 k1 k2 k3 c0 f0 c1 f1 e0 m0 e1 m1 hBs w1
  have hl3:=hP.lies
  have hl4:=(hP.alloc (.cells #[.int .u8 1,.string ⟨#[]⟩,.int .i64 n,.int .i64 col] 124)).lies
  have hVY:=Ab ((hP.alloc (.cells #[.int .u8 1,.string ⟨#[]⟩,.int .i64 n,.int .i64 col] 124)).drew)
  have HNY:=Ab (Fe W3 (.int .u8 1) (.string ⟨#[]⟩) (.int .i64 n) (.int .i64 col) 124)
  obtain ⟨⟨d0,j0⟩,⟨d1,j1⟩⟩:=Cb hl3
  obtain ⟨⟨e0,m0⟩,⟨e1,m1⟩⟩:=Cb hl4
  obtain ⟨⟨t0,_⟩,⟨t1,_⟩,⟨t2,_⟩,⟨t3,_⟩⟩:=A1 hT3
  have hbl3:b<W3.heap.size:=(Array.getElem?_eq_some_iff.1 hl3).1
  have HP:=Ab hP
  have hBs3:B≤(W3.alloc (.cells #[.int .u8 1,.string ⟨#[]⟩,.int .i64 n,.int .i64 col] 124)).drew.heap.size:=by
   show B≤(W3.alloc (.cells #[.int .u8 1,.string ⟨#[]⟩,.int .i64 n,.int .i64 col] 124)).heap.size
   rw [World.size_alloc];omega
  have hbe3:Below B w (W3.alloc (.cells #[.int .u8 1,.string ⟨#[]⟩,.int .i64 n,.int .i64 col] 124)).drew:=B2 (Cv hB3 (by omega) _) 1
  clear hl3 hl4 hT3 hP
  by_cases hdeep:16≤st.length
  ·have hd:(16:Int)<(st.length:Int)+1:=by omega
   go_wp2
   go_ret
   exact ⟨hB3,.inl ⟨hdeep,rfl,_,Aa HK1⟩⟩
  ·have hd:(st.length:Int)+1≤16:=by omega
   go_wp2
   go_region_law (refine H9 (t:=(1,[],n,col)) (by rfl) _ _ (by rfl) (by rfl) (Aa hVY).toks W3.heap.size 1 (by rfl) (Aa HNY) (by omega) hBs3 ?_;intro g2 cap2 w2 hown2 hgrow2 hat2;obtain ⟨hl5,hr5⟩:=(Aa hVY).far0 hgrow2;obtain ⟨⟨d5,j5⟩,⟨d6,j6⟩⟩:=Cb hl5)
   all_goals (
    have hQ:=(Aa hVY).push0 hgrow2 (by have:=hown2;rw [← List.length_singleton (a:=((1,[],n,col):Tk)),← List.length_append] at this;exact this)
    have hB5:=(Aa hVY).below0 hB hbe3 hgrow2 (.slice (some ⟨g2,0,none⟩) (out.length+1) cap2)
    have HK2:=Ab (((Aa HK1).trans ((Dj _ _ (.cells #[.int .u8 1,.string ⟨#[]⟩,.int .i64 n,.int .i64 col] 124)).trans (Bi _ _ 1))).trans (Fw (v':=.slice (some ⟨g2,0,none⟩) (out.length+1) cap2) (u:=.slice (some ⟨g2,0,none⟩) (out.length+1) cap2) hgrow2 hat2))
    rw [List.length_append,List.length_singleton] at hQ
    go_wp2
    go_ret
    exact ⟨hB5,.inr ⟨by omega,rfl,_,_,hQ,Aa HK2⟩⟩))
end Go.Proofs.YtnjokdbblmlhhaaGreatDoor
namespace Go.Proofs.YtnjokdbblmlhhaaGreatDoor
set_option linter.unusedVariables false
set_option linter.unusedSimpArgs false
open Go.RowKit Go.Shelf
attribute [local go_sem] Oper.semAt_some
theorem Dd {P:Program} (w:World) (a:Addr) (ty:TypeId) (v:Value) (d:TypeDesc) (hu:P.underlying ty=some d) (hd:(match d with | .struct _ | .array _ _=>true | _=>false)=false) (hc:w.cell? a=some v) :
  (loadVar ty a).run P w=.ok v w:=by
 have hagg:(isAgg ty).run P w=.ok false w:=by
  unfold isAgg
  rw [Sem.run_bind,run_underlying hu w]
  cases d<;>simp_all
 simp [loadVar,Sem.run_bind,hagg,hc,go_sem]
theorem I0 {fn:Func} {p q:Tmp} {tp tq:TypeId} (h:fn.results=#[.cell p tp,.cell q tq]) (tmps:Array Value) (P:Program) (w:World) (g1 g2:Nat) (v1 v2:Value)
  (hp:tmps.getD p undef=.pointer (some ⟨g1,0,none⟩)) (hl:(loadVar tp ⟨g1,0,none⟩).run P w=.ok v1 w)
  (hq:tmps.getD q undef=.pointer (some ⟨g2,0,none⟩)) (hm:(loadVar tq ⟨g2,0,none⟩).run P w=.ok v2 w) :
  (results fn tmps).run P w=.ok (.tuple #[v1,v2]) w:=by
 have hp':tmps[p]?.getD undef=.pointer (some ⟨g1,0,none⟩):=by simpa using hp
 have hq':tmps[q]?.getD undef=.pointer (some ⟨g2,0,none⟩):=by simpa using hq
 simp [results,h,hp',hq',asAddr,Sem.run_bind,Result.andThen,hl,hm]
namespace P19
theorem gather_stop:∀ (L:List (Tk × Int)) (i:Nat) (t:Tk) (e:Int),(∀ x∈L.take i,x.2=0)→L[i]?=some (t,e)→e≠0→gather L=([],e)
 | [],i,t,e,_,h,_=>by simp at h
 | a :: r,0,t,e,_,h,he=>by
  simp at h
  subst h
  rw [gather,if_pos he]
 | a :: r,i+1,t,e,h0,h,he=>by
  have ih:=gather_stop r i t e (fun x hx=>h0 x (by rw [List.take_succ_cons];exact List.mem_cons_of_mem _ hx)) (by simpa using h) he
  have ha:=h0 a (by rw [List.take_succ_cons];exact List.mem_cons_self)
  obtain ⟨a1,a2⟩:=a
  simp only at ha
  subst ha
  rw [gather,if_neg (by simp),ih,if_pos he]
theorem gather_all:∀ (L:List (Tk × Int)),(∀ x∈L,x.2=0)→gather L=(L.map (·.1),0)
 | [],_=>rfl
 | a :: r,h0=>by
  have ih:=gather_all r (fun x hx=>h0 x (List.mem_cons_of_mem _ hx))
  have ha:=h0 a List.mem_cons_self
  obtain ⟨a1,a2⟩:=a
  simp only at ha
  subst ha
  rw [gather,if_neg (by simp),ih,if_neg (by simp)]
  rfl
theorem steps_len:∀ (f:Nat) (v:Bool) (n col:Int) (s:List UInt8),(steps f v n col s).length≤f
 | 0,v,n,col,s=>Nat.le_refl _
 | f+1,v,n,col,s=>by
  unfold steps
  rw [List.length_cons]
  split
  ·simp
  ·have:=steps_len f ((next v n col s).1.1 == 4) (next v n col s).2.1.1 (next v n col s).2.1.2.1 (next v n col s).2.1.2.2
   omega
end P19
structure F8 (w:World) (h:Nat) (v:Value) (ts:List Tk) (W:World):Prop where
 c1:Boxed W (h+1) 55 (.slice none 0 0)
 c2:Boxed W (h+2) 27 (.int .i64 0)
 c3:Boxed W (h+3) 55 v
 own:Fc W (h+5) v ts
 below:Below h w W
theorem F8.kept {w:World} {h:Nat} {v:Value} {ts:List Tk} {W W':World} {row:Option Nat} (H:F8 w h v ts W) (hg:W.grownBy W' row)
  (hr:∀ r,row=some r→¬ (r=h+1∨r=h+2∨r=h+3∨v.ownBlock=some r)∧¬ r<h) (hw:w.heap.size=h):F8 w h v ts W':=by
 refine ⟨H.c1.kept hg ?_,H.c2.kept hg ?_,H.c3.kept hg ?_,Cj H.own hg ?_,H.below.grown hg (by have:=H.c1.lt;omega) (fun k e=>by have:=(hr k e).2;omega)⟩
 ·intro e;exact (hr _ e.symm).1 (.inl rfl)
 ·intro e;exact (hr _ e.symm).1 (.inr (.inl rfl))
 ·intro e;exact (hr _ e.symm).1 (.inr (.inr (.inl rfl)))
 ·cases hv:v.ownBlock with
  | none=>exact .inl rfl
  | some g=>exact .inr fun e=>(hr g e.symm).1 (.inr (.inr (.inr hv)))
set_option maxRecDepth 100000 in
set_option maxHeartbeats 4000000 in
theorem L3 (N C:Int) (s:ByteArray) (w:World) (hs:s.size≤1100000) (hc0:0≤C) (hc1:C+s.size≤1000000000) :
  Calls Tryz.prog 64 #[.agg #[.int .i64 N,.int .i64 C,.string s]] w fun e w'=>∃ v,e=.returned (.tuple #[v,.int .i64 (P19.toks N C s.data.toList).2]) ∧
   Fc w' w.heap.size v (P19.toks N C s.data.toList).1∧Below w.heap.size w w':=by
 have hfin:=P19.steps_line (s.size+1) N C s.data.toList (by rw [Lib.size_eq];omega)
 have htk:P19.toks N C s.data.toList=P19.line (s.size+1) N C s.data.toList:=by unfold P19.toks;rw [Lib.size_eq]
 rw [htk,← hfin]
 have hLl:=P19.steps_len (s.size+1) false N C s.data.toList
 obtain ⟨L,hL⟩:∃ L,P19.steps (s.size+1) false N C s.data.toList=L:=⟨_,rfl⟩
 rw [hL] at hLl ⊢
 have HL:=Ab hL
 clear htk hfin hL
 obtain ⟨h,hh⟩:∃ h,w.heap.size=h:=⟨_,rfl⟩
 refine (callsIn_wide (n:=40)).1 ?_
 refine callsIn_of_wp_marks Tryz.func64 rfl trivial ?_ rfl
 simp only [Tryz.ntmps64,List.size_toArray,List.length_cons,List.length_nil,Nat.reduceAdd,Nat.reduceSub,Array.replicate_succ,Array.replicate_zero,List.push_toArray,List.append_toArray,List.nil_append,List.cons_append]
 obtain ⟨⟨k0,_⟩,⟨k1,_⟩,⟨k2,_⟩⟩:=Ay (World.alloc_heap_new w (.cells #[.int .i64 N,.int .i64 C,.string s] 107))
 gi_wp2_with (refine ⟨trivial,?_⟩;gi_at_call 102;refine (callsIn_wide.2 (Ri N C s _)).mono ?_;rintro e w' ⟨rfl,rfl⟩)
 clear k0 k1 k2
 obtain ⟨o1,ho1⟩:∃ o,Obj.cells #[.int .i64 N,.int .i64 C,.string s] 107=o:=⟨_,rfl⟩
 obtain ⟨W2,hW2⟩:∃ W2,((((w.alloc (.cells #[.int .i64 N,.int .i64 C,.string s] 107)).alloc (.cells #[.slice none 0 0] 55)).alloc (.cells #[.int .i64 0] 27)).alloc (.cells #[.slice none 0 0] 55)).alloc (.cells #[.int .i64 N,.int .i64 C,.string s] 107)=W2:=⟨_,rfl⟩
 rw [hW2]
 have hsz:W2.heap.size=h+5:=by rw [← hW2];simp;omega
 have hI0:F8 w h (.slice none 0 0) [] W2:=by
  rw [← hW2,ho1]
  refine ⟨?_,?_,?_,World.ownsRow_nil _ _ _ _,?_⟩
  ·have:=Boxed.new (w.alloc o1) 55 (.slice none 0 0)
   rw [World.size_alloc,hh] at this
   exact ((this.alloc _).alloc _).alloc _
  ·have:=Boxed.new ((w.alloc o1).alloc (.cells #[.slice none 0 0] 55)) 27 (.int .i64 0)
   rw [World.size_alloc,World.size_alloc,hh] at this
   exact (this.alloc _).alloc _
  ·have:=Boxed.new (((w.alloc o1).alloc (.cells #[.slice none 0 0] 55)).alloc (.cells #[.int .i64 0] 27)) 55 (.slice none 0 0)
   rw [World.size_alloc,World.size_alloc,World.size_alloc,hh] at this
   exact this.alloc _
  ·exact (((((Below.refl _ w).alloc (by omega) _).alloc (by simp;omega) _).alloc (by simp;omega) _).alloc (by simp;omega) _).alloc (by simp;omega) _
 have hb4:W2.heap[h+4]?=some (.cells #[.int .i64 N,.int .i64 C,.string s] 107):=by
  rw [← hW2]
  have:=World.alloc_heap_new ((((w.alloc (.cells #[.int .i64 N,.int .i64 C,.string s] 107)).alloc (.cells #[.slice none 0 0] 55)).alloc (.cells #[.int .i64 0] 27)).alloc (.cells #[.slice none 0 0] 55)) (.cells #[.int .i64 N,.int .i64 C,.string s] 107)
  rw [World.size_alloc,World.size_alloc,World.size_alloc,World.size_alloc,hh] at this
  exact this
 clear hW2 ho1 o1
 refine Dp rfl (by omega) (gf:=139) (lb:=#[.pointer (some ⟨h+4,0,none⟩)]) rfl trivial (enters_of Tryz.func139 (by kernel_rfl) rfl)
  (encs:=T8) L (fun r=>r<h) (fun r=>r=h+4) (fun r hr=>by omega)
  (fun V hg hV=>by
   have:=Lf (40 - 1) N C s (h+4) (fun r=>r<h) (fun r=>r=h+4) V ((hg.block _ (by omega) (by simp)).trans hb4) (fun r hr=>by omega) hs hc0 hc1 (by omega)
   rw [Aa HL] at this
   exact this) (fun _=>rfl)
  (fun i M V=>∃ v,(M=fun r=>r=h+1∨r=h+2∨r=h+3∨v.ownBlock=some r)∧F8 w h v ((L.take i).map (·.1)) V∧∀ x∈L.take i,x.2=0)
  (fun c i M V=>c=.ret∧Below h w V∧Boxed V (h+1) 55 (.slice none 0 0)∧∃ e,Boxed V (h+2) 27 (.int .i64 e)∧M (h+1)∧M (h+2)∧P19.gather L=([],e))
  (fun i M V V' row hi hg hr=>by
   obtain ⟨v,rfl,hi,h0⟩:=hi
   exact ⟨v,rfl,hi.kept hg hr hh,h0⟩)
  (fun c i M V V' row hi hg hr=>by
   obtain ⟨rfl,hb,h1,e,h2,m1,m2,h3⟩:=hi
   exact ⟨rfl,hb.grown hg (by have:=h1.lt;omega) (fun k e=>by have:=(hr k e).2;omega),h1.kept hg (fun e=>(hr _ e.symm).1 m1),e,h2.kept hg (fun e=>(hr _ e.symm).1 m2),m1,m2,h3⟩)
  (fun i M V hi r hr=>by
   obtain ⟨v,rfl,hi,h0⟩:=hi
   have l1:=hi.c3.lt
   rcases hr with rfl | rfl | rfl | hr
   ·exact ⟨by omega,by omega⟩
   ·exact ⟨by omega,by omega⟩
   ·exact ⟨by omega,by omega⟩
   ·have:=World.ownsRow.lt hi.own r hr
    exact ⟨this.2,by omega⟩)
  (fun r=>r=h+1∨r=h+2∨r=h+3∨(Value.slice none 0 0).ownBlock=some r)
  (fun r hr=>⟨by omega,(by rintro (h1 | h1 | h1 | h1);omega;omega;omega;exact absurd h1 (by simp [Value.ownBlock])),by omega⟩)
  ⟨.slice none 0 0,rfl,hI0,by simp⟩
  (fun i x M a' V=>∃ v g,(M=fun r=>r=h+1∨r=h+2∨r=h+3∨v.ownBlock=some r∨r=g)∧h+5≤g∧V.heap[g]?=some (.cells #[.int .u8 x.1.1,C0 x.1.2.1,.int .i64 x.1.2.2.1,.int .i64 x.1.2.2.2] 124)∧F8 w h v ((L.take i).map (·.1)) V∧(∀ x∈L.take i,x.2=0) ∧
   a'={ tmps:=#[.agg #[.int .i64 N,.int .i64 C,.string s],.pointer (some ⟨h,0,none⟩),.pointer (some ⟨h+1,0,none⟩),.pointer (some ⟨h+2,0,none⟩),.pointer (some ⟨h+3,0,none⟩),.pointer (some ⟨g,0,none⟩),.int .i64 x.2,.agg #[.int .i64 N,.int .i64 C,.string s],
    .func (.func 139) #[] #[.pointer (some ⟨h+4,0,none⟩)],Ug x.1,.int .i64 x.2,undef,undef,undef,undef,undef,undef,undef,undef],defers:=[] })
  ?hB ?assign ?body ?done ?stop
 case hB=>
  rintro i x M a' V V' row ⟨v,g,rfl,hg5,hgc,hi,h0,rfl⟩ hg hr
  exact ⟨v,g,rfl,hg5,(hg.block g (Array.getElem?_eq_some_iff.1 hgc).1 (fun e=>(hr g e.symm).1 (.inr (.inr (.inr (.inr rfl)))))).trans hgc,hi.kept hg (fun r e=>⟨fun h1=>(hr r e).1 (by rcases h1 with h1 | h1 | h1 | h1;exact .inl h1;exact .inr (.inl h1);exact .inr (.inr (.inl h1));exact .inr (.inr (.inr (.inl h1)))),(hr r e).2⟩) hh,h0,rfl⟩
 case assign=>
  rintro l2 i ⟨⟨k,t,tn,tc⟩,e⟩ M V K hx ⟨v,rfl,hi,h0⟩ hV hK
  unfold T8 Ug C0
  have hnew:=World.alloc_heap_new V (.cells #[.int .u8 k,.string ⟨t.toArray⟩,.int .i64 tn,.int .i64 tc] 124)
  have hKK:=hK (fun r=>r=h+1∨r=h+2∨r=h+3∨v.ownBlock=some r∨r=V.heap.size) _ (V.alloc (.cells #[.int .u8 k,.string ⟨t.toArray⟩,.int .i64 tn,.int .i64 tc] 124)) (World.grownBy_alloc _ _ none) (fun r hr=>by
   rcases hr with h1 | h1 | h1 | h1 | h1
   ·exact .inl (.inl h1)
   ·exact .inl (.inr (.inl h1))
   ·exact .inl (.inr (.inr (.inl h1)))
   ·exact .inl (.inr (.inr (.inr h1)))
   ·exact .inr (by omega)) ⟨v,V.heap.size,rfl,by omega,hnew,hi.kept (World.grownBy_alloc _ _ none) (fun r e=>by cases e) hh,h0,rfl⟩
  have HK:=Ab hKK
  clear hKK hK hnew
  gi_wp2
  exact Aa HK
 case body=>
  rintro l2 i ⟨⟨k,t,tn,tc⟩,e⟩ M a' V hx ⟨v,g,rfl,hg5,hgc,hi,h0,rfl⟩ hV
  simp only at hgc
  unfold Ug
  unfold C0 at hgc ⊢
  obtain ⟨⟨t0,_⟩,⟨t1,_⟩,⟨t2,_⟩,⟨t3,_⟩⟩:=A1 hgc
  have HX:=Ab hx
  have HI:=Ab hi
  have H0:=Ab h0
  have hb3:=hi.c3
  have hvc:=hb3.cell
  have hvf:=hb3.frozen
  have hgl:=(Array.getElem?_eq_some_iff.1 hgc).1
  by_cases he:e=0
  ·have hne:(e != 0)=false:=by simpa using he
   subst he
   obtain ⟨i0,hi0,hz0,hz1,hz2⟩:=info_parts Lk
   have hil:i<L.length:=(List.getElem?_eq_some_iff.1 hx).1
   have hlen:((L.take i).map (·.1)).length≤1100000:=by rw [List.length_map,List.length_take];omega
   have hstep:(L.take (i+1)).map (·.1)=(L.take i).map (·.1) ++ [(k,t,tn,tc)]:=by
    rw [List.take_add_one,hx];simp
   have hz:∀ x∈L.take (i+1),x.2=0:=by
    intro x hx2
    rw [List.take_add_one,hx] at hx2
    rcases List.mem_append.1 hx2 with h1 | h1
    ·exact h0 x h1
    ·simp at h1;subst h1;rfl
   obtain ⟨ts,hts⟩:∃ ts,(L.take i).map (·.1)=ts:=⟨_,rfl⟩
   rw [hts] at hi hlen hstep
   obtain ⟨m,hm⟩:∃ m,ts.length=m:=⟨_,rfl⟩
   rw [hm] at hlen
   have hown:V.ownsRow (h+5) 124 4 v m (A5 ts):=by rw [← hm];exact hi.own
   have hB1:m+1≤maxLen:=by unfold maxLen;omega
   have hB2:(m+1) * 40≤140737488355328:=by omega
   have hN4:=Ab (Fe V (.int .u8 k) (.string ⟨t.toArray⟩) (.int .i64 tn) (.int .i64 tc) 124)
   have HI:=Ab hi
   have HST:=Ab hstep
   have HZ:=Ab hz
   have HTM:=Ab hm
   clear hx hi h0 hil hlen HX H0 hts hz hstep hm
   gi_wp2_with (gi_at_builtin;refine wpListIn_append_own_at _ rfl _ _ 55 rfl (h+5) 124 i0 (.agg #[.int .u8 0,.string ⟨#[]⟩,.int .i64 0,.int .i64 0]) 4 40 Tryz.underlying55 hi0 hz0 hz1 hz2 rfl (by decide) _ _ _ rfl (World.ownsRow.alloc hown _) ⟨V.heap.size,0,none⟩ 1 1 [.int .u8 k,.string ⟨t.toArray⟩,.int .i64 tn,.int .i64 tc] rfl rfl (Aa hN4) (by intro u hu;simp at hu;rcases hu with rfl | rfl | rfl | rfl<;>rfl) hB1 hB2 (by rw [World.size_alloc];omega) ?_;intro v' w1 hown' hgrow _ hat;obtain ⟨g',cap',rfl⟩:=ownsRow_succ hown';have hbx:=(hb3.alloc _).kept hgrow (Kz hown (by omega));have hbc:=hbx.cell;have hbf:=hbx.frozen)
   have hI:=Aa HI
   have hgV:=World.grownBy_alloc V (.cells #[.int .u8 k,.string ⟨t.toArray⟩,.int .i64 tn,.int .i64 tc] 124) none
   have hgS:=Ap w1 (h+3) 0 (.slice (some ⟨g',0,none⟩) (m+1) cap')
   have hownV:=hI.own
   have hlo:∀ k,v.ownBlock=some k→h+5≤k:=fun k e=>(World.ownsRow.lt hown k e).1
   have hIa:=hI.kept hgV (fun r e=>by cases e) hh
   refine ⟨fun r=>r=h+1∨r=h+2∨r=h+3∨(Value.slice (some ⟨g',0,none⟩) (m+1) cap').ownBlock=some r,?_,_,rfl,⟨?_,?_,?_,?_,?_⟩,Aa HZ⟩
   ·have hk3:=((Au.grown (M:=fun r=>r=h+1∨r=h+2∨r=h+3∨v.ownBlock=some r∨r=g) hgV (fun r e=>by cases e)).trans (Au.grown hgrow (fun r e=>.inl (.inr (.inr (.inr (.inl e))))))).trans (Au.grown hgS (fun r e=>by cases e;exact .inl (.inr (.inr (.inl rfl)))))
    refine ⟨hk3.size,hk3.same,?_⟩
    intro r hr
    rcases hr with h1 | h1 | h1 | h1
    ·exact .inl (.inl h1)
    ·exact .inl (.inr (.inl h1))
    ·exact .inl (.inr (.inr (.inl h1)))
    ·rcases hat with h2 | h2
     ·exact .inl (.inr (.inr (.inr (.inl (h2.symm.trans h1)))))
     ·rw [h1] at h2
      injection h2 with h2
      rw [World.size_alloc] at h2
      exact .inr (by omega)
   ·exact ((hIa.c1.kept hgrow (Kz hown (by omega))).kept hgS (by simp))
   ·exact ((hIa.c2.kept hgrow (Kz hown (by omega))).kept hgS (by simp))
   ·exact hbx.set _
   ·rw [Aa HST]
    unfold Fc
    rw [Ec,List.length_append,Aa HTM]
    exact Cj hown' hgS (.inr (fun e=>by have h5:=(World.ownsRow.lt hown' g' rfl).1;simp [Value.ownBlock] at e;omega))
   ·have h1:=hIa.below.grown hgrow (by rw [World.size_alloc];omega) (fun k e=>by have:=hlo k e;omega)
    exact h1.grown hgS (by have:=hgrow.size;rw [World.size_alloc] at this;omega) (fun k e=>by cases e;omega)
  ·have hne:(e != 0)=true:=by simpa using he
   have hc1:=hi.c1.cell
   have hf1:=hi.c1.frozen
   have hc2:=hi.c2.cell
   have hf2:=hi.c2.frozen
   have hgat:=P19.gather_stop L i _ e h0 hx he
   have HG:=Ab hgat
   clear hx hi h0 hgc hgat
   gi_wp2
   have hI:=Aa HI
   have hg1:=Ap V (h+1) 0 (.slice none 0 0)
   have hg2:=Ap (V.setCell ⟨h+1,0,none⟩ (.slice none 0 0)) (h+2) 0 (.int .i64 e)
   refine ⟨fun r=>r=h+1∨r=h+2∨r=h+3∨v.ownBlock=some r∨r=g,(Au.grown hg1 (fun r e=>by cases e;exact .inl (.inl rfl))).trans (Au.grown hg2 (fun r e=>by cases e;exact .inl (.inr (.inl rfl)))),rfl,?_,(hI.c1.set _).kept hg2 (by simp),e,?_,.inl rfl,.inr (.inl rfl),Aa HG⟩
   ·have h1:=hI.below.grown hg1 (by have:=hI.c1.lt;omega) (fun k e=>by cases e;omega)
    exact h1.grown hg2 (by have:=hI.c1.lt;simp;omega) (fun k e=>by cases e;omega)
   ·exact (hI.c2.kept hg1 (by simp)).set _
 case done=>
  rintro D M V rfl hMD ⟨v,rfl,hi,h0⟩ hK
  rw [List.take_of_length_le (Nat.le_refl _)] at hi h0
  rw [hsz] at hK
  have HGAT:=Ab (P19.gather_all L h0)
  obtain ⟨ao,m,cap,rfl⟩:=E8 hi.own
  have hc1:=hi.c1.cell
  have hf1:=hi.c1.frozen
  have hc2:V.cell? ⟨h+1+1,0,none⟩=some (.int .i64 0):=hi.c2.cell
  have hf2:V.frozen? ⟨h+1+1,0,none⟩=false:=hi.c2.frozen
  have hc3:V.cell? ⟨h+1+1+1,0,none⟩=some (.slice ao m cap):=hi.c3.cell
  have HI:=Ab hi
  clear hi h0
  gi_wp2
  have hI:=Aa HI
  have hg1:=Ap V (h+1) 0 (.slice ao m cap)
  have hg2:=Ap (V.setCell ⟨h+1,0,none⟩ (.slice ao m cap)) (h+1+1) 0 (.int .i64 0)
  have hK2:((V.setCell ⟨h+1,0,none⟩ (.slice ao m cap)).setCell ⟨h+1+1,0,none⟩ (.int .i64 0)).heap[(h+5)]?=some (.deferred (some [])):=
   (Below.heap_setCell _ _ _ _ (by show (h+5)≠h+1+1;omega)).trans ((Below.heap_setCell _ _ _ _ (by show (h+5)≠h+1;omega)).trans hK)
  refine ⟨by simp,.inl ⟨_,_,rfl,run_takeDeferred hK2,?_⟩⟩
  have hg3:=grownBy_putObj' ((V.setCell ⟨h+1,0,none⟩ (.slice ao m cap)).setCell ⟨h+1+1,0,none⟩ (.int .i64 0)) (h+5) (.deferred none)
  have b1:=((hI.c1.set (.slice ao m cap)).kept hg2 (by simp)).kept hg3 (by simp)
  have b2:=((hI.c2.kept hg1 (by simp)).set (.int .i64 0)).kept hg3 (by simp)
  refine ⟨_,I0 rfl _ _ _ (h+1) (h+1+1) _ _ rfl (Dd _ _ _ _ _ Tryz.underlying55 rfl b1.cell) rfl (Dd _ _ _ _ _ Tryz.underlying27 rfl b2.cell),_,by rw [Aa HGAT],?_,?_⟩
  ·rw [Aa HGAT]
   have o1:=Cj hI.own hg1 (.inr (Ef hI.own hI.c1 (by decide)))
   have b0:=hI.c1.set (.slice ao m cap)
   have o2:=Cj o1 hg2 (.inr (Ef o1 (hI.c2.kept hg1 (by simp)) (by decide)))
   exact Fm (Cj o2 hg3 (.inr (fun e=>by
    obtain ⟨cs,h5⟩:=I8 o2 e
    rw [hK2] at h5
    cases h5))) (by omega)
  ·have h1:=hI.below.grown hg1 (by have:=hI.c1.lt;omega) (fun k e=>by cases e;omega)
   have h2:=h1.grown hg2 (by have:=hI.c1.lt;simp;omega) (fun k e=>by cases e;omega)
   exact h2.grown hg3 (by have:=hI.c1.lt;simp;omega) (fun k e=>by cases e;omega)
 case stop=>
  rintro D c i M V rfl hMD hi ⟨rfl,hb,h1,e,h2,m1,m2,h3⟩ hK
  have HGAT:=Ab h3
  clear h3
  gi_wp2
  have hg3:=grownBy_putObj' V W2.heap.size (.deferred none)
  have b1:=h1.kept hg3 (by simp;omega)
  have b2:=h2.kept hg3 (by simp;omega)
  refine ⟨by simp,.inl ⟨_,_,rfl,run_takeDeferred hK,?_⟩⟩
  refine ⟨_,I0 rfl _ _ _ (h+1) (h+2) _ _ rfl (Dd _ _ _ _ _ Tryz.underlying55 rfl b1.cell) rfl (Dd _ _ _ _ _ Tryz.underlying27 rfl b2.cell),_,by rw [Aa HGAT],?_,?_⟩
  ·rw [Aa HGAT]
   exact World.ownsRow_nil _ _ _ _
  ·rw [hh]
   exact hb.grown hg3 (by have:=h1.lt;omega) (fun k e=>by cases e;omega)
end Go.Proofs.YtnjokdbblmlhhaaGreatDoor
namespace Go.Proofs.YtnjokdbblmlhhaaGreatDoor
set_option linter.unusedVariables false
set_option linter.unusedSimpArgs false
open Go.RowKit
theorem P2 {W W':World} {M M':Nat→Prop} {B size n:Nat} {e:TypeId} {v:Value} {xs:List Value} (h:W.ownsRow B e size v n xs) (hk:Au M W M' W') (hn:∀ g,v.ownBlock=some g→¬ M g):W'.ownsRow B e size v n xs:=by
 refine ⟨h.1,h.2.imp id ?_⟩
 rintro ⟨g,cap,cur,h1,h2,h3,h4⟩
 refine ⟨g,cap,cur,h1,h2,?_,h4⟩
 rw [hk.same g (hn g (by rw [h1];rfl)) (Array.getElem?_eq_some_iff.1 h3).1]
 exact h3
theorem Lo {W:World} {B:Nat} {v:Value} {ts:List Tk} (h:Fc W B v ts) {i:Nat} {t:Tk} (hi:ts[i]?=some t) :
  ∃ g cap,v=.slice (some ⟨g,0,none⟩) ts.length cap∧g<W.heap.size∧W.cell? ⟨g,i * 4,none⟩=some (.int .u8 t.1)∧W.cell? ⟨g,i * 4+1,none⟩=some (C0 t.2.1)∧W.cell? ⟨g,i * 4+2,none⟩=some (.int .i64 t.2.2.1)∧W.cell? ⟨g,i * 4+3,none⟩=some (.int .i64 t.2.2.2):=by
 have hl:=(List.getElem?_eq_some_iff.1 hi).1
 obtain ⟨g,cap,rfl,hg1,hg2⟩:=World.ownsRow.form h (by omega)
 have key:∀ (us:List Tk) (j:Nat) (u:Tk),us[j]?=some u→(A5 us)[j * 4]?=some (.int .u8 u.1)∧(A5 us)[j * 4+1]?=some (C0 u.2.1)∧(A5 us)[j * 4+2]?=some (.int .i64 u.2.2.1)∧(A5 us)[j * 4+3]?=some (.int .i64 u.2.2.2):=by
  intro us
  induction us with
  | nil=>intro j u h;simp at h
  | cons a r ih=>
   intro j u h
   cases j with
   | zero=>simp at h;subst h;exact ⟨rfl,rfl,rfl,rfl⟩
   | succ j=>
    have ih:=ih j u (by simpa using h)
    have e:A5 (a :: r)=Df a ++ A5 r:=rfl
    have l4:(Df a).length=4:=rfl
    rw [e,List.getElem?_append_right (by omega),List.getElem?_append_right (by omega),List.getElem?_append_right (by omega),List.getElem?_append_right (by omega),l4]
    rw [show (j+1) * 4 - 4=j * 4 from by omega,show (j+1) * 4+1 - 4=j * 4+1 from by omega,show (j+1) * 4+2 - 4=j * 4+2 from by omega,show (j+1) * 4+3 - 4=j * 4+3 from by omega]
    exact ih
 obtain ⟨k0,k1,k2,k3⟩:=key ts i t hi
 refine ⟨g,cap,rfl,hg2,?_,?_,?_,?_⟩
 ·rw [World.ownsRow.cellAt h _ (by omega)];exact k0
 ·rw [World.ownsRow.cellAt h _ (by omega)];exact k1
 ·rw [World.ownsRow.cellAt h _ (by omega)];exact k2
 ·rw [World.ownsRow.cellAt h _ (by omega)];exact k3
set_option maxRecDepth 100000 in
set_option maxHeartbeats 8000000 in
theorem Td (B b:Nat) (v0 r0:Value) (out:List Tk) (st:List Int) (Bl:Nat) (l:Value) (ts:List Tk) (n:Int) (w:World) (h:A7 w B b v0 r0 out st) (hB:B≤b) (hst:st.length≤16) (ho:out.length+2 * ts.length+20≤100000000)
  (hrow:P19.Row st) (hown:Fc w Bl l ts) (hsep:∀ g,l.ownBlock=some g→¬ Mn b v0 r0 g) (hts:∀ t∈ts,t.2.2.1=n∧0≤t.2.2.2) (htl:∀ t∈ts.tail,0<t.2.2.2) :
  Calls Tryz.prog 65 #[.pointer (some ⟨b,0,none⟩),l] w fun e w'=>e=.returned (.int .i64 (P19.adds n true 0 ts out st).1)∧Below B w w'∧(∃ M',Au (Mn b v0 r0) w M' w') ∧
   ((P19.adds n true 0 ts out st).1=0→∃ v' r',A7 w' B b v' r' (P19.adds n true 0 ts out st).2.1 (P19.adds n true 0 ts out st).2.2∧Au (Mn b v0 r0) w (Mn b v' r') w'):=by
 have hmx:Tryz.prog.follows .mixedOrders=true:=by kernel_rfl
 obtain ⟨la,lm,lc,hle⟩:=E8 hown
 have hlm:lm=ts.length:=by
  rcases hown.2 with ⟨h1,h2⟩ | ⟨g,cap,cur,h1,_⟩
  ·rw [h1] at hle;injection hle with _ h3;omega
  ·rw [h1] at hle;injection hle with _ h3;exact h3.symm
 subst hlm
 subst hle
 have hbw:b<w.heap.size:=(Array.getElem?_eq_some_iff.1 h.lies).1
 obtain ⟨m,hm⟩:∃ m,ts.length=m:=⟨_,rfl⟩
 have HOWN:=Ab hown
 have HSEP:=Ab hsep
 have HTS:=Ab hts
 have HTL:=Ab htl
 have HM:=Ab hm
 rw [hm] at ho ⊢
 clear hown hsep hts htl hm
 go_enter Tryz.func65,Tryz.ntmps65
 go_wp2
 go_loopg [10] m (fun g s10 wx=>∃ (i:Nat) (o2:List Tk) (s2:List Int),i+g=m∧s10=.int .i64 i∧s2.length≤16∧P19.Row s2∧o2.length+2 * g+(if i=0 then 20 else 0)≤100000000∧(∃ v2 r2,A7 wx B b v2 r2 o2 s2∧Hid (Au (Mn b v0 r0) w (Mn b v2 r2) wx)) ∧
  Below B w wx∧Hid (P19.adds n true 0 ts out st=P19.adds n (decide (i=0)) (if i=0 then 0 else (ts[i - 1]?).elim 0 (fun (t:Tk)=>t.1)) (ts.drop i) o2 s2))
 case atStart=>exact ⟨0,out,st,by omega,by go_num,hst,hrow,by simp;omega,⟨v0,r0,h,Ab (Au.refl _ _)⟩,Below.refl _ _,Ab rfl⟩
 case round=>
  obtain ⟨i,o2,s2,hig,rfl,hs2,hrow2,hol,⟨v2,r2,hN,HK⟩,hbel,HE⟩:=hrel
  cases gk with
  | zero=>
   have e1:(m:Int)=(i:Int):=by omega
   have hd:ts.drop i=[]:=List.drop_eq_nil_of_le (by rw [Aa HM];omega)
   have he:=Aa HE
   rw [hd] at he
   have HF:=Ab he
   clear hd he HE
   go_wp2
   go_ret
   rw [Aa HF]
   exact ⟨rfl,hbel,⟨_,Aa HK⟩,fun _=>⟨v2,r2,hN,Aa HK⟩⟩
  | succ g'=>
   have hlt:(i:Int)<(m:Int):=by omega
   have hki:IntKind.i64.wrap ((i:Int)+1)=(i:Int)+1:=IntWalk.i64_in _ (by omega)
   have hil:i<ts.length:=by rw [Aa HM];omega
   have hti:ts[i]?=some ts[i]:=List.getElem?_eq_getElem hil
   have hds:ts.drop i=ts[i] :: ts.drop (i+1):=List.drop_eq_getElem_cons hil
   obtain ⟨hn1,hn2⟩:=Aa HTS ts[i] (List.getElem_mem hil)
   have hn3:0<i→0<ts[i].2.2.2:=fun h0=>Aa HTL ts[i] (by
    cases ts with
    | nil=>simp at hil
    | cons a r=>
     cases i with
     | zero=>omega
     | succ j=>simp)
   obtain ⟨⟨k,tx,tn,tc⟩,ht⟩:∃ t,ts[i]=t:=⟨_,rfl⟩
   rw [ht] at hti hds hn1 hn2 hn3
   simp only at hn1 hn2 hn3
   subst hn1
   have he:=Aa HE
   rw [hds,P19.adds] at he
   obtain ⟨R,hR⟩:∃ R,P19.turn (decide (i=0)) (if i=0 then 0 else (ts[i - 1]?).elim 0 (fun (t:Tk)=>t.1)) tn (k,tx,tn,tc) o2 s2=R:=⟨_,rfl⟩
   rw [hR] at he
   have HR:=Ab hR
   have HE2:=Ab he
   clear hR
   have howr:Fc wr Bl (.slice la ts.length lc) ts:=P2 (Aa HOWN) (Aa HK) (Aa HSEP)
   obtain ⟨g,cap,hla,hgl,c0,c1,c2,c3⟩:=Lo howr hti
   injection hla with hla hla2 hla3
   subst hla
   subst hla3
   clear hla2
   have hprev:0<i→∃ kp:Nat,(ts[i - 1]?).elim 0 (fun (t:Tk)=>t.1)=kp∧wr.cell? ⟨g,(i - 1) * 4,none⟩=some (.int .u8 kp):=by
    intro h0
    have hti1:ts[i - 1]?=some ts[i - 1]:=List.getElem?_eq_getElem (by omega)
    obtain ⟨g',cap',hla',_,d0,_⟩:=Lo howr hti1
    injection hla' with hla' _ _
    injection hla' with hla'
    injection hla' with hla'
    subst hla'
    exact ⟨_,by rw [hti1];rfl,d0⟩
   have hbr:b<wr.heap.size:=(Array.getElem?_eq_some_iff.1 hN.lies).1
   have HPR:=Ab hprev
   have HD:=Ab hds
   have HTI:=Ab hti
   clear he HE hds hti ht howr hprev hil
   unfold C0 at c1
   go_upto_block 2 with fail
   obtain ⟨H,hH⟩:∃ H,wr.heap.size=H:=⟨_,rfl⟩
   have hN1:=hN.alloc (.cells #[.int .u8 k,.string ⟨tx.toArray⟩,.int .i64 tn,.int .i64 tc] 124)
   have hT1:=World.alloc_heap_new wr (.cells #[.int .u8 k,.string ⟨tx.toArray⟩,.int .i64 tn,.int .i64 tc] 124)
   have hK1:=(Aa HK).trans (Dj _ wr (.cells #[.int .u8 k,.string ⟨tx.toArray⟩,.int .i64 tn,.int .i64 tc] 124))
   have hb1:=Cv hbel (by omega) (.cells #[.int .u8 k,.string ⟨tx.toArray⟩,.int .i64 tn,.int .i64 tc] 124)
   have HP1:=Ab (fun (h0:0<i)=>by
    obtain ⟨kp,e1,e2⟩:=Aa HPR h0
    exact (⟨kp,e1,(World.cell?_of_block (a:=⟨g,(i - 1) * 4,none⟩) (Below.heap_alloc wr (.cells #[.int .u8 k,.string ⟨tx.toArray⟩,.int .i64 tn,.int .i64 tc] 124) _ hgl)).trans e2⟩:∃ kp:Nat,(ts[i - 1]?).elim 0 (fun (t:Tk)=>t.1)=kp∧(wr.alloc (.cells #[.int .u8 k,.string ⟨tx.toArray⟩,.int .i64 tn,.int .i64 tc] 124)).cell? ⟨g,(i - 1) * 4,none⟩=some (.int .u8 kp)))
   have hMn:¬ Mn b v2 r2 H:=by
    rintro (h1 | h1 | h1)
    ·omega
    ·have:=(World.ownsRow.lt hN.toks H h1).2;omega
    ·have:=(World.ownsRow.lt hN.row H h1).2;omega
   rw [hH] at hT1
   obtain ⟨W1,hW1⟩:∃ W1,wr.alloc (.cells #[.int .u8 k,.string ⟨tx.toArray⟩,.int .i64 tn,.int .i64 tc] 124)=W1:=⟨_,rfl⟩
   have hHw:w.heap.size≤H:=by rw [← hH];exact (Aa HK).size
   rw [hW1] at hN1 hT1 hK1 hb1 HP1
   try rw [hW1]
   try rw [hH]
   have HK1:=Ab hK1
   clear hW1 hN hK1 hbel HK c0 c1 c2 c3 HPR
   go_cut [] from 15 to 64 (fun wx=>∃ (o3:List Tk) (s3:List Int) (v3 r3:Value),A7 wx B b v3 r3 o3 s3∧Hid (Au (Mn b v0 r0) w (Mn b v3 r3) wx)∧Below B w wx∧wx.heap[H]?=some (.cells #[.int .u8 k,.string ⟨tx.toArray⟩,.int .i64 tn,.int .i64 tc] 124) ∧
    Hid (R=(0,o3 ++ [(k,tx,tn,tc)],s3)))
   case first=>
    obtain ⟨⟨t0,_⟩,⟨t1,_⟩,⟨t2,_⟩,⟨t3,_⟩⟩:=A1 hT1
    have HT1:=Ab hT1
    have HMN:=Ab hMn
    have HNN:=Ab hN1
    clear hT1 hMn
    rcases Nat.eq_zero_or_pos i with h0 | h0
    ·have hi0:((i:Int) == 0)=true:=by rw [h0];rfl
     have hdi:decide (i=0)=true:=by rw [h0];rfl
     have hki0:(if i=0 then 0 else (ts[i - 1]?).elim 0 (fun (t:Tk)=>t.1))=0:=if_pos h0
     have htr:=Aa HR
     rw [hdi,hki0] at htr
     have hol2:o2.length≤100000000:=by rw [if_pos h0] at hol;omega
     clear hdi hki0 HP1 HR hol
     cases s2 with
     | nil=>exact absurd rfl (P19.row_ne hrow2)
     | cons x s3=>
      simp only [List.length_cons] at hs2
      have hl3:s3.length≤1000:=by omega
      by_cases hlt1:tc<x
      ·unfold P19.turn at htr
       rw [if_pos ⟨rfl,hlt1⟩] at htr
       have hcr:=P19.close_row (n:=tn) (tc:=tc) hn2 hrow2
       have hcl:=P19.close_len tn tc tc (x :: s3)
       have HCA:=Ab (fun W (hW:A7 W B b v2 r2 o2 (x :: s3))=>Kf B b v2 r2 o2 (x :: s3) tn tc tc W hW hB (by simp;omega) (by omega) hrow2 hn2)
       obtain ⟨⟨c1,c2⟩,hc⟩:∃ c,P19.close tn tc tc (x :: s3)=c:=⟨_,rfl⟩
       simp only [hc] at htr hcr hcl HCA
       cases c2 with
       | nil=>exact absurd rfl (P19.row_ne hcr)
       | cons y s4=>
        have htr2:(if y≠tc then (3,[],[]) else (0,o2 ++ c1 ++ [(k,tx,tn,tc)],y :: s4))=R:=htr
        have HTR:=Ab htr2
        simp only [List.length_cons] at hcl
        have hl4:s4.length≤1000:=by omega
        clear htr htr2 hc hcr hcl h0
        go_wp2
        go_quiet ((go_at_call 103;exact Calls.quiet_of (Dr B b v2 r2 o2 x s3 _ ((Aa HNN).drewN _) hl3)))
        go_wp2_with (go_at_call 66;refine (Aa HCA _ ((Aa HNN).drewN _)).mono ?_;rintro e w3 ⟨⟨vv,rfl⟩,⟨v3,r3,hN3,hk3⟩,hb3⟩;have hT3:=(hk3.same H (Aa HMN) (Array.getElem?_eq_some_iff.1 (Aa HT1)).1).trans (Aa HT1);obtain ⟨⟨y0,_⟩,⟨y1,_⟩,⟨y2,_⟩,⟨y3,_⟩⟩:=A1 hT3;have HK3:=Ab hk3;have HT3:=Ab hT3;clear hk3 hT3)
        have hKK:=Ab (((Aa HK1).trans (Bi _ _ nq)).trans (Aa HK3))
        have hbb:Below B w w3:=hb1.trans ((B2 (Below.refl B W1) nq).trans hb3)
        clear HK3 HK1 HCA hb3
        by_cases hy:y=tc
        ·have hye:(y != tc)=false:=by simpa using hy
         have htr:=Aa HTR
         rw [if_neg (by simpa using hy)] at htr
         have HTR2:=Ab htr.symm
         clear htr HTR hy
         go_quiet ((go_at_call 103;exact Calls.quiet_of (Dr B b v3 r3 (o2 ++ c1) y s4 _ (hN3.drewN _) hl4)))
         go_wp2
         go_meet
         exact ⟨o2 ++ c1,y :: s4,v3,r3,hN3.drewN _,Ab ((Aa hKK).trans (Bi _ _ _)),B2 hbb _,Aa HT3,HTR2⟩
        ·have hye:(y != tc)=true:=by simpa using hy
         have htr:=Aa HTR
         rw [if_pos hy] at htr
         have he:=Aa HE2
         rw [← htr,if_pos (by simp)] at he
         have HF:=Ab he
         clear htr HTR hy he HE2
         go_quiet ((go_at_call 103;exact Calls.quiet_of (Dr B b v3 r3 (o2 ++ c1) y s4 _ (hN3.drewN _) hl4)))
         go_wp2
         go_ret
         rw [Aa HF]
         exact ⟨rfl,B2 hbb _,⟨_,(Aa hKK).trans (Bi _ _ _)⟩,fun h=>by cases h⟩
      ·have hle1:x≤tc:=by omega
       unfold P19.turn at htr
       rw [if_neg (fun h=>hlt1 h.2)] at htr
       by_cases hgt:x<tc
       ·rw [if_pos (.inl ⟨rfl,hgt⟩)] at htr
        have HOA:=Ab (fun W (hW:A7 W B b v2 r2 o2 (x :: s3))=>Lm B b v2 r2 o2 (x :: s3) k ⟨tx.toArray⟩ tn tc W hW hB (by simp;omega) (by omega))
        have HTR:=Ab htr
        clear htr h0 hlt1
        go_wp2
        go_quiet ((go_at_call 103;exact Calls.quiet_of (Dr B b v2 r2 o2 x s3 _ ((Aa HNN).drewN _) hl3)))
        go_wp2
        go_quiet ((go_at_call 103;first | exact J1 (Dr B b v2 r2 o2 x s3 _ ((Aa HNN).drewN _) hl3) | exact Calls.quiet_of (Dr B b v2 r2 o2 x s3 _ (((Aa HNN).drewN _).drewN _) hl3)))
        by_cases hdeep:16≤(x :: s3).length
        ·have htr:=Aa HTR
         rw [if_pos hdeep] at htr
         have he:=Aa HE2
         rw [← htr,if_pos (by simp)] at he
         have HF:=Ab he
         have HOD:=Ab (fun W (hW:A7 W B b v2 r2 o2 (x :: s3))=>(Aa HOA W hW).mono (R':=fun e w'=>Below B W w'∧e=.returned (.int .i64 11)∧Hid (∃ M',Au (Mn b v2 r2) W M' w')) (fun e w' h=>⟨h.1,h.2.elim (fun h=>⟨h.2.1,h.2.2⟩) (fun h=>absurd hdeep (by have:=h.1;omega))⟩))
         clear htr HTR he HE2 HOA
         go_wp2_with (go_at_call 104;refine (Aa HOD _ ((Aa HNN).drewN _)).mono ?_;rintro e w3 ⟨hb3,rfl,HO3⟩)
         go_ret
         rw [Aa HF]
         obtain ⟨M3,hM3⟩:=Aa HO3
         exact ⟨rfl,hb1.trans ((B2 (Below.refl B W1) _).trans hb3),⟨M3,((Aa HK1).trans (Bi _ _ _)).trans hM3⟩,fun h=>by cases h⟩
        ·have htr:=Aa HTR
         rw [if_neg hdeep] at htr
         have HTR2:=Ab htr.symm
         have HOD:=Ab (fun W (hW:A7 W B b v2 r2 o2 (x :: s3))=>(Aa HOA W hW).mono (R':=fun e w'=>Below B W w'∧e=.returned (.int .i64 0)∧Hid (∃ v' r',A7 w' B b v' r' (o2 ++ [(1,[],tn,tc)]) (tc :: x :: s3)∧Au (Mn b v2 r2) W (Mn b v' r') w')) (fun e w' h=>⟨h.1,h.2.elim (fun h=>absurd h.1 hdeep) (fun h=>⟨h.2.1,h.2.2⟩)⟩))
         clear htr HTR HOA
         go_wp2_with (go_at_call 104;refine (Aa HOD _ ((Aa HNN).drewN _)).mono ?_;rintro e w3 ⟨hb3,rfl,HO3⟩)
         obtain ⟨v3,r3,hN3,hk3⟩:=Aa HO3
         have hT3:=(hk3.same H (Aa HMN) (Array.getElem?_eq_some_iff.1 (Aa HT1)).1).trans (Aa HT1)
         have hKK:=Ab (((Aa HK1).trans (Bi _ _ _)).trans hk3)
         have HT3:=Ab hT3
         have HN3:=Ab hN3
         have hbb:Below B w w3:=hb1.trans ((B2 (Below.refl B W1) _).trans hb3)
         clear hT3 hk3 hN3
         go_meet
         exact ⟨_,_,v3,r3,Aa HN3,hKK,hbb,Aa HT3,HTR2⟩
       ·have hxe:x=tc:=by omega
        subst hxe
        rw [if_neg (fun h=>h.elim (fun h=>hgt h.2) (fun h=>by cases h.1))] at htr
        have HTR2:=Ab htr.symm
        have hi1:(i:Int)≤0:=by omega
        clear htr h0 hlt1 hgt hle1
        go_wp2
        go_quiet ((go_at_call 103;exact Calls.quiet_of (Dr B b v2 r2 o2 x s3 _ ((Aa HNN).drewN _) hl3)))
        go_wp2
        go_quiet ((go_at_call 103;first | exact J1 (Dr B b v2 r2 o2 x s3 _ ((Aa HNN).drewN _) hl3) | exact Calls.quiet_of (Dr B b v2 r2 o2 x s3 _ (((Aa HNN).drewN _).drewN _) hl3)))
        go_wp2
        go_meet
        exact ⟨o2,x :: s3,v2,r2,(Aa HNN).drewN _,Ab ((Aa HK1).trans (Bi _ _ _)),B2 hb1 _,Aa HT1,HTR2⟩
    ·have hi0:((i:Int) == 0)=false:=by simp;omega
     have hi2:(0:Int)<(i:Int):=by omega
     have hdi:decide (i=0)=false:=by simp;omega
     obtain ⟨kp,hkp,hkc⟩:=Aa HP1 h0
     have hki0:(if i=0 then 0 else (ts[i - 1]?).elim 0 (fun (t:Tk)=>t.1))=kp:=by rw [if_neg (by omega)];exact hkp
     have htr:=Aa HR
     rw [hdi,hki0] at htr
     have hol2:o2.length≤100000000:=by omega
     have hiw:IntKind.i64.wrap ((i:Int) - 1)=((i - 1:Nat):Int):=by rw [show ((i:Int) - 1)=((i - 1:Nat):Int) from by omega];exact IntWalk.i64_in _ (by omega)
     have hil1:((i - 1:Nat):Int)<(m:Int):=by omega
     have hi3:(i:Int) - 1=((i - 1:Nat):Int):=by omega
     obtain ⟨j,hj⟩:∃ j,i - 1=j:=⟨_,rfl⟩
     rw [hj] at hkc hiw hil1 hi3
     unfold P19.turn at htr
     rw [if_neg (fun h=>by cases h.1)] at htr
     clear hdi hki0 HP1 HR hol hkp
     by_cases h3:kp=3
     ·have hk3e:((kp:Int) == 3)=true:=by rw [h3];rfl
      rw [if_pos (.inr ⟨rfl,h3⟩)] at htr
      have HOA:=Ab (fun W (hW:A7 W B b v2 r2 o2 s2)=>Lm B b v2 r2 o2 s2 k ⟨tx.toArray⟩ tn tc W hW hB (by omega) (by omega))
      have HTR:=Ab htr
      clear htr h0 h3 hj
      go_wp2
      go_quiet (fail)
      go_wp2
      go_quiet (fail)
      by_cases hdeep:16≤(s2).length
      ·have htr:=Aa HTR
       rw [if_pos hdeep] at htr
       have he:=Aa HE2
       rw [← htr,if_pos (by simp)] at he
       have HF:=Ab he
       have HOD:=Ab (fun W (hW:A7 W B b v2 r2 o2 (s2))=>(Aa HOA W hW).mono (R':=fun e w'=>Below B W w'∧e=.returned (.int .i64 11)∧Hid (∃ M',Au (Mn b v2 r2) W M' w')) (fun e w' h=>⟨h.1,h.2.elim (fun h=>⟨h.2.1,h.2.2⟩) (fun h=>absurd hdeep (by have:=h.1;omega))⟩))
       clear htr HTR he HE2 HOA
       go_wp2_with (go_at_call 104;refine (Aa HOD _ ((Aa HNN).drewN _)).mono ?_;rintro e w3 ⟨hb3,rfl,HO3⟩)
       go_ret
       rw [Aa HF]
       obtain ⟨M3,hM3⟩:=Aa HO3
       exact ⟨rfl,hb1.trans ((B2 (Below.refl B W1) _).trans hb3),⟨M3,((Aa HK1).trans (Bi _ _ _)).trans hM3⟩,fun h=>by cases h⟩
      ·have htr:=Aa HTR
       rw [if_neg hdeep] at htr
       have HTR2:=Ab htr.symm
       have HOD:=Ab (fun W (hW:A7 W B b v2 r2 o2 (s2))=>(Aa HOA W hW).mono (R':=fun e w'=>Below B W w'∧e=.returned (.int .i64 0)∧Hid (∃ v' r',A7 w' B b v' r' (o2 ++ [(1,[],tn,tc)]) (tc :: s2)∧Au (Mn b v2 r2) W (Mn b v' r') w')) (fun e w' h=>⟨h.1,h.2.elim (fun h=>absurd h.1 hdeep) (fun h=>⟨h.2.1,h.2.2⟩)⟩))
       clear htr HTR HOA
       go_wp2_with (go_at_call 104;refine (Aa HOD _ ((Aa HNN).drewN _)).mono ?_;rintro e w3 ⟨hb3,rfl,HO3⟩)
       obtain ⟨v3,r3,hN3,hk3⟩:=Aa HO3
       have hT3:=(hk3.same H (Aa HMN) (Array.getElem?_eq_some_iff.1 (Aa HT1)).1).trans (Aa HT1)
       have hKK:=Ab (((Aa HK1).trans (Bi _ _ _)).trans hk3)
       have HT3:=Ab hT3
       have HN3:=Ab hN3
       have hbb:Below B w w3:=hb1.trans ((B2 (Below.refl B W1) _).trans hb3)
       clear hT3 hk3 hN3
       go_meet
       exact ⟨_,_,v3,r3,Aa HN3,hKK,hbb,Aa HT3,HTR2⟩
     ·have hk3e:((kp:Int) == 3)=false:=by simp;omega
      rw [if_neg (fun h=>h.elim (fun h=>by cases h.1) (fun h=>h3 h.2))] at htr
      have HTR2:=Ab htr.symm
      clear htr h0 h3 hj
      go_wp2
      go_quiet (fail)
      go_wp2
      go_quiet (fail)
      go_wp2
      go_meet
      exact ⟨o2,s2,v2,r2,(Aa HNN).drewN _,Ab ((Aa HK1).trans (Bi _ _ _)),B2 hb1 _,Aa HT1,HTR2⟩
   case rest=>
    obtain ⟨o3,s3,v3,r3,hN3,HK3,hb3,hT3,HTR⟩:=hcut
    have htr:=(Aa HR).trans (Aa HTR)
    obtain ⟨hrw3,hst3,hlen3⟩:=P19.turn_row (b:=decide (i=0)) (k:=if i=0 then 0 else (ts[i - 1]?).elim 0 (fun (t:Tk)=>t.1)) (n:=tn) (t:=(k,tx,tn,tc)) (out:=o2) hrow2 hn2 (fun hf=>hn3 (by simp at hf;omega)) (by rw [htr]) hs2
    rw [htr] at hrw3 hst3 hlen3
    simp only [List.length_append,List.length_singleton] at hlen3
    have he:=Aa HE2
    rw [Aa HTR,if_neg (by simp)] at he
    simp only at he
    have HE3:=Ab he
    clear he htr HE2 HP1 HTL HTS
    have hbl3:b<wc.heap.size:=(Array.getElem?_eq_some_iff.1 hN3.lies).1
    have hl3:=hN3.lies
    have hl4:=(hN3.alloc (.cells #[.int .u8 k,.string ⟨tx.toArray⟩,.int .i64 tn,.int .i64 tc] 124)).lies
    have hVY:=Ab ((hN3.alloc (.cells #[.int .u8 k,.string ⟨tx.toArray⟩,.int .i64 tn,.int .i64 tc] 124)).drew)
    have HNY:=Ab (Fe wc (.int .u8 k) (.string ⟨tx.toArray⟩) (.int .i64 tn) (.int .i64 tc) 124)
    obtain ⟨⟨d0,j0⟩,⟨d1,j1⟩⟩:=Cb hl3
    obtain ⟨⟨e0,m0⟩,⟨e1,m1⟩⟩:=Cb hl4
    obtain ⟨⟨t0,_⟩,⟨t1,_⟩,⟨t2,_⟩,⟨t3,_⟩⟩:=A1 hT3
    have hBs3:B≤(wc.alloc (.cells #[.int .u8 k,.string ⟨tx.toArray⟩,.int .i64 tn,.int .i64 tc] 124)).drew.heap.size:=by
     show B≤(wc.alloc (.cells #[.int .u8 k,.string ⟨tx.toArray⟩,.int .i64 tn,.int .i64 tc] 124)).heap.size
     rw [World.size_alloc];omega
    have hbe3:Below B w (wc.alloc (.cells #[.int .u8 k,.string ⟨tx.toArray⟩,.int .i64 tn,.int .i64 tc] 124)).drew:=B2 (Cv hb3 (by omega) _) 1
    have ho3:o3.length+1≤1000000000:=by
     revert hlen3 hol
     rcases Nat.eq_zero_or_pos i with h0 | h0
     ·rw [if_pos h0,if_pos (by simp [h0])];omega
     ·rw [if_neg (by omega),if_neg (by simp;omega)];omega
    have ho4:o3.length+1+2 * g'+0≤100000000:=by
     revert hlen3 hol
     rcases Nat.eq_zero_or_pos i with h0 | h0
     ·rw [if_pos h0,if_pos (by simp [h0])];omega
     ·rw [if_neg (by omega),if_neg (by simp;omega)];omega
    have HO4:=Ab ho4
    clear hl3 hl4 hT3 hN3 hlen3 hol ho4
    go_wp2
    go_region_law (refine H9 (t:=(k,tx,tn,tc)) (by rfl) _ _ (by rfl) (by rfl) (Aa hVY).toks wc.heap.size 1 (by rfl) (Aa HNY) ho3 hBs3 ?_;intro g2 cap2 w2 hown2 hgrow2 hat2;obtain ⟨hl5,hr5⟩:=(Aa hVY).far0 hgrow2;obtain ⟨⟨d5,j5⟩,⟨d6,j6⟩⟩:=Cb hl5)
    all_goals (
     have hQ:=(Aa hVY).push0 hgrow2 (by have:=hown2;rw [← List.length_singleton (a:=((k,tx,tn,tc):Tk)),← List.length_append] at this;exact this)
     have hB5:=(Aa hVY).below0 hB hbe3 hgrow2 (.slice (some ⟨g2,0,none⟩) (o3.length+1) cap2)
     have HK5:=Ab (((Aa HK3).trans ((Dj _ _ (.cells #[.int .u8 k,.string ⟨tx.toArray⟩,.int .i64 tn,.int .i64 tc] 124)).trans (Bi _ _ 1))).trans (Fw (v':=.slice (some ⟨g2,0,none⟩) (o3.length+1) cap2) (u:=.slice (some ⟨g2,0,none⟩) (o3.length+1) cap2) hgrow2 hat2))
     rw [List.length_append,List.length_singleton] at hQ
     have HQ:=Ab hQ
     clear hQ hown2 hgrow2 hat2 hl5 hr5 d5 j5 d6 j6
     go_wp2
     go_roundg g'
     case measure=>omega
     case rel=>
      refine ⟨i+1,o3 ++ [(k,tx,tn,tc)],s3,by omega,by go_num,hst3,hrw3,by rw [if_neg (by omega),List.length_append,List.length_singleton];exact Aa HO4,⟨_,_,Aa HQ,HK5⟩,hB5,Ab ?_⟩
      rw [Aa HE3,show decide (i+1=0)=false from by simp,if_neg (by omega),Nat.add_sub_cancel,Aa HTI]
      rfl)
end Go.Proofs.YtnjokdbblmlhhaaGreatDoor
namespace Go.Proofs.YtnjokdbblmlhhaaGreatDoor
set_option linter.unusedVariables false
set_option linter.unusedSimpArgs false
open Go.RowKit
theorem Rz {s:List UInt8} {i:Nat} {r:Nat × Nat × List UInt8} (h:(Dz s)[i]?=some r):r.2.1+r.2.2.length≤s.length:=by
 have hm:r∈Dz s:=List.mem_of_getElem? h
 obtain ⟨l,hl,j,hj⟩:∃ l∈Bk s,∃ j,Dv j l=some r:=by
  have key:∀ (k:Nat) (ls:List (List UInt8)) (r:Nat × Nat × List UInt8),r∈Bh k ls→∃ l∈ls,∃ i,Dv i l=some r:=by
   intro k ls
   induction ls generalizing k with
   | nil=>intro r h;simp [Bh] at h
   | cons l ls ih=>
    intro r h
    unfold Bh at h
    split at h
    ·obtain ⟨l',h1,h2⟩:=ih (k+1) r h
     exact ⟨l',List.mem_cons_of_mem _ h1,h2⟩
    ·rename_i x hx
     rcases List.mem_cons.1 h with rfl | h
     ·exact ⟨l,List.mem_cons_self,k,hx⟩
     ·obtain ⟨l',h1,h2⟩:=ih (k+1) r h
      exact ⟨l',List.mem_cons_of_mem _ h1,h2⟩
  exact key 0 _ r hm
 have h1:=Gq hl
 have h2:=Hv l
 have h3:=Hr (C1 l)
 unfold Dv at hj
 split at hj
 ·cases hj
 ·injection hj with hj
  subst hj
  simp only
  omega
namespace P19
theorem weight_drop {rs:List (Nat × Nat × List UInt8)} {i:Nat} {r:Nat × Nat × List UInt8} (h:rs[i]?=some r):weight (rs.drop i)=r.2.2.length+1+weight (rs.drop (i+1)):=by
 obtain ⟨hl,he⟩:=List.getElem?_eq_some_iff.1 h
 rw [List.drop_eq_getElem_cons hl,he]
 unfold weight
 rw [List.map_cons,List.sum_cons]
theorem weight_ge:∀ rs:List (Nat × Nat × List UInt8),rs.length≤weight rs
 | []=>Nat.le_refl _
 | r :: rs=>by
  have ih:=weight_ge rs
  unfold weight at ih ⊢
  rw [List.map_cons,List.sum_cons,List.length_cons]
  omega
theorem toks_at (n col:Int) (s:List UInt8):LineOk n col s.length (toks n col s):=line_at _ _ _ _
end P19
theorem Pn {W:World} {B size n b i:Nat} {e:TypeId} {v u:Value} {xs:List Value} (h:W.ownsRow B e size v n xs) (hb:b<B):(W.setCell ⟨b,i,none⟩ u).ownsRow B e size v n xs:=
 Cj h (Ap W b i u) (.inr (fun e=>by have:=(World.ownsRow.lt h b e).1;omega))
theorem D8 {w W:World} {B b i:Nat} {u:Value} (h:Below B w W) (hb:B≤b) (hs:B≤W.heap.size):Below B w (W.setCell ⟨b,i,none⟩ u):=
 h.grown (Ap W b i u) hs (fun k e=>by cases e;exact hb)
theorem A7.below {W W':World} {B b:Nat} {v r:Value} {out:List Tk} {st:List Int} (h:A7 W B b v r out st) (hb:Below W.heap.size W W'):A7 W' B b v r out st:=
 ⟨(hb.block b (Array.getElem?_eq_some_iff.1 h.lies).1).trans h.lies,Ir h.toks hb,Ir h.row hb⟩
theorem A7.fresh {W:World} {B b g:Nat} {v r:Value} {out:List Tk} {st:List Int} (h:A7 W B b v r out st) (hg:W.heap.size≤g):¬ Mn b v r g:=by
 have h1:=(Array.getElem?_eq_some_iff.1 h.lies).1
 rintro (e | e | e)
 ·omega
 ·have:=(World.ownsRow.lt h.toks g e).2;omega
 ·have:=(World.ownsRow.lt h.row g e).2;omega
set_option maxRecDepth 100000 in
set_option maxHeartbeats 1600000 in
theorem Nq (s:ByteArray) (w:World) (hs:s.size≤1048576) (hf:(Bv s.data.toList).1≠0) :
  Calls Tryz.prog 32 #[.string s] w fun e w'=>e=.returned (.tuple #[.slice none 0 0,D3 (Bv s.data.toList)])∧Below w.heap.size w w':=by
 have hab:=fun W=>Sz s W (by omega) hf
 obtain ⟨⟨r1,r2⟩,hR⟩:∃ R,Bv s.data.toList=R:=⟨_,rfl⟩
 rw [hR] at hf ⊢
 simp only [hR] at hab
 unfold D3 at hab ⊢
 have hne:(r1 != 0)=true:=by simpa using hf
 have HAB:=Ab hab
 clear hab hR hf
 have hmx:Tryz.prog.follows .mixedOrders=true:=by kernel_rfl
 go_enter Tryz.func32,Tryz.ntmps32
 go_wp2_with (go_at_call 63;refine (Aa HAB _).mono ?_;rintro e w' ⟨rfl,hb⟩;have hR:w'.heap[w.heap.size]?=some (.cells #[.int .i64 0,.int .i64 0] 29):=(hb.block _ (by simp)).trans (World.alloc_heap_new w _);have hbw:Below w.heap.size w w':=((Below.refl _ w).alloc (Nat.le_refl _) _).trans (hb.mono (by simp));clear hb)
 obtain ⟨W2,hW2⟩:∃ W2,w'.alloc (.cells #[.int .i64 r1,.int .i64 r2] 29)=W2:=⟨_,rfl⟩
 have hR2:W2.heap[w.heap.size]?=some (.cells #[.int .i64 0,.int .i64 0] 29):=by rw [← hW2];exact (Below.heap_alloc _ _ _ (Array.getElem?_eq_some_iff.1 hR).1).trans hR
 have hF2:W2.heap[w'.heap.size]?=some (.cells #[.int .i64 r1,.int .i64 r2] 29):=by rw [← hW2];exact World.alloc_heap_new w' _
 have hb2:Below w.heap.size w W2:=by rw [← hW2];exact hbw.alloc hbw.size _
 rw [hW2]
 have x0:=(A9 hR2).1
 have x1:=(A9 hR2).2
 have x2:=(A8 hR2).1
 have x3:=(A8 hR2).2
 have y0:=(A9 hF2).1
 have y2:=(A8 hF2).1
 clear hW2 hR
 go_region
 all_goals go_wp2
 all_goals refine bodyPost_ret (As rfl _ _ _ _ _ rfl (run_loadVar_row _ _ _ _ _ _ _ (Db (Da hR2 _) _) Tryz.underlying29 rfl (by kernel_rfl))) rfl ⟨rfl,?_⟩
 all_goals exact En (Bq (Bq hb2 0 _ (Nat.le_refl _)) 1 _ (Nat.le_refl _))
set_option maxRecDepth 100000 in
set_option maxHeartbeats 8000000 in
theorem L5 (s:ByteArray) (w:World) (hs:s.size≤1048576) (hf:(Bv s.data.toList).1=0) :
  Calls Tryz.prog 32 #[.string s] w fun e w'=>∃ v,e=.returned (.tuple #[v,D3 (P19.allR true (Dz s.data.toList) [] [0] 0).2])∧Fc w' w.heap.size v (P19.allR true (Dz s.data.toList) [] [0] 0).1∧Below w.heap.size w w':=by
 have hag:=fun W=>Sl s W (by omega) hf
 have hfit:∀ (i:Nat) (r:Nat × Nat × List UInt8),(Dz s.data.toList)[i]?=some r→r.2.1+r.2.2.length≤s.size:=fun i r h=>by rw [Lib.size_eq];exact Rz h
 have hwt:=P19.weight_le s.data.toList
 rw [← Lib.size_eq] at hwt
 obtain ⟨rs,hrs⟩:∃ rs,Dz s.data.toList=rs:=⟨_,rfl⟩
 rw [hrs] at hfit hwt ⊢
 have hlen:=P19.weight_ge rs
 simp only [hrs] at hag
 have HAG:=Ab hag
 have HFIT:=Ab hfit
 clear hag hfit hrs hf
 have hmx:Tryz.prog.follows .mixedOrders=true:=by kernel_rfl
 go_enter Tryz.func32,Tryz.ntmps32
 go_wp2_with (go_at_call 63;refine (Aa HAG _).mono ?_;rintro e w' ⟨v,rfl,ho,hb⟩;have hR:w'.heap[w.heap.size]?=some (.cells #[.int .i64 0,.int .i64 0] 29):=(hb.block _ (by simp)).trans (World.alloc_heap_new w _);have hbw:Below w.heap.size w w':=((Below.refl _ w).alloc (Nat.le_refl _) _).trans (hb.mono (by simp));clear hb;obtain ⟨la,lcap,rfl,hrd⟩:=Nv ho;unfold D3;rw [List.length_map])
 obtain ⟨p,hp⟩:∃ p,w'.heap.size=p:=⟨_,rfl⟩
 obtain ⟨h0,hh0⟩:∃ h,w.heap.size=h:=⟨_,rfl⟩
 obtain ⟨W3,hW3⟩:∃ W3,((w'.alloc (.cells #[.int .i64 0,.int .i64 0] 29)).alloc (.cells #[.int .i64 0] 3)).alloc (.cells #[.slice none 0 0,.slice (some ⟨w'.heap.size+1,0,none⟩) 1 1] 105)=W3:=⟨_,rfl⟩
 rw [hW3]
 rw [hp] at hW3 hrd ⊢
 have hsz3:W3.heap.size=p+3:=by rw [← hW3,World.size_alloc,World.size_alloc,World.size_alloc,hp]
 have hbp:Below p w' W3:=by rw [← hW3,← hp];exact (((Below.refl _ w').alloc (Nat.le_refl _) _).alloc (by simp) _).alloc (by simp;omega) _
 have hN0:A7 W3 (p+1) (p+2) (.slice none 0 0) (.slice (some ⟨p+1,0,none⟩) 1 1) [] [0]:=by
  rw [← hW3]
  refine ⟨?_,World.ownsRow_nil _ _ _ _,?_⟩
  ·have:=World.alloc_heap_new ((w'.alloc (.cells #[.int .i64 0,.int .i64 0] 29)).alloc (.cells #[.int .i64 0] 3)) (.cells #[.slice none 0 0,.slice (some ⟨p+1,0,none⟩) 1 1] 105)
   rw [World.size_alloc,World.size_alloc,hp] at this
   exact this
  ·have h1:=World.ownsRow_lit (e:=3) (size:=1) (base:=p+1) (w'.alloc (.cells #[.int .i64 0,.int .i64 0] 29)) #[.int .i64 0] 1 (by rw [World.size_alloc];omega) (by unfold maxLen;omega) rfl
   rw [World.size_alloc,hp] at h1
   exact World.ownsRow.alloc h1 _
 have hlt0:h0<p:=by rw [← hh0,← hp];exact (Array.getElem?_eq_some_iff.1 hR).1
 rw [hh0] at hR hbw ⊢
 have hR3:W3.heap[h0]?=some (.cells #[.int .i64 0,.int .i64 0] 29):=(hbp.block h0 hlt0).trans hR
 have hb3:Below h0 w W3:=hbw.trans (hbp.mono (by omega))
 have HRD:=Ab hrd
 clear hW3 hrd hR hbw ho
 go_loopg [7,26] rs.length (fun g s7 s26 wx=>∃ (i:Nat) (o2:List Tk) (s2:List Int) (last:Int),i+g=rs.length∧s7=.int .i64 last∧s26=.int .i64 i∧P19.Row s2∧s2.length≤16∧o2.length+40 * P19.weight (rs.drop i)≤100000000 ∧
  (∃ v2 r2,A7 wx (p+1) (p+2) v2 r2 o2 s2)∧Below (p+1) W3 wx∧Hid (P19.allR true rs [] [0] 0=P19.allR (decide (i=0)) (rs.drop i) o2 s2 last))
 case atStart=>exact ⟨0,[],[0],0,by omega,rfl,by go_num,P19.row_zero,by decide,by simp;omega,⟨_,_,hN0⟩,Below.refl _ _,Ab rfl⟩
 case round=>
  obtain ⟨i,o2,s2,last,hig,rfl,rfl,hrow2,hs2,hol,⟨v2,r2,hN⟩,hbel,HE⟩:=hrel
  have hRw:wr.heap[h0]?=some (.cells #[.int .i64 0,.int .i64 0] 29):=(hbel.block h0 (by omega)).trans hR3
  have hszr:p+3≤wr.heap.size:=by rw [← hsz3];exact hbel.size
  have hbw:Below h0 w wr:=hb3.trans (hbel.mono (by omega))
  cases gk with
  | zero=>
   have e1:(rs.length:Int)=(i:Int):=by omega
   have hd:rs.drop i=[]:=List.drop_eq_nil_of_le (by omega)
   have he:=Aa HE
   rw [hd] at he
   have HF:=Ab (show P19.allR true rs [] [0] 0=(o2 ++ (P19.close last 0 0 s2).1,0,0) from he)
   have hclose:=Kf (p+1) (p+2) v2 r2 o2 s2 last 0 0 wr hN (by omega) (by omega) (by omega) hrow2 (by omega)
   have HCL:=Ab hclose
   clear hd he HE hclose hN
   go_wp2_with (go_at_call 66;refine (Aa HCL).mono ?_;rintro e w4 ⟨⟨vv,rfl⟩,⟨v4,r4,hN4,hk4⟩,hb4⟩;obtain ⟨⟨d0,j0⟩,⟨d1,j1⟩⟩:=Cb hN4.lies;have hR4:=(hb4.block h0 (by omega)).trans hRw;have x0:=(A9 hR4).1;have x1:=(A9 hR4).2;have x2:=(A8 hR4).1;have x3:=(A8 hR4).2;obtain ⟨ao,am,acap,rfl⟩:=E8 hN4.toks)
   refine bodyPost_ret (As rfl _ _ _ _ _ rfl (run_loadVar_row _ _ _ _ _ _ _ (Db (Da hR4 _) _) Tryz.underlying29 rfl (by kernel_rfl))) rfl ⟨_,by rw [Aa HF];rfl,?_,?_⟩
   ·rw [Aa HF]
    exact Fm (Pn (Pn hN4.toks (by omega)) (by omega)) (by omega)
   ·rw [hh0]
    exact D8 (D8 (hbw.trans (hb4.mono (by omega))) (by omega) (by have:=hb4.size;omega)) (by omega) (by have:=hb4.size;simp;omega)
  | succ g'=>
   have hlt:(i:Int)<(rs.length:Int):=by omega
   have hki:IntKind.i64.wrap ((i:Int)+1)=(i:Int)+1:=IntWalk.i64_in _ (by omega)
   have hil:i<rs.length:=by omega
   have hri:rs[i]?=some rs[i]:=List.getElem?_eq_getElem hil
   obtain ⟨⟨rn,rc,rt⟩,hr⟩:∃ r,rs[i]=r:=⟨_,rfl⟩
   rw [hr] at hri
   have hfi:=Aa HFIT i _ hri
   simp only at hfi
   have hwd:=P19.weight_drop hri
   have hdr:rs.drop i=(rn,rc,rt) :: rs.drop (i+1):=by
    obtain ⟨hl,he⟩:=List.getElem?_eq_some_iff.1 hri
    rw [List.drop_eq_getElem_cons hl,he]
   rw [hwd] at hol
   simp only at hol
   obtain ⟨g,o,hla,hgp,c0,c1,c2⟩:=Aa HRD i (Sc (rn,rc,rt)) (by rw [List.getElem?_map,hri];rfl)
   subst hla
   have hbx:Below p w' wr:=hbp.trans (hbel.mono (by omega))
   have d0:=(Gn hbx hgp _).trans c0
   have d1:=(Gn hbx hgp _).trans c1
   have d2:=(Gn hbx hgp _).trans c2
   unfold Sc at d0 d1 d2
   simp only at d0 d1 d2
   have htk:=fun W=>L3 rn rc ⟨rt.toArray⟩ W (by rw [Lib.size_eq];simp;omega) (by omega) (by rw [Lib.size_eq];simp;omega)
   have hla:=P19.toks_at rn rc rt
   have htl:=P19.toks_len rn rc rt
   have he:=Aa HE
   rw [hdr,P19.allR] at he
   unfold P19.rowT at he
   obtain ⟨⟨ts,E⟩,hT⟩:∃ x,P19.toks rn rc rt=x:=⟨_,rfl⟩
   simp only [hT] at htk hla htl he
   have HTK:=Ab htk
   have HLA:=Ab hla
   have HE2:=Ab he
   clear htk hla he HE hdr hri hr c0 c1 c2 hbx hT hwd
   have hN1:=hN.alloc (.cells #[.int .i64 rn,.int .i64 rc,.string ⟨rt.toArray⟩] 107)
   have hT1:=World.alloc_heap_new wr (.cells #[.int .i64 rn,.int .i64 rc,.string ⟨rt.toArray⟩] 107)
   have hb1:=Cv hbel (by omega) (.cells #[.int .i64 rn,.int .i64 rc,.string ⟨rt.toArray⟩] 107)
   have HN1:=Ab hN1
   have hHfr0:=hN.fresh (Nat.le_refl _)
   clear hN hN1
   obtain ⟨⟨k0,_⟩,⟨k1,_⟩,⟨k2,_⟩⟩:=Ay hT1
   go_upto_region 10 with (go_at_call 64;refine (Aa HTK _).mono ?_;rintro e W5 ⟨v5,rfl,ho5,hb5⟩)
   have hs5:=hb5.size
   rw [World.size_alloc] at hs5 hb5 ho5
   have hN5:=(Aa HN1).below (by rw [World.size_alloc];exact hb5)
   have hT5:=(hb5.block _ (by omega)).trans hT1
   have hb35:Below (p+1) W3 W5:=hb1.trans (hb5.mono (by omega))
   have hR5:W5.heap[h0]?=some (.cells #[.int .i64 0,.int .i64 0] 29):=(hb35.block h0 (by omega)).trans hR3
   have hbw5:Below h0 w W5:=hb3.trans (hb35.mono (by omega))
   obtain ⟨Hx,hHx⟩:∃ H,wr.heap.size=H:=⟨_,rfl⟩
   rw [hHx] at hT5 hs5 ho5 hb5 hHfr0
   try rw [hHx]
   have hszh:p+3≤Hx:=by omega
   have hfresh:∀ g,Hx+1≤g→¬ Mn (p+2) v2 r2 g:=fun g hg=>(Aa HN1).fresh (by rw [World.size_alloc,hHx];exact hg)
   clear hT1 hb1 k0 k1 k2 d0 d1 d2 HN1 hbw hbel hRw
   obtain ⟨⟨k0,_⟩,⟨k1,_⟩,⟨k2,_⟩⟩:=Ay hT5
   have x0:=(A9 hR5).1
   have x1:=(A9 hR5).2
   have x2:=(A8 hR5).1
   have x3:=(A8 hR5).2
   have HT5:=Ab hT5
   have HN5:=Ab hN5
   have HR5:=Ab hR5
   clear hT5 hN5 hHx
   by_cases hE:E=0
   ·have hEe:(E == 0)=true:=by simpa using hE
    have hEn:(E != 0)=false:=by simpa using hE
    have he:=Aa HE2
    rw [if_neg (by simpa using hE)] at he
    have HE3:=Ab he
    clear he HE2 hE
    by_cases hc:decide (i=0)=true∧0<rc
    ·have hi0:((i:Int) == 0)=true:=by have:=hc.1;simp at this;simp [this]
     have hrc:(0:Int)<(rc:Int):=by have:=hc.2;omega
     have he:=Aa HE3
     rw [if_pos hc] at he
     have HF:=Ab he
     clear he HE3 hc
     go_wp2
     go_region
     all_goals go_wp2
     all_goals (
      refine bodyPost_ret (As rfl _ _ _ _ _ rfl (run_loadVar_row _ _ _ _ _ _ _ (Db (Da (Aa HR5) _) _) Tryz.underlying29 rfl (by kernel_rfl))) rfl ⟨_,by rw [Aa HF];rfl,?_,?_⟩
      ·rw [Aa HF]
       exact World.ownsRow_nil _ _ _ _
      ·rw [hh0]
       exact En (D8 (D8 (hbw5) (by omega) (by omega)) (by omega) (by simp;omega)))
    ·have he:=Aa HE3
     rw [if_neg hc] at he
     have hla:=Aa HLA
     have hrow3:=P19.adds_row (n:=(rn:Int)) ts true 0 o2 s2 hrow2 hs2 (fun t ht=>by have:=(hla.1 t ht).2.1;omega) (fun h=>by cases h) (fun t ht=>by have:=hla.2.2 t ht;omega)
     have hadd:=Td (p+1) (p+2) v2 r2 o2 s2 (Hx+1) v5 ts rn W5 (Aa HN5) (by omega) hs2 (by omega) hrow2 ho5 (fun g hg=>hfresh g ((World.ownsRow.lt ho5 g hg).1)) (fun t ht=>⟨(hla.1 t ht).1,by have:=(hla.1 t ht).2.1;omega⟩) (fun t ht=>by have:=hla.2.2 t ht;omega)
     obtain ⟨⟨EA,oA,sA⟩,hA⟩:∃ x,P19.adds rn true 0 ts o2 s2=x:=⟨_,rfl⟩
     simp only [hA] at he hadd hrow3
     have HADD:=Ab hadd
     have HRW:=Ab hrow3
     have HE4:=Ab he
     have hcase:((i:Int) == 0)=false∨(((i:Int) == 0)=true∧(rc:Int)≤0):=by
      rcases Nat.eq_zero_or_pos i with h | h
      ·right
       refine ⟨by simp [h],?_⟩
       have h3:¬ 0<rc:=fun h2=>hc ⟨by simp [h],h2⟩
       omega
      ·left;simp;omega
     clear he HE3 hc hla hadd hrow3 hA HLA HTK hfresh
     by_cases hEA:EA=0
     ·have hAe:(EA == 0)=true:=by simpa using hEA
      have hAn:(EA != 0)=false:=by simpa using hEA
      have he:=Aa HE4
      rw [if_neg (by simpa using hEA)] at he
      obtain ⟨hr1,hr2,hr3⟩:=Aa HRW hEA
      rw [if_pos trivial] at hr3
      have HE5:=Ab he
      have HEA:=Ab hEA
      clear he HE4 HRW hEA
      rcases hcase with hi0 | ⟨hi0,hrc⟩
      all_goals (
       go_wp2_with (go_at_call 65;refine (Aa HADD).mono ?_;rintro e W6 ⟨rfl,hb6,HM6,HN6⟩;obtain ⟨M6,hM6⟩:=HM6;have hT6:=(hM6.same Hx hHfr0 (Array.getElem?_eq_some_iff.1 (Aa HT5)).1).trans (Aa HT5);obtain ⟨⟨q0,_⟩,⟨q1,_⟩,⟨q2,_⟩⟩:=Ay hT6;clear hT6 hM6)
       obtain ⟨v6,r6,hN6,_⟩:=HN6 (Aa HEA)
       go_roundg g'
       case measure=>omega
       case rel=>exact ⟨i+1,oA,sA,rn,by omega,rfl,by go_num,hr1,hr2,by omega,⟨v6,r6,hN6⟩,hb35.trans hb6,by rw [show decide (i+1=0)=false from by simp];exact HE5⟩)
     ·have hAe:(EA == 0)=false:=by simpa using hEA
      have hAn:(EA != 0)=true:=by simpa using hEA
      have he:=Aa HE4
      rw [if_pos hEA] at he
      have HF:=Ab he
      clear he HE4 HRW hEA
      rcases hcase with hi0 | ⟨hi0,hrc⟩
      all_goals (
       go_wp2_with (go_at_call 65;refine (Aa HADD).mono ?_;rintro e W6 ⟨rfl,hb6,HM6,HN6⟩;obtain ⟨M6,hM6⟩:=HM6;have hT6:=(hM6.same Hx hHfr0 (Array.getElem?_eq_some_iff.1 (Aa HT5)).1).trans (Aa HT5);obtain ⟨⟨q0,_⟩,⟨q1,_⟩,⟨q2,_⟩⟩:=Ay hT6;have hR6:=(hb6.block h0 (by omega)).trans (Aa HR5);have z0:=(A9 hR6).1;have z1:=(A9 hR6).2;have z2:=(A8 hR6).1;have z3:=(A8 hR6).2;have HR6:=Ab hR6;clear hT6 hM6 hR6 HN6)
       have hs6:=hb6.size
       go_region
       all_goals go_wp2
       all_goals (
        refine bodyPost_ret (As rfl _ _ _ _ _ rfl (run_loadVar_row _ _ _ _ _ _ _ (Db (Da (Aa HR6) _) _) Tryz.underlying29 rfl (by kernel_rfl))) rfl ⟨_,by rw [Aa HF];rfl,?_,?_⟩
        ·rw [Aa HF]
         exact World.ownsRow_nil _ _ _ _
        ·rw [hh0]
         exact En (D8 (D8 (hbw5.trans (hb6.mono (by omega))) (by omega) (by omega)) (by omega) (by simp;omega))))
   ·have hEe:(E == 0)=false:=by simpa using hE
    have hEn:(E != 0)=true:=by simpa using hE
    have he:=Aa HE2
    rw [if_pos hE] at he
    have HF:=Ab he
    clear he HE2 hE
    go_wp2
    go_region
    all_goals go_wp2
    all_goals (
     refine bodyPost_ret (As rfl _ _ _ _ _ rfl (run_loadVar_row _ _ _ _ _ _ _ (Db (Da (Aa HR5) _) _) Tryz.underlying29 rfl (by kernel_rfl))) rfl ⟨_,by rw [Aa HF];rfl,?_,?_⟩
     ·rw [Aa HF]
      exact World.ownsRow_nil _ _ _ _
     ·rw [hh0]
      exact En (D8 (D8 (hbw5) (by omega) (by omega)) (by omega) (by simp;omega)))
end Go.Proofs.YtnjokdbblmlhhaaGreatDoor
namespace Go.Proofs.YtnjokdbblmlhhaaGreatDoor
set_option linter.unusedVariables false
set_option linter.unusedSimpArgs false
open Go.RowKit
end Go.Proofs.YtnjokdbblmlhhaaGreatDoor
namespace Go.Proofs.YtnjokdbblmlhhaaGreatDoor
set_option linter.unusedVariables false
set_option linter.unusedSimpArgs false
open Go.RowKit
end Go.Proofs.YtnjokdbblmlhhaaGreatDoor
namespace Go.Proofs.YtnjokdbblmlhhaaGreatDoor
set_option linter.unusedVariables false
set_option linter.unusedSimpArgs false
open Go.RowKit
end Go.Proofs.YtnjokdbblmlhhaaGreatDoor
namespace Go.Proofs.YtnjokdbblmlhhaaGreatDoor
set_option linter.unusedVariables false
set_option linter.unusedSimpArgs false
open Go.RowKit
theorem G7:∀ (ts:List Tk) (i:Nat) (t:Tk),ts[i]?=some t→(A5 ts)[i * 4]?=some (.int .u8 t.1)∧(A5 ts)[i * 4+1]?=some (C0 t.2.1)∧(A5 ts)[i * 4+2]?=some (.int .i64 t.2.2.1)∧(A5 ts)[i * 4+3]?=some (.int .i64 t.2.2.2)
 | [],i,t,h=>by simp at h
 | a :: ts,0,t,h=>by
  simp at h
  subst h
  exact ⟨rfl,rfl,rfl,rfl⟩
 | a :: ts,i+1,t,h=>by
  have ih:=G7 ts i t (by simpa using h)
  have e:A5 (a :: ts)=Df a ++ A5 ts:=rfl
  have l4:(Df a).length=4:=rfl
  rw [e,List.getElem?_append_right (by omega),List.getElem?_append_right (by omega),List.getElem?_append_right (by omega),List.getElem?_append_right (by omega),l4]
  rw [show (i+1) * 4 - 4=i * 4 from by omega,show (i+1) * 4+1 - 4=i * 4+1 from by omega,show (i+1) * 4+2 - 4=i * 4+2 from by omega,show (i+1) * 4+3 - 4=i * 4+3 from by omega]
  exact ih
end Go.Proofs.YtnjokdbblmlhhaaGreatDoor
namespace Go.Proofs.YtnjokdbblmlhhaaGreatDoor
set_option linter.unusedVariables false
set_option linter.unusedSimpArgs false
open Go.RowKit
theorem N8 (s:ByteArray) (w:World) (hs:s.size≤1048576) :
  Calls Tryz.prog 32 #[.string s] w fun e w'=>∃ v,e=.returned (.tuple #[v,D3 (P19.all s.data.toList).2])∧Fc w' w.heap.size v (P19.all s.data.toList).1∧Below w.heap.size w w':=by
 unfold P19.all
 by_cases hf:(Bv s.data.toList).1=0
 ·rw [if_neg (by simpa using hf)]
  exact L5 s w hs hf
 ·rw [if_pos hf]
  exact (Nq s w hs hf).mono fun e w' ⟨h1,h2⟩=>⟨_,h1,World.ownsRow_nil _ _ _ _,h2⟩
end Go.Proofs.YtnjokdbblmlhhaaGreatDoor
namespace Go.Proofs.YtnjokdbblmlhhaaGreatDoor
set_option linter.unusedVariables false
set_option linter.unusedSimpArgs false
open Go.RowKit
end Go.Proofs.YtnjokdbblmlhhaaGreatDoor
