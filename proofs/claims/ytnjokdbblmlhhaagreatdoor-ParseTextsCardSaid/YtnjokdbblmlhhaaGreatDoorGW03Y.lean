/- Lemmas of this claim. -/
import Derived.Test.YtnjokdbblmlhhaaGreatDoorShelfY
import Derived.Shelf.SlicesE.Kit
import Derived.Sort.WalkB12
import Derived.Lib.OwnBridge
set_option linter.unusedVariables false
set_option linter.unusedSimpArgs false
namespace Go.Proofs.YtnjokdbblmlhhaaGreatDoor
set_option maxHeartbeats 2000000
set_option maxRecDepth 100000
open Go.RowKit Go.Shelf
attribute [local go_sem] Oper.semAt_some
def K6(b:Nat)(w:World):Nat:=match w.cell? ⟨b,0,none⟩with
 |some (.string x)=>x.size
 |_=>0
theorem Gw{b:Nat}{w:World}{x:ByteArray}(h:w.cell? ⟨b,0,none⟩=some (.string x)):K6 b w=x.size:=by unfold K6;rw[h]
def C0(l:List UInt8):Value:=.string ⟨l.toArray⟩
theorem P3(x:ByteArray)(q:Nat):C0 (x.data.toList.take q)=.string (x.extract 0 q):=by
 unfold C0;rw[Lib.extract_eq,List.drop_zero,Nat.sub_zero]
theorem R3(x:ByteArray):C0 x.data.toList=.string x:=rfl
theorem Ou{l:List UInt8}{q:Nat}(h:C5 l=some q):Lib.indexByte l 10=(q:Int)∧q<l.length:=by
 induction l generalizing q with
 |nil=>simp[C5]at h
 |cons c r ih=>
  unfold C5 at h;rw[List.findIdx?_cons]at h;by_cases hc:c=10
  ·subst hc;simp at h;subst h;exact⟨rfl,by simp⟩
  ·simp[hc]at h;obtain⟨j,hj,rfl⟩:=h;obtain⟨h1,h2⟩:=ih hj;refine⟨?_,Nat.succ_lt_succ h2⟩;unfold Lib.indexByte;rw[if_neg (by simpa using hc),h1,if_neg (by simp)];omega
theorem Nj{l:List UInt8}(h:C5 l=none):Lib.indexByte l 10=-1:=by
 induction l with
 |nil=>rfl
 |cons c r ih=>
  unfold C5 at h;rw[List.findIdx?_cons]at h;by_cases hc:c=10
  ·simp[hc]at h
  ·simp[hc]at h;have h2:C5 r=none:=by unfold C5;simp;exact h
   unfold Lib.indexByte;rw[if_neg (by simpa using hc),ih h2];rfl
theorem Dh(w:World)(b:Nat)(v:Value):w.grownBy (w.setCell ⟨b,0,none⟩ v).drew (some b):=
 ⟨(grownBy_setCell' w b v).os,(grownBy_setCell' w b v).tape,(grownBy_setCell' w b v).output,(grownBy_setCell' w b v).size,(grownBy_setCell' w b v).block⟩
theorem Pf{w:World}{b:Nat}{v:Value}(h:w.cell? ⟨b,0,none⟩=some v):b<w.heap.size:=by
 obtain⟨o,ho,_⟩:=cells_of_cell h;exact(qA.1 ho).1
theorem Jp(n:Nat)(s:ByteArray)(b:Nat)(T:Nat→Prop)(W:World)(hc:W.cell? ⟨b,0,none⟩=some (.string s))(hf:W.frozen? ⟨b,0,none⟩=false)(hT:T b)(hs:s.size≤1099511627776)
  (hn:8≤n):Tv Fence.wide n Tryz.prog 155 #[.pointer (some ⟨b,0,none⟩)] (fun l=>#[C0 l]) (C7 s.data.toList) T 0 W:=by
 intro l J Jx hJ aQ hY h0;have h1:1≤n:=by omega
 refine callsIn_of_wp Tryz.func155 rfl trivial ?_ rfl;simp only[Tryz.ntmps155,zD,qE,qP,Nat.reduceAdd,Nat.reduceSub,Array.replicate_succ,Array.replicate_zero,List.push_toArray,List.append_toArray,zK,zJ]
 gi_wp2
 gi_loopw [] (fun wr=>∃(i:Nat) (x:ByteArray),wr.cell? ⟨b,0,none⟩=some (.string x)∧wr.frozen? ⟨b,0,none⟩=false∧x.size≤s.size∧W.heap.size≤wr.heap.size∧i≤(C7 s.data.toList).length∧Hid ((C7 s.data.toList).drop i=C7 x.data.toList)∧Hid (J i wr))
  (fun wr=>K6 b wr)
 case atStart=>exact⟨0,s,hc,hf,qJ _,qJ _,Nat.zero_le _,Ab rfl,Ab h0⟩
 case round=>
  obtain⟨i,x,hc,hf,hx,aD,aL,HR,Y⟩:=hrel;by_cases aG:x.size=0
  ·have e1:x.data.toList=[]:=qU (by rw[←zP];exact aG)
   gi_wp2
   go_end0;refine⟨⟨_,rfl⟩,.inl ?_⟩;have e2:=Aa HR;rw[e1,show C7 []=[] from rfl,List.drop_eq_nil_iff]at e2;rw[show (C7 s.data.toList).length=i from by omega];exact Aa Y
  ·have aO:(0:Int)<(x.size:Int):=by omega
   have aE:=Gw hc;have aC:=Pf hc;cases hq:C5 x.data.toList with
   |some q=>
    obtain⟨Q,aI⟩:=Ou hq;rw[←zP]at aI;have aK:((q:Int)+1)≤(x.size:Int):=by omega
    have aN:IntKind.i64.wrap ((q:Int)+1)=(q:Int)+1:=qG _ (by omega);have aM:(0:Int)≤(q:Int)+1:=by omega
    have aR:(0:Int)≤(q:Int):=by omega
    have aJ:((q:Int)+1).toNat=q+1:=by omega
    have D:=Ki _ _ hq
    have I:(C7 s.data.toList)[i]?=some (x.data.toList.take (q+1)):=by
     have:=congrArg (fun z=>z[0]?) ((Aa HR).trans D);simpa using this
    have G:i<(C7 s.data.toList).length:=(qI.1 I).1;obtain⟨fn,tmps,assign,body,hy,hR⟩:=hY i _ _ I (hJ i wr _ (some b) (Aa Y) (Dh wr b (.string (x.extract (q+1) x.size))) (fun r e=>by cases e;exact hT)) (by have:=(Dh wr b (.string (x.extract (q+1) x.size))).size;omega);rw[P3]at hy;have HI:=Ab Q;have HW:=Ab D;clear Q D I
    gi_wp2_with (refine⟨trivial,?_⟩;gi_at_call 156;refine(callsIn_wide.2 (Tryz.strings_IndexByte x 10 _)).mono ?_;rintro e w' ⟨rfl,rfl⟩;rw[show Int.toNat 10=10 from rfl,show (Nat.toUInt8 10)=10 from rfl,Aa HI])
    gi_region
    gi_wp2
    refine hR.mono ?_;rintro e W3 (⟨rfl,aA,S⟩|⟨rfl,U,_⟩)
    ·have X:W3.heap[b]?=(w'.setCell ⟨b,0,none⟩ (.string (x.extract (q+1) x.size))).heap[b]?:=S.same b hT (by have:=(grownBy_setCell' w' b (.string (x.extract (q+1) x.size))).size;exact zB aC this);have N:W3.cell? ⟨b,0,none⟩=some (.string (x.extract (q+1) x.size)):=(World.cell?_of_block (a:=⟨b,0,none⟩) X).trans (World.cell?_setCell_same' _ _ _ (by rw[hc];rfl));have aB:W3.frozen? ⟨b,0,none⟩=false:=(World.frozen?_of_block (a:=⟨b,0,none⟩) X).trans (by rw[World.frozen?_setCell];exact hf);have Z:W.heap.size≤W3.heap.size:=qK aD (qK (Dh w' b (.string (x.extract (q+1) x.size))).size S.size);have aH:(x.extract (q+1) x.size).size=x.size-(q+1):=by simp[ByteArray.size_extract]
     have R:=Gw N
     gi_wp2
     go_roundw
     case rel=>
      refine⟨i+1,_,N,aB,by omega,Z,G,Ab ?_,Ab aA⟩;have:=congrArg (List.drop 1) ((Aa HR).trans (Aa HW));rw[zI,List.drop_one,List.tail_cons]at this;rw[this,Lib.extract_data,List.take_of_length_le (by rw[qQ,←zP];omega)]
     case measure=>rw[R,aE];omega
    ·gi_wp2
     refine qW (results_none rfl _ _ _) rfl ?_;exact⟨⟨_,rfl⟩,.inr ⟨i+1,G,U⟩⟩
   |none=>
    have Q:=Nj hq;have D:=J0 _ (fun e=>aG (by rw[zP,e];rfl)) hq
    have I:(C7 s.data.toList)[i]?=some x.data.toList:=by
     have:=congrArg (fun z=>z[0]?) ((Aa HR).trans D);simpa using this
    have G:i<(C7 s.data.toList).length:=(qI.1 I).1;obtain⟨fn,tmps,assign,body,hy,hR⟩:=hY i _ _ I (hJ i wr _ (some b) (Aa Y) (grownBy_setCell' wr b (.string ⟨#[]⟩)) (fun r e=>by cases e;exact hT)) (by have:=(grownBy_setCell' wr b (.string ⟨#[]⟩)).size;omega);rw[R3]at hy;have HI:=Ab Q;have HW:=Ab D;clear Q D I
    gi_wp2_with (refine⟨trivial,?_⟩;gi_at_call 156;refine(callsIn_wide.2 (Tryz.strings_IndexByte x 10 _)).mono ?_;rintro e w' ⟨rfl,rfl⟩;rw[show Int.toNat 10=10 from rfl,show (Nat.toUInt8 10)=10 from rfl,Aa HI])
    refine hR.mono ?_;rintro e W3 (⟨rfl,aA,S⟩|⟨rfl,U,_⟩)
    ·have X:W3.heap[b]?=(w'.setCell ⟨b,0,none⟩ (.string ⟨#[]⟩)).heap[b]?:=S.same b hT (by have:=(grownBy_setCell' w' b (.string ⟨#[]⟩)).size;exact zB aC this);have N:W3.cell? ⟨b,0,none⟩=some (.string ⟨#[]⟩):=(World.cell?_of_block (a:=⟨b,0,none⟩) X).trans (World.cell?_setCell_same' _ _ _ (by rw[hc];rfl));have aB:W3.frozen? ⟨b,0,none⟩=false:=(World.frozen?_of_block (a:=⟨b,0,none⟩) X).trans (by rw[World.frozen?_setCell];exact hf);have Z:W.heap.size≤W3.heap.size:=qK aD (qK (grownBy_setCell' w' b (.string ⟨#[]⟩)).size S.size);have R:=Gw N;have aH:(⟨#[]⟩:ByteArray).size=0:=rfl
     gi_wp2
     go_roundw
     case rel=>
      refine⟨i+1,_,N,aB,by omega,Z,G,Ab ?_,Ab aA⟩;have:=congrArg (List.drop 1) ((Aa HR).trans (Aa HW));rw[zI]at this;exact this
     case measure=>rw[R,aE];omega
    ·gi_wp2
     refine qW (results_none rfl _ _ _) rfl ?_;exact⟨⟨_,rfl⟩,.inr ⟨i+1,G,U⟩⟩
end Go.Proofs.YtnjokdbblmlhhaaGreatDoor
namespace Go.Proofs.YtnjokdbblmlhhaaGreatDoor
set_option maxHeartbeats 2000000
set_option maxRecDepth 100000
open Go.RowKit Go.Shelf
attribute [local go_sem] Oper.semAt_some
theorem Qq(s:ByteArray)(w:World) :
  Calls Tryz.prog 132 #[.string s] w fun e w'=>e=.returned (.func (.func 155) #[] #[.pointer (some ⟨w.heap.size,0,none⟩)])∧w'=w.alloc (.cells #[.string s] 9):=by
 go_enter Tryz.func132,Tryz.ntmps132
 go_wp2;go_ret;exact⟨rfl,rfl⟩
theorem Kn(s:ByteArray)(w:World) :
  Calls Tryz.prog 99 #[.string s] w fun e w'=>e=.returned (.func (.func 131) #[] #[.pointer (some ⟨w.heap.size,0,none⟩)])∧w'=w.alloc (.cells #[.string s] 9):=by
 go_enter Tryz.func99,Tryz.ntmps99
 go_wp2;go_ret;exact⟨rfl,rfl⟩
def Cz(s:List UInt8):List (Nat × List UInt8):=(C7 s).zipIdx.map (fun x=>(x.2+1,Ib x.1))
def Se(x:Nat × List UInt8):Array Value:=#[.int .i64 x.1,C0 x.2]
theorem Ff(s:List UInt8):(Cz s).length=(C7 s).length:=by simp[Cz]
theorem La{s:List UInt8}{i:Nat}{l:List UInt8}(h:(C7 s)[i]?=some l):(Cz s)[i]?=some (i+1,Ib l):=by
 unfold Cz;rw[zF,List.getElem?_zipIdx,h];simp
theorem Ng{m:Nat}(N I:Nat){P:Program}{l:Nat}{args:Array Value}{W:World}{R:Ending→World→Prop}(h:YieldAt Fence.wide m P l args W R):YieldAt (Fence.wide.inRound I) N P l args W R:=by
 obtain⟨G,tmps,assign,body,J,D⟩:=h;exact⟨G,tmps,assign,body,J,⟨D.1,fun c cs _=>D.2 c cs (room_wide _)⟩⟩
theorem Ii:∀(s:List UInt8),(C7 s).length≤s.length
 | []=>qJ _
 |c::r=>by
  have:=Ii r;unfold C7;split
  ·simp;omega
  ·split
   ·simp
   ·rename_i h;rw[h]at this;simp at this ⊢;omega
theorem Ia(l:List UInt8):Lib.trimSuffix l [10]=Ib l:=by
 unfold Lib.trimSuffix Ib Lib.hasSuffix;by_cases h:l.getLast?=some 10
 ·obtain⟨ys,rfl⟩:=List.getLast?_eq_some_iff.1 h;rw[if_pos (by simp),if_pos h];simp
 ·rw[if_neg h,if_neg];intro h2;obtain⟨ys,D⟩:=List.isSuffixOf_iff_suffix.1 h2;exact h (by rw[←D];simp)
theorem Nl(x:List UInt8)(w:World)(hx:x.length≤1099511627776) :
  Calls Tryz.prog 133 #[.string ⟨x.toArray⟩,.string ⟨#[10]⟩] w fun e w'=>e=.returned (.string ⟨(Ib x).toArray⟩)∧w'=w:=by
 have:=Tryz.strings_TrimSuffix ⟨x.toArray⟩ ⟨#[10]⟩ w (by rw[zP];simp;omega);rw[show Lib.trimSuffix (⟨x.toArray⟩:ByteArray).data.toList (⟨#[10]⟩:ByteArray).data.toList=Ib x from Ia x]at this;exact this
theorem Iv:∀(s l:List UInt8),l∈C7 s→l.length≤s.length
 | [],l,h=>by cases h
 |c::r,l,h=>by
  have ih:=Iv r;unfold C7 at h;split at h
  ·rcases zN.1 h with rfl|h
   ·simp
   ·have:=ih l h;simp;omega
  ·split at h
   ·simp at h;subst h;simp
   ·rename_i l1 ls he
    rcases zN.1 h with rfl|h
    ·have:=ih l1 (by rw[he];simp);simp;omega
    ·have:=ih l (by rw[he];simp[h]);simp;omega
theorem Gh(n:Nat)(s:ByteArray)(b:Nat)(T:Nat→Prop)(W:World)(hc:W.cell? ⟨b,0,none⟩=some (.string s))(Z:∀r,W.heap.size≤r→r<W.heap.size+5→T r)(hs:s.size≤1099511627776)
  (hn:20≤n):Tv Fence.wide n Tryz.prog 131 #[.pointer (some ⟨b,0,none⟩)] Se (Cz s.data.toList) T 5 W:=by
 intro l J Jx hJ aD hY h0;have h1:1≤n:=by omega
 have aN:=Pf hc;refine callsIn_of_wp_marks Tryz.func131 rfl trivial ?_ rfl;simp only[Tryz.ntmps131,zD,qE,qP,Nat.reduceAdd,Nat.reduceSub,Array.replicate_succ,Array.replicate_zero,List.push_toArray,List.append_toArray,zK,zJ]
 gi_wp2_with (refine⟨trivial,?_⟩;gi_at_call 132;refine(callsIn_wide.2 (Qq s _)).mono ?_;rintro e w' ⟨rfl,rfl⟩)
 obtain⟨W2,G⟩:∃W2,(((W.alloc (.cells #[.func (.yield l) #[] #[]] 174)).alloc (.cells #[.int .i64 0] 3)).alloc (.cells #[.string s] 9))=W2:=⟨_,rfl⟩;rw[G];have aO:W2.heap.size=W.heap.size+3:=by rw[←G];simp
 have b0:Boxed W2 W.heap.size 174 (.func (.yield l) #[] #[]):=by rw[←G];exact((Boxed.new _ _ _).alloc _).alloc _
 have b1:Boxed W2 (W.heap.size+1) 3 (.int .i64 0):=by
  rw[←G];have:=Boxed.new (W.alloc (.cells #[.func (.yield l) #[] #[]] 174)) 3 (.int .i64 0);rw[qF]at this;exact this.alloc _
 have b2:Boxed W2 (W.heap.size+1+1) 9 (.string s):=by
  rw[←G];have:=Boxed.new ((W.alloc (.cells #[.func (.yield l) #[] #[]] 174)).alloc (.cells #[.int .i64 0] 3)) 9 (.string s);rw[qF,qF]at this;exact this
 have aK:J 0 W2:=by rw[←G];exact hJ.alloc _ (hJ.alloc _ (hJ.alloc _ h0))
 clear G
 refine Dy rfl h1 (gf:=155) (lb:=#[.pointer (some ⟨W.heap.size+1+1,0,none⟩)]) rfl trivial (enters_of Tryz.func155 (by kernel_rfl) rfl)
  (encs:=fun l=>#[C0 l]) (C7 s.data.toList) (fun r=>r=W.heap.size+1+1) 0 (fun r hr=>by omega)
  (fun V Y hV=>Jp (n-1) s _ _ V (b2.kept Y (by simp)).cell (b2.kept Y (by simp)).frozen (.inl rfl) hs (by omega)) (fun _=>rfl)
  (fun i V=>Hid (J i V)∧Boxed V W.heap.size 174 (.func (.yield l) #[] #[])∧Boxed V (W.heap.size+1) 3 (.int .i64 i))
  (fun c i V=>c=.ret∧Hid (Jx i V))
  (fun i V V' row h Y hr=>⟨Ab (hJ i V V' row (Aa h.1) Y (fun r e=>by rcases hr r e with h3|h3<;>exact Z r (by omega) (by omega))),h.2.1.kept Y (fun e=>by rcases hr _ e.symm with h3|h3<;>omega),h.2.2.kept Y (fun e=>by rcases hr _ e.symm with h3|h3<;>omega)⟩)
  (fun c i V V' row h Y hr=>⟨h.1,Ab (aD i V V' row (Aa h.2) Y (fun r e=>by rcases hr r e with h3|h3<;>exact Z r (by omega) (by omega)))⟩)
  ⟨Ab aK,b0,b1⟩
  (fun x=>{ tmps:=#[.func (.yield l) #[] #[],.pointer (some ⟨b,0,none⟩),.pointer (some ⟨W.heap.size,0,none⟩),.pointer (some ⟨W.heap.size+1,0,none⟩),C0 x,.string s,
   .func (.func 155) #[] #[.pointer (some ⟨W.heap.size+1+1,0,none⟩)],C0 x,undef,undef,undef,undef,undef,undef,undef,undef],defers:=[] }) ?assign ?body ?done ?stop
 case assign=>
  intro l2 x V K hK;unfold C0 at hK ⊢
  gi_wp2
  exact hK
 case body=>
  rintro l2 i x V hx ⟨aI,aA,X⟩ hV;have aQ:i<(C7 s.data.toList).length:=(qI.1 hx).1;have aL:=Ii s.data.toList;have aJ:x.length≤1099511627776:=qK (Iv _ _ (qN hx)) (by rw[←zP];exact hs);rw[←zP]at aL;have aT:IntKind.i64.wrap ((i:Int)+1)=(i:Int)+1:=qG _ (by omega);have c1:=aA.cell;have c2:=X.cell;have f2:=X.frozen;unfold C0;have aR:1≤n-1-1:=by omega
  gi_wp2
  obtain⟨I,S⟩:∃I,V.setCell ⟨W.heap.size+1,0,none⟩ (.int .i64 ((i:Int)+1))=I:=⟨_,rfl⟩;rw[S];have N:V.grownBy I (some (W.heap.size+1)):=by rw[←S];exact grownBy_setCell' _ _ _
  have Q:Boxed I (W.heap.size+1) 3 (.int .i64 ((i:Int)+1)):=by rw[←S];exact X.set _
  have R:Boxed I W.heap.size 174 (.func (.yield l) #[] #[]):=aA.kept N (by simp);have d1:=R.cell;have d2:=Q.cell;clear c1 c2 f2 S;have aB:V.grownBy I.drew (some (W.heap.size+1)):=⟨N.os,N.tape,N.output,N.size,N.block⟩;have U:J i I.drew:=hJ i V I.drew _ (Aa aI) aB (fun r e=>by cases e;exact Z _ (by omega) (by omega))
  have aM:=Ng (n-1-1-1) l2 ((hY i _ _ (La hx) U (by have:=aB.size;omega)).mono
   (R':=fun e W'=>∃bb,e=.returned (.bool bb)∧Hid ((bb=true∧J (i+1) W'∧Bo T I.drew W')∨(bb=false∧Jx (i+1) W'∧Bo T I.drew W'))) (by
    rintro e W' (⟨rfl,h⟩|⟨rfl,h⟩)
    ·exact⟨true,rfl,Ab (.inl ⟨rfl,h⟩)⟩
    ·exact⟨false,rfl,Ab (.inr ⟨rfl,h⟩)⟩))
  clear U hx;obtain⟨fn,tmps,assign,body,hy,hR⟩:=aM;replace hy:(Instr.yield l #[.int .i64 ((i:Int)+1),.string ⟨(Ib x).toArray⟩]).run Tryz.prog I.drew=.ok (.round l fn tmps assign body) I.drew:=hy;have aS:Tryz.prog.follows .mixedOrders=true:=by kernel_rfl
  gi_region_with_o (first
   |(refine⟨trivial,?_⟩;gi_at_call 133;refine(CallsIn.inRound l2 (callsIn_wide.2 (Nl x _ aJ))).mono ?_;rintro e w' ⟨rfl,rfl⟩)
   | (refine hR.mono ?_;rintro e w' ⟨bb,rfl,HB⟩))
  all_goals (
   have aC:Bo T I.drew w':=(Aa HB).elim (fun h=>h.2.2) (fun h=>h.2.2);have aG:∀r,Ge (fun r=>r=W.heap.size+1+1) (W.heap.size+3) (W.heap.size+5) r→T r:=fun r hr=>by rcases hr with hr|hr<;>exact Z r (by omega) (by omega)
   have aE:Bo (Ge (fun r=>r=W.heap.size+1+1) (W.heap.size+3) (W.heap.size+5)) V w':=
    (Bo.of_grownBy aB (fun r e hr=>by cases e;rcases hr with hr|hr<;>omega)).trans (aC.mono aG)
   cases bb
   ·gi_wp2
    refine⟨aE,rfl,?_⟩;rcases Aa HB with h|h
    ·cases h.1
    ·exact Ab h.2.1
   ·gi_wp2
    refine⟨aE,?_,?_,?_⟩
    ·rcases Aa HB with h|h
     ·exact Ab h.2.1
     ·cases h.1
    ·exact(aC.same _ (Z _ (by omega) (by omega)) R.lt).trans R
    ·exact(aC.same _ (Z _ (by omega) (by omega)) Q.lt).trans Q)
 case done=>
  rintro D V rfl ⟨U,aA,X⟩ hK
  gi_wp2
  refine⟨by simp,.inl ⟨_,_,rfl,run_takeDeferred hK,?_⟩⟩;refine⟨_,results_none rfl _ _ _,⟨_,rfl⟩,.inl ?_⟩;rw[Ff];exact hJ.putObj _ (Aa U) (Z _ (by omega) (by omega))
 case stop=>
  rintro D c i V rfl hi ⟨rfl,aH⟩ hK
  gi_wp2
  refine⟨by simp,.inl ⟨_,_,rfl,run_takeDeferred hK,?_⟩⟩;refine⟨_,results_none rfl _ _ _,⟨_,rfl⟩,.inr ⟨i,by rw[Ff];exact hi,?_⟩⟩;exact aD.putObj _ (Aa aH) (Z _ (by omega) (by omega))
end Go.Proofs.YtnjokdbblmlhhaaGreatDoor
namespace Go.Proofs.YtnjokdbblmlhhaaGreatDoor
set_option maxHeartbeats 2000000
set_option maxRecDepth 100000
open Go.RowKit Go.Shelf
attribute [local go_sem] Oper.semAt_some
theorem Fj{w V:World}(h:Below w.heap.size w V)(o:Obj){D:Nat}(G:w.heap.size≤D):Below w.heap.size w (V.putObj D o):=
 h.grown (grownBy_putObj' V D o) h.size (fun k e=>by cases e;exact G)
theorem Oj{w V:World}(h:Below w.heap.size w V)(v:Value){D:Nat}(G:w.heap.size≤D):Below w.heap.size w (V.setCell ⟨D,0,none⟩ v):=
 h.grown (grownBy_setCell' V D v) h.size (fun k e=>by cases e;exact G)
end Go.Proofs.YtnjokdbblmlhhaaGreatDoor
namespace Go.Proofs.YtnjokdbblmlhhaaGreatDoor
set_option maxHeartbeats 2000000
set_option maxRecDepth 100000
open Go.RowKit
theorem I6(n:Int)(w:World) :
  Calls Tryz.prog 170 #[.int .i32 n] w fun e w'=>e=.returned (.bool (P03.rune n))∧w'=w:=by
 go_enter Tryz.func170,Tryz.ntmps170
 go_wp2;all_goals go_ret
 all_goals refine⟨Bn ?_,rfl⟩
 all_goals rw[P03.rune,Bool.eq_iff_iff]
 all_goals simp
 all_goals omega
def Ij(w:World)(x:Int × Int)(e:Ending)(w':World):Prop:=e=.returned (.tuple #[.int .i64 x.1,.int .i32 x.2])∧w'=w
theorem Tw(s:ByteArray)(k:Nat)(w:World)(h:s.size≤2097152)(hk:k<s.size)(aK:192≤s[k].toNat)(aH:s[k].toNat<224) :
  Calls Tryz.prog 143 #[.string s,.int .i64 (k:Int)] w (Ij w (P03.tailOf 1 ((s[k].toNat:Int)-192) 128 (s.data.toList.drop k))):=by
 have hb:=s[k].toNat_lt;have aL:(k:Int)<(s.size:Int):=by omega
 have G:=P03.drop_len s k;have Y:=Ab G;clear G;by_cases aE:(s.size:Int)-(k:Int)≤1
 ·go_enter Tryz.func143,Tryz.ntmps143
  go_wp2
  go_ret2
  rw[P03.tailOf_short (by rw[Aa Y];omega)];exact⟨rfl,rfl⟩
 ·have N:((1:Nat):Int)<(((s.data.toList.drop k).length:Nat):Int):=by rw[Aa Y];omega
  have HS:=Ab N;clear N;go_enter Tryz.func143,Tryz.ntmps143
  go_wp2
  go_loopg [8,10] 1 (fun g s8 X wx=>∃(j:Nat) (m:Int),j+g=2∧1≤j∧X=.int .i64 (j:Int)∧s8=.int .i32 m∧Hid (P03.contLoop 1 ((s[k].toNat:Int)-192) ((s.data.toList.drop k).drop 1)=P03.contLoop g m ((s.data.toList.drop k).drop j))∧0≤m∧(m<8388608∧(j=3→m<131072)∧(j=2→m<2048)∧(j=1→m<32))∧wx=w)
  case atStart=>exact⟨1,_,rfl,by omega,rfl,rfl,rfl,by omega,by omega,rfl⟩
  case round=>
   obtain⟨j,m,I,aM,rfl,rfl,R,aI,hm,rfl⟩:=hrel;cases gk with
   |zero=>
    obtain rfl:j=2:=by omega
    have D:=P03.tailOf_some (least:=128) (Int.not_le.2 (Aa HS)) ((Aa R).trans (P03.cont_0 _ _));have Q:=Ab D;clear D I;by_cases hl:m<128
    ·go_wp2
     go_ret2
     rw[Aa Q,if_pos hl];exact⟨rfl,rfl⟩
    ·have aD:128≤m:=by omega
     cases hr:P03.rune m
     all_goals
      have HR:=Ab hr;go_wp2_with (go_at_call 170;refine(I6 _ _).mono ?_;rw[hr];rintro e w' ⟨rfl,rfl⟩)
      go_ret2
      rw[Aa Q,if_neg (by omega)]
      first
       |(rw[if_pos (Aa HR)];exact⟨rfl,rfl⟩)
       |(rw[if_neg (by rw[Aa HR];simp)];exact⟨rfl,rfl⟩)
   |succ g=>
    have HG:=Ab I;have aG:j≤1:=by omega
    have aB:(j:Int)≤1:=by omega
    clear I;have S:k+j<s.size:=by omega
    have aA:(k:Int)+(j:Int)<(s.size:Int):=by omega
    have aJ:s[k+j].toNat<256:=s[k+j].toNat_lt;have U:=P03.getD_drop s (k+j) S;rw[←zI]at U;have Z:=Ab U;clear U;by_cases hc:(s[k+j].toNat:Int)<128∨192≤(s[k+j].toNat:Int)
    ·have D:=P03.tailOf_none (least:=128) (Int.not_le.2 (Aa HS)) ((Aa R).trans (P03.cont_no (Aa Z) hc));have Q:=Ab D;clear D;rcases hc with hc|hc
     all_goals
      go_wp2
      go_ret2
      rw[Aa Q];exact⟨rfl,rfl⟩
    ·have J:=P03.cont_yes (r:=g) (n:=m) (Aa Z) hc;rw[zI,zI]at J;have HC:=Ab J;clear J;have aC:¬(s[k+j].toNat:Int)<128:=by omega
     have aN:¬192≤(s[k+j].toNat:Int):=by omega
     clear hc;go_wp2;go_roundg g
     case measure=>omega
     case rel=>exact⟨j+1,m*64+(s[k+j].toNat:Int)-128,by have:=Aa HG;omega,by omega,by go_num,rfl,by show _=_;rw[Aa R,zI,Aa HC];simp only[zI];rw[Nat.add_assoc],by omega,by omega,rfl⟩
theorem T0(s:ByteArray)(k:Nat)(w:World)(h:s.size≤2097152)(hk:k<s.size)(aK:224≤s[k].toNat)(aH:s[k].toNat<240) :
  Calls Tryz.prog 143 #[.string s,.int .i64 (k:Int)] w (Ij w (P03.tailOf 2 ((s[k].toNat:Int)-224) 2048 (s.data.toList.drop k))):=by
 have hb:=s[k].toNat_lt;have aL:(k:Int)<(s.size:Int):=by omega
 have G:=P03.drop_len s k;have Y:=Ab G;clear G;by_cases aE:(s.size:Int)-(k:Int)≤2
 ·go_enter Tryz.func143,Tryz.ntmps143
  go_wp2
  go_ret2
  rw[P03.tailOf_short (by rw[Aa Y];omega)];exact⟨rfl,rfl⟩
 ·have N:((2:Nat):Int)<(((s.data.toList.drop k).length:Nat):Int):=by rw[Aa Y];omega
  have HS:=Ab N;clear N;go_enter Tryz.func143,Tryz.ntmps143
  go_wp2
  go_loopg [8,10] 2 (fun g s8 X wx=>∃(j:Nat) (m:Int),j+g=3∧1≤j∧X=.int .i64 (j:Int)∧s8=.int .i32 m∧Hid (P03.contLoop 2 ((s[k].toNat:Int)-224) ((s.data.toList.drop k).drop 1)=P03.contLoop g m ((s.data.toList.drop k).drop j))∧0≤m∧(m<8388608∧(j=3→m<131072)∧(j=2→m<2048)∧(j=1→m<32))∧wx=w)
  case atStart=>exact⟨1,_,rfl,by omega,rfl,rfl,rfl,by omega,by omega,rfl⟩
  case round=>
   obtain⟨j,m,I,aM,rfl,rfl,R,aI,hm,rfl⟩:=hrel;cases gk with
   |zero=>
    obtain rfl:j=3:=by omega
    have D:=P03.tailOf_some (least:=2048) (Int.not_le.2 (Aa HS)) ((Aa R).trans (P03.cont_0 _ _));have Q:=Ab D;clear D I;by_cases hl:m<2048
    ·go_wp2
     go_ret2
     rw[Aa Q,if_pos hl];exact⟨rfl,rfl⟩
    ·have aD:2048≤m:=by omega
     cases hr:P03.rune m
     all_goals
      have HR:=Ab hr;go_wp2_with (go_at_call 170;refine(I6 _ _).mono ?_;rw[hr];rintro e w' ⟨rfl,rfl⟩)
      go_ret2
      rw[Aa Q,if_neg (by omega)]
      first
       |(rw[if_pos (Aa HR)];exact⟨rfl,rfl⟩)
       |(rw[if_neg (by rw[Aa HR];simp)];exact⟨rfl,rfl⟩)
   |succ g=>
    have HG:=Ab I;have aG:j≤2:=by omega
    have aB:(j:Int)≤2:=by omega
    clear I;have S:k+j<s.size:=by omega
    have aA:(k:Int)+(j:Int)<(s.size:Int):=by omega
    have aJ:s[k+j].toNat<256:=s[k+j].toNat_lt;have U:=P03.getD_drop s (k+j) S;rw[←zI]at U;have Z:=Ab U;clear U;by_cases hc:(s[k+j].toNat:Int)<128∨192≤(s[k+j].toNat:Int)
    ·have D:=P03.tailOf_none (least:=2048) (Int.not_le.2 (Aa HS)) ((Aa R).trans (P03.cont_no (Aa Z) hc));have Q:=Ab D;clear D;rcases hc with hc|hc
     all_goals
      go_wp2
      go_ret2
      rw[Aa Q];exact⟨rfl,rfl⟩
    ·have J:=P03.cont_yes (r:=g) (n:=m) (Aa Z) hc;rw[zI,zI]at J;have HC:=Ab J;clear J;have aC:¬(s[k+j].toNat:Int)<128:=by omega
     have aN:¬192≤(s[k+j].toNat:Int):=by omega
     clear hc;go_wp2;go_roundg g
     case measure=>omega
     case rel=>exact⟨j+1,m*64+(s[k+j].toNat:Int)-128,by have:=Aa HG;omega,by omega,by go_num,rfl,by show _=_;rw[Aa R,zI,Aa HC];simp only[zI];rw[Nat.add_assoc],by omega,by omega,rfl⟩
theorem Ty(s:ByteArray)(k:Nat)(w:World)(h:s.size≤2097152)(hk:k<s.size)(aK:240≤s[k].toNat)(aH:s[k].toNat<248) :
  Calls Tryz.prog 143 #[.string s,.int .i64 (k:Int)] w (Ij w (P03.tailOf 3 ((s[k].toNat:Int)-240) 65536 (s.data.toList.drop k))):=by
 have hb:=s[k].toNat_lt;have aL:(k:Int)<(s.size:Int):=by omega
 have G:=P03.drop_len s k;have Y:=Ab G;clear G;by_cases aE:(s.size:Int)-(k:Int)≤3
 ·go_enter Tryz.func143,Tryz.ntmps143
  go_wp2
  go_ret2
  rw[P03.tailOf_short (by rw[Aa Y];omega)];exact⟨rfl,rfl⟩
 ·have N:((3:Nat):Int)<(((s.data.toList.drop k).length:Nat):Int):=by rw[Aa Y];omega
  have HS:=Ab N;clear N;go_enter Tryz.func143,Tryz.ntmps143
  go_wp2
  go_loopg [8,10] 3 (fun g s8 X wx=>∃(j:Nat) (m:Int),j+g=4∧1≤j∧X=.int .i64 (j:Int)∧s8=.int .i32 m∧Hid (P03.contLoop 3 ((s[k].toNat:Int)-240) ((s.data.toList.drop k).drop 1)=P03.contLoop g m ((s.data.toList.drop k).drop j))∧0≤m∧(m<8388608∧(j=3→m<131072)∧(j=2→m<2048)∧(j=1→m<32))∧wx=w)
  case atStart=>exact⟨1,_,rfl,by omega,rfl,rfl,rfl,by omega,by omega,rfl⟩
  case round=>
   obtain⟨j,m,I,aM,rfl,rfl,R,aI,hm,rfl⟩:=hrel;cases gk with
   |zero=>
    obtain rfl:j=4:=by omega
    have D:=P03.tailOf_some (least:=65536) (Int.not_le.2 (Aa HS)) ((Aa R).trans (P03.cont_0 _ _));have Q:=Ab D;clear D I;by_cases hl:m<65536
    ·go_wp2
     go_ret2
     rw[Aa Q,if_pos hl];exact⟨rfl,rfl⟩
    ·have aD:65536≤m:=by omega
     cases hr:P03.rune m
     all_goals
      have HR:=Ab hr;go_wp2_with (go_at_call 170;refine(I6 _ _).mono ?_;rw[hr];rintro e w' ⟨rfl,rfl⟩)
      go_ret2
      rw[Aa Q,if_neg (by omega)]
      first
       |(rw[if_pos (Aa HR)];exact⟨rfl,rfl⟩)
       |(rw[if_neg (by rw[Aa HR];simp)];exact⟨rfl,rfl⟩)
   |succ g=>
    have HG:=Ab I;have aG:j≤3:=by omega
    have aB:(j:Int)≤3:=by omega
    clear I;have S:k+j<s.size:=by omega
    have aA:(k:Int)+(j:Int)<(s.size:Int):=by omega
    have aJ:s[k+j].toNat<256:=s[k+j].toNat_lt;have U:=P03.getD_drop s (k+j) S;rw[←zI]at U;have Z:=Ab U;clear U;by_cases hc:(s[k+j].toNat:Int)<128∨192≤(s[k+j].toNat:Int)
    ·have D:=P03.tailOf_none (least:=65536) (Int.not_le.2 (Aa HS)) ((Aa R).trans (P03.cont_no (Aa Z) hc));have Q:=Ab D;clear D;rcases hc with hc|hc
     all_goals
      go_wp2
      go_ret2
      rw[Aa Q];exact⟨rfl,rfl⟩
    ·have J:=P03.cont_yes (r:=g) (n:=m) (Aa Z) hc;rw[zI,zI]at J;have HC:=Ab J;clear J;have aC:¬(s[k+j].toNat:Int)<128:=by omega
     have aN:¬192≤(s[k+j].toNat:Int):=by omega
     clear hc;go_wp2;go_roundg g
     case measure=>omega
     case rel=>exact⟨j+1,m*64+(s[k+j].toNat:Int)-128,by have:=Aa HG;omega,by omega,by go_num,rfl,by show _=_;rw[Aa R,zI,Aa HC];simp only[zI];rw[Nat.add_assoc],by omega,by omega,rfl⟩
theorem Tg(s:ByteArray)(k:Nat)(w:World)(h:s.size≤2097152)(hk:k<s.size) :
  Calls Tryz.prog 143 #[.string s,.int .i64 (k:Int)] w (Ij w (P03.one (s.data.toList.drop k))):=by
 have hb:=s[k].toNat_lt;have G:=P03.getD_drop s k hk;have N:(k:Int)<(s.size:Int):=by omega
 by_cases c1:s[k].toNat<128
 ·have D:=P03.one_1 G c1;rw[D];clear D G;go_enter Tryz.func143,Tryz.ntmps143
  go_wp2
  go_ret2
  exact⟨rfl,rfl⟩
 ·by_cases c2:192≤s[k].toNat∧s[k].toNat<248
  ·by_cases J:s[k].toNat<224
   ·rw[P03.one_2 G (by omega) J];exact Tw s k w h hk (by omega) J
   ·by_cases I:s[k].toNat<240
    ·rw[P03.one_3 G (by omega) I];exact T0 s k w h hk (by omega) I
    ·rw[P03.one_4 G (by omega) (by omega)];exact Ty s k w h hk (by omega) (by omega)
  ·have D:=P03.one_0 G (by omega) (by omega);rw[D];clear D G;by_cases c3:s[k].toNat<192
   all_goals
    go_enter Tryz.func143,Tryz.ntmps143
    go_wp2
    go_ret2
    exact⟨rfl,rfl⟩
end Go.Proofs.YtnjokdbblmlhhaaGreatDoor
namespace Go.Proofs.YtnjokdbblmlhhaaGreatDoor
set_option maxHeartbeats 2000000
set_option maxRecDepth 100000
open Go.RowKit
theorem Kr(s:ByteArray)(w:World)(h:s.size≤2097152) :
  Calls Tryz.prog 111 #[.string s] w fun e w'=>e=.returned (.int .i64 (P03.first s.data.toList))∧w'=w:=by
 go_enter Tryz.func111,Tryz.ntmps111
 go_wp2
 go_loopg [3] s.size (fun g s3 Y=>∃(k:Nat),k≤s.size∧s.size≤k+g∧s3=.int .i64 (k:Int)∧Hid (P03.first s.data.toList=P03.firstBad (g+1) k (s.data.toList.drop k))∧Y=w)
 case atStart=>exact⟨0,by omega,by omega,rfl,by show _=_;rw[P03.first,←zP];rfl,rfl⟩
 case round=>
  obtain⟨k,hk,U,rfl,J,rfl⟩:=hrel;by_cases N:k<s.size
  ·have S:(k:Int)<(s.size:Int):=by omega
   have Q:P03.firstBad (gk+1) k (s.data.toList.drop k)=_:=rfl;clear Q;have hne:(s.data.toList.drop k).length≠0:=by rw[P03.drop_len];omega
   have G:=P03.one_bd (s.data.toList.drop k) (by rw[P03.drop_len];omega);rw[P03.drop_len]at G
   have D:P03.firstBad (gk+1) k (s.data.toList.drop k)=if ((P03.one (s.data.toList.drop k)).1==0)=true then (k:Int) else P03.firstBad gk (k+(P03.one (s.data.toList.drop k)).1.toNat) ((s.data.toList.drop k).drop (P03.one (s.data.toList.drop k)).1.toNat):=by
    rw[P03.firstBad,if_neg hne]
   generalize I:P03.one (s.data.toList.drop k)=x at G D;obtain⟨x1,x2⟩:=x;simp only at G D;obtain⟨n,rfl⟩:=Int.eq_ofNat_of_zero_le G.1;have Z:=Ab I;have R:=Ab D;clear I D hne;go_wp2_with (go_at_call 143;refine(Tg s k _ h N).mono ?_;rw[Aa Z];rintro e w' ⟨rfl,rfl⟩)
   ·go_ret;refine⟨De ?_,rfl⟩;rw[Aa J,Aa R,if_pos (by assumption)]
   ·have X:n≠0:=by rintro rfl;simp_all
    go_roundg (gk-1)
    case measure=>omega
    case rel=>
     refine⟨k+n,by omega,by omega,by go_num,?_,rfl⟩;show _=_;rw[Aa J,Aa R,if_neg (nb (by assumption)),zH,zI,show gk-1+1=gk from by omega]
  ·go_wp2;go_ret;refine⟨De ?_,rfl⟩;rw[Aa J,P03.firstBad,if_pos (by rw[P03.drop_len];omega)]
theorem Dm(s:ByteArray)(n:Int)(w:World)(h:s.size≤1100000) :
  Calls Tryz.prog 84 #[.string s,.int .i64 n] w fun e w'=>e=.returned (.int .i64 (P03.check s.data.toList n))∧w'=w:=by
 go_enter Tryz.func84,Tryz.ntmps84
 go_wp2_with (go_at_call 111;refine(Kr _ _ (qK h (by decide))).mono ?_;rintro e w' ⟨rfl,rfl⟩)
 all_goals go_ret
 all_goals refine⟨De ?_,rfl⟩
 all_goals rw[P03.check,←zP]
 all_goals repeat (first|rw[if_pos (by omega)]|rw[if_neg (by omega)])
theorem Kg(s:ByteArray)(k:Nat)(r:Int)(w:World)(h:s.size≤1100000)(hk:k≤s.size) :
  Calls Tryz.prog 123 #[.string s,.int .i64 (k:Int),.int .i32 r] w fun e w'=>e=.returned (.int .i64 (P03.taken (s.data.toList.drop k) r))∧w'=w:=by
 have D:(k:Int)≤(s.size:Int):=by omega
 go_enter Tryz.func123,Tryz.ntmps123
 go_wp2_with (go_at_call 149;refine(Tryz.strings_HasPrefix _ _ _).mono ?_;rintro e w' ⟨rfl,rfl⟩)
 all_goals go_ret
 all_goals refine⟨De ?_,rfl⟩
 all_goals rw[P03.taken]
 ·rw[if_pos (by assumption)]
 all_goals rw[if_neg (nb (by assumption))]
 all_goals rename_i hp
 all_goals rw[List.take_of_length_le (by rw[P03.drop_len];omega)]at hp
 ·rw[if_pos hp]
 ·rw[if_neg (nb hp)]
end Go.Proofs.YtnjokdbblmlhhaaGreatDoor
namespace Go.Proofs.YtnjokdbblmlhhaaGreatDoor
set_option maxHeartbeats 2000000
set_option maxRecDepth 100000
open Go.RowKit
theorem Fi(w:World)(s:ByteArray)(p:Nat):Below w.heap.size w (w.iter s p):=(qV _ _).alloc (qJ _) _
theorem Ho(s:ByteArray)(w:World)(h:s.size≤1100000) :
  Calls Tryz.prog 82 #[.string s] w fun e w'=>e=.returned (.int .i64 (P03.first s.data.toList))∧Below w.heap.size w w':=by
 go_enter Tryz.func82,Tryz.ntmps82
 go_wp2
 go_loopg [] s.size (fun g wx=>∃(k:Nat),k≤s.size∧s.size≤k+g∧Hid (P03.first s.data.toList=P03.firstBad (g+1) k (s.data.toList.drop k))∧wx=w.iter s k)
 case atStart=>exact⟨0,by omega,by omega,by show _=_;rw[P03.first,←zP];rfl,rfl⟩
 case round=>
  obtain⟨k,hk,Z,Q,rfl⟩:=hrel;by_cases I:k<s.size
  ·have R:=fun N=>run_next_any (P:=Tryz.prog) w s k N I;have hne:(s.data.toList.drop k).length≠0:=by rw[P03.drop_len];omega
   have G:=P03.one_bd (s.data.toList.drop k) (by rw[P03.drop_len];omega);rw[P03.drop_len]at G
   have D:P03.firstBad (gk+1) k (s.data.toList.drop k)=if ((P03.one (s.data.toList.drop k)).1==0)=true then (k:Int) else P03.firstBad gk (k+(P03.one (s.data.toList.drop k)).1.toNat) ((s.data.toList.drop k).drop (P03.one (s.data.toList.drop k)).1.toNat):=by
    rw[P03.firstBad,if_neg hne]
   have U:=Ab D;have Y:=Ab G;clear D hne G;rcases P03.meets s k I with⟨h1,h2⟩|⟨h1,h2,h3⟩
   ·have J:=Ab h1;clear h1;go_wp2_with (go_at_call 123;refine(Kg s k _ _ h hk).mono ?_;rintro e w' ⟨rfl,rfl⟩)
    go_ret;refine⟨De ?_,Fi w s _⟩;rw[Aa Q,Aa U,if_pos (Aa J)]
   ·have J:=Ab h1;have S:=Ab h3;clear h1 h3;go_wp2_with (go_at_call 123;refine(Kg s k _ _ h hk).mono ?_;rintro e w' ⟨rfl,rfl⟩)
    have aA:1≤(Utf8.decode s k).2:=by
     have X:=Aa J;rw[Aa S]at X;have:=beq_eq_false_iff_ne.1 X;omega
    have hk2:k+(Utf8.decode s k).2≤s.size:=by
     have:=(Aa Y).2.2;rw[Aa S]at this;omega
    go_roundg (gk-1)
    case measure=>omega
    case rel=>
     refine⟨k+(Utf8.decode s k).2,hk2,by omega,?_,rfl⟩;show _=_;rw[Aa Q,Aa U,if_neg (nb (Aa J)),Aa S,zH,zI,show gk-1+1=gk from by omega]
  ·have R:=fun N=>run_next_end (P:=Tryz.prog) w s k N I;go_wp2;go_ret;refine⟨De ?_,Fi w s _⟩;rw[Aa Q,P03.firstBad,if_pos (by rw[P03.drop_len];omega)]
theorem Fa(s:ByteArray)(n:Int)(w:World)(h:s.size≤1100000) :
  Calls Tryz.prog 44 #[.string s,.int .i64 n] w fun e w'=>e=.returned (.int .i64 (P03.check s.data.toList n))∧Below w.heap.size w w':=by
 go_enter Tryz.func44,Tryz.ntmps44
 go_wp2_with (go_at_call 82;refine(Ho _ _ (by assumption)).mono ?_;rintro e w' ⟨rfl,hb⟩)
 all_goals go_ret
 all_goals refine⟨De ?_,by first|exact qV _ _|assumption⟩
 all_goals rw[P03.check,←zP]
 all_goals repeat (first|rw[if_pos (by omega)]|rw[if_neg (by omega)])
end Go.Proofs.YtnjokdbblmlhhaaGreatDoor
namespace Go.Proofs.YtnjokdbblmlhhaaGreatDoor
set_option maxHeartbeats 2000000
set_option maxRecDepth 100000
open Go.RowKit
theorem Ox(c:UInt8)(n:Int)(w:World)(h0:0≤n) :
  Calls Tryz.prog 171 #[.int .u8 (c.toNat:Int),.int .i64 n] w fun e w'=>e=.returned (.bool (P18.stands c (decide (0<n))))∧w'=w:=by
 go_enter Tryz.func171,Tryz.ntmps171
 go_wp2_with (go_at_call 156;refine(Tryz.strings_IndexByte _ _ _).mono ?_;rintro e w' ⟨rfl,rfl⟩)
 all_goals go_ret
 all_goals refine⟨Bn ?_,rfl⟩
 all_goals rw[P18.stands_key]
 all_goals first|rw[if_pos (by omega)]|(rw[if_neg (by omega)];first|rw[if_pos (by omega)]|rw[if_neg (by omega)])
 all_goals simp
 all_goals omega
theorem Qw(s:ByteArray)(w:World)(h:s.size≤maxLen) :
    Calls Tryz.prog 147 #[.string s] w fun e w'=>e=.returned (.int .i64 (P18.plainLen false s.data.toList))∧w'=w:=by
  unfold maxLen at h;go_enter Tryz.func147,Tryz.ntmps147
  go_wp2
  go_loop [3] (fun n=>∃k:Nat,k≤s.size∧n=.int .i64 k∧P18.plainLen false s.data.toList=P18.plainLen (decide (0<k)) (s.data.toList.drop k)+k) (fun n=>s.size-(intOf n).toNat)
  case atStart=>exact⟨0,Nat.zero_le _,rfl,rfl⟩
  case round=>
    obtain⟨k,hk,rfl,hp⟩:=hrel;have G:=Ab hp;clear hp;by_cases D:k<s.size
    · have hd:=P18.plainLen_drop (pos:=decide (0<k)) (l:=s.data.toList) (k:=k) (by simpa using D)
      have I:s.data.toList[k]'(by simpa using D)=s[k]:=rfl;rw[I]at hd;by_cases hs:P18.stands s[k] (decide (0<k))=true
      all_goals
        have J:=Ab hd;clear hd I;go_wp2_with (go_at_call 171;refine(Ox _ _ _ (by omega)).mono ?_;rintro e w' ⟨rfl,rfl⟩)
        first
          | (go_round
             case rel=>exact⟨k+1,by omega,by go_num,by rw[Aa G,Aa J,if_pos hs];simp;omega⟩
             case measure=>simp[intOf];omega)
          | (go_ret
             exact⟨De (by rw[Aa G,Aa J,if_neg hs];simp),rfl⟩)
    · go_wp2_with fail
      go_ret;exact⟨De (by rw[Aa G,qM (by simp;omega)];simp[P18.plainLen]),rfl⟩
theorem R9(c:UInt8)(w:World)  :
  Calls Tryz.prog 148 #[.int .u8 (c.toNat:Int)] w fun e w'=>e=.returned (.string ⟨(P18.word c).toArray⟩)∧∃n,w'=w.drewN n:=by
 have hc:=c.toNat_lt;go_enter Tryz.func148,Tryz.ntmps148
 go_wp2_with fail
 all_goals try (go_quiet (fail))
 all_goals try go_wp2_with fail
 all_goals try go_ret
 all_goals refine⟨Im ?_,by first|exact⟨0,rfl⟩|exact⟨_,rfl⟩⟩
 all_goals simp only[beq_iff_eq,beq_eq_false_iff_ne]at *
 all_goals rw[←P18.word_ends c]
 all_goals repeat (first|rw[if_pos (by omega)]|rw[if_neg (by omega)])
 all_goals rfl
end Go.Proofs.YtnjokdbblmlhhaaGreatDoor
namespace Go.Proofs.YtnjokdbblmlhhaaGreatDoor
set_option maxHeartbeats 2000000
set_option maxRecDepth 100000
open Go.RowKit
theorem Pb(s:ByteArray)(w:World)(h:s.size≤maxLen) :
    Calls Tryz.prog 168 #[.string s] w fun e w'=>e=.returned (.tuple #[.int .i64 (P18.cut s.data.toList).1,.int .i64 (P18.cut s.data.toList).2])∧w'=w:=by
  unfold maxLen at h;by_cases hq:Lib.hasPrefix s.data.toList [34]=true
  · go_enter Tryz.func168,Tryz.ntmps168
    go_wp2;go_step3;go_wp2_with (go_at_call 149;refine(Tryz.strings_HasPrefix _ _ _).mono ?_;rintro e w' ⟨rfl,rfl⟩)
    go_step3;go_wp2_with (go_at_call 149;refine(Tryz.strings_HasPrefix _ _ _).mono ?_;rintro e w' ⟨rfl,rfl⟩)
    go_loop [5,17] (fun t n=>∃(k:Nat) (b:Bool),k≤s.size∧n=.int .i64 k∧t=.bool b∧P18.cutQ 0 false s.data.toList=P18.cutQ k b (s.data.toList.drop k)) (fun _ n=>s.size-(intOf n).toNat)
    case atStart=>exact⟨0,false,Nat.zero_le _,rfl,rfl,rfl⟩
    case round=>
      obtain⟨k,b,hk,rfl,rfl,hp⟩:=hrel;have G:=Ab hp;clear hp;by_cases D:k<s.size
      · have hd:=P18.cutQ_drop (i:=k) (t:=b) (l:=s.data.toList) (by simpa using D)
        have I:s.data.toList[k]'(by simpa using D)=s[k]:=rfl;rw[I]at hd;have J:=Ab hd;clear hd I;go_wp2
        all_goals first
          |exact⟨⟨k+1,_,by omega,by go_num,rfl,by rw[Aa G,Aa J];simp[*]⟩,by simp[intOf];omega⟩
          | (go_ret2
             refine⟨?_,rfl⟩;rw[P18.cut,if_pos hq,Aa G,Aa J]
             simp[*])
      · go_wp2
        go_ret2
        refine⟨?_,rfl⟩;rw[P18.cut,if_pos hq,Aa G,qM (by simp;omega)];simp[P18.cutQ]
  · go_enter Tryz.func168,Tryz.ntmps168
    go_wp2;go_step3;go_wp2_with (first|(go_at_call 149;refine(Tryz.strings_HasPrefix _ _ _).mono ?_;rintro e w' ⟨rfl,rfl⟩)|(go_at_call 147;refine(Qw _ _ (by assumption)).mono ?_;rintro e w' ⟨rfl,rfl⟩))
    all_goals rw[Exit.noGoto_ret]
    all_goals go_ret2
    all_goals refine⟨?_,rfl⟩
    all_goals simp[P18.cut, *]
theorem Mj(c:Int)(w:World)(h0:0≤c)(h1:c<256) :
  Calls Tryz.prog 148 #[.int .u8 c] w fun e w'=>∃b:ByteArray,e=.returned (.string b)∧b.data.toList=P18.word (UInt8.ofNat c.toNat)∧∃n,w'=w.drewN n:=by
 obtain⟨n,rfl⟩:=Int.eq_ofNat_of_zero_le h0;have e:n=(UInt8.ofNat n).toNat:=by simp;omega
 have:=R9 (UInt8.ofNat n) w;rw[←e]at this;exact this.mono fun e w' ⟨h1,h2⟩=>⟨_,h1,by simp,h2⟩
theorem N4(s:ByteArray)(w:World)(h:s.size≤maxLen) :
    Calls Tryz.prog 190 #[.string s] w fun e w'=>e=.returned (.tuple #[.int .u8 (P18.behind s.data.toList).1,.int .i64 (P18.behind s.data.toList).2])∧∃n,w'=w.drewN n:=by
  unfold maxLen at h;go_enter Tryz.func190,Tryz.ntmps190
  go_wp2
  go_loopg [8] 128 (fun g s8 wx=>∃k n:Nat,k+g=128∧s8=.int .i64 k∧Hid ((List.range 128).find? (P18.startsWord s.data.toList)=((List.range 128).drop k).find? (P18.startsWord s.data.toList))∧wx=w.drewN n)
  case atStart=>exact⟨0,0,rfl,rfl,rfl,rfl⟩
  case round=>
    obtain⟨k,n,U,rfl,X,hw⟩:=hrel;have Q:=Ab hw;clear hw;cases gk with
    |zero=>
      obtain rfl:k=128:=by omega
      have hb:P18.behind s.data.toList=P18.hexTail s.data.toList:=by
        rw[P18.behind,Aa X,qM (by simp)];rfl
      have HB:=Ab hb;have R:=zP s;have HZ:=Ab R;clear hb R;by_cases h3:s.size<3
      · go_wp2_with fail
        go_ret2
        have hh:P18.behind s.data.toList=(0,0):=by rw[Aa HB,P18.hexTail,if_pos (by rw[←Aa HZ];omega)]
        rw[hh];exact⟨Fy rfl rfl,n,Aa Q⟩
      · have e1:1<s.size:=by omega
        have e2:2<s.size:=by omega
        have i1:(1:Int)<(s.size:Int):=by omega
        have i2:(2:Int)<(s.size:Int):=by omega
        have g0:s.data.toList.getD 0 0=s[0]:=by rw[List.getD_eq_getElem?_getD,Lib.data_getElem? s 0 (by omega)];rfl
        have g1:s.data.toList.getD 1 0=s[1]:=by rw[List.getD_eq_getElem?_getD,Lib.data_getElem? s 1 (by omega)];rfl
        have g2:s.data.toList.getD 2 0=s[2]:=by rw[List.getD_eq_getElem?_getD,Lib.data_getElem? s 2 (by omega)];rfl
        have hT:P18.hexTail s.data.toList=P18.hexThree s[0] s[1] s[2]:=by
          rw[P18.hexTail,if_neg (by rw[←Aa HZ];omega),g0,g1,g2]
        have HT:=Ab hT;clear hT g0 g1 g2;by_cases hx:s[0].toNat=120
        · have Y:(((s[0].toNat:Int)) != 120)=false:=by simp;omega
          have G:(s[0] != 120)=false:=by simp;exact UInt8.toNat_inj.1 hx
          have Z:=Ab G;clear hx G;go_wp2_with fail
          go_quiet ((go_at_call 156;exact Calls.quiet_of_same (Tryz.strings_IndexByte _ _ _)))
          have b1:=P18.idx_bd s[1];have b2:=P18.idx_bd s[2];go_wp2_with fail
          all_goals go_ret2
          all_goals rw[Aa HB,Aa HT,P18.hexThree,if_neg (by rw[Aa Z];simp)]
          all_goals refine⟨Fy ?_ ?_,_,by rw[Aa Q,World.drewN_drewN]⟩
          all_goals repeat (first|rw[if_pos (by omega)]|rw[if_neg (by omega)])
        · have Y:(((s[0].toNat:Int)) != 120)=true:=by simp;omega
          have G:(s[0] != 120)=true:=by simp;intro e;rw[e]at hx;exact hx rfl
          have Z:=Ab G;clear hx G;go_wp2_with fail
          go_ret2
          rw[Aa HB,Aa HT,P18.hexThree,if_pos (Aa Z)];exact⟨Fy rfl rfl,n,Aa Q⟩
    |succ g=>
      have aB:(k:Int)<128:=by omega
      have I:k<128:=by omega
      have HG:=Ab U;clear U;have N:P18.startsWord s.data.toList k=(!(P18.word (UInt8.ofNat k)).isEmpty&&Lib.hasPrefix s.data.toList (P18.word (UInt8.ofNat k))):=rfl;go_wp2_with fail
      refine(Mj _ _ (by omega) (by omega)).mono ?_;rintro e w' ⟨b,rfl,hu,m,S⟩;rw[zH]at hu;rw[←hu]at N;have J:=Ab S;have HU:=Ab hu;have HS:=Ab N;clear S hu N;go_wp2_with (go_at_call 149;refine(Tryz.strings_HasPrefix _ _ _).mono ?_;rintro e w' ⟨rfl,rfl⟩)
      all_goals first
        | (go_roundg g
           case measure=>omega
           case rel=>
             have aA:P18.startsWord s.data.toList k=false:=by rw[Aa HS];simp_all [Lib.toList_data]
             exact⟨k+1,n+m,by have:=Aa HG;omega,by go_num,by show _=_;rw[Aa X,P18.range_drop I,List.find?_cons_of_neg (by rw[aA];simp)],by rw[Aa J,Aa Q,World.drewN_drewN]⟩)
        | (rw[Exit.noGoto_ret]
           have D:P18.startsWord s.data.toList k=true:=by rw[Aa HS];simp_all [Lib.toList_data]
           have hh:P18.behind s.data.toList=((k:Int),((P18.word (UInt8.ofNat k)).length:Int)):=by rw[P18.behind,Aa X,P18.range_drop I,List.find?_cons_of_pos D]
           rw[hh,←Aa HU,←zP]
           go_ret2
           exact⟨Fy rfl rfl,n+m,by rw[Aa J,Aa Q,World.drewN_drewN]⟩)
        | (have D:P18.startsWord s.data.toList k=true:=by rw[Aa HS];simp_all [Lib.toList_data]
           have hh:P18.behind s.data.toList=((k:Int),((P18.word (UInt8.ofNat k)).length:Int)):=by rw[P18.behind,Aa X,P18.range_drop I,List.find?_cons_of_pos D]
           rw[hh,←Aa HU,←zP]
           go_ret2
           exact⟨Fy rfl rfl,n+m,by rw[Aa J,Aa Q,World.drewN_drewN]⟩)
end Go.Proofs.YtnjokdbblmlhhaaGreatDoor
namespace Go.Proofs.YtnjokdbblmlhhaaGreatDoor
set_option maxHeartbeats 2000000
set_option maxRecDepth 100000
open Go.RowKit
theorem Uf(s:ByteArray)(w:World)(h:s.size≤100000) :
  Calls Tryz.prog 120 #[.string s] w fun e w'=>∃b:ByteArray,e=.returned (.string b)∧b.data.toList=P18.quote s.data.toList∧Below w.heap.size w w':=by
 go_enter Tryz.func120,Tryz.ntmps120
 go_wp2
 go_loopg [3,9] s.size (fun g s3 s9 wx=>∃(k:Nat) (out:List UInt8),k+g=s.size∧s9=.int .i64 k∧Hid (P18.quote s.data.toList=out++((s.data.toList.drop k).flatMap P18.quoteOne++[34]))∧out.length≤1+5*k∧Eb wx w.heap.size 5 s3 out∧Below w.heap.size w wx)
 case atStart=>exact⟨0,[34],by omega,rfl,rfl,by simp,Eb.lit w 5 #[.int .u8 34] [34] (qJ _) (by simp[maxLen]) rfl,(qV _ _).alloc (qJ _) _⟩
 case round=>
  obtain⟨k,out,S,rfl,U,aC,G,hb⟩:=hrel;cases gk with
  |zero=>
   obtain rfl:k=s.size:=by omega
   have N:P18.quote s.data.toList=out++[34]:=by
    rw[Aa U,qM (by simp)];rfl
   have HF:=Ab N;clear N;go_wp2_with (at_builtin;refine Ea rfl (.tmp 30) (.tmp 31) 67 rfl Tryz.underlying67 E9 rfl G 34 (by omega) (by omega) rfl (by omega) hb.size ?_;intro v1 w1 D J _;have I:=Er hb G J;have aB:=Jl (P:=Tryz.prog) 67 9 Tryz.underlying67 Tryz.underlying5 Tryz.underlying9 D)
   go_ret;exact⟨_,rfl,by rw[Aa HF],I⟩
  |succ g=>
   have R:k<s.size:=by omega
   have aA:(k:Int)<(s.size:Int):=by omega
   have hq:=P18.quote_drop (l:=s.data.toList) (k:=k) (by simpa using R);have e0:s.data.toList[k]'(by simpa using R)=s[k]:=rfl;rw[e0]at hq;have aD:=P18.quoteOne_len s[k];have HQ:=Ab hq;have HG:=Ab S;clear S hq e0
   go_wp2_with (first
    |(go_at_call 148;refine(Mj _ _ (by omega) (by have:=s[k].toNat_lt;omega)).mono ?_;rintro e w' ⟨b,rfl,hu,m,rfl⟩;simp only[zH,UInt8.ofNat_toNat]at hu;have aE:b.size≤3:=(by rw[zP,hu];exact P18.word_len _);have HU:=Ab hu;clear hu)
    |(at_builtin;refine Ea rfl (.tmp 18) (.tmp 19) 67 rfl Tryz.underlying67 E9 rfl (G.drewN m) 92 (by omega) (by omega) rfl (by omega) hb.size ?_;intro v1 w1 D J _;have I:=Er (Cm hb) (G.drewN m) J)
    |(at_builtin;refine Mm rfl (.tmp 20) (.tmp 21) 67 9 rfl Tryz.underlying67 Tryz.underlying9 E9 rfl D b rfl (by simp;omega) I.size ?_;intro v2 w2 Q X;have Z:=Oo I D X)
    | (at_builtin;refine Ea rfl (.tmp 23) (.tmp 27) 67 rfl Tryz.underlying67 E9 rfl (G.drewN m) _ (by omega) (by have:=s[k].toNat_lt;omega) rfl (by omega) hb.size ?_;intro v1 w1 D J _;have I:=Er (Cm hb) (G.drewN m) J))
   ·have Y:out++P18.quoteOne s[k]=(out++[UInt8.ofNat (92:Int).toNat])++b.data.toList:=by
     rw[P18.quoteOne,if_neg (by rw[←Aa HU,←Lib.toList_data];simp_all),←Aa HU];simp
    go_roundg g
    case measure=>omega
    case rel=>exact⟨k+1,out++P18.quoteOne s[k],by have:=Aa HG;omega,by go_num,by show _=_;rw[Aa U,Aa HQ];simp,by simp;omega,by rw[Y];exact Q,Z⟩
   ·have Y:out++P18.quoteOne s[k]=out++[UInt8.ofNat ((s[k].toNat:Int)).toNat]:=by
     rw[P18.quoteOne,if_pos (by rw[←Aa HU,←Lib.toList_data];simp_all)];simp
    go_roundg g
    case measure=>omega
    case rel=>exact⟨k+1,out++P18.quoteOne s[k],by have:=Aa HG;omega,by go_num,by show _=_;rw[Aa U,Aa HQ];simp,by simp;omega,by rw[Y];exact D,I⟩
end Go.Proofs.YtnjokdbblmlhhaaGreatDoor
namespace Go.Proofs.YtnjokdbblmlhhaaGreatDoor
set_option maxHeartbeats 2000000
set_option maxRecDepth 100000
open Go.RowKit
theorem behind_nat(s:ByteArray)(w:World)(h:s.size≤maxLen) :
  Calls Tryz.prog 190 #[.string s] w fun e w'=>∃(c:UInt8) (n:Nat),e=.returned (.tuple #[.int .u8 (c.toNat:Int),.int .i64 (n:Int)])∧P18.behind s.data.toList=((c.toNat:Int),(n:Int))∧n≤3∧∃m,w'=w.drewN m:=by
 obtain⟨c,n,hb,hn⟩:=P18.behind_nat s.data.toList;refine(N4 s w h).mono fun e w' ⟨h1,h2⟩=>⟨c,n,?_,hb,hn,h2⟩;rw[h1,hb]
def Ot(w:World)(o:Option (List UInt8))(e:Ending)(w':World):Prop:=
 ∃(v:Value) (ok:Bool),e=.returned (.tuple #[v,.bool ok])∧ok=o.isSome∧Eb w' w.heap.size 5 v (o.getD [])∧Below w.heap.size w w'
theorem Oh(s:ByteArray)(w:World)(h:s.size≤1100000) :
  Calls Tryz.prog 181 #[.string s] w (Ot w (P18.within s.data.toList)):=by
 go_enter Tryz.func181,Tryz.ntmps181
 go_wp2
 go_loopg [4,5] (s.size+4) (fun g s4 s5 wx=>∃(k:Nat) (out:List UInt8),k+g=s.size+4∧0<g∧s5=.int .i64 k∧Hid (P18.within s.data.toList=(P18.within (s.data.toList.drop k)).map (out ++ ·))∧out.length≤k∧Eb wx w.heap.size 5 s4 out∧Below w.heap.size w wx)
 case atStart=>exact⟨0,[],by omega,by omega,rfl,by show _=_;simp,by simp,Eb.nil _ _ _,qV _ _⟩
 case round=>
  obtain⟨k,out,aA,aB,rfl,U,aE,G,hb⟩:=hrel;have HG:=Ab aA;have aG:k≤s.size+3:=by omega
  clear aA;by_cases Y:k<s.size
  ·have aC:(k:Int)<(s.size:Int):=by omega
   have hd:=P18.within_drop (l:=s.data.toList) (k:=k) (by simpa using Y);have e0:s.data.toList[k]'(by simpa using Y)=s[k]:=rfl;rw[e0,P18.within_cons]at hd;have Z:=Ab hd;clear hd e0
   go_wp2_with (first
    |(go_at_call 190;refine(behind_nat _ _ (by unfold maxLen;simp;omega)).mono ?_;rintro e w' ⟨c,n,rfl,R,aD,m,rfl⟩;rw[Lib.extract_to_end]at R;have HB:=Ab R;clear R)
    |(at_builtin;refine Ea rfl (.tmp 42) (.tmp 44) 67 rfl Tryz.underlying67 E9 rfl (G.drewN m) _ (by omega) (by have:=c.toNat_lt;omega) rfl (by omega) hb.size ?_;intro v1 w1 I S _;have N:=Er (Cm hb) (G.drewN m) S)
    | (at_builtin;refine Ea rfl (.tmp 42) (.tmp 44) 67 rfl Tryz.underlying67 E9 rfl G _ (by omega) (by have:=s[k].toNat_lt;omega) rfl (by omega) hb.size ?_;intro v1 w1 I S _;have N:=Er hb G S))
   ·have hc:(s[k].toNat:Int)<32∨((s[k].toNat:Int)==127)=true:=by first|assumption|exact .inl (by omega)
    have hn:P18.within s.data.toList=none:=by rw[Aa U,Aa Z,if_pos hc];rfl
    go_ret2
    rw[hn];exact⟨_,_,rfl,rfl,Eb.nil _ _ _,hb⟩
   ·obtain⟨X,D⟩:32≤(s[k].toNat:Int)∧((s[k].toNat:Int)==127)=false:=by assumption
    have hc:¬((s[k].toNat:Int)<32∨((s[k].toNat:Int)==127)=true):=by rw[D];simp;omega
    have J:((s[k].toNat:Int)==92)=true:=by assumption
    have Q:((n:Int)==0)=true:=by assumption
    have hn:P18.within s.data.toList=none:=by rw[Aa U,Aa Z,Aa HB,if_neg hc,if_pos J,if_pos Q];rfl
    go_ret2
    rw[hn];exact⟨_,_,rfl,rfl,Eb.nil _ _ _,Cm hb⟩
   ·obtain⟨X,D⟩:32≤(s[k].toNat:Int)∧((s[k].toNat:Int)==127)=false:=by assumption
    have hc:¬((s[k].toNat:Int)<32∨((s[k].toNat:Int)==127)=true):=by rw[D];simp;omega
    have J:((s[k].toNat:Int)==92)=true:=by assumption
    have Q:¬(((n:Int)==0)=true):=nb (by assumption);have hr:=Aa Z;rw[if_neg hc,if_pos J,Aa HB,if_neg Q]at hr;go_roundg (gk-(n+1))
    case measure=>omega
    case rel=>
     refine⟨k+n+1,out++[UInt8.ofNat ((c.toNat:Int)).toNat],by have:=Aa HG;omega,by have:=Aa HG;omega,by go_num,?_,by simp;omega,I,N⟩;show _=_;rw[Aa U,hr];simp only[Option.map_map,zH,zI];rw[show k+1+n=k+n+1 from by omega]
     congr 1
     funext x;simp
   ·obtain⟨X,D⟩:32≤(s[k].toNat:Int)∧((s[k].toNat:Int)==127)=false:=by assumption
    have hc:¬((s[k].toNat:Int)<32∨((s[k].toNat:Int)==127)=true):=by rw[D];simp;omega
    have J:¬((s[k].toNat:Int)==92)=true:=nb (by assumption);have hr:=Aa Z;rw[if_neg hc,if_neg J]at hr;go_roundg (gk-1)
    case measure=>omega
    case rel=>
     refine⟨k+1,out++[UInt8.ofNat ((s[k].toNat:Int)).toNat],by have:=Aa HG;omega,by have:=Aa HG;omega,by go_num,?_,by simp;omega,I,N⟩;show _=_;rw[Aa U,hr];simp only[Option.map_map,zH]
     congr 1
     funext x;simp
   ·have hc:(s[k].toNat:Int)<32∨((s[k].toNat:Int)==127)=true:=by first|assumption|exact .inl (by omega)
    have hn:P18.within s.data.toList=none:=by rw[Aa U,Aa Z,if_pos hc];rfl
    go_ret2
    rw[hn];exact⟨_,_,rfl,rfl,Eb.nil _ _ _,hb⟩
  ·go_wp2;have hn:P18.within s.data.toList=some out:=by rw[Aa U,qM (by rw[←zP];omega),P18.within_nil];simp
   go_ret2
   rw[hn];exact⟨_,_,rfl,rfl,G,hb⟩
end Go.Proofs.YtnjokdbblmlhhaaGreatDoor
namespace Go.Proofs.YtnjokdbblmlhhaaGreatDoor
set_option maxHeartbeats 2000000
set_option maxRecDepth 100000
open Go.RowKit
def Tc(w:World)(x:List UInt8 × Int)(e:Ending)(w':World):Prop:=∃b:ByteArray,e=.returned (.tuple #[.string b,.int .i64 x.2])∧b.data.toList=x.1∧Below w.heap.size w w'
theorem R4(s:ByteArray)(w:World)(h:s.size≤1100000) :
  Calls Tryz.prog 169 #[.string s] w (Tc w (P18.read s.data.toList)):=by
 have hm:s.size≤maxLen:=by unfold maxLen;omega
 have J:=zP s;obtain⟨n,c,aA⟩:∃n c:Nat,P18.cut s.data.toList=(n,c):=⟨_,_,rfl⟩;have hcut:=Pb s w hm;have R:P18.read s.data.toList=P18.readF n c s.data.toList:=by rw[P18.read,aA]
 have I:=P18.cut_pos s.data.toList;have X:=P18.cut_ok s.data.toList;rw[aA]at hcut I X;have Z:=Ab hcut;clear hcut aA;by_cases hbad:c≠0∨n≠s.data.toList.length
 ·rw[P18.readF_bad hbad]at R;rw[R];rw[←J]at hbad;clear R J I X;go_enter Tryz.func169,Tryz.ntmps169
  by_cases N:c=0
  ·have aJ:((n:Int) != (s.size:Int))=true:=by simp;omega
   subst N;clear hbad
   go_wp2_with (first
    | (go_at_call 168;refine(Aa Z).mono ?_;rintro e w' ⟨rfl,rfl⟩))
   go_ret2
   exact⟨_,rfl,rfl,qV _ _⟩
  ·have aH:((c:Int) != 0)=true:=by simp;omega
   clear hbad N
   go_wp2_with (first
    | (go_at_call 168;refine(Aa Z).mono ?_;rintro e w' ⟨rfl,rfl⟩))
   go_ret2
   exact⟨_,rfl,rfl,qV _ _⟩
 ·obtain⟨rfl,hn⟩:c=0∧n=s.data.toList.length:=by omega
  have aC:=I rfl;rw[←J]at aC;have aI:(0:Int)<(s.size:Int):=by omega
  have g0:s.data.toList.getD 0 0=s[0]:=by rw[List.getD_eq_getElem?_getD,Lib.data_getElem? s 0 aC];rfl
  by_cases hq:s[0].toNat=34
  ·have aG:((s[0].toNat:Int)==34)=true:=by simp;omega
   have h2:=(X rfl ((P18.prefix_iff _).2 ⟨by omega,by rw[g0];exact hq⟩)).1;simp only at h2;subst hn;have aL:2≤s.size:=by omega
   have H2:=Ab g0;have HS:=Ab J;have aB:=Ab R;rw[←J]at Z;have HQ:=Ab hq;clear h2 I X hbad g0 J R hq;have hex:(s.extract 1 (s.size-1)).data.toList=(s.data.toList.drop 1).take (s.data.toList.length-2):=by rw[Lib.extract_data,←Aa HS];rfl
   have Q:=Oh (s.extract 1 (s.size-1)) w (by simp;omega);rw[hex]at Q
   have Y:(s.data.toList.getD 0 0).toNat=34:=by
    rw[Aa H2];have:=Aa HQ;omega
   cases hw:P18.within ((s.data.toList.drop 1).take (s.data.toList.length-2))with
   |none=>
    rw[hw]at Q;have D:=(Aa aB).trans (P18.readF_none Y hw);rw[D];have HW:=Ab Q;clear Q hw Y D hex;go_enter Tryz.func169,Tryz.ntmps169
    go_wp2_with (first
     |(go_at_call 168;refine(Aa Z).mono ?_;rintro e w' ⟨rfl,rfl⟩)
     | (go_at_call 181;refine(Aa HW).mono ?_;rintro e w' ⟨v,ok,rfl,rfl,U,hb⟩))
    go_ret2
    exact⟨_,rfl,rfl,hb⟩
   |some t=>
    rw[hw]at Q;have D:=(Aa aB).trans (P18.readF_some Y hw);rw[D];have hl:=P18.within_len hw
    have aK:t.length≤1100000:=by
     have h5:=Aa HS;simp only[qZ,qQ]at hl;omega
    have HW:=Ab Q;clear Q hw Y D hex hl;have aE:(⟨t.toArray⟩:ByteArray).size≤1100000:=by rw[zP];simp;omega
    have G:=fun W=>Fa ⟨t.toArray⟩ 4096 W aE;simp only[Vv]at G;cases hbad:(P03.check t 4096 != 0)
    ·have N:P03.check t 4096=0:=by simpa using hbad
     have D:P18.chk t=(t,0):=by rw[P18.chk,hbad];rfl
     rw[D];rw[N]at G;have HK:=Ab G;clear G hbad N D;go_enter Tryz.func169,Tryz.ntmps169
     go_wp2_with (first
      |(go_at_call 168;refine(Aa Z).mono ?_;rintro e w' ⟨rfl,rfl⟩)
      |(go_at_call 181;refine(Aa HW).mono ?_;rintro e w1 ⟨v,ok,rfl,rfl,U,hb⟩;have aD:=Jl (P:=Tryz.prog) 67 9 Tryz.underlying67 Tryz.underlying5 Tryz.underlying9 U)
      | (go_at_call 44;refine(Aa HK _).mono ?_;rintro e w2 ⟨rfl,S⟩))
     go_ret2
     exact⟨_,rfl,by simp,hb.trans (S.mono hb.size)⟩
    ·have D:P18.chk t=([],P03.check t 4096):=by rw[P18.chk,hbad];rfl
     rw[D];have HK:=Ab G;clear G D;go_enter Tryz.func169,Tryz.ntmps169
     go_wp2_with (first
      |(go_at_call 168;refine(Aa Z).mono ?_;rintro e w' ⟨rfl,rfl⟩)
      |(go_at_call 181;refine(Aa HW).mono ?_;rintro e w1 ⟨v,ok,rfl,rfl,U,hb⟩;have aD:=Jl (P:=Tryz.prog) 67 9 Tryz.underlying67 Tryz.underlying5 Tryz.underlying9 U)
      | (go_at_call 44;refine(Aa HK _).mono ?_;rintro e w2 ⟨rfl,S⟩))
     go_ret2
     exact⟨_,rfl,rfl,hb.trans (S.mono hb.size)⟩
  ·have aG:((s[0].toNat:Int)==34)=false:=by simp;omega
   have D:P18.read s.data.toList=P18.chk s.data.toList:=by
    rw[R,hn];exact P18.readF_plain (by rw[g0];exact hq)
   rw[D];subst hn;have G:=fun W=>Fa s 4096 W (by omega);rw[←J]at Z;clear I X hbad g0 J R hq D;cases hbad:(P03.check s.data.toList 4096 != 0)
   ·have N:P03.check s.data.toList 4096=0:=by simpa using hbad
    have D:P18.chk s.data.toList=(s.data.toList,0):=by rw[P18.chk,hbad];rfl
    rw[D];rw[N]at G;have HK:=Ab G;clear G hbad N D;go_enter Tryz.func169,Tryz.ntmps169
    go_wp2_with (first
     |(go_at_call 168;refine(Aa Z).mono ?_;rintro e w' ⟨rfl,rfl⟩)
     | (go_at_call 44;refine(Aa HK _).mono ?_;rintro e w2 ⟨rfl,S⟩))
    go_ret2
    exact⟨_,rfl,rfl,S⟩
   ·have D:P18.chk s.data.toList=([],P03.check s.data.toList 4096):=by rw[P18.chk,hbad];rfl
    rw[D];have HK:=Ab G;clear G D;go_enter Tryz.func169,Tryz.ntmps169
    go_wp2_with (first
     |(go_at_call 168;refine(Aa Z).mono ?_;rintro e w' ⟨rfl,rfl⟩)
     | (go_at_call 44;refine(Aa HK _).mono ?_;rintro e w2 ⟨rfl,S⟩))
    go_ret2
    exact⟨_,rfl,rfl,S⟩
end Go.Proofs.YtnjokdbblmlhhaaGreatDoor
namespace Go.Proofs.YtnjokdbblmlhhaaGreatDoor
set_option maxHeartbeats 2000000
set_option maxRecDepth 100000
open Go.RowKit
theorem Ht(w:World)(e:TypeId)(s:ByteArray):Below w.heap.size w (Lib.bytesWorld w e s):=
 ⟨by simp[Lib.bytesWorld,World.freeze,World.alloc,World.drew,-World.alloc_eq,-World.drew_eq],by simp[Lib.bytesWorld,World.freeze,World.alloc,World.drew,-World.alloc_eq,-World.drew_eq],by simp[Lib.bytesWorld,World.freeze,World.alloc,World.drew,-World.alloc_eq,-World.drew_eq],by rw[Lib.bytesWorld_size];omega,fun k hk=>Lib.bytesWorld_at_old w e s k hk⟩
theorem My(w:World)(e:TypeId)(s:ByteArray):∃W,Lib.bytesWorld w e s=W∧Below w.heap.size w W∧∀j (h:j<s.size),W.cell? ⟨w.heap.size,j,none⟩=some (.int .u8 (s[j].toNat:Int)):=
 ⟨_,rfl,Ht w e s,fun j h=>by
  rw[Lib.bytesWorld_cell w e s j h,List.getD_eq_getElem?_getD,Lib.data_getElem? s j h];rfl⟩
theorem Np(s:ByteArray)(w:World)(h:s.size≤9223372036854775807) :
  Calls Tryz.prog 52 #[.string s] w fun e w'=>e=.returned (.tuple #[.int .i64 (P18.number s.data.toList).1,.int .i64 (P18.number s.data.toList).2])∧Below w.heap.size w w':=by
 have I:=zP s;by_cases hb:s.size=0∨9<s.size∨(1<s.size∧(s.data.toList.getD 0 0).toNat=48)
 ·have D:P18.number s.data.toList=(0,3):=by rw[P18.number,if_pos (by rw[←I];exact hb)]
  rw[D];clear D;by_cases h0:s.size=0
  ·have hne:s.toList.isEmpty=true:=by
    rw[Lib.toList_data];have:s.data.toList=[]:=qU (by omega);rw[this];rfl
   clear hb I;go_enter Tryz.func52,Tryz.ntmps52
   go_wp2
   go_ret2
   exact⟨rfl,qV _ _⟩
  ·have hne:s.toList.isEmpty=false:=I5 (by omega);have Y:s.data.toList.getD 0 0=s[0]'(by omega):=by rw[List.getD_eq_getElem?_getD,Lib.data_getElem? s 0 (by omega)];rfl
   rw[Y]at hb;have hp:0<s.size:=by omega
   by_cases h9:9<s.size
   ·clear hb I Y;go_enter Tryz.func52,Tryz.ntmps52
    go_wp2
    go_ret2
    exact⟨rfl,qV _ _⟩
   ·have h1:1<s.size:=by omega
    have S:((s[0].toNat:Int)==48)=true:=by simp;omega
    clear hb I Y;go_enter Tryz.func52,Tryz.ntmps52
    go_wp2
    go_ret2
    exact⟨rfl,qV _ _⟩
 ·have D:P18.number s.data.toList=P18.numLoop 0 s.data.toList:=by rw[P18.number,if_neg (by rw[←I];exact hb)]
  rw[D];clear D;obtain⟨W,hW,Q,J⟩:=My w 5 s;have aD:=Lib.run_convert_string_bytes (P:=Tryz.prog) w 9 67 5 s Tryz.underlying9 Tryz.underlying67 Tryz.underlying5;rw[hW]at aD;have HC:=Ab J;clear J hW;have h1:0<s.size:=by omega
  have h9:s.size≤9:=by omega
  have hne:s.toList.isEmpty=false:=I5 (by omega);have Y:s.data.toList.getD 0 0=s[0]:=by rw[List.getD_eq_getElem?_getD,Lib.data_getElem? s 0 (by omega)];rfl
  rw[Y]at hb;have aH:(s.size:Int)≤9:=by omega
  have HB:=Ab hb;clear hb I Y;by_cases aG:1<s.size
  ·have S:((s[0].toNat:Int)==48)=false:=by have:=Aa HB;simp;omega
   go_enter Tryz.func52,Tryz.ntmps52
   go_wp2_with fail
   go_loopg [4,27] s.size (fun g s4 X wx=>∃k n:Nat,k+g=s.size∧X=.int .i64 (k:Int)∧s4=.int .i64 (n:Int)∧Hid (P18.numLoop 0 s.data.toList=P18.numLoop n (s.data.toList.drop k))∧n<10 ^ k∧wx=W)
   case atStart=>exact⟨0,0,by omega,rfl,rfl,rfl,by omega,rfl⟩
   case round=>
    obtain⟨k,n,N,rfl,rfl,R,hn,rfl⟩:=hrel;cases gk with
    |zero=>
     obtain rfl:k=s.size:=by omega
     have D:P18.numLoop 0 s.data.toList=((n:Int),0):=by rw[Aa R,qM (by rw[zP];omega)];rfl
     have U:=Ab D;clear D hn;go_wp2
     go_ret2
     rw[Aa U];exact⟨rfl,Q⟩
    |succ g=>
     have G:k<s.size:=by omega
     have aA:(k:Int)<(s.size:Int):=by omega
     have aE:n<100000000:=zB hn (P18.pow_le (by omega));have hc:=Aa HC k G;have hd:=P18.numLoop_drop (n:=n) (l:=s.data.toList) (k:=k) (by simpa using G);have Z:s.data.toList[k]'(by simpa using G)=s[k]:=rfl;rw[Z]at hd;have HD:=Ab hd;have aC:=s[k].toNat_lt;have HG:=Ab N;have HN:=Ab hn;clear hd Z N hn;by_cases hbad:(s[k].toNat:Int)<48∨57<(s[k].toNat:Int)
     ·have D:P18.numLoop 0 s.data.toList=(0,3):=by rw[Aa R,Aa HD,if_pos hbad]
      have U:=Ab D;clear D;rcases hbad with hbad|hbad
      all_goals
       go_wp2
       go_ret2
       rw[Aa U];exact⟨rfl,Q⟩
     ·have S:¬(s[k].toNat:Int)<48:=by omega
      have aB:¬57<(s[k].toNat:Int):=by omega
      have hr:=Aa HD;rw[if_neg hbad]at hr;have HR:=Ab hr;clear hr hbad;go_wp2;go_roundg g
      case measure=>omega
      case rel=>
       refine⟨k+1,n*10+(s[k].toNat-48),by have:=Aa HG;omega,by go_num,by go_num,?_,?_,rfl⟩
       ·show _=_;rw[Aa R,Aa HR]
       ·have:=Aa HN;rw[Nat.pow_succ];omega
  ·go_enter Tryz.func52,Tryz.ntmps52
   go_wp2_with fail
   go_loopg [4,27] s.size (fun g s4 X wx=>∃k n:Nat,k+g=s.size∧X=.int .i64 (k:Int)∧s4=.int .i64 (n:Int)∧Hid (P18.numLoop 0 s.data.toList=P18.numLoop n (s.data.toList.drop k))∧n<10 ^ k∧wx=W)
   case atStart=>exact⟨0,0,by omega,rfl,rfl,rfl,by omega,rfl⟩
   case round=>
    obtain⟨k,n,N,rfl,rfl,R,hn,rfl⟩:=hrel;cases gk with
    |zero=>
     obtain rfl:k=s.size:=by omega
     have D:P18.numLoop 0 s.data.toList=((n:Int),0):=by rw[Aa R,qM (by rw[zP];omega)];rfl
     have U:=Ab D;clear D hn;go_wp2
     go_ret2
     rw[Aa U];exact⟨rfl,Q⟩
    |succ g=>
     have G:k<s.size:=by omega
     have aA:(k:Int)<(s.size:Int):=by omega
     have aE:n<100000000:=zB hn (P18.pow_le (by omega));have hc:=Aa HC k G;have hd:=P18.numLoop_drop (n:=n) (l:=s.data.toList) (k:=k) (by simpa using G);have Z:s.data.toList[k]'(by simpa using G)=s[k]:=rfl;rw[Z]at hd;have HD:=Ab hd;have aC:=s[k].toNat_lt;have HG:=Ab N;have HN:=Ab hn;clear hd Z N hn;by_cases hbad:(s[k].toNat:Int)<48∨57<(s[k].toNat:Int)
     ·have D:P18.numLoop 0 s.data.toList=(0,3):=by rw[Aa R,Aa HD,if_pos hbad]
      have U:=Ab D;clear D;rcases hbad with hbad|hbad
      all_goals
       go_wp2
       go_ret2
       rw[Aa U];exact⟨rfl,Q⟩
     ·have S:¬(s[k].toNat:Int)<48:=by omega
      have aB:¬57<(s[k].toNat:Int):=by omega
      have hr:=Aa HD;rw[if_neg hbad]at hr;have HR:=Ab hr;clear hr hbad;go_wp2;go_roundg g
      case measure=>omega
      case rel=>
       refine⟨k+1,n*10+(s[k].toNat-48),by have:=Aa HG;omega,by go_num,by go_num,?_,?_,rfl⟩
       ·show _=_;rw[Aa R,Aa HR]
       ·have:=Aa HN;rw[Nat.pow_succ];omega
end Go.Proofs.YtnjokdbblmlhhaaGreatDoor
namespace Go.Proofs.YtnjokdbblmlhhaaGreatDoor
set_option maxHeartbeats 2000000
set_option maxRecDepth 100000
open Go.RowKit Go.Lib Go.Sort
end Go.Proofs.YtnjokdbblmlhhaaGreatDoor
