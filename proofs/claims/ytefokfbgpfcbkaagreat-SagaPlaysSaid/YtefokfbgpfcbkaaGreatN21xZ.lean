import Derived.Test.YtefokfbgpfcbkaaGreatShelfDZ
import Derived.Lib.LazyBuf
set_option maxRecDepth 100000
set_option maxHeartbeats 8000000
set_option linter.unusedVariables false
set_option linter.unusedSimpArgs false
namespace Go.Proofs.YtefokfbgpfcbkaaGreat
namespace P28
def ltS:Tx→Tx→Bool
 | [],[]=>false
 | [],_::_=>true
 |_::_,[]=>false
 |a::x,b::y=>if a<b then true else if b<a then false else ltS x y
theorem Uh:∀x y:Tx,decide (Lib.compareBytes x y<0)=ltS x y
 | [],[]=>rfl
 | [],_::_=>rfl
 |_::_,[]=>rfl
 |a::x,b::y=>by
  unfold Lib.compareBytes ltS;by_cases h:a<b
  ·simp[h]
  ·by_cases h2:b<a
   ·simp[h,h2]
   ·simp[h,h2];exact Uh x y
theorem K5:∀x:Tx,ltS x x=false
 | []=>rfl
 |a::x=>by unfold ltS;simp[K5 x]
theorem Na:∀x y z:Tx,ltS x y=true→ltS y z=true→ltS x z=true
 | [],[],z,h,_=>by simp[ltS]at h
 | [],_::_,[],_,h=>by simp[ltS]at h
 | [],_::_,_::_,_,_=>rfl
 |_::_,[],z,h,_=>by simp[ltS]at h
 |_::_,_::_,[],_,h=>by simp[ltS]at h
 |a::x,b::y,c::z,h1,h2=>by
  unfold ltS at h1 h2 ⊢;by_cases Z:a<b
  ·by_cases I:b<c
   ·rw[if_pos (UInt8.lt_trans Z I)]
   ·rw[if_neg I]at h2;by_cases J:c<b
    ·rw[if_pos J]at h2;cases h2
    ·have e:b=c:=UInt8.le_antisymm (UInt8.not_lt.1 J) (UInt8.not_lt.1 I);rw[←e,if_pos Z]
  ·rw[if_neg Z]at h1;by_cases aA:b<a
   ·rw[if_pos aA]at h1;cases h1
   ·have e:a=b:=UInt8.le_antisymm (UInt8.not_lt.1 aA) (UInt8.not_lt.1 Z);rw[if_neg aA]at h1;subst e;by_cases I:a<c
    ·rw[if_pos I]
    ·rw[if_neg I]at h2 ⊢;by_cases J:c<a
     ·rw[if_pos J]at h2;cases h2
     ·rw[if_neg J]at h2 ⊢;exact Na x y z h1 h2
theorem Mz:∀x y:Tx,ltS x y=false→ltS y x=false→x=y
 | [],[],_,_=>rfl
 | [],_::_,h,_=>by simp[ltS]at h
 |_::_,[],_,h=>by simp[ltS]at h
 |a::x,b::y,h1,h2=>by
  unfold ltS at h1 h2;by_cases I:a<b
  ·rw[if_pos I]at h1;cases h1
  ·by_cases J:b<a
   ·rw[if_pos J]at h2;cases h2
   ·have e:a=b:=UInt8.le_antisymm (UInt8.not_lt.1 J) (UInt8.not_lt.1 I);rw[if_neg I,if_neg J]at h1;rw[if_neg J,if_neg I]at h2;rw[e,Mz x y h1 h2]
def cmpN(x y:Note):Int:=if Lib.compareInt x.1 y.1≠0 then Lib.compareInt x.1 y.1 else if Lib.compareInt x.2.1 y.2.1≠0 then Lib.compareInt x.2.1 y.2.1 else Lib.compareBytes x.2.2 y.2.2
def ltN(x y:Note):Bool:=if x.1<y.1 then true else if y.1<x.1 then false else if x.2.1<y.2.1 then true else if y.2.1<x.2.1 then false else ltS x.2.2 y.2.2
theorem ltN_cmp(x y:Note):Go.Proofs.ltOf cmpN x y=ltN x y:=by
 unfold Go.Proofs.ltOf cmpN ltN Lib.compareInt;by_cases h1:x.1<y.1
 ·simp[h1]
 ·by_cases h2:y.1<x.1
  ·simp[h1,h2]
  ·by_cases h3:x.2.1<y.2.1
   ·simp[h1,h2,h3]
   ·by_cases h4:y.2.1<x.2.1
    ·simp[h1,h2,h3,h4]
    ·simp only[h1,h2,h3,h4,gt_iff_lt,if_false,ne_eq,not_true_eq_false];exact Uh _ _
theorem St(x:Note):ltN x x=false:=by unfold ltN;simp[K5]
theorem ltN_total(x y:Note)(h1:ltN x y=false)(h2:ltN y x=false):x=y:=by
 unfold ltN at h1 h2;obtain⟨a,b,c⟩:=x;obtain⟨I,b',c'⟩:=y;simp only at h1 h2;by_cases J:a<I
 ·rw[if_pos J]at h1;cases h1
 ·by_cases q2:I<a
  ·rw[if_pos q2]at h2;cases h2
  ·rw[if_neg J,if_neg q2]at h1;rw[if_neg q2,if_neg J]at h2;by_cases Z:b<b'
   ·rw[if_pos Z]at h1;cases h1
   ·by_cases q4:b'<b
    ·rw[if_pos q4]at h2;cases h2
    ·rw[if_neg Z,if_neg q4]at h1;rw[if_neg q4,if_neg Z]at h2;rw[Mz c c' h1 h2,show a=I by omega,show b=b' by omega]
theorem My(x y z:Note)(h1:ltN x y=true)(h2:ltN y z=true):ltN x z=true:=by
 unfold ltN at h1 h2 ⊢;obtain⟨a,b,c⟩:=x;obtain⟨J,I,c'⟩:=y;obtain⟨a2,b2,c2⟩:=z;simp only at h1 h2 ⊢;by_cases Z:a<a2
 ·rw[if_pos Z]
 ·rw[if_neg Z];by_cases p1:a<J
  ·by_cases p2:J<a2
   ·omega
   ·rw[if_neg p2]at h2;rw[if_pos (by omega)]at h2;cases h2
  ·rw[if_neg p1]at h1;by_cases p3:J<a
   ·rw[if_pos p3]at h1;cases h1
   ·rw[if_neg p3]at h1;have e:a=J:=by omega
    subst e;rw[if_neg Z]at h2;by_cases q2:a2<a
    ·rw[if_pos q2]at h2;cases h2
    ·rw[if_neg q2]at h2 ⊢;by_cases r1:b<b2
     ·rw[if_pos r1]
     ·rw[if_neg r1];by_cases s1:b<I
      ·by_cases s2:I<b2
       ·omega
       ·rw[if_neg s2,if_pos (by omega)]at h2;cases h2
      ·rw[if_neg s1]at h1;by_cases s3:I<b
       ·rw[if_pos s3]at h1;cases h1
       ·rw[if_neg s3]at h1;have e:b=I:=by omega
        subst e;rw[if_neg r1]at h2;by_cases r2:b2<b
        ·rw[if_pos r2]at h2;cases h2
        ·rw[if_neg r2]at h2 ⊢;exact Na c c' c2 h1 h2
theorem cmpN_swo:Go.Sort.SWO (Go.Proofs.ltOf cmpN) where
 irrefl:=fun x=>by rw[ltN_cmp];exact St x
 trans:=fun x y z h1 h2=>by rw[ltN_cmp]at h1 h2 ⊢;exact My x y z h1 h2
 ntrans:=fun x y z h1 h2=>by
  rw[ltN_cmp]at h1 h2 ⊢;cases h:ltN x z with
  |false=>rfl
  |true=>
   -- y is neither above x nor below z
   cases hyx:ltN y x with
   |true=>rw[My y x z hyx h]at h2;cases h2
   |false=>
    have e:=ltN_total x y h1 hyx;subst e;rw[h]at h2;cases h2
end P28
open Go.RowKit Go.Sort
namespace P28
def onceN(l:List Note):List Note:=l.foldl (fun acc x=>if x∈acc then acc else acc++[x]) []
def sortN(l:List Note):List Note:=(onceN l).mergeSort fun x y=>!(Go.Proofs.ltOf cmpN) y x
theorem once_snoc(l:List Note)(x:Note):onceN (l++[x])=if x∈onceN l then onceN l else onceN l++[x]:=by
 unfold onceN;rw[List.foldl_append];rfl
theorem F4:∀(l acc:List Note) (x:Note),x∈l.foldl (fun acc x=>if x∈acc then acc else acc++[x]) acc↔x∈acc∨x∈l
 | [],acc,x=>by simp
 |y::l,acc,x=>by
  rw[List.foldl_cons,F4 l];by_cases h:y∈acc
  ·rw[if_pos h];simp only[zW];constructor
   ·rintro(a|a)
    ·exact .inl a
    ·exact .inr (.inr a)
   ·rintro(a|a|a)
    ·exact .inl a
    ·exact .inl (a ▸ h)
    ·exact .inr a
  ·rw[if_neg h];simp only[zG,zW,zT,or_false];constructor
   ·rintro((a|a)|a)
    ·exact .inl a
    ·exact .inr (.inl a)
    ·exact .inr (.inr a)
   ·rintro(a|a|a)
    ·exact .inl (.inl a)
    ·exact .inl (.inr a)
    ·exact .inr a
theorem once_mem(l:List Note)(x:Note):x∈onceN l↔x∈l:=by
 unfold onceN;rw[F4];simp
theorem once_len(l:List Note):(onceN l).length≤l.length:=by
 have h:∀(l acc:List Note),(l.foldl (fun acc x=>if x∈acc then acc else acc++[x]) acc).length≤acc.length+l.length:=by
  intro l
  induction l with
  |nil=>intro acc;simp
  |cons y l ih=>
   intro acc;rw[List.foldl_cons];refine qK (ih _) ?_;split<;>simp<;>omega
 have h0:=h l [];rw[qP,Nat.zero_add]at h0;exact h0
theorem sort_nil(l:List Note):sortN l=[]↔l=[]:=by
 unfold sortN;constructor
 ·intro h
  have h1:(onceN l).length=0:=by
   rw[←List.length_mergeSort (le:=fun x y=>!(Go.Proofs.ltOf cmpN) y x) (onceN l),h];rfl
  cases l with
  |nil=>rfl
  |cons x l=>
   have:x∈onceN (x::l):=(once_mem _ _).2 (by simp);rw[List.length_eq_zero_iff.1 h1]at this;cases this
 ·rintro rfl;exact List.mergeSort_nil
end P28
theorem A0.base{W:World}{B J:Nat}{v:Value}{ns:List P28.Note}(h:A0 W B v ns)(hB:J≤B):A0 W J v ns:=by
 refine⟨h.1,?_⟩;rcases h.2 with h|⟨g,cap,I,h1,h2,h3⟩
 ·exact .inl h
 ·exact .inr ⟨g,cap,I,h1,by omega,h3⟩
theorem Hg(ns:List P28.Note)(t:Nat)(h:t<ns.length*3):(B5 ns)[t]?=some ((Bq ns.toArray[t / 3]!)[t % 3]!):=by
 induction ns generalizing t with
 |nil=>simp at h
 |cons n ns ih=>
  have e:B5 (n::ns)=Bq n++B5 ns:=by simp[B5]
  rw[e];have hl:(Bq n).length=3:=rfl;by_cases ht:t<3
  ·rw[qZ (by rw[hl];exact ht)];rcases t with _|_|_|t
   ·rfl
   ·rfl
   ·rfl
   ·omega
  ·rw[zA (by rw[hl];omega),hl,ih (t-3) (by simp at h;omega)];have h1:t / 3=(t-3) / 3+1:=by omega
   have h2:t % 3=(t-3) % 3:=by omega
   rw[h1,h2]
   congr 3
   simp only[List.getElem!_toArray];simp
theorem L9{W:World}{B g cap n:Nat}{ns:List P28.Note}(h:A0 W B (.slice (some ⟨g,0,none⟩) n cap) ns):HoldsK Bq 3 W g 0 ns.toArray:=by
 intro t ht;have J:t<ns.length*3:=by simpa using ht
 rcases h.2 with⟨e0,_⟩|⟨g',aA,Z,e0,hb,hg,hn,hm,hs,hx⟩
 ·cases e0
 ·injection e0 with I _ e3;injection I with I;injection I with I;subst I e3;refine⟨?_,by simp[World.frozen?,hg]⟩;have I:(Z.toList.take (ns.length*3))[t]?=(B5 ns)[t]?:=by rw[hx]
  rw[List.getElem?_take,if_pos J,Array.getElem?_toList,Hg ns t J]at I;simp only[World.cell?,hg,Nat.zero_add];simp only[Option.isSome_none,Bool.false_eq_true,if_false];rw[I,get_flatK _ _ _ _ (by simpa using J)];rfl
theorem S8{W:World}{B g cap n q:Nat}{ns I:List P28.Note}{os:Array Obj}(h:A0 W B (.slice (some ⟨g,0,none⟩) n cap) ns)(hy:I.length=ns.length):A0 (sortWorldK Bq 3 W g 0 q I.toArray os) B (.slice (some ⟨g,0,none⟩) n cap) I:=by
 rcases h.2 with⟨e0,_⟩|⟨g',aB,J,e0,hb,hg,hn,hm,hs,hx⟩
 ·cases e0
 ·injection e0 with Z e2 e3;injection Z with Z;injection Z with Z;subst Z e2 e3;have aC:g<W.heap.size:=(qA.1 hg).1;refine⟨Hh I,.inr ⟨g,cap,putCells id 0 (flatK Bq 3 I.toArray) J,by rw[hy],hb,?_,by omega,hm,by simpa[putCells]using hs,?_⟩⟩
  ·have h1:(putRowK Bq 3 (Sort.ahead W q) g 0 I.toArray).heap[g]?=some (.cells (putCells id 0 (flatK Bq 3 I.toArray) J) 183 (0,0)):=by
    simp[putRowK,putRow,mapBlock,Sort.ahead,Array.getElem?_modify,hg,onCells]
   unfold sortWorldK;have h2:g<(putRowK Bq 3 (Sort.ahead W q) g 0 I.toArray).heap.size:=(qA.1 h1).1;rw[←h1];simp only[grow];rw[Array.getElem?_append_left h2]
  ·apply List.ext_getElem?;intro j;rw[List.getElem?_take,Array.getElem?_toList];by_cases hj:j<I.length*3
   ·have aA:j<J.size:=by rw[hs];omega
    simp only[if_pos hj,putCells,Array.getElem?_mapIdx,Array.getElem?_eq_getElem aA,Option.map_some];rw[if_pos (by simp;omega),Hg I j hj,Nat.sub_zero,get_flatK _ _ _ _ (by simpa using hj)];rfl
   ·rw[if_neg hj,List.getElem?_eq_none (by rw[Hh];omega)]
theorem Oa{W w0:World}{B g q:Nat}{J:Array P28.Note}{os:Array Obj}(h:Below B w0 W)(hg:B≤g)(hB:B≤W.heap.size):Below B w0 (sortWorldK Bq 3 W g 0 q J os):=by
 refine⟨h.os,h.tape,h.output,?_,fun k hk=>?_⟩
 ·have:=h.size;simp[sortWorldK,grow,putRowK,putRow,mapBlock,Sort.ahead];omega
 ·rw[←h.block k hk];have I:k<W.heap.size:=by omega
  simp only[sortWorldK,grow,putRowK,putRow,mapBlock,Sort.ahead];rw[Array.getElem?_append_left (by simpa using I),Array.getElem?_modify,if_neg (by omega)]
theorem Ns(x y:Int)(w:World):Calls Tryz.prog 218 #[.int .i64 x,.int .i64 y] w fun e w'=>e=.returned (.int .i64 (Lib.compareInt x y))∧w'=w:=by
 have hN:∀(x:Int) (W:World),Calls Tryz.prog 249 #[.int .i64 x] W fun e w'=>e=.returned (.bool false)∧w'=W:=fun x W=>by
  go_enter Tryz.func249,Tryz.ntmps249
  go_wp2;go_ret;exact⟨Ao (by simp),rfl⟩
 unfold Lib.compareInt;by_cases h1:x<y
 ·have d1:decide (x<y)=true:=by simpa using h1
  rw[if_pos h1];go_enter Tryz.func218,Tryz.ntmps218
  go_wp2_with (go_at_call 249;refine(hN _ _).mono ?_;rintro e w' ⟨rfl,rfl⟩)
  go_ret;exact⟨rfl,rfl⟩
 ·by_cases h2:y<x
  ·have I:y≤x:=by omega
   have d1:decide (x<y)=false:=by simpa using I
   have d2:decide (y<x)=true:=by simpa using h2
   rw[if_neg h1,if_pos h2];clear h1;go_enter Tryz.func218,Tryz.ntmps218
   go_wp2_with (go_at_call 249;refine(hN _ _).mono ?_;rintro e w' ⟨rfl,rfl⟩)
   go_ret;exact⟨rfl,rfl⟩
  ·have I:y≤x:=by omega
   have J:x≤y:=by omega
   have d1:decide (x<y)=false:=by simpa using I
   have d2:decide (y<x)=false:=by simpa using J
   rw[if_neg h1,if_neg h2];clear h1 h2;go_enter Tryz.func218,Tryz.ntmps218
   go_wp2_with (go_at_call 249;refine(hN _ _).mono ?_;rintro e w' ⟨rfl,rfl⟩)
   go_ret;exact⟨rfl,rfl⟩
theorem Zc(g:Nat)(x y z:Int)(w:World)(h:w.heap[g]?=some (.cells #[.int .i64 x,.int .i64 y,.int .i64 z] 3)) :
  Calls Tryz.prog 217 #[.slice (some ⟨g,0,none⟩) 3 3] w fun e w'=>e=.returned (.int .i64 (if x≠0 then x else if y≠0 then y else z))∧w'=w:=by
 obtain⟨⟨c0,_⟩,⟨c1,_⟩,⟨c2,_⟩⟩:=Ag h;clear h;by_cases hx:x=0
 ·subst hx;by_cases hy:y=0
  ·subst hy;by_cases I:z=0
   ·subst I;go_enter Tryz.func217,Tryz.ntmps217
    go_wp2;refine wp_loop_rounds 4 ?_;rw[rounds_succ];go_wp2;rw[rounds_succ];go_wp2;rw[rounds_succ];go_wp2;rw[rounds_succ];go_wp2;go_ret;exact⟨rfl,rfl⟩
   ·have J:(z != 0)=true:=by simpa using I
    rw[if_neg (by simp),if_neg (by simp)];clear I;go_enter Tryz.func217,Tryz.ntmps217
    go_wp2;refine wp_loop_rounds 3 ?_;rw[rounds_succ];go_wp2;rw[rounds_succ];go_wp2;rw[rounds_succ];go_wp2;go_ret;exact⟨rfl,rfl⟩
  ·have Z:(y != 0)=true:=by simpa using hy
   rw[if_neg (by simp),if_pos hy];clear hy;go_enter Tryz.func217,Tryz.ntmps217
   go_wp2;refine wp_loop_rounds 2 ?_;rw[rounds_succ];go_wp2;rw[rounds_succ];go_wp2;go_ret;exact⟨rfl,rfl⟩
 ·have aA:(x != 0)=true:=by simpa using hx
  rw[if_pos hx];clear hx;go_enter Tryz.func217,Tryz.ntmps217
  go_wp2;refine wp_loop_rounds 1 ?_;rw[rounds_succ];go_wp2;go_ret;exact⟨rfl,rfl⟩
section
variable {κ:Type} [DecidableEq κ]
structure Qa5 (P:Program) (mt:TypeId) (enc:κ→Value) (U:World) (bm:Nat) (L:List (κ × Value)) (x:κ) (cn:Nat) (st:Int) (W:World):Prop where
 mp:Bi enc W bm (De L x (.int .i64 cn))
 gr:U.grownBy W (some bm)
 size:W.heap.size=U.heap.size
 oth:∀g,g≠bm→W.heap[g]?=U.heap[g]?
 store:∀W2 v,W2.heap[bm]?=W.heap[bm]?→∃W3,(Instr.entryStore mt (.map (some bm)) (.int .i64 st) v).run P W2=.ok () W3∧Bi enc W3 bm (De L x v)∧W2.grownBy W3 (some bm)∧W3.heap.size=W2.heap.size∧(∀g,g≠bm→W3.heap[g]?=W2.heap[g]?)
def Ct(P:Program)(mt:TypeId)(enc:κ→Value)(U:World)(bm:Nat)(L:List (κ × Value))(x:κ)(cn:Nat):Nat→Value→Value→World→Prop
 |0,_,_,W=>W=U
 |1,e,_,W=>∃st,e=.tuple #[.int .i64 cn,.int .i64 st]∧Qa5 P mt enc U bm L x cn st W
 |2,e,s,W=>∃st,e=.tuple #[.int .i64 cn,.int .i64 st]∧s=.int .i64 st∧Qa5 P mt enc U bm L x cn st W
 |_,_,_,W=>Bi enc W bm (De L x (.int .i64 ((cn:Int)+1)))∧U.grownBy W (some bm)
theorem Ct.keep{P:Program}{mt:TypeId}{enc:κ→Value}{U:World}{bm:Nat}{L:List (κ × Value)}{x:κ}{cn k:Nat}{e s:Value}{W:World}(h:Ct P mt enc U bm L x cn k e s W)(hk:k≤2){g:Nat}(hg:g≠bm):W.heap[g]?=U.heap[g]?:=by
 match k,hk with
 |0,_=>rw[show W=U from h]
 |1,_=>obtain⟨st,_,h⟩:=h;exact h.oth g hg
 |2,_=>obtain⟨st,_,_,h⟩:=h;exact h.oth g hg
theorem Ct.look{P:Program}{mt kt J:TypeId}{enc:κ→Value}{U:World}{bm:Nat}{L:List (κ × Value)}{x:κ}{cn k:Nat}{e s:Value}{W:World}(h:Ct P mt enc U bm L x cn k e s W)(hk:k≤2)(Z:Bi enc U bm L)(hL:(lk L x).getD (.int .i64 0)=.int .i64 cn)
  (K:Ea P kt enc) (hu:P.underlying mt=some (.map kt J)) (I:∀w,(zeroValue J).run P w=.ok (.int .i64 0) w):(Instr.lookup mt (.map (some bm)) (enc x) false).run P W=.ok (.int .i64 cn) W:=by
 have hp:(lk (De L x (.int .i64 (cn:Int))) x).getD (.int .i64 0)=.int .i64 (cn:Int):=by rw[F5,if_pos rfl];rfl
 match k,hk with
 |0,_=>
  rw[show W=U from h];have h1:=Z.look K hu (I U) x false;rw[hL]at h1;exact h1
 |1,_=>
  obtain⟨st,_,h⟩:=h;have h1:=h.mp.look K hu (I W) x false;rw[hp]at h1;exact h1
 |2,_=>
  obtain⟨st,_,_,h⟩:=h;have h1:=h.mp.look K hu (I W) x false;rw[hp]at h1;exact h1
theorem Ct.one{P:Program}{mt kt Z:TypeId}{enc:κ→Value}{U:World}{bm:Nat}{L:List (κ × Value)}{x:κ}{cn:Nat}{e s:Value}{W:World}(h:Ct P mt enc U bm L x cn 0 e s W)(hU:Bi enc U bm L)(hL:(lk L x).getD (.int .i64 0)=.int .i64 cn)
  (K:Ea P kt enc) (hu:P.underlying mt=some (.map kt Z)) (hz:∀w,(zeroValue Z).run P w=.ok (.int .i64 0) w):∃J W',(Instr.mapEntry mt (.map (some bm)) (enc x)).run P W=.ok J W'∧Ct P mt enc U bm L x cn 1 J s W':=by
 rw[show W=U from h];obtain⟨W1,st,r1,I,q2,q3,q4,q5⟩:=hU.entry K hu (hz U) x;rw[hL]at r1 I;exact⟨_,W1,r1,st,rfl,I,q2,q3,q4,q5⟩
theorem Ct.two{P:Program}{mt:TypeId}{enc:κ→Value}{U:World}{bm:Nat}{L:List (κ × Value)}{x:κ}{cn:Nat}{e s:Value}{W:World}(h:Ct P mt enc U bm L x cn 1 e s W):∃st:Int,e=.tuple #[.int .i64 cn,.int .i64 st]∧Ct P mt enc U bm L x cn 2 e (.int .i64 st) W:=by
 obtain⟨st,rfl,h⟩:=h;exact⟨st,rfl,st,rfl,rfl,h⟩
theorem Ct.three{P:Program}{mt:TypeId}{enc:κ→Value}{U:World}{bm:Nat}{L:List (κ × Value)}{x:κ}{cn:Nat}{e s:Value}{W:World}(h:Ct P mt enc U bm L x cn 2 e s W):∃(st:Int) (W':World),s=.int .i64 st∧(Instr.entryStore mt (.map (some bm)) (.int .i64 st) (.int .i64 ((cn:Int)+1))).run P W=.ok () W'∧Ct P mt enc U bm L x cn 3 e s W':=by
 obtain⟨st,rfl,rfl,h⟩:=h;obtain⟨W3,r,p1,p2,Z,J⟩:=h.store W (.int .i64 ((cn:Int)+1)) rfl;exact⟨st,W3,rfl,r,p1,p2.os.trans h.gr.os,p2.tape.trans h.gr.tape,p2.output.trans h.gr.output,qK h.gr.size p2.size,fun g hg I=>(J g (fun e=>I (by rw[e]))).trans (h.oth g (fun e=>I (by rw[e])))⟩
end
open Go.RowKit Go.Sort
theorem Pu(x y:P28.Note)(W:World):Calls Tryz.prog 194 #[.agg (Bq x).toArray,.agg (Bq y).toArray] W fun e w'=>e=.returned (.int .i64 (P28.cmpN x y))∧∃q aD,w'=grow (W.drewN q) aD:=by
 obtain⟨a,b,s⟩:=x;obtain⟨c,d,t⟩:=y;simp only[Bq];have hr:P28.cmpN (a,b,s) (c,d,t)=(if Lib.compareInt a c≠0 then Lib.compareInt a c else if Lib.compareInt b d≠0 then Lib.compareInt b d else Lib.compareBytes s t):=rfl;rw[hr];clear hr;have h1:=fun V=>Tryz.cmp_Compare_int a c V;have h2:=fun V=>Ns b d V;have h3:=fun V=>Tryz.strings_Compare ⟨s.toArray⟩ ⟨t.toArray⟩ V;simp only[List.toList_toArray]at h3;obtain⟨r1,I⟩:∃r,Lib.compareInt a c=r:=⟨_,rfl⟩;obtain⟨r2,aC⟩:∃r,Lib.compareInt b d=r:=⟨_,rfl⟩;obtain⟨J,Z⟩:∃r,Lib.compareBytes s t=r:=⟨_,rfl⟩;rw[I]at h1 ⊢;rw[aC]at h2 ⊢;rw[Z]at h3 ⊢;clear I aC Z;obtain⟨R,hR⟩:=qeX (if r1≠0 then r1 else if r2≠0 then r2 else J);rw[hR];have HR:=Ab hR;clear hR;obtain⟨H,hH⟩:=qeX W.heap.size;obtain⟨W1,aB,aE,g0,g1,aG⟩:=Dt W (.cells #[.int .i64 a,.int .i64 b,.string ⟨s.toArray⟩] 183) (.cells #[.int .i64 c,.int .i64 d,.string ⟨t.toArray⟩] 183) H hH;have aA:=Ab aB;obtain⟨⟨p0,_⟩,⟨p1,_⟩,⟨p2,_⟩⟩:=Ag g0;obtain⟨⟨q0,_⟩,⟨q1,_⟩,⟨q2,_⟩⟩:=Ag g1;have H1:=Ab h1;have H2:=Ab h2;have H3:=Ab h3;clear aB aE g0 g1 h1 h2 h3;go_enter Tryz.func194,Tryz.ntmps194
 go_upto_region 1 with fail
 try rw[hH]
 rw[Aa aA];refine Ak 15 (by kernel_rfl) (by kernel_rfl) (by kernel_rfl) (by kernel_rfl) (by kernel_rfl) ?_;simp only[List.take_succ_cons,List.take_zero,List.drop_succ_cons,List.drop_zero]
 repeat (go_big_quiet_step (first|exact Calls.quiet_of_same (Aa H1 _)|exact Calls.quiet_of_same (Aa H2 _)|exact Calls.quiet_of_same (Aa H3 _)))
 refine wpQuiet_nil ?_;rintro _ ⟨nq,rfl⟩;have ho:=Zc (H+1+1) r1 r2 J ((W1.drewN nq).alloc (.cells #[.int .i64 r1,.int .i64 r2,.int .i64 J] 3)) (by have h:=qB (W1.drewN nq) (.cells #[.int .i64 r1,.int .i64 r2,.int .i64 J] 3);rwa [show (W1.drewN nq).heap.size=H+1+1 from aG]at h);rw[Aa HR]at ho;have HO:=Ab ho;clear ho;go_wp2_with (go_at_call 217;with_reducible refine(Aa HO).mono ?_;rintro e w' ⟨rfl,rfl⟩)
 go_ret;refine⟨rfl,nq,#[.cells #[.int .i64 a,.int .i64 b,.string ⟨s.toArray⟩] 183,.cells #[.int .i64 c,.int .i64 d,.string ⟨t.toArray⟩] 183,.cells #[.int .i64 r1,.int .i64 r2,.int .i64 J] 3],?_⟩;have hg:∀(os:Array Obj) (n:Nat),(grow W os).drewN n=grow (W.drewN n) os:=fun os n=>rfl;rw[←Aa aA,alloc_eq_grow,alloc_eq_grow,alloc_eq_grow,grow_grow,hg,grow_grow];simp
theorem A0.get{W:World}{B n c i:Nat}{a:Option Addr}{ns:List P28.Note}{p:P28.Note}(h:A0 W B (.slice a n c) ns)(hi:ns[i]?=some p) :
  ∃g,a=some ⟨g,0,none⟩∧W.cell? ⟨g,i*3,none⟩=some (.int .i64 p.1)∧W.cell? ⟨g,i*3+1,none⟩=some (.int .i64 p.2.1)∧W.cell? ⟨g,i*3+2,none⟩=some (.string ⟨p.2.2.toArray⟩):=by
 have aA:i<ns.length:=(qI.1 hi).1;rcases h.2 with⟨Z,h0⟩|⟨g,cap,J,Z,hb,hg,hn,hm,hs,hx⟩
 ·omega
 ·injection Z with I e2 e3;subst I
  have hc:∀t,t<ns.length*3→W.cell? ⟨g,t,none⟩=some ((Bq ns.toArray[t / 3]!)[t % 3]!):=fun t ht=>by
   have I:(J.toList.take (ns.length*3))[t]?=(B5 ns)[t]?:=by rw[hx]
   rw[List.getElem?_take,if_pos ht,Array.getElem?_toList,Hg ns t ht]at I;simp only[World.cell?,hg];simp only[Option.isSome_none,Bool.false_eq_true,if_false];exact I
  have e:ns.toArray[i]! = p:=by
   simp only[List.getElem!_toArray];rw[List.getElem!_eq_getElem?_getD,hi];rfl
  refine⟨g,rfl,?_,?_,?_⟩
  ·rw[hc _ (by omega),show i*3 / 3=i by omega,show i*3 % 3=0 by omega,e];rfl
  ·rw[hc _ (by omega),show (i*3+1) / 3=i by omega,show (i*3+1) % 3=1 by omega,e];rfl
  ·rw[hc _ (by omega),show (i*3+2) / 3=i by omega,show (i*3+2) % 3=2 by omega,e];rfl
structure OnI (W V:World) (H:Nat) (ns:List P28.Note) (i:Nat) (v:Value):Prop where
 own:A0 V (H+1) v (P28.onceN (ns.take i))
 mp:∃Lm,Bi Bo V H Lm∧(∀k,lk Lm k=none↔k∉ns.take i)∧(∀k u,lk Lm k=some u→∃n:Nat,u=.int .i64 n∧0<n∧n≤i)
 bel:Below H W V
 size:H+1≤V.heap.size
theorem OnI.next{W V2 V3:World}{H i cn:Nat}{ns:List P28.Note}{v2:Value}{x:P28.Note}{Lm:List (P28.Note × Value)}(hx:ns[i]?=some x)(Z:Bi Bo V3 H (De Lm x (.int .i64 (cn+1))))(aA:cn≤i)
  (h1:∀k,lk Lm k=none↔k∉ns.take i) (h2:∀k u,lk Lm k=some u→∃n:Nat,u=.int .i64 n∧0<n∧n≤i) (I:A0 V2 (H+1) v2 (P28.onceN (ns.take (i+1)))) (hb:Below H W V2) (hs:H+1≤V2.heap.size) (hg:V2.grownBy V3 (some H)):OnI W V3 H ns (i+1) v2:=by
 refine⟨I.keep (fun g J=>hg.block g (I.lt J).2 (fun e=>by have:=(I.lt J).1;cases e;omega)),⟨_,Z,fun k=>?_,fun k u hk=>?_⟩,hb.grown hg (by omega) (fun k e=>by cases e;omega),qK hs hg.size⟩
 ·rw[F5,List.take_add_one,hx];by_cases e:k=x
  ·subst e;simp
  ·rw[if_neg e,h1 k];simp[e]
 ·rw[F5]at hk;by_cases e:k=x
  ·rw[if_pos e]at hk;cases hk;exact⟨cn+1,by simp,by omega,by omega⟩
  ·rw[if_neg e]at hk;obtain⟨n,e1,e2,e3⟩:=h2 k u hk;exact⟨n,e1,e2,by omega⟩
theorem Yk(ns:List P28.Note)(v:Value)(W:World)(B:Nat)(h:A0 W B v ns)(hl:ns.length≤990000000000) :
  Calls Tryz.prog 192 #[v] W fun e w'=>∃v',e=.returned v'∧A0 w' W.heap.size v' (P28.onceN ns)∧Below W.heap.size W w':=by
 obtain⟨a,c,rfl⟩:=h.form;have aR:=fun(g:Nat) (e:(Value.slice a ns.length c).ownBlock=some g)=>(h.lt e).2;obtain⟨H,hH⟩:=qeX W.heap.size;rw[hH]at aR ⊢;obtain⟨M,hM⟩:=qeX ns.length;rw[hM]at hl h aR ⊢;obtain⟨W0,cG,bT,g0,dH⟩:=As W (.map #[] 0) H hH;have cB:OnI W W0 H ns 0 (.slice none 0 0):=⟨by simpa[P28.onceN]using A0.nil W0 (H+1),⟨[],⟨#[],0,g0,⟨by simp,by simp⟩,rfl⟩,by simp[lk,Cl],by simp[lk,Cl]⟩,bT,by omega⟩;have aH:∀V,Below H W V→A0 V B (.slice a M c) ns:=fun V hb=>h.keep (fun g hg=>hb.block g (aR g hg));have cY:=Ab aH;have cO:=Ab cB;have HM:=Ab hM;have cS:=Ab cG;have dL:=@run_makeMap Tryz.prog;clear aH cB hM cG h aR g0 bT;go_enter Tryz.func192,Tryz.ntmps192
 go_upto_region 2 with fail
 try rw[hH]
 rw[Aa cS];go_wp2
 go_loopg [4,10] M (fun g s4 cQ wx=>∃(i:Nat) (v:Value),i+g=M∧cQ=.int .i64 i∧s4=v∧Hid (OnI W wx H ns i v))
 case atStart=>exact⟨0,_,by omega,by go_num,rfl,cO⟩
 case round=>
  obtain⟨i,v,dG,rfl,rfl,HI⟩:=hrel;cases gk with
  |zero=>
   have e1:(M:Int)≤(i:Int):=by omega
   have j1:decide ((i:Int)<(M:Int))=false:=by simp;omega
   have cL:ns.take i=ns:=List.take_of_length_le (by rw[Aa HM];omega);have hfin:=(Aa HI).own;rw[cL]at hfin;have HF:=Ab hfin;clear hfin cL;go_wp2;go_ret;exact⟨_,rfl,(Aa HF).base (by omega),(Aa HI).bel⟩
  |succ g'=>
   have dK:(i:Int)<(M:Int):=by omega
   have dM:IntKind.i64.wrap ((i:Int)+1)=(i:Int)+1:=qG _ (by omega);obtain⟨⟨Z,J,I⟩,hx⟩:=Ap (Aa HM) (show i<M by omega);obtain⟨gb,rfl,c0,c1,c2⟩:=((Aa cY) wr (Aa HI).bel).get hx;obtain⟨aM,⟨Lm,bY,aS,aW⟩,bI,hsz⟩:=id (Aa HI);obtain⟨va,vc,rfl⟩:=aM.form;obtain⟨K,hK⟩:=qeX wr.heap.size;obtain⟨W1,cD,bF,g1,cV⟩:=As wr (.cells #[.int .i64 Z,.int .i64 J,.string ⟨I.toArray⟩] 183) K hK;have bG:Below H W W1:=bI.trans (bF.mono (by omega));have hm1:Bi Bo W1 H Lm:=bY.keep (bF.block H (by omega));have cA:A0 W1 (H+1) (.slice va (P28.onceN (ns.take i)).length vc) (P28.onceN (ns.take i)):=aM.keep (fun g hg=>bF.block g (by have:=(aM.lt hg).2;omega));have dJ:H+1≤K:=by omega
   have dF:(P28.onceN (ns.take i)).length≤990000000000:=qK (P28.once_len _) (by rw[qY];omega);obtain⟨⟨y0,_⟩,⟨y1,_⟩,⟨y2,_⟩⟩:=Ag g1;have dA:∀g,(Value.slice va (P28.onceN (ns.take i)).length vc).ownBlock=some g→g<K:=fun g hg=>by have:=(aM.lt hg).2;omega
   have HX:=Ab hx;have aG:=Ab aS;have aO:=Ab aW;have aL:=Ab hm1;have bE:=Ab cA;have cZ:=Ab cD;have dB:=Ab g1;have aU:=Ab bG;have aC:=P28.once_snoc (ns.take i) (Z,J,I);simp only[P28.once_mem]at aC;have bJ:ns.take (i+1)=ns.take i++[(Z,J,I)]:=by rw[List.take_add_one,Aa HX];rfl
   rw[←bJ]at aC;clear hx aM bY aS aW bI hsz hm1 cA cD g1 bG bF bJ;go_upto_region 6 with fail
   try rw[hK]
   rw[Aa cZ];by_cases aH:(Z,J,I)∈ns.take i
   ·rw[if_pos aH]at aC;have aY:=Ab aC
    obtain⟨u,hu⟩:∃u,lk Lm (Z,J,I)=some u:=by
     cases hq:lk Lm (Z,J,I)with
     |none=>exact absurd aH ((Aa aG _).1 hq)
     |some u=>exact⟨u,rfl⟩
    obtain⟨cn,rfl,dE,bD⟩:=Aa aO _ _ hu;have HU:=Ab hu;have t1:((cn:Int)==0)=false:=by simp;omega
    have cW:IntKind.i64.wrap ((cn:Int)+1)=(cn:Int)+1:=qG _ (by omega)
    have bM:∀q,(Instr.lookup 261 (.map (some H)) (.agg #[.int .i64 Z,.int .i64 J,.string ⟨I.toArray⟩]) false).run Tryz.prog (W1.drewN q)=.ok (.int .i64 cn) (W1.drewN q):=fun q=>by
     have h:=((Aa aL).keep (W':=W1.drewN q) rfl).look Da Tryz.underlying261 (Dc _) (Z,J,I) false;rw[hu]at h;exact h
    clear hu aC aH;go_upto_region 8 with(at_lookup;refine Cy rfl _ _ rfl (Aa aL) Da Tryz.underlying261 (Dc _) rfl (Z,J,I) rfl (Aa HU) ?_)
    obtain⟨U,hU⟩:=qeX W1.drew;have aP:Below W1.heap.size W1 U:=by rw[←hU];exact(qU _ _).drew
    have cN:U.heap.size=W1.heap.size:=by rw[←hU];rfl
    have aQ:Bi Bo U H Lm:=(Aa aL).keep (by rw[←hU];rfl);have hL:(lk Lm (Z,J,I)).getD (.int .i64 0)=.int .i64 cn:=by rw[Aa HU];rfl
    have hS:∀k e s W,Ct Tryz.prog 261 Bo U H Lm (Z,J,I) cn k e s W→k≤2→(W.cell? ⟨K,0,none⟩=some (.int .i64 Z)∧W.cell? ⟨K,1,none⟩=some (.int .i64 J)∧W.cell? ⟨K,2,none⟩=some (.string ⟨I.toArray⟩))∧(Instr.lookup 261 (.map (some H)) (.agg #[.int .i64 Z,.int .i64 J,.string ⟨I.toArray⟩]) false).run Tryz.prog W=.ok (.int .i64 cn) W:=fun k e s W h hk=>by
     have hb:W.heap[K]?=W1.heap[K]?:=(h.keep hk (by omega)).trans (aP.block K (by omega));exact⟨⟨(zC (a:=⟨K,0,none⟩) hb).trans y0,(zC (a:=⟨K,1,none⟩) hb).trans y1,(zC (a:=⟨K,2,none⟩) hb).trans y2⟩,h.look hk aQ hL Da Tryz.underlying261 Dc⟩
    refine A7 Bj [4,5,6] (fun k aF W=>∃e s,aF={ tmps:=#[.slice (oA gb 0) M c,uZ,.slice none 0 0,.map (some H),.slice va (P28.onceN (ns.take i)).length vc,uZ,qP0 K,.map (some H),.slice (oA gb 0) M c,.int .i64 M,.int .i64 i,.bool true,pT gb (i*3),.agg #[.int .i64 Z,.int .i64 J,sT I],.map (some H),.agg #[.int .i64 Z,.int .i64 J,sT I],.int .i64 cn,.bool false,u18,u19,u20,u21,.map (some H),.agg #[.int .i64 Z,.int .i64 J,sT I],.int .i64 cn,.int .i64 ((cn:Int)+1),e,s,u28,uZ],defers:=[] }∧Ct Tryz.prog 261 Bo U H Lm (Z,J,I) cn k e s W) (aF:=(fun e s=>{ tmps:=#[.slice (oA gb 0) M c,uZ,.slice none 0 0,.map (some H),.slice va (P28.onceN (ns.take i)).length vc,uZ,qP0 K,.map (some H),.slice (oA gb 0) M c,.int .i64 M,.int .i64 i,.bool true,pT gb (i*3),.agg #[.int .i64 Z,.int .i64 J,sT I],.map (some H),.agg #[.int .i64 Z,.int .i64 J,sT I],.int .i64 cn,.bool false,u18,u19,u20,u21,.map (some H),.agg #[.int .i64 Z,.int .i64 J,sT I],.int .i64 cn,.int .i64 ((cn:Int)+1),e,s,u28,uZ],defers:=[] }) undef undef) (by kernel_rfl) (by kernel_rfl) (by simp) ⟨undef,undef,rfl,hU⟩ rfl rfl (Dw 22 6 (by kernel_rfl) rfl rfl) ?pure ?write ?fin
    case pure=>
     rintro k aF W ix o ⟨e,s,rfl,aA⟩ ho bQ aJ;rcases ix with _|_|_|_|_|_|_|ix
     iterate 3
      ·obtain⟨⟨c1,c2,c3⟩,c4⟩:=hS k e s W aA (aJ 2 6 rfl (by kernel_rfl));refine wq ho rfl rfl rfl rfl ?_
       go_simp
     ·obtain⟨⟨c1,c2,c3⟩,c4⟩:=hS k e s W aA (aJ 2 6 rfl (by kernel_rfl));refine wq ho rfl rfl rfl rfl ?_
      go_simp
      try decide
     iterate 3
      ·exfalso;simp at bQ
     ·exfalso;simp at ho
    case write=>
     rintro k aF W ix o ⟨e,s,rfl,aA⟩ hi ho;rcases k with _|_|_|k
     ·cases (show some 4=some ix from hi);have aD:some _=some o:=ho;cases aD;obtain⟨e',W',r,h1⟩:=aA.one aQ hL Da Tryz.underlying261 Dc;refine⟨rfl,.inl ⟨e',W',?_,⟨e',s,rfl,h1⟩⟩⟩;have r':(Instr.mapEntry 261 (.map (some H)) (.agg #[.int .i64 Z,.int .i64 J,.string ⟨I.toArray⟩])).run Tryz.prog W=.ok e' W':=r;simp[execOp,Act.eval,r',Result.andThen]
     ·cases (show some 5=some ix from hi);have aD:some _=some o:=ho;cases aD;obtain⟨st,rfl,h2⟩:=aA.two;refine⟨rfl,.inl ⟨.int .i64 st,W,?_,⟨_,_,rfl,h2⟩⟩⟩;have r':(Instr.extract (.tuple #[.int .i64 (cn:Int),.int .i64 st]) 1).run Tryz.prog W=.ok (.int .i64 st) W:=rfl;simp[execOp,Act.eval,r',Result.andThen]
     ·cases (show some 6=some ix from hi);have aD:some _=some o:=ho;cases aD;obtain⟨st,W',rfl,r,h3⟩:=aA.three;refine⟨rfl,.inr (.inl ⟨W',?_,⟨_,_,rfl,h3⟩⟩)⟩;simp[execOp,Act.eval,r,Result.andThen]
     ·simp at hi
    case fin=>
     rintro k aF W3 hk ⟨e,s,rfl,aA⟩;obtain⟨k,rfl⟩:∃k',k=k'+3:=⟨k-3,by simp at hk;omega⟩;obtain⟨aK,aX⟩:=id aA;have aE:=OnI.next (Aa HX) aK bD (Aa aG) (Aa aO) (V2:=U) (v2:=.slice va (P28.onceN (ns.take i)).length vc) (by rw[Aa aY];exact(Aa bE).keep (fun g hg=>aP.block g ((A0.lt (Aa bE) hg).2))) (by rw[←hU];exact(Aa aU).drew) (show H+1≤U.heap.size by omega) aX
     have HN:=Ab aE;clear aE aK aX aA hS hL aQ aP;go_wp2;go_roundg g'
     case measure=>omega
     case rel=>exact⟨i+1,_,by omega,by go_num,rfl,HN⟩
   ·rw[if_neg aH]at aC;have aY:=Ab aC;have hu:lk Lm (Z,J,I)=none:=(Aa aG _).2 aH;have HU:=Ab hu;have t1:((0:Int)==0)=true:=by simp
    obtain⟨cn,bV⟩:∃cn:Nat,cn=0:=⟨_,rfl⟩;have bD:cn≤i:=by omega
    have cH:(.int .i64 0:Value)=.int .i64 (cn:Int):=by rw[bV];rfl
    have cW:IntKind.i64.wrap ((cn:Int)+1)=(cn:Int)+1:=qG _ (by omega);have aI:=fun(V:World) (hV:Bi Bo V H Lm)=>hV.look Da Tryz.underlying261 (Dc _) (Z,J,I) false;rw[hu]at aI;simp only[Option.getD_none]at aI;rw[cH]at aI;have cK:=Ab aI;obtain⟨W2,cI,aZ,g2,dI⟩:=As W1 (.cells #[.int .i64 Z,.int .i64 J,.string ⟨I.toArray⟩] 183) (K+1) cV;have bW:=(Aa aL).keep (aZ.block H (by omega));have cM:=(Aa bE).keep (W':=W2) (fun g hg=>aZ.block g (by have:=((Aa bE).lt hg).2;omega));have bX:∀g,(Value.slice va (P28.onceN (ns.take i)).length vc).ownBlock=some g→H+1≤g∧g<K:=fun g hg=>⟨((Aa bE).lt hg).1,dA g hg⟩;have cF:=(aZ.block K (by omega)).trans (Aa dB);have bL:=(Aa aU).trans (aZ.mono (by omega));have cU:=Ab bW;have cX:=Ab cM;have aT:=Ab bX;have cR:=Ab cF;have bZ:=Ab bL;have cP:=Ab cI;have cT:=Ab g2;clear hu aC aH bW cM bX cF bL cI g2 aZ aI cH;go_upto_region 8 with(first|(at_lookup;refine Cy rfl _ _ rfl (Aa aL) Da Tryz.underlying261 (Dc _) rfl (Z,J,I) rfl (Aa HU) ?_)|(rw[Aa cP];refine An (p:=(Z,J,I)) (by rfl) _ _ (by rfl) (by rfl) (Aa cX) (K+1) 1 (by rfl) (Aa cT) _ rfl (by omega) (by omega) ?_;intro g3 aN w3 bC aB bU dD))
    have cJ:=(aB.block K (by omega) (fun e=>by have:=Aa aT K e.symm;omega)).trans (Aa cR);have bO:Bi Bo w3 H Lm:=(Aa cU).keep (aB.block H (by omega) (fun e=>by have:=Aa aT H e.symm;omega));have bK:Below H W w3:=(Aa bZ).grown aB (by omega) (fun k e=>by have:=Aa aT k e;omega);have dC:=aB.size;have bM:∀q,(Instr.lookup 261 (.map (some H)) (.agg #[.int .i64 Z,.int .i64 J,.string ⟨I.toArray⟩]) false).run Tryz.prog (w3.drewN q)=.ok (.int .i64 cn) (w3.drewN q):=fun q=>Aa cK _ (bO.keep (W':=w3.drewN q) rfl);clear y0 y1 y2 aL aU;obtain⟨⟨y0,_⟩,⟨y1,_⟩,⟨y2,_⟩⟩:=Ag cJ;have aL:=Ab bO;have aU:=Ab bK;have cC:=Ab bC;clear cJ bO bK bC aB bU;obtain⟨U,hU⟩:=qeX w3.drew;have aP:Below w3.heap.size w3 U:=by rw[←hU];exact(qU _ _).drew
    have cN:U.heap.size=w3.heap.size:=by rw[←hU];rfl
    have aQ:Bi Bo U H Lm:=(Aa aL).keep (by rw[←hU];rfl);have hL:(lk Lm (Z,J,I)).getD (.int .i64 0)=.int .i64 cn:=by rw[Aa HU,bV];rfl
    have hS:∀k e s W,Ct Tryz.prog 261 Bo U H Lm (Z,J,I) cn k e s W→k≤2→(W.cell? ⟨K,0,none⟩=some (.int .i64 Z)∧W.cell? ⟨K,1,none⟩=some (.int .i64 J)∧W.cell? ⟨K,2,none⟩=some (.string ⟨I.toArray⟩))∧(Instr.lookup 261 (.map (some H)) (.agg #[.int .i64 Z,.int .i64 J,.string ⟨I.toArray⟩]) false).run Tryz.prog W=.ok (.int .i64 cn) W:=fun k e s W h hk=>by
     have hb:W.heap[K]?=w3.heap[K]?:=(h.keep hk (by omega)).trans (aP.block K (by omega));exact⟨⟨(zC (a:=⟨K,0,none⟩) hb).trans y0,(zC (a:=⟨K,1,none⟩) hb).trans y1,(zC (a:=⟨K,2,none⟩) hb).trans y2⟩,h.look hk aQ hL Da Tryz.underlying261 Dc⟩
    refine A7 Bj [4,5,6] (fun k aF W=>∃e s,aF={ tmps:=#[.slice (oA gb 0) M c,uZ,.slice none 0 0,.map (some H),.slice (oA g3 0) ((P28.onceN (ns.take i)).length+1) aN,uZ,qP0 K,.map (some H),.slice (oA gb 0) M c,.int .i64 M,.int .i64 i,.bool true,pT gb (i*3),.agg #[.int .i64 Z,.int .i64 J,sT I],.map (some H),.agg #[.int .i64 Z,.int .i64 J,sT I],.int .i64 0,.bool true,.slice va (P28.onceN (ns.take i)).length vc,.agg #[.int .i64 Z,.int .i64 J,sT I],.slice (oA (K+1) 0) 1 1,.slice (oA g3 0) ((P28.onceN (ns.take i)).length+1) aN,.map (some H),.agg #[.int .i64 Z,.int .i64 J,sT I],.int .i64 cn,.int .i64 ((cn:Int)+1),e,s,u28,uZ],defers:=[] }∧Ct Tryz.prog 261 Bo U H Lm (Z,J,I) cn k e s W) (aF:=(fun e s=>{ tmps:=#[.slice (oA gb 0) M c,uZ,.slice none 0 0,.map (some H),.slice (oA g3 0) ((P28.onceN (ns.take i)).length+1) aN,uZ,qP0 K,.map (some H),.slice (oA gb 0) M c,.int .i64 M,.int .i64 i,.bool true,pT gb (i*3),.agg #[.int .i64 Z,.int .i64 J,sT I],.map (some H),.agg #[.int .i64 Z,.int .i64 J,sT I],.int .i64 0,.bool true,.slice va (P28.onceN (ns.take i)).length vc,.agg #[.int .i64 Z,.int .i64 J,sT I],.slice (oA (K+1) 0) 1 1,.slice (oA g3 0) ((P28.onceN (ns.take i)).length+1) aN,.map (some H),.agg #[.int .i64 Z,.int .i64 J,sT I],.int .i64 cn,.int .i64 ((cn:Int)+1),e,s,u28,uZ],defers:=[] }) undef undef) (by kernel_rfl) (by kernel_rfl) (by simp) ⟨undef,undef,rfl,hU⟩ rfl rfl (Dw 22 6 (by kernel_rfl) rfl rfl) ?pure ?write ?fin
    case pure=>
     rintro k aF W ix o ⟨e,s,rfl,aA⟩ ho bQ aJ;rcases ix with _|_|_|_|_|_|_|ix
     iterate 3
      ·obtain⟨⟨c1,c2,c3⟩,c4⟩:=hS k e s W aA (aJ 2 6 rfl (by kernel_rfl));refine wq ho rfl rfl rfl rfl ?_
       go_simp
     ·obtain⟨⟨c1,c2,c3⟩,c4⟩:=hS k e s W aA (aJ 2 6 rfl (by kernel_rfl));refine wq ho rfl rfl rfl rfl ?_
      go_simp
      try decide
     iterate 3
      ·exfalso;simp at bQ
     ·exfalso;simp at ho
    case write=>
     rintro k aF W ix o ⟨e,s,rfl,aA⟩ hi ho;rcases k with _|_|_|k
     ·cases (show some 4=some ix from hi);have aD:some _=some o:=ho;cases aD;obtain⟨e',W',r,h1⟩:=aA.one aQ hL Da Tryz.underlying261 Dc;refine⟨rfl,.inl ⟨e',W',?_,⟨e',s,rfl,h1⟩⟩⟩;have r':(Instr.mapEntry 261 (.map (some H)) (.agg #[.int .i64 Z,.int .i64 J,.string ⟨I.toArray⟩])).run Tryz.prog W=.ok e' W':=r;simp[execOp,Act.eval,r',Result.andThen]
     ·cases (show some 5=some ix from hi);have aD:some _=some o:=ho;cases aD;obtain⟨st,rfl,h2⟩:=aA.two;refine⟨rfl,.inl ⟨.int .i64 st,W,?_,⟨_,_,rfl,h2⟩⟩⟩;have r':(Instr.extract (.tuple #[.int .i64 (cn:Int),.int .i64 st]) 1).run Tryz.prog W=.ok (.int .i64 st) W:=rfl;simp[execOp,Act.eval,r',Result.andThen]
     ·cases (show some 6=some ix from hi);have aD:some _=some o:=ho;cases aD;obtain⟨st,W',rfl,r,h3⟩:=aA.three;refine⟨rfl,.inr (.inl ⟨W',?_,⟨_,_,rfl,h3⟩⟩)⟩;simp[execOp,Act.eval,r,Result.andThen]
     ·simp at hi
    case fin=>
     rintro k aF W3 hk ⟨e,s,rfl,aA⟩;obtain⟨k,rfl⟩:∃k',k=k'+3:=⟨k-3,by simp at hk;omega⟩;obtain⟨aK,aX⟩:=id aA;have aE:=OnI.next (Aa HX) aK bD (Aa aG) (Aa aO) (V2:=U) (v2:=.slice (some ⟨g3,0,none⟩) ((P28.onceN (ns.take i)).length+1) aN) (by rw[Aa aY];exact(Aa cC).keep (fun g hg=>aP.block g ((A0.lt (Aa cC) hg).2))) (by rw[←hU];exact(Aa aU).drew) (show H+1≤U.heap.size by omega) aX
     have HN:=Ab aE;clear aE aK aX aA hS hL aQ aP;go_wp2;go_roundg g'
     case measure=>omega
     case rel=>exact⟨i+1,_,by omega,by go_num,rfl,HN⟩
theorem Wm(l:List P28.Note)(v:Value)(W:World)(B:Nat)(h:A0 W B v l)(hB:B≤W.heap.size)(hl:l.length≤990000000000) :
  Calls Tryz.prog 193 #[v,.func (.func 194) #[] #[]] W fun e w'=>e=.returned (.tuple #[])∧A0 w' B v (l.mergeSort fun x y=>!(Go.Proofs.ltOf P28.cmpN) y x)∧Below B W w':=by
 obtain⟨a,c,rfl⟩:=h.form;by_cases Z:l=[]
 ·subst Z;have hn:=AnyF.slices_SortFunc_none Tryz.sortDiag a c (.func (.func 194) #[] #[]) W;refine Calls.mono (f:=193) hn ?_;rintro e w' ⟨rfl,rfl⟩;refine⟨rfl,?_,qU _ _⟩;rw[List.mergeSort_nil];exact h
 ·obtain⟨x,r,J⟩:∃x r,l=x::r:=by cases l with|nil=>exact absurd rfl Z|cons x r=>exact⟨x,r,rfl⟩
  obtain⟨g,rfl,_⟩:=h.get (i:=0) (p:=x) (by rw[J];rfl);have hg:=h.lt (g:=g) rfl;have eg:∀args w,(callFunc 194 args).run Tryz.prog w=.ok (.enter 194 args) w:=enters_of Tryz.func194 (by kernel_rfl) rfl;have I:CmpLays Tryz.prog 194 #[] Bq 3 P28.cmpN g 0 l.toArray.size W:=fun m os dk _ x y=>Pu x y _;have hs:=AnyQ.slices_SortFunc_total Tryz.sortDiag 3 Tryz.isAgg183 Tryz.sizeOf183 Bq (fun _=>rfl) (fun x v hv=>by simp[Bq]at hv;rcases hv with rfl|rfl|rfl<;>rfl) P28.cmpN P28.cmpN_swo 194 #[] g 0 c l.toArray W eg I (L9 h) hg.2 (by simp;omega) (fun x y h1 h2=>P28.ltN_total x y (by rw[←P28.ltN_cmp];exact h1) (by rw[←P28.ltN_cmp];exact h2));rw[show l.toArray.size=l.length by simp]at hs;refine Calls.mono (f:=193) hs ?_;rintro e w' ⟨rfl,n,os,rfl⟩;simp only[List.toList_toArray];exact⟨trivial,S8 h (by simp),Oa (qU _ _) hg.1 hB⟩
theorem Kr(ns:List P28.Note)(v:Value)(W:World)(B:Nat)(h:A0 W B v ns)(hl:ns.length≤990000000000) :
  Calls Tryz.prog 162 #[v] W fun e w'=>∃v',e=.returned v'∧A0 w' W.heap.size v' (P28.sortN ns)∧Below W.heap.size W w':=by
 have ho:=Yk ns v W B h hl;obtain⟨va,vc,rfl⟩:=h.form;have aC:=qK (P28.once_len ns) hl;have hs:=fun(v:Value) (V:World) (h:A0 V W.heap.size v (P28.onceN ns)) (hV:W.heap.size≤V.heap.size)=>Wm (P28.onceN ns) v V W.heap.size h hV aC;have aA:(P28.onceN ns).mergeSort (fun x y=>!(Go.Proofs.ltOf P28.cmpN) y x)=P28.sortN ns:=rfl;rw[aA]at hs;have HO:=Ab ho;have HS:=Ab hs;clear ho hs aA h;go_enter Tryz.func162,Tryz.ntmps162
 go_wp2_with (first|(go_at_call 192;refine(Aa HO).mono ?_;rintro e w2 ⟨v2,rfl,I,Z⟩;obtain⟨aD,aE,rfl⟩:=I.form)|(go_at_call 193;refine(Aa HS _ _ I Z.size).mono ?_;rintro e w3 ⟨rfl,J,aB⟩))
 go_ret;exact⟨_,rfl,J,Z.trans aB⟩
open Go.RowKit
theorem Tj{W:World}{g:Nat}{T:TypeId}{u0 u1 u2 u3 u4 u5 u6 u7 Z u9 I u11 u12:Value}(h:W.heap[g]?=some (.cells #[u0,u1,u2,u3,u4,u5,u6,u7,Z,u9,I,u11,u12] T))(v0 J v2 v3 v4 v5 v6 v7 v8 v9 v10 v11 v12:Value):(((((((((((((W.setCell ⟨g,0,none⟩ v0).setCell ⟨g,1,none⟩ J).setCell ⟨g,2,none⟩ v2).setCell ⟨g,3,none⟩ v3).setCell ⟨g,4,none⟩ v4).setCell ⟨g,5,none⟩ v5).setCell ⟨g,6,none⟩ v6).setCell ⟨g,7,none⟩ v7).setCell ⟨g,8,none⟩ v8).setCell ⟨g,9,none⟩ v9).setCell ⟨g,10,none⟩ v10).setCell ⟨g,11,none⟩ v11).setCell ⟨g,12,none⟩ v12).heap[g]?=some (.cells #[v0,J,v2,v3,v4,v5,v6,v7,v8,v9,v10,v11,v12] T):=by
 simp[World.setCell,Array.getElem?_modify,h]
theorem Yp{W:World}{g g':Nat}(h:g'≠g)(v0 I v2 v3 v4 v5 v6 v7 v8 v9 v10 v11 v12:Value):(((((((((((((W.setCell ⟨g,0,none⟩ v0).setCell ⟨g,1,none⟩ I).setCell ⟨g,2,none⟩ v2).setCell ⟨g,3,none⟩ v3).setCell ⟨g,4,none⟩ v4).setCell ⟨g,5,none⟩ v5).setCell ⟨g,6,none⟩ v6).setCell ⟨g,7,none⟩ v7).setCell ⟨g,8,none⟩ v8).setCell ⟨g,9,none⟩ v9).setCell ⟨g,10,none⟩ v10).setCell ⟨g,11,none⟩ v11).setCell ⟨g,12,none⟩ v12).heap[g']?=W.heap[g']?:=by
 rw[qC _ _ _ _ h,qC _ _ _ _ h,qC _ _ _ _ h,qC _ _ _ _ h,qC _ _ _ _ h,qC _ _ _ _ h,qC _ _ _ _ h,qC _ _ _ _ h,qC _ _ _ _ h,qC _ _ _ _ h,qC _ _ _ _ h,qC _ _ _ _ h,qC _ _ _ _ h]
theorem Lr{W:World}{g:Nat}{Z u1 u2 u3 u4 u5 u6 u7 J u9 I u11 u12:Value}(h:W.heap[g]?=some (.cells #[Z,u1,u2,u3,u4,u5,u6,u7,J,u9,I,u11,u12] 63)):(loadVar 63 ⟨g,0,none⟩).run Tryz.prog W=.ok (.agg #[Z,u1,u2,u3,u4,u5,u6,u7,J,u9,I,u11,u12]) W:=qW _ _ _ _ _ _ _ h Tryz.underlying63 rfl (by kernel_rfl)
theorem Ai.val_eqn(n a u:List UInt8)(aa:Option Addr)(ac:Nat)(af:List (List UInt8))(m I fa J:Int)(k:Nat)(t:List UInt8)(ka:Option Addr)(kc:Nat)(ks:List (List UInt8))(da:Option Addr)(dc:Nat)(ds:List Nd)(l:Int) :
  (⟨n,a,u,aa,ac,af,m,I,fa,J,.mk k t ka kc ks da dc ds l⟩:Ai).val=.agg #[.string ⟨n.toArray⟩,.string ⟨a.toArray⟩,.string ⟨u.toArray⟩,.slice aa af.length ac,.int .i64 m,.int .i64 I,.int .i64 fa,.int .i64 J,.int .u8 k,.string ⟨t.toArray⟩,.slice ka ks.length kc,.slice da ds.length dc,.int .i64 l]:=rfl
theorem I4(g o:Nat)(x n:Int)(cs:Array Value)(T:TypeId)(W:World)(h:W.heap[g]?=some (.cells cs T))(hx:cs[o]?=some (.int .i64 x)) :
  Calls Tryz.prog 195 #[.pointer (some ⟨g,o,none⟩),.int .i64 n] W fun e w'=>e=.returned (.tuple #[])∧w'.heap[g]?=some (.cells (cs.setIfInBounds o (.int .i64 (P28.meant x n))) T)∧W.grownBy w' (some g)∧w'.heap.size=W.heap.size:=by
 have c0:W.cell? ⟨g,o,none⟩=some (.int .i64 x):=by simp[World.cell?,h,hx]
 have f0:W.frozen? ⟨g,o,none⟩=false:=by simp[World.frozen?,h]
 by_cases I:x=0
 ·subst I;have J:=Ab h;clear h hx;go_enter Tryz.func195,Tryz.ntmps195
  go_wp2;go_end0;refine⟨rfl,?_,G6 _ _ _ _,by simp⟩;have hh:=Aa J;simp[World.setCell,Array.getElem?_modify,hh,P28.meant]
 ·have Z:(x==0)=false:=by simpa using I
  have hm:P28.meant x n=x:=by unfold P28.meant;rw[if_neg I]
  have hs:cs.setIfInBounds o (.int .i64 (P28.meant x n))=cs:=by
   rw[hm];apply Array.ext_getElem?;intro j;rw[Array.getElem?_setIfInBounds];split
   ·rename_i e
    subst e;split
    ·exact hx.symm
    ·rename_i h2
     rw[Array.getElem?_eq_none (by omega)]at hx;cases hx
   ·rfl
  rw[hs];have J:=Ab h;clear h hx I hm hs;go_enter Tryz.func195,Tryz.ntmps195
  go_wp2;go_end0;exact⟨rfl,Aa J,⟨rfl,rfl,rfl,qJ _,fun _ _ _=>rfl⟩,rfl⟩
theorem Fd(x a b:Int)(W:World):Calls Tryz.prog 165 #[.int .i64 x,.int .i64 a,.int .i64 b] W fun e w'=>e=.returned (.bool (!P28.out1 x a b))∧w'=W:=by
 unfold P28.out1;by_cases h1:a≤x
 ·by_cases h2:x≤b
  ·have d1:decide (x≥a)=true:=by simpa using h1
   have d2:decide (x≤b)=true:=by simpa using h2
   go_enter Tryz.func165,Tryz.ntmps165
   go_wp2;go_ret;exact⟨Ao (by simp[h1,h2]),rfl⟩
  ·have J:b<x:=by omega
   have d1:decide (x≥a)=true:=by simpa using h1
   have d2:decide (x≤b)=false:=by simpa using J
   clear h2;go_enter Tryz.func165,Tryz.ntmps165
   go_wp2;go_ret;exact⟨Ao (by simp;omega),rfl⟩
 ·have I:x<a:=by omega
  have d1:decide (x≥a)=false:=by simpa using I
  clear h1;go_enter Tryz.func165,Tryz.ntmps165
  go_wp2;go_ret;exact⟨Ao (by simp;omega),rfl⟩
def Ai.real(s:Ai):Ai:={ s with most:=P28.meant s.most 1,factor:=P28.meant s.factor 1,limit:=P28.meant s.limit 100 }
theorem Kn(s:Ai)(w:World):Calls Tryz.prog 166 #[s.val] w fun e w'=>e=.returned s.real.val∧Below w.heap.size w w':=by
 obtain⟨n,a,u,aa,ac,af,m,fi,fa,li,⟨k,t,ka,kc,ks,da,dc,ds,l⟩⟩:=s;unfold Ai.real;rw[Ai.val_eqn,Ai.val_eqn];obtain⟨N1,aK⟩:=qeX af.length;obtain⟨N2,aO⟩:=qeX ks.length;obtain⟨N3,aJ⟩:=qeX ds.length;rw[aK,aO,aJ];clear aK aO aJ;simp only;obtain⟨H,hH⟩:=qeX w.heap.size;obtain⟨W1,aH,aC,g0,aN⟩:=As w (.cells #[.string ⟨n.toArray⟩,.string ⟨a.toArray⟩,.string ⟨u.toArray⟩,.slice aa N1 ac,.int .i64 m,.int .i64 fi,.int .i64 fa,.int .i64 li,.int .u8 k,.string ⟨t.toArray⟩,.slice ka N2 kc,.slice da N3 dc,.int .i64 l] 63) H hH;obtain⟨W2,aL,J,g1,aT⟩:=As W1 (.cells #[.string ⟨#[]⟩,.string ⟨#[]⟩,.string ⟨#[]⟩,.slice none 0 0,.int .i64 0,.int .i64 0,.int .i64 0,.int .i64 0,.int .u8 0,.string ⟨#[]⟩,.slice none 0 0,.slice none 0 0,.int .i64 0] 63) (H+1) aN;have g0:=(J.block H (by omega)).trans g0;have J:=aC.trans (J.mono (by omega));have h1:=fun V hV=>I4 H 4 m 1 #[.string ⟨n.toArray⟩,.string ⟨a.toArray⟩,.string ⟨u.toArray⟩,.slice aa N1 ac,.int .i64 m,.int .i64 fi,.int .i64 fa,.int .i64 li,.int .u8 k,.string ⟨t.toArray⟩,.slice ka N2 kc,.slice da N3 dc,.int .i64 l] 63 V hV rfl;have h2:=fun V hV=>I4 H 6 fa 1 #[.string ⟨n.toArray⟩,.string ⟨a.toArray⟩,.string ⟨u.toArray⟩,.slice aa N1 ac,.int .i64 (P28.meant m 1),.int .i64 fi,.int .i64 fa,.int .i64 li,.int .u8 k,.string ⟨t.toArray⟩,.slice ka N2 kc,.slice da N3 dc,.int .i64 l] 63 V hV rfl;have h3:=fun V hV=>I4 H 7 li 100 #[.string ⟨n.toArray⟩,.string ⟨a.toArray⟩,.string ⟨u.toArray⟩,.slice aa N1 ac,.int .i64 (P28.meant m 1),.int .i64 fi,.int .i64 (P28.meant fa 1),.int .i64 li,.int .u8 k,.string ⟨t.toArray⟩,.slice ka N2 kc,.slice da N3 dc,.int .i64 l] 63 V hV rfl;obtain⟨m',aI⟩:∃m',P28.meant m 1=m':=⟨_,rfl⟩;obtain⟨aQ,aA⟩:∃m',P28.meant fa 1=m':=⟨_,rfl⟩;obtain⟨aR,Z⟩:∃m',P28.meant li 100=m':=⟨_,rfl⟩;rw[aI]at h1 h2 h3 ⊢;rw[aA]at h2 h3 ⊢;rw[Z]at h3 ⊢;have aM:=Ab aH;have aG:=Ab aL;have G0:=Ab g0;have G1:=Ab g1;have aD:=Ab J;have H1:=Ab h1;have H2:=Ab h2;have H3:=Ab h3;clear aH aL g0 g1 aC J h1 h2 h3 aI aA Z;go_enter Tryz.func166,Tryz.ntmps166
 go_upto_region 1 with fail
 try rw[hH]
 rw[Aa aM];try rw[aN]
 rw[Aa aG];go_upto_region 2 with(go_at_call 195;refine(Aa H1 _ (Aa G0)).mono ?_;rintro e w1 ⟨rfl,q1,r1,z1⟩)
 have Q1:=Ab q1;have R1:=Ab r1;clear q1 r1;go_upto_region 3 with(go_at_call 195;refine(Aa H2 _ (Aa Q1)).mono ?_;rintro e w2 ⟨rfl,q2,r2,z2⟩)
 have Q2:=Ab q2;have R2:=Ab r2;clear q2 r2;go_upto_region 4 with(go_at_call 195;refine(Aa H3 _ (Aa Q2)).mono ?_;rintro e w3 ⟨rfl,q3,r3,z3⟩)
 have r2:=Aa R2;have r1:=Aa R1;have hq:w3.heap[H]?=some (.cells #[.string ⟨n.toArray⟩,.string ⟨a.toArray⟩,.string ⟨u.toArray⟩,.slice aa N1 ac,.int .i64 m',.int .i64 fi,.int .i64 aQ,.int .i64 aR,.int .u8 k,.string ⟨t.toArray⟩,.slice ka N2 kc,.slice da N3 dc,.int .i64 l] 63):=q3;have aB:=(r3.block (H+1) (by omega) (by simp)).trans ((r2.block (H+1) (by omega) (by simp)).trans ((r1.block (H+1) (by omega) (by simp)).trans (Aa G1)));have aE:Below H w w3:=(((Aa aD).grown r1 (by omega) (fun k e=>by cases e;omega)).grown r2 (by omega) (fun k e=>by cases e;omega)).grown r3 (by omega) (fun k e=>by cases e;omega);obtain⟨⟨c0,_⟩,⟨c1,_⟩,⟨c2,_⟩,⟨c3,_⟩,⟨c4,_⟩,⟨c5,_⟩,⟨c6,_⟩,⟨c7,_⟩,⟨c8,_⟩,⟨c9,_⟩,⟨c10,_⟩,⟨c11,_⟩,⟨c12,_⟩⟩:=Am hq;obtain⟨⟨_,f0⟩,⟨_,f1⟩,⟨_,f2⟩,⟨_,f3⟩,⟨_,f4⟩,⟨_,f5⟩,⟨_,f6⟩,⟨_,f7⟩,⟨_,f8⟩,⟨_,f9⟩,⟨_,f10⟩,⟨_,f11⟩,⟨_,f12⟩⟩:=Am aB;have aS:=Ab aB;have aP:=Ab aE;clear q3 r3 r2 r1 hq aB aE H1 H2 H3 Q1 Q2 R1 R2 G0 G1 aD aM aG;go_wp2
 (try simp only[Exit.inBlock,Exit.then])
 refine qV (Ah rfl _ _ _ (H+1) _ rfl (Lr (Tj (Aa aS) _ _ _ _ _ _ _ _ _ _ _ _ _))) rfl ?_;refine⟨rfl,?_⟩;rw[hH];have I:H≤H+1:=by omega
 exact(((((((((((((Aa aP).setCell (p:=⟨H+1,0,none⟩) I _).setCell (p:=⟨H+1,1,none⟩) I _).setCell (p:=⟨H+1,2,none⟩) I _).setCell (p:=⟨H+1,3,none⟩) I _).setCell (p:=⟨H+1,4,none⟩) I _).setCell (p:=⟨H+1,5,none⟩) I _).setCell (p:=⟨H+1,6,none⟩) I _).setCell (p:=⟨H+1,7,none⟩) I _).setCell (p:=⟨H+1,8,none⟩) I _).setCell (p:=⟨H+1,9,none⟩) I _).setCell (p:=⟨H+1,10,none⟩) I _).setCell (p:=⟨H+1,11,none⟩) I _).setCell (p:=⟨H+1,12,none⟩) I _
open Go.RowKit
theorem Sw(d:Nd)(w:World)(J:d.In w) :
  Calls Tryz.prog 170 #[d.val] w fun e w'=>e=.returned (.bool (!P28.noneB d.bare))∧Below w.heap.size w w':=by
 obtain⟨H,hH⟩:=qeX w.heap.size;rw[hH];obtain⟨k,t,ka,kc,ks,da,dc,ds,ln⟩:=d;obtain⟨W1,aA,I,g0,aE⟩:=As w (.cells #[.int .u8 k,.string ⟨t.toArray⟩,.slice ka ks.length kc,.slice da ds.length dc,.int .i64 ln] 61) H hH;have hs:=Rv _ Nd.zero W1 (J.below (by rw[hH];exact I)) (Nd.zero_in W1);have hz:Nd.zero.val=.agg #[.int .u8 0,.string ⟨#[]⟩,.slice none 0 0,.slice none 0 0,.int .i64 0]:=rfl;have hb:(Nd.mk k t ka kc ks da dc ds ln).bare.same Nd.zero.bare=P28.noneB (Nd.mk k t ka kc ks da dc ds ln).bare:=rfl;rw[hz,hb,Nd.val_eq]at hs;rw[Nd.val_eq];obtain⟨NB,Z⟩:∃b,P28.noneB (Nd.mk k t ka kc ks da dc ds ln).bare=b:=⟨_,rfl⟩;rw[Z]at hs ⊢;obtain⟨⟨c0,_⟩,⟨c1,_⟩,⟨c2,_⟩,⟨c3,_⟩,⟨c4,_⟩⟩:=Al g0;have HS:=Ab hs;have aC:=Ab aA;have aB:=Ab I;clear hs aA I hz hb Z g0 J;go_enter Tryz.func170,Tryz.ntmps170
 go_upto_region 1 with fail
 try rw[hH]
 rw[Aa aC];go_wp2_with (go_at_call 200;refine(Aa HS).mono ?_;rintro e w2 ⟨rfl,aD⟩)
 go_ret;exact⟨rfl,(Aa aB).trans (aD.mono (by omega))⟩
structure Ai.short (s:Ai):Prop where
 name:s.name.length≤1000000
 action:s.action.length≤1000000
 undo:s.undo.length≤1000000
 after:∀x∈s.after,x.length≤1000000
 alen:s.after.length≤1000000
 note:Ov s.note.bare
theorem Tq(s:Ai)(w:World)(cC:s.In w)(hs:s.short) :
  Calls Tryz.prog 129 #[s.val] w fun e w'=>e=.returned (.int .i64 (P28.stepE s.bare))∧Below w.heap.size w w':=by
 obtain⟨H,hH⟩:=qeX w.heap.size;rw[hH];have aP:=fun r (hr:s.blk r)=>cC.lt hr;rw[hH]at aP;have aK:∀V,Below H w V→s.In V:=fun V hV=>cC.keep (fun r hr=>hV.block r (aP r hr));have J:=fun V (hV:Below H w V)=>Sw s.note V (aK V hV).note;have aD:=fun V (hV:Below H w V)=>Pc s.note V (aK V hV).note hs.note;have aC:=fun V (hV:Below H w V)=>Uo s.note V (aK V hV).note;simp only[Ye]at aC;have aI:=fun V (hV:Below H w V)=>Jc s.aa s.ac s.after V (aK V hV).keys (by have:=hs.alen;unfold maxLen;omega) (fun x hx=>by have:=hs.after x hx;omega)
 have aW:P28.stepE s.bare=if P28.texts [s.name,s.action,s.undo]≠0 then P28.texts [s.name,s.action,s.undo] else if 64<s.after.length then 2 else if P28.texts s.after≠0 then P28.texts s.after else
  if (P28.fits s.most&&(P28.fits s.first&&(P28.fits s.factor&&P28.fits s.limit)))=false then 1 else if P28.noneB s.note.bare then 0 else if s.note.bare.check 1≠0 then s.note.bare.check 1 else if 13<(s.note.bare.size 18).1 then 11 else 0:=rfl
 rw[aW];obtain⟨TT,aX⟩:∃T,P28.texts [s.name,s.action,s.undo]=T:=⟨_,rfl⟩;obtain⟨TA,bT⟩:∃T,P28.texts s.after=T:=⟨_,rfl⟩;obtain⟨FB,aZ⟩:∃T,(P28.fits s.most&&(P28.fits s.first&&(P28.fits s.factor&&P28.fits s.limit)))=T:=⟨_,rfl⟩;obtain⟨NB,bO⟩:∃T,P28.noneB s.note.bare=T:=⟨_,rfl⟩;obtain⟨CE,bZ⟩:∃T,s.note.bare.check 1=T:=⟨_,rfl⟩;obtain⟨DP,cA⟩:∃T,(s.note.bare.size 18).1=T:=⟨_,rfl⟩;rw[bT]at aI;rw[bO]at J;rw[bZ]at aD;rw[cA]at aC;rw[aX,bT,aZ,bO,bZ,cA];obtain⟨dT,aM⟩:∃R:Int,(if TT≠0 then TT else if 64<s.after.length then 2 else if TA≠0 then TA else if FB=false then 1 else if NB then 0 else if CE≠0 then CE else if 13<DP then 11 else 0)=R:=⟨_,rfl⟩;rw[aM];obtain⟨n1,a1,u1,dJ,dE,cY,q1,cD,bX,bV,⟨k1,t1,cW,dM,cX,cZ,dH,dA,l1⟩⟩:=s;have cO:=hs.name;have cS:=hs.action;have cJ:=hs.undo;simp only at cO cS cJ aX aZ;simp only[Nd.val_eq]at J aD aC;simp only at aI;rw[Ai.val_eqn];obtain⟨N1,aY⟩:=qeX cY.length;obtain⟨N2,bW⟩:=qeX cX.length;obtain⟨N3,bU⟩:=qeX dA.length;rw[aY]at aI;rw[bW,bU]at J aD aC;simp only[aY]at aM;simp only[aY,bW,bU];have I:=Ab aM;clear aM;obtain⟨W1,cP,cI,g0,dI⟩:=As w (.cells #[.string ⟨n1.toArray⟩,.string ⟨a1.toArray⟩,.string ⟨u1.toArray⟩,.slice dJ N1 dE,.int .i64 q1,.int .i64 cD,.int .i64 bX,.int .i64 bV,.int .u8 k1,.string ⟨t1.toArray⟩,.slice cW N2 dM,.slice cZ N3 dH,.int .i64 l1] 63) H hH;obtain⟨W2,cU,cB,g1,dU⟩:=As W1 (.cells #[.string ⟨n1.toArray⟩,.string ⟨a1.toArray⟩,.string ⟨u1.toArray⟩] 9) (H+1) dI
 have bC:Ft W2 (some ⟨H+1,0,none⟩) [n1,a1,u1]:=fun i x hx=>by
  obtain⟨⟨p0,_⟩,⟨p1,_⟩,⟨p2,_⟩⟩:=Ag g1
  match i,hx with
  |0,hx=>simp at hx;subst hx;exact⟨_,_,rfl,p0⟩
  |1,hx=>simp at hx;subst hx;exact⟨_,_,rfl,p1⟩
  |2,hx=>simp at hx;subst hx;exact⟨_,_,rfl,p2⟩
  |i+3,hx=>simp at hx
 have cF:=Jc (some ⟨H+1,0,none⟩) 3 [n1,a1,u1] W2 bC (by unfold maxLen;simp) (fun x hx=>by simp at hx;rcases hx with rfl|rfl|rfl<;>omega);rw[aX]at cF;have bI:Below H w W2:=cI.trans (cB.mono (by omega));have cQ:=(cB.block H (by omega)).trans g0;have bJ:∀V,Below W2.heap.size W2 V→V.heap[H]?=_:=fun V hV=>(hV.block H (by omega)).trans cQ;obtain⟨⟨y0,_⟩,⟨y1,_⟩,⟨y2,_⟩,⟨y3,_⟩,⟨y4,_⟩,⟨y5,_⟩,⟨y6,_⟩,⟨y7,_⟩,⟨y8,_⟩,⟨y9,_⟩,⟨aA,_⟩,⟨Z,_⟩,⟨aB,_⟩⟩:=Am g0;have dQ:=Ab cF;have dN:=Ab aI;have cR:=Ab J;have dF:=Ab aD;have cK:=Ab aC;have dP:=Ab cP;have dC:=Ab cU;have aQ:=Ab bI;have aE:=Ab bJ;have dD:=Ab aZ;clear cF aI J aD aC cP cU bI bJ g0 cQ g1 cI cB bC aX bT aZ bO bZ cA aW cC aP aK hs aY bW bU cO cS cJ;go_enter Tryz.func129,Tryz.ntmps129
 go_upto_region 1 with fail
 try rw[hH]
 rw[Aa dP];go_upto_region 2 with(go_at_call 127;rw[Aa dC];refine(Aa dQ).mono ?_;rintro e w3 ⟨rfl,aS⟩)
 clear y0 y1 y2 y3 y4 y5 y6 y7 y8 y9 aA Z aB;obtain⟨⟨y0,_⟩,⟨y1,_⟩,⟨y2,_⟩,⟨y3,_⟩,⟨y4,_⟩,⟨y5,_⟩,⟨y6,_⟩,⟨y7,_⟩,⟨y8,_⟩,⟨y9,_⟩,⟨aA,_⟩,⟨Z,_⟩,⟨aB,_⟩⟩:=Am (Aa aE w3 aS);have dB:=aS.size;have bG:Below H w w3:=(Aa aQ).trans (aS.mono (by omega));have dL:=Ab aS;have aU:=Ab bG;clear aS bG;by_cases c1:TT=0
 rotate_left
 ·have d1:(TT != 0)=true:=by simpa using c1
  have hr:=Aa I;rw[if_pos c1]at hr;subst hr;clear I c1;go_wp2;go_ret;exact⟨rfl,Aa aU⟩
 subst c1;have hr:=Aa I;rw[if_neg (by simp)]at hr;have I:=Ab hr;clear hr;by_cases c2:64<N1
 ·have d2:(64:Int)<(N1:Int):=by omega
  have hr:=Aa I;rw[if_pos c2]at hr;subst hr;clear I c2;go_wp2;go_ret;exact⟨rfl,Aa aU⟩
 have d2:(N1:Int)≤64:=by omega
 have hr:=Aa I;rw[if_neg c2]at hr;have I:=Ab hr;clear hr c2;go_upto_region 7 with(go_at_call 127;refine(Aa dN _ (Aa aU)).mono ?_;rintro e w4 ⟨rfl,cH⟩)
 clear y0 y1 y2 y3 y4 y5 y6 y7 y8 y9 aA Z aB;have aJ:=(Aa dL).trans (cH.mono dB);obtain⟨⟨y0,_⟩,⟨y1,_⟩,⟨y2,_⟩,⟨y3,_⟩,⟨y4,_⟩,⟨y5,_⟩,⟨y6,_⟩,⟨y7,_⟩,⟨y8,_⟩,⟨y9,_⟩,⟨aA,_⟩,⟨Z,_⟩,⟨aB,_⟩⟩:=Am (Aa aE w4 aJ);have dR:=aJ.size;have bL:Below H w w4:=(Aa aQ).trans (aJ.mono (by omega));obtain⟨W5,cN,cV,g5,dW⟩:=As w4 (.cells #[.int .i64 q1,.int .i64 cD,.int .i64 bX,.int .i64 bV] 3) w4.heap.size rfl;have aR:=aJ.trans (cV.mono dR);have bD:Below H w W5:=(Aa aQ).trans (aR.mono (by omega));have bM:=X7 w4.heap.size q1 cD bX bV W5 g5;rw[Aa dD]at bM;have cT:=Ab bM;have cM:=Ab cN;have aO:=Ab aR;have cG:=Ab bL;have aH:=Ab bD;clear bM cN cV aR aJ cH bL bD g5;by_cases c3:TA=0
 rotate_left
 ·have d3:(TA != 0)=true:=by simpa using c3
  have hr:=Aa I;rw[if_pos c3]at hr;subst hr;clear I c3;go_wp2;go_ret;exact⟨rfl,Aa cG⟩
 subst c3;have hr:=Aa I;rw[if_neg (by simp)]at hr;have I:=Ab hr;clear hr;cases FB with
 |false=>
  have hr:=Aa I;rw[if_pos rfl]at hr;subst hr;clear I;go_wp2_with (go_at_call 169;rw[Aa cM];refine(Aa cT).mono ?_;rintro e w' ⟨rfl,hw⟩;obtain rfl:=hw.symm)
  go_ret;exact⟨rfl,Aa aH⟩
 |true=>
  have hr:=Aa I;rw[if_neg (by simp)]at hr;have I:=Ab hr;clear hr;go_upto_region 11 with(go_at_call 169;rw[Aa cM];refine(Aa cT).mono ?_;rintro e w' ⟨rfl,hw⟩;obtain rfl:=hw.symm)
  clear y0 y1 y2 y3 y4 y5 y6 y7 y8 y9 aA Z aB;obtain⟨_,_,_,_,_,_,_,_,⟨y8,_⟩,⟨y9,_⟩,⟨aA,_⟩,⟨Z,_⟩,⟨aB,_⟩⟩:=Am (Aa aE W5 (Aa aO));cases NB with
  |true=>
   have hr:=Aa I;rw[if_pos rfl]at hr;subst hr;clear I;go_wp2_with (go_at_call 170;refine(Aa cR _ (Aa aH)).mono ?_;rintro e w6 ⟨rfl,aT⟩)
   go_ret;exact⟨rfl,(Aa aH).trans (aT.mono (by omega))⟩
  |false=>
   have hr:=Aa I;rw[if_neg (by simp)]at hr;have I:=Ab hr;clear hr;go_upto_region 13 with(go_at_call 170;refine(Aa cR _ (Aa aH)).mono ?_;rintro e w6 ⟨rfl,aT⟩)
   have dK:=(Aa aO).size;have aN:=(Aa aO).trans (aT.mono dK);have bE:Below H w w6:=(Aa aH).trans (aT.mono (by omega));clear y8 y9 aA Z aB;obtain⟨_,_,_,_,_,_,_,_,⟨y8,_⟩,⟨y9,_⟩,⟨aA,_⟩,⟨Z,_⟩,⟨aB,_⟩⟩:=Am (Aa aE w6 aN);have dG:=aN.size;have cL:=Ab aN;have bK:=Ab bE;clear aN bE aT;go_upto_region 14 with(go_at_call 171;refine(Aa dF _ (Aa bK)).mono ?_;rintro e w7 ⟨rfl,bQ⟩)
   have aL:=(Aa cL).trans (bQ.mono dG);have bF:Below H w w7:=(Aa bK).trans (bQ.mono (by omega));clear y8 y9 aA Z aB;obtain⟨_,_,_,_,_,_,_,_,⟨y8,_⟩,⟨y9,_⟩,⟨aA,_⟩,⟨Z,_⟩,⟨aB,_⟩⟩:=Am (Aa aE w7 aL);have dX:=aL.size;have dS:=Ab aL;have aG:=Ab bF;clear aL bF bQ;by_cases c4:CE=0
   rotate_left
   ·have d4:(CE != 0)=true:=by simpa using c4
    have hr:=Aa I;rw[if_pos c4]at hr;subst hr;clear I c4;go_wp2;go_ret;exact⟨rfl,Aa aG⟩
   subst c4;have hr:=Aa I;rw[if_neg (by simp)]at hr;have I:=Ab hr;clear hr;by_cases c5:13<DP
   ·have d5:(13:Int)<(DP:Int):=by omega
    have hr:=Aa I;rw[if_pos c5]at hr;subst hr;clear I c5;go_wp2_with (go_at_call 172;refine(Aa cK _ (Aa aG)).mono ?_;rintro e w8 ⟨rfl,bY⟩)
    go_ret;exact⟨rfl,(Aa aG).trans (bY.mono (by omega))⟩
   ·have d5:(DP:Int)≤13:=by omega
    have hr:=Aa I;rw[if_neg c5]at hr;subst hr;clear I c5;go_wp2_with (go_at_call 172;refine(Aa cK _ (Aa aG)).mono ?_;rintro e w8 ⟨rfl,bY⟩)
    go_ret;exact⟨rfl,(Aa aG).trans (bY.mono (by omega))⟩
open Go.RowKit
structure Af.short (d:Af):Prop where
 name:d.name.length≤1000000
 text:d.text.length≤1000000
 len:d.steps.length≤100000
 st:∀s∈d.steps,s.short
theorem A2{W:World}{g:Nat}{T:TypeId}{a b:Value}(h:W.heap[g]?=some (.cells #[a,b] T)):(W.cell? ⟨g,0,none⟩=some a∧W.frozen? ⟨g,0,none⟩=false)∧(W.cell? ⟨g,1,none⟩=some b∧W.frozen? ⟨g,1,none⟩=false):=by
 simp[World.cell?,World.frozen?,h]
theorem C5{W:World}{g:Nat}{T:TypeId}{a b:Value}(h:W.heap[g]?=some (.cells #[a,b] T))(u v:Value):((W.setCell ⟨g,0,none⟩ u).setCell ⟨g,1,none⟩ v).heap[g]?=some (.cells #[u,v] T):=by
 simp[World.setCell,Array.getElem?_modify,h]
theorem Bz{W:World}{g:Nat}{a b:Value}(h:W.heap[g]?=some (.cells #[a,b] 127)):(loadVar 127 ⟨g,0,none⟩).run Tryz.prog W=.ok (.agg #[a,b]) W:=qW _ _ _ _ _ _ _ h Tryz.underlying127 rfl (by kernel_rfl)
structure Za (w V:World) (H:Nat) (d:Af):Prop where
 df:V.heap[H]?=some (Be d)
 fa:V.heap[H+1]?=some (.cells #[.int .i64 0,.int .i64 0] 127)
 bel:Below H w V
 size:H+2≤V.heap.size
theorem Za.keep{w V V':World}{H:Nat}{d:Af}(h:Za w V H d)(hb:Below V.heap.size V V'):Za w V' H d:=by
 have I:=h.size;exact⟨(hb.block _ (by omega)).trans h.df,(hb.block _ (by omega)).trans h.fa,h.bel.trans (hb.mono (by omega)),qK h.size hb.size⟩
theorem Za.out{w V:World}{H:Nat}{d:Af}(h:Za w V H d)(e l:Value):Below H w ((V.setCell ⟨H+1,0,none⟩ e).setCell ⟨H+1,1,none⟩ l):=
 (h.bel.setCell (p:=⟨H+1,0,none⟩) (Nat.le_succ H) _).setCell (p:=⟨H+1,1,none⟩) (Nat.le_succ H) _
theorem J0(ss:List P22.Step)(i:Nat)(s:P22.Step)(h:ss[i]?=some s):P28.stepsE i (ss.drop i)=if P28.stepE s≠0 then (P28.stepE s,(i:Int)+1) else P28.stepsE (i+1) (ss.drop (i+1)):=by
 have e:ss.drop i=s::ss.drop (i+1):=by
  obtain⟨h1,h2⟩:=qI.1 h;rw[←h2];exact qL h1
 rw[e];rfl
theorem Oh(d:Af)(w:World)(aT:d.In w)(hs:d.short) :
  Calls Tryz.prog 80 #[d.val] w fun e w'=>e=.returned (.agg #[.int .i64 (P28.defE d.bare).1,.int .i64 (P28.defE d.bare).2])∧Below w.heap.size w w':=by
 obtain⟨H,hH⟩:=qeX w.heap.size;rw[hH];have aB:=fun r (hr:d.blk r)=>aT.lt hr;rw[hH]at aB;have aO:∀V,Below H w V→d.In V:=fun V hV=>aT.keep (fun r hr=>hV.block r (aB r hr));have bT:d.bare.steps=d.steps.map Ai.bare:=rfl
 have aA:P28.defE d.bare=if P28.texts [d.name]≠0 then (P28.texts [d.name],0) else if P03.check d.text 4096≠0 then (P03.check d.text 4096,0) else if 1024<d.steps.length then (2,0) else P28.stepsE 0 (d.steps.map Ai.bare):=by
  unfold P28.defE;rw[bT,qX];have e1:P28.texts [d.name]=if P03.check d.name 64≠0 then P03.check d.name 64 else 0:=rfl;rw[e1];show (if P03.check d.name 64≠0 then _ else _)=_;by_cases h:P03.check d.name 64=0
  ·have h':P03.check d.bare.name 64=0:=h;rw[h',h];rfl
  ·have h':¬P03.check d.bare.name 64=0:=h;rw[if_pos h,if_pos h,if_pos h];rfl
 obtain⟨W1,bZ,aY,g0,g1,cR⟩:=Dt w (Be d) (.cells #[.int .i64 0,.int .i64 0] 127) H hH;obtain⟨W2,cC,aE,g2,dF⟩:=As W1 (.cells #[.string ⟨d.name.toArray⟩] 9) (H+1+1) cR;have aZ:Za w W2 H d:=⟨(aE.block _ (by omega)).trans g0,(aE.block _ (by omega)).trans g1,aY.trans (aE.mono (by omega)),by omega⟩
 have aN:Ft W2 (some ⟨H+1+1,0,none⟩) [d.name]:=fun i x hx=>by
  match i,hx with
  |0,hx=>simp at hx;subst hx;exact⟨_,_,rfl,(A1 g2).1⟩
  |i+1,hx=>simp at hx
 have aW:=Jc (some ⟨H+1+1,0,none⟩) 1 [d.name] W2 aN (by unfold maxLen;simp) (fun x hx=>by simp at hx;subst hx;have:=hs.name;omega);have aJ:=fun V=>Gj ⟨d.text.toArray⟩ 4096 V (by rw[zY];have:=hs.text;show d.text.length≤1100000;omega);simp only[Do]at aJ;obtain⟨TT,aS⟩:∃T,P28.texts [d.name]=T:=⟨_,rfl⟩;obtain⟨TC,aP⟩:∃T,P03.check d.text 4096=T:=⟨_,rfl⟩;obtain⟨bE,aK⟩:∃R,P28.defE d.bare=R:=⟨_,rfl⟩;rw[aS]at aW;rw[aP]at aJ;rw[aS,aP]at aA;rw[aK]at aA ⊢;have bU:=hs.st;have bD:=hs.len;obtain⟨⟨k0,_⟩,⟨k1,_⟩,⟨k2,_⟩⟩:=Ag g0;obtain⟨⟨p0,q0⟩,⟨p1,q1⟩⟩:=A2 g1;have cD:=Ab aW;have bJ:=Ab aJ;have HR:=Ab aA.symm;have dB:=Ab aO;have bG:=Ab bU;have aI:=Ab bZ;have bF:=Ab cC;have dA:=Ab aZ;clear aW aJ aA aO bU bZ cC aZ aN g0 g1 g2 aY aE aS aP aK aT aB bT hs;unfold Be at aI;obtain⟨nm,tx,sa,sc,ss⟩:=d;obtain⟨M,hM⟩:=qeX ss.length;unfold Af.val;simp only at k0 k1 k2 aI bF cD bJ HR bG bD ⊢;rw[hM]at k2 aI HR bD ⊢;have HM:=Ab hM;clear hM;go_enter Tryz.func80,Tryz.ntmps80
 go_wp2;go_step3;go_upto_region 1 with fail
 try rw[hH]
 rw[Aa aI];go_upto_region 2 with(go_at_call 127;rw[Aa bF];refine(Aa cD).mono ?_;rintro e w3 ⟨rfl,bV⟩)
 have aD:=(Aa dA).keep bV;clear k0 k1 k2 p0 p1 q0 q1;obtain⟨⟨k0,_⟩,⟨k1,_⟩,⟨k2,_⟩⟩:=Ag aD.df;obtain⟨⟨p0,q0⟩,⟨p1,q1⟩⟩:=A2 aD.fa;simp only[Aa HM]at k0 k1 k2;have bI:=Ab aD;clear aD bV;by_cases c1:TT=0
 rotate_left
 ·have d1:(TT==0)=false:=by simpa using c1
  have cZ:(TT != 0)=true:=by simpa using c1
  have hr:=Aa HR;rw[if_pos c1]at hr;subst hr;clear HR c1;go_wp2
  (try rw[Exit.noGoto_ret])
  (try simp only[Exit.inBlock,Exit.then])
  have Z:=Aa bI;refine qV (Ah rfl _ _ _ (H+1) _ rfl (Bz (C5 Z.fa _ _))) rfl ?_;exact⟨rfl,Z.out _ _⟩
 subst c1;have hr:=Aa HR;rw[if_neg (by simp)]at hr;have HR:=Ab hr;clear hr;go_upto_region 4 with(go_at_call 128;refine(Aa bJ _).mono ?_;rintro e w4 ⟨rfl,aX⟩)
 have aG:=(Aa bI).keep aX;clear k0 k1 k2 p0 p1 q0 q1;obtain⟨⟨k0,_⟩,⟨k1,_⟩,⟨k2,_⟩⟩:=Ag aG.df;obtain⟨⟨p0,q0⟩,⟨p1,q1⟩⟩:=A2 aG.fa;simp only[Aa HM]at k0 k1 k2;have aR:=Ab aG;clear aG aX;by_cases c2:TC=0
 rotate_left
 ·have d1:(TC==0)=false:=by simpa using c2
  have cZ:(TC != 0)=true:=by simpa using c2
  have hr:=Aa HR;rw[if_pos c2]at hr;subst hr;clear HR c2;go_wp2
  (try rw[Exit.noGoto_ret])
  (try simp only[Exit.inBlock,Exit.then])
  have Z:=Aa aR;refine qV (Ah rfl _ _ _ (H+1) _ rfl (Bz (C5 Z.fa _ _))) rfl ?_;exact⟨rfl,Z.out _ _⟩
 subst c2;have hr:=Aa HR;rw[if_neg (by simp)]at hr;have HR:=Ab hr;clear hr;by_cases c3:1024<M
 ·have d1:(1024:Int)<(M:Int):=by omega
  have hr:=Aa HR;rw[if_pos c3]at hr;subst hr;clear HR c3;go_wp2
  (try rw[Exit.noGoto_ret])
  (try simp only[Exit.inBlock,Exit.then])
  have Z:=Aa aR;refine qV (Ah rfl _ _ _ (H+1) _ rfl (Bz (C5 Z.fa _ _))) rfl ?_;exact⟨rfl,Z.out _ _⟩
 have d1:(M:Int)≤1024:=by omega
 have hr:=Aa HR;rw[if_neg c3]at hr;have HR:=Ab hr;clear hr c3;go_upto_region 8 with fail
 go_step3;go_wp2
 go_loopg [31] M (fun g cN wx=>∃(i:Nat),i+g=M∧cN=.int .i64 i∧Hid (Za w wx H ⟨nm,tx,sa,sc,ss⟩)∧Hid (P28.stepsE i ((ss.map Ai.bare).drop i)=bE))
 case atStart=>exact⟨0,by omega,by go_num,aR,by simpa using HR⟩
 case round=>
  obtain⟨i,dE,rfl,HD,HE⟩:=hrel;clear k0 k1 k2 p0 p1 q0 q1;have Z:=Aa HD;cases gk with
  |zero=>
   have e1:(M:Int)≤(i:Int):=by omega
   have j1:decide ((i:Int)<(M:Int))=false:=by simp;omega
   have hr:=Aa HE;rw[qM (by rw[qX,Aa HM];omega)]at hr;have hr:((0:Int),(0:Int))=bE:=hr;subst hr;obtain⟨⟨p0,q0⟩,⟨p1,q1⟩⟩:=A2 Z.fa;clear HE HR Z;go_wp2
   (try rw[Exit.noGoto_ret])
   (try simp only[Exit.inBlock,Exit.then])
   have Z:=Aa HD;refine qV (Ah rfl _ _ _ (H+1) _ rfl (Bz (C5 Z.fa _ _))) rfl ?_;exact⟨rfl,Z.out _ _⟩
  |succ g'=>
   have dG:(i:Int)<(M:Int):=by omega
   have dJ:IntKind.i64.wrap ((i:Int)+1)=(i:Int)+1:=qG _ (by omega);obtain⟨s1,aH⟩:=Ap (Aa HM) (show i<M by omega);have aL:=Aa bG s1 (qN aH);have bL:=((Aa dB) wr Z.bel).steps;obtain⟨b1,o1,rfl,c1,bC⟩:=bL.get aH;have bY:(ss.map Ai.bare)[i]?=some s1.bare:=by rw[zJ,aH];rfl
   have J:=Aa HE;rw[J0 _ i _ bY]at J;have dH:=Z.size;obtain⟨K,hK⟩:=qeX wr.heap.size;have I:=fun V (hV:Below K wr V)=>Tq s1 V (bC.below (by rw[hK];exact hV)) aL;obtain⟨EE,bM⟩:∃E,P28.stepE s1.bare=E:=⟨_,rfl⟩;rw[bM]at J I;obtain⟨n1,a1,u1,cT,cP,cK,q1,dC,cU,cS,⟨k1,t1,cH,cY,cI,cL,cQ,cM,l1⟩⟩:=s1;obtain⟨⟨c0,c1,c2,c3⟩,⟨c4,c5,c6,c7⟩,⟨c8,c9,c10,c11,c12⟩⟩:=Ar c1;simp only[Ai.aV,Nd.kind,Nd.text,Nd.kV,Nd.dV,Nd.line,Nd.ka,Nd.kc,Nd.keys,Nd.da,Nd.dc,Nd.kids]at c0 c1 c2 c3 c4 c5 c6 c7 c8 c9 c10 c11 c12;simp only[Ai.val_eqn]at I;obtain⟨N1,cA⟩:=qeX cK.length;obtain⟨N2,bO⟩:=qeX cI.length;obtain⟨N3,bK⟩:=qeX cM.length;rw[cA]at c3 I;rw[bO]at c10 I;rw[bK]at c11 I;obtain⟨V1,bQ,aU,r0,dI⟩:=As wr (.cells #[.string ⟨n1.toArray⟩,.string ⟨a1.toArray⟩,.string ⟨u1.toArray⟩,.slice cT N1 cP,.int .i64 q1,.int .i64 dC,.int .i64 cU,.int .i64 cS,.int .u8 k1,.string ⟨t1.toArray⟩,.slice cH N2 cY,.slice cL N3 cQ,.int .i64 l1] 63) K hK;have aM:=I V1 aU;obtain⟨⟨k0,_⟩,⟨bW,_⟩,⟨k2,_⟩⟩:=Ag Z.df;simp only[Aa HM]at k0 bW k2;obtain⟨⟨y0,_⟩,⟨y1,_⟩,⟨y2,_⟩,⟨y3,_⟩,⟨y4,_⟩,⟨y5,_⟩,⟨y6,_⟩,⟨y7,_⟩,⟨y8,_⟩,⟨y9,_⟩,⟨cV,_⟩,⟨cG,_⟩,⟨cX,_⟩⟩:=Am r0;have cB:=Z.keep (by rw[hK];exact aU);have cJ:=Ab aM;have cW:=Ab bQ;have cO:=Ab cB;have aQ:=Ab J;clear aM bQ cB J Z r0 aU I bM bY bL bC aH aL cA bO bK HE HR;go_upto_region 11 with fail
   try rw[hK]
   rw[Aa cW];go_upto_region 12 with(go_at_call 129;refine(Aa cJ).mono ?_;rintro e w5 ⟨rfl,cF⟩)
   have aC:=(Aa cO).keep cF;have bX:=Ab aC;clear y0 y1 y2 y3 y4 y5 y6 y7 y8 y9 cV cG cX k0 bW k2 cF;by_cases cE:EE=0
   ·subst cE;have J:=Aa aQ;rw[if_neg (by simp)]at J;have dD:=Ab J;clear J aC;go_wp2;go_roundg g'
    case measure=>omega
    case rel=>exact⟨i+1,by omega,by go_num,bX,dD⟩
   ·have d2:(EE==0)=false:=by simpa using cE
    have J:=Aa aQ;rw[if_pos cE]at J;subst J;obtain⟨⟨p0,q0⟩,⟨p1,q1⟩⟩:=A2 aC.fa;clear aQ cE aC;go_wp2
    (try rw[Exit.noGoto_ret])
    (try simp only[Exit.inBlock,Exit.then])
    have Z:=Aa bX;refine qV (Ah rfl _ _ _ (H+1) _ rfl (Bz (C5 Z.fa _ _))) rfl ?_;exact⟨rfl,Z.out _ _⟩
open Go.RowKit
def Kx(s:P22.Step):P22.Step:={ s with note:=s.note.cut 18 }
def Bw(d:P22.Def):P22.Def:={ d with steps:=d.steps.map Kx }
structure Et (V:World) (b:Nat) (L:List Ai):Prop where
 ex:∃N f,V.rowIs b 63 N f∧L.length*13≤N∧∀j s,L[j]?=some s→∀k v,s.cs[k]?=some v→f (j*13+k)=v
theorem Ai.cs_len(s:Ai):s.cs.length=13:=rfl
theorem Et.keep{V V':World}{b:Nat}{L:List Ai}(h:Et V b L)(hb:V'.heap[b]?=V.heap[b]?):Et V' b L:=by
 obtain⟨N,f,h1,h2,h3⟩:=h.ex;exact⟨N,f,h1.of_block hb,h2,h3⟩
theorem Et.lt{V:World}{b:Nat}{L:List Ai}(h:Et V b L):b<V.heap.size:=by
 obtain⟨N,f,h1,h2,h3⟩:=h.ex;exact h1.lt
theorem Et.cell{V:World}{b:Nat}{L:List Ai}(h:Et V b L){j:Nat}{s:Ai}(hj:L[j]?=some s){k:Nat}{v:Value}(hk:s.cs[k]?=some v):V.cell? ⟨b,j*13+k,none⟩=some v:=by
 obtain⟨N,f,h1,h2,h3⟩:=h.ex;have J:=(qI.1 hj).1;have I:=(qI.1 hk).1;rw[Ai.cs_len]at I;rw[h1.cell (i:=j*13+k) (by omega),h3 j s hj k v hk]
theorem Et.cells{V:World}{b:Nat}{L:List Ai}(h:Et V b L){i:Nat}{s:Ai}(hi:L[i]?=some s) :
  (V.cell? ⟨b,i*13,none⟩=some (.string ⟨s.name.toArray⟩)∧V.cell? ⟨b,i*13+1,none⟩=some (.string ⟨s.action.toArray⟩)∧V.cell? ⟨b,i*13+2,none⟩=some (.string ⟨s.undo.toArray⟩)∧V.cell? ⟨b,i*13+3,none⟩=some s.aV) ∧
  (V.cell? ⟨b,i*13+4,none⟩=some (.int .i64 s.most)∧V.cell? ⟨b,i*13+5,none⟩=some (.int .i64 s.first)∧V.cell? ⟨b,i*13+6,none⟩=some (.int .i64 s.factor)∧V.cell? ⟨b,i*13+7,none⟩=some (.int .i64 s.limit)) ∧
  (V.cell? ⟨b,i*13+8,none⟩=some (.int .u8 s.note.kind)∧V.cell? ⟨b,i*13+9,none⟩=some (.string ⟨s.note.text.toArray⟩)∧V.cell? ⟨b,i*13+10,none⟩=some s.note.kV∧V.cell? ⟨b,i*13+11,none⟩=some s.note.dV∧V.cell? ⟨b,i*13+12,none⟩=some (.int .i64 s.note.line)):=
 ⟨⟨h.cell hi (k:=0) rfl,h.cell hi (k:=1) rfl,h.cell hi (k:=2) rfl,h.cell hi (k:=3) rfl⟩,⟨h.cell hi (k:=4) rfl,h.cell hi (k:=5) rfl,h.cell hi (k:=6) rfl,h.cell hi (k:=7) rfl⟩,⟨h.cell hi (k:=8) rfl,h.cell hi (k:=9) rfl,h.cell hi (k:=10) rfl,h.cell hi (k:=11) rfl,h.cell hi (k:=12) rfl⟩⟩
theorem Et.frozen{V:World}{b:Nat}{L:List Ai}(h:Et V b L)(t:Nat):V.frozen? ⟨b,t,none⟩=false:=by
 obtain⟨N,f,h1,h2,h3⟩:=h.ex;exact h1.frozen t
theorem Et.put{V:World}{b:Nat}{L:List Ai}(h:Et V b L){i:Nat}(hi:i<L.length)(s':Ai):Et (V.setCells b (i*13) s'.cs) b (L.set i s'):=by
 obtain⟨N,f,h1,h2,h3⟩:=h.ex;refine⟨N,_,rowIs_setCells s'.cs (i*13) V f h1,by rw[List.length_set];exact h2,fun j s hj k v hk=>?_⟩;have I:=(qI.1 hk).1;rw[Ai.cs_len]at I;rw[Ai.cs_len];rw[List.getElem?_set]at hj;by_cases e:i=j
 ·subst e;rw[if_pos rfl,if_pos hi]at hj;cases hj;rw[if_pos (by omega),show i*13+k-i*13=k by omega,hk];rfl
 ·rw[if_neg e]at hj;rw[if_neg (by omega)];exact h3 j s hj k v hk
theorem Et.inL{V:World}{b:Nat}{L:List Ai}(h:Et V b L)(I:∀s∈L,s.In V):Me.InL V (some ⟨b,0,none⟩) L:=fun j s hj=>⟨⟨b,0,rfl,fun k v hk=>by rw[Nat.zero_add];exact h.cell hj hk⟩,I s (qN hj)⟩
theorem Yq{W:World}{B n cap g:Nat}{L:List Ai}(h:W.ownsRow B 63 13 (.slice (some ⟨g,0,none⟩) n cap) n (L.flatMap Ai.cs))(hn:L.length=n):Et W g L∧B≤g:=by
 rcases h.2 with⟨e0,_⟩|⟨g',aB,I,e0,hb,hg,aC,hm,hs,hx⟩
 ·cases e0
 ·injection e0 with Z _ e3;injection Z with Z;injection Z with Z;subst Z e3;refine⟨⟨cap*13,fun t=>I.getD t undef,⟨I,hg,hs,fun i hi=>?_⟩,by omega,fun j s hj k v hk=>?_⟩,hb⟩
  ·rw[Array.getElem?_eq_getElem (by omega)];simp[Array.getD,show i<I.size by omega]
  ·have aD:=(qI.1 hj).1;have J:=(qI.1 hk).1;rw[Ai.cs_len]at J
   have aA:∀(L:List Ai) (j:Nat),L[j]?=some s→(L.flatMap Ai.cs)[j*13+k]?=some v:=by
    intro L
    induction L with
    |nil=>intro j h;simp at h
    |cons x L ih=>
     intro j h;rw[List.flatMap_cons];cases j with
     |zero=>
      simp only[zF,zK]at h;subst h;rw[Nat.zero_mul,Nat.zero_add,qZ (by rw[Ai.cs_len];exact J)];exact hk
     |succ j=>
      rw[zA (by rw[Ai.cs_len];omega),Ai.cs_len,show (j+1)*13+k-13=j*13+k by omega];exact ih j (by simpa using h)
   have h1:(I.toList.take (n*13))[j*13+k]?=some v:=by rw[hx];exact aA L j hj
   rw[List.getElem?_take,if_pos (by omega),Array.getElem?_toList]at h1;simp[Array.getD,(qA.1 h1).1,(qA.1 h1).2]
open Go.RowKit
theorem P0:∀(L:List Ai) (t:Nat) (u:Value),(L.flatMap Ai.cs)[t]?=some u→∃s,L[t / 13]?=some s∧s.cs[t % 13]?=some u
 | [],t,u,h=>by simp at h
 |x::L,t,u,h=>by
  rw[List.flatMap_cons]at h;by_cases ht:t<13
  ·rw[qZ (by rw[Ai.cs_len];exact ht)]at h;exact⟨x,by rw[show t / 13=0 by omega];rfl,by rw[show t % 13=t by omega];exact h⟩
  ·rw[zA (by rw[Ai.cs_len];omega),Ai.cs_len]at h;obtain⟨s,h1,h2⟩:=P0 L (t-13) u h;exact⟨s,by rw[show t / 13=(t-13) / 13+1 by omega];simpa using h1,by rw[show t % 13=(t-13) % 13 by omega];exact h2⟩
theorem Y0:(Tryz.prog.info? 63).map (fun i=>(i.zero,i.size,i.bytes))=some (some stZ,13,184):=by kernel_rfl
theorem Pt(b o c:Nat)(L:List Ai)(V:World)(h:Me.InL V (some ⟨b,o,none⟩) L)(hl:L.length≤100000) :
  Calls Tryz.prog 109 #[.slice (some ⟨b,o,none⟩) L.length c] V fun e w'=>∃g cap,e=.returned (.slice (some ⟨g,0,none⟩) L.length cap)∧Et w' g L∧V.heap.size≤g∧Below V.heap.size V w'∧L.length≤cap∧cap≤maxLen:=by
 obtain⟨i,hi,hz,hsz,aB⟩:=info_parts Y0
 have hc:=AnyE.slices_Clone Tryz.cloneSteps i stZ 13 184 hi hz hsz aB rfl (by decide) (fun w=>Tryz.sizeOf63 w) b o L.length c (L.flatMap Ai.cs) V (Me.all_len L) (by unfold maxLen;omega) (by omega) (fun j u hj=>by
  obtain⟨s,h1,h2⟩:=P0 L j u hj;obtain⟨⟨b',o',e,J⟩,_⟩:=h _ _ h1;cases e;have:=J _ _ h2;rw[show o+j=o+j / 13*13+j % 13 by omega];exact this) (fun u hu=>by
  obtain⟨s,_,hs⟩:=List.mem_flatMap.1 hu
  exact Me.one s u hs)
 refine Calls.mono (f:=109) hc ?_;rintro e w' ⟨v',rfl,I,aC,hb⟩;rcases I.2 with⟨e0,_⟩|⟨g,cap,aD,rfl,aE,_,aA,Z,_⟩
 ·exact absurd e0 aC
 ·obtain⟨h1,h2⟩:=Yq I rfl;exact⟨g,cap,rfl,h1,h2,hb,aA,Z⟩
structure CpI (w V:World) (H bR cap:Nat) (d:Af) (i:Nat) (L:List Ai):Prop where
 df:V.heap[H]?=some (.cells #[.string ⟨d.name.toArray⟩,.string ⟨d.text.toArray⟩,.slice (some ⟨bR,0,none⟩) d.steps.length cap] 24)
 zr:V.heap[H+1]?=some (.cells #[.string ⟨#[]⟩,.string ⟨#[]⟩,.slice none 0 0] 24)
 row:Et V bR L
 len:L.length=d.steps.length
 low:H+2≤bR
 inn:∀(j:Nat) (s:Ai),L[j]?=some s→s.In V
 new:∀(j:Nat) (s:Ai),L[j]?=some s→j<i→(∀g,s.blk g→H+2≤g∧g≠bR)∧∃s0,d.steps[j]?=some s0∧s.bare=Kx s0.bare
 old:∀j,i≤j→L[j]?=d.steps[j]?
 bel:Below H w V
theorem CpI.next{w V V':World}{H bR cap i:Nat}{d:Af}{L:List Ai}{s0 s':Ai}(h:CpI w V H bR cap d i L)(aG:∀g,d.blk g→g<H)(hi:L[i]?=some s0)(hb:Below V.heap.size V V')(aD:s'.In V')(J:∀g,s'.blk g→V.heap.size≤g)(Z:s'.bare=Kx s0.bare) :
  CpI w (V'.setCells bR (i*13) s'.cs) H bR cap d (i+1) (L.set i s'):=by
 have aA:=(qI.1 hi).1;have aI:=h.row.lt;have hz:=hb.size;have aJ:=h.low
 have I:∀g,g≠bR→(V'.setCells bR (i*13) s'.cs).heap[g]?=V'.heap[g]?:=fun g hg=>by
  have:∀(vs:List Value) (o:Nat) (W:World),(W.setCells bR o vs).heap[g]?=W.heap[g]?:=by
   intro vs
   induction vs with
   |nil=>intro o W;rfl
   |cons v r ih=>intro o W;exact(ih (o+1) _).trans (qC _ _ _ _ hg)
  exact this _ _ _
 have aB:∀(j:Nat) (s:Ai),d.steps[j]?=some s→∀g,s.blk g→g<H:=fun j s hj g hg=>aG g (.inr ⟨s,qN hj,hg⟩);refine⟨(I H (by omega)).trans ((hb.block H (by omega)).trans h.df),(I (H+1) (by omega)).trans ((hb.block (H+1) (by omega)).trans h.zr),(h.row.keep (hb.block bR aI)).put aA s',by rw[List.length_set];exact h.len,h.low,fun j s hj=>?_,fun j s hj aC=>?_,fun j hj=>?_,below_setCells (by omega) _ _ _ (h.bel.trans (hb.mono (by have:=h.bel.size;omega)))⟩
 ·rw[List.getElem?_set]at hj;by_cases e:i=j
  ·subst e;rw[if_pos rfl,if_pos aA]at hj;cases hj;exact aD.keep (fun g hg=>I g (by have:=J g hg;omega))
  ·rw[if_neg e]at hj;refine(h.inn j s hj).keep (fun g hg=>?_);have aH:=(h.inn j s hj).lt hg
   have aE:g≠bR:=by
    by_cases aC:j<i
    ·exact((h.new j s hj aC).1 g hg).2
    ·rw[h.old j (by omega)]at hj;have:=aB j s hj g hg;omega
   exact(I g aE).trans (hb.block g aH)
 ·rw[List.getElem?_set]at hj;by_cases e:i=j
  ·subst e;rw[if_pos rfl,if_pos aA]at hj;cases hj;exact⟨fun g hg=>by have:=J g hg;omega,s0,by rw[←h.old i (qJ _)];exact hi,Z⟩
  ·rw[if_neg e]at hj;exact h.new j s hj (by omega)
 ·rw[List.getElem?_set,if_neg (by omega)];exact h.old j (by omega)
structure Af.cp (d:Af):Prop where
 len:d.steps.length≤100000
 none_:d.steps=[]→d.sa=none
 af:∀s∈d.steps,s.after.length≤1000000000
 nt:∀s∈d.steps,Ov s.note.bare
def Mk(w:World)(d:Af)(e:Ending)(w':World):Prop:=
 ∃d':Af,e=.returned d'.val∧d'.In w'∧(∀g,d'.blk g→w.heap.size≤g)∧d'.bare=Bw d.bare∧Below w.heap.size w w'
theorem Um(nm tx:List UInt8)(sc:Nat)(w:World):Calls Tryz.prog 67 #[.agg #[.string ⟨nm.toArray⟩,.string ⟨tx.toArray⟩,.slice none 0 sc]] w (Mk w ⟨nm,tx,none,sc,[]⟩):=by
 obtain⟨H,hH⟩:=qeX w.heap.size;have J:=fun V=>AnyE.slices_Clone_nil Tryz.cloneSteps 0 sc V;have J:∀V,Calls Tryz.prog 109 #[.slice none 0 sc] V fun e w'=>e=.returned (.slice none 0 0)∧w'=V:=J;obtain⟨W1,aB,Z,g0,g1,aJ⟩:=Dt w (.cells #[.string ⟨nm.toArray⟩,.string ⟨tx.toArray⟩,.slice none 0 sc] 24) (.cells #[.string ⟨#[]⟩,.string ⟨#[]⟩,.slice none 0 0] 24) H hH;obtain⟨⟨k0,f0⟩,⟨k1,f1⟩,⟨k2,f2⟩⟩:=Ag g0;obtain⟨⟨l0,m0⟩,⟨l1,m1⟩,⟨l2,m2⟩⟩:=Ag g1;have aE:=Ab aB;have aC:=Ab Z;have aH:=Ab g0;have aG:=Ab g1;clear aB Z g0 g1;unfold Mk;rw[hH];go_enter Tryz.func67,Tryz.ntmps67
 go_upto_region 1 with fail
 try rw[hH]
 rw[Aa aE];go_upto_region 2 with(go_at_call 109;refine(J _).mono ?_;rintro e w' ⟨rfl,hw⟩;obtain rfl:=hw.symm)
 obtain⟨W2,I⟩:=qeX (W1.setCell ⟨H,2,none⟩ (.slice none 0 0));rw[I]
 have g2:W2.heap[H]?=some (.cells #[.string ⟨nm.toArray⟩,.string ⟨tx.toArray⟩,.slice none 0 0] 24):=by
  have h:=Aa aH;rw[←I];simp[World.setCell,Array.getElem?_modify,h]
 have g3:W2.heap[H+1]?=some (.cells #[.string ⟨#[]⟩,.string ⟨#[]⟩,.slice none 0 0] 24):=by rw[←I];exact(qC _ _ _ _ (by show H+1≠H;omega)).trans (Aa aG)
 have aA:Below H w W2:=by rw[←I];exact(Aa aC).setCell (p:=⟨H,2,none⟩) (qJ H) _
 clear k0 k1 k2 f0 f1 f2 l0 l1 l2 m0 m1 m2 I;obtain⟨⟨k0,f0⟩,⟨k1,f1⟩,⟨k2,f2⟩⟩:=Ag g2;obtain⟨⟨l0,m0⟩,⟨l1,m1⟩,⟨l2,m2⟩⟩:=Ag g3;have aI:=Ab g3;have aD:=Ab aA;clear g2 g3 aA;go_wp2;refine wp_loop_rounds 1 ?_;rw[rounds_succ];go_wp2
 (try simp only[Exit.inBlock,Exit.then])
 have g3:=Aa aI
 have g4:(((W2.setCell ⟨H+1,0,none⟩ (.string ⟨nm.toArray⟩)).setCell ⟨H+1,1,none⟩ (.string ⟨tx.toArray⟩)).setCell ⟨H+1,2,none⟩ (.slice none 0 0)).heap[H+1]?=some (.cells #[.string ⟨nm.toArray⟩,.string ⟨tx.toArray⟩,.slice none 0 0] 24):=by
  simp[World.setCell,Array.getElem?_modify,g3]
 refine qV (Ah rfl _ _ _ (H+1) _ rfl (Oc g4)) rfl ?_;refine⟨⟨nm,tx,none,0,[]⟩,rfl,⟨El.InL.nil _ _,qJ _,Nat.zero_le _⟩,fun g hg=>?_,rfl,?_⟩
 ·rcases hg with⟨h,_⟩|⟨s,h,_⟩
  ·exact absurd rfl h
  ·cases h
 ·exact(((Aa aD).setCell (p:=⟨H+1,0,none⟩) (Nat.le_succ H) _).setCell (p:=⟨H+1,1,none⟩) (Nat.le_succ H) _).setCell (p:=⟨H+1,2,none⟩) (Nat.le_succ H) _
theorem Un(nm tx:List UInt8)(b0 o0 sc:Nat)(ss:List Ai)(w:World)(bM:Af.In w ⟨nm,tx,some ⟨b0,o0,none⟩,sc,ss⟩)(aU:Af.cp ⟨nm,tx,some ⟨b0,o0,none⟩,sc,ss⟩)(eC:ss≠[]) :
  Calls Tryz.prog 67 #[.agg #[.string ⟨nm.toArray⟩,.string ⟨tx.toArray⟩,.slice (some ⟨b0,o0,none⟩) ss.length sc]] w (Mk w ⟨nm,tx,some ⟨b0,o0,none⟩,sc,ss⟩):=by
 obtain⟨H,hH⟩:=qeX w.heap.size;have aX:∀g,Af.blk ⟨nm,tx,some ⟨b0,o0,none⟩,sc,ss⟩ g→g<H:=fun g hg=>by rw[←hH];exact bM.lt hg
 have cP:=fun V (hV:Below H w V)=>Pt b0 o0 sc ss V (bM.steps.keep (fun g hg=>hV.block g (aX g hg))) aU.len;obtain⟨W1,cS,dR,g0,g1,dH⟩:=Dt w (.cells #[.string ⟨nm.toArray⟩,.string ⟨tx.toArray⟩,.slice (some ⟨b0,o0,none⟩) ss.length sc] 24) (.cells #[.string ⟨#[]⟩,.string ⟨#[]⟩,.slice none 0 0] 24) H hH;obtain⟨⟨k0,f0⟩,⟨k1,f1⟩,⟨k2,f2⟩⟩:=Ag g0;have aD:∀(j:Nat) (s:Ai),ss[j]?=some s→s.In w:=fun j s hj=>(bM.steps j s hj).2;have eS:ss.length≤100000:=aU.len;have dL:∀s∈ss,s.after.length≤1000000000:=aU.af;have dU:∀s∈ss,Ov s.note.bare:=aU.nt;obtain⟨M,hM⟩:=qeX ss.length;rw[hM]at cP cS g0 k2 eS ⊢;have eO:=Ab cS;have dF:=Ab dR;have fA:=Ab g0;have eQ:=Ab g1;have eP:=Ab cP;have fF:=Ab aD;have cO:=Ab aX;have fB:=Ab dL;have fD:=Ab dU;have HM:=Ab hM;have gH:=Ab eC;clear cS dR g0 g1 cP aD aX dL dU hM eC bM aU;unfold Mk;rw[hH];go_enter Tryz.func67,Tryz.ntmps67
 go_upto_region 1 with fail
 try rw[hH]
 rw[Aa eO];go_upto_region 2 with(go_at_call 109;refine(Aa eP _ (Aa dF)).mono ?_;rintro e w2 ⟨bR,cap,rfl,cD,fQ,aA,dT,eB⟩;have bD:=(aA.block H (by omega)).trans (Aa fA);obtain⟨_,_,⟨_,eE⟩⟩:=Ag bD;have cA:=Ab bD;clear bD)
 obtain⟨W3,J⟩:=qeX (w2.setCell ⟨H,2,none⟩ (.slice (some ⟨bR,0,none⟩) M cap));rw[J];have gA:=aA.size;have aE:∀g,g≠H→W3.heap[g]?=w2.heap[g]?:=fun g hg=>by rw[←J];exact qC _ _ _ _ hg
 have g2:W3.heap[H]?=some (.cells #[.string ⟨nm.toArray⟩,.string ⟨tx.toArray⟩,.slice (some ⟨bR,0,none⟩) ss.length cap] 24):=by
  have h:=Aa cA;rw[←J,Aa HM];simp[World.setCell,Array.getElem?_modify,h]
 have aI:Below H w W3:=by rw[←J];exact((Aa dF).trans (aA.mono (by omega))).setCell (p:=⟨H,2,none⟩) (qJ H) _
 have hI:CpI w W3 H bR cap ⟨nm,tx,some ⟨b0,o0,none⟩,sc,ss⟩ 0 ss:=⟨g2,(aE _ (by omega)).trans ((aA.block _ (by omega)).trans (Aa eQ)),cD.keep (aE bR (by omega)),rfl,by omega,fun j s hj=>(Aa fF j s hj).keep (fun g hg=>aI.block g (Aa cO g (.inr ⟨s,qN hj,hg⟩))),fun j s _ h=>by omega,fun j _=>rfl,aI⟩;have HI:=Ab hI;clear k0 k1 k2 f0 f1 f2 eE J aE g2 aI hI cD aA cA;obtain⟨⟨k0,f0⟩,⟨k1,f1⟩,⟨k2,f2⟩⟩:=Ag (Aa HI).df;simp only[Aa HM]at k0 k1 k2;go_wp2
 go_loopg [12] M (fun g eL wx=>∃(i:Nat) (L:List Ai),i+g=M∧eL=.int .i64 i∧Hid (CpI w wx H bR cap ⟨nm,tx,some ⟨b0,o0,none⟩,sc,ss⟩ i L))
 case atStart=>exact⟨0,ss,by omega,by go_num,HI⟩
 case round=>
  obtain⟨i,L,fO,rfl,aP⟩:=hrel;clear k0 k1 k2 f0 f1 f2;cases gk with
  |zero=>
   have e1:(M:Int)≤(i:Int):=by omega
   have j1:decide ((i:Int)<(M:Int))=false:=by simp;omega
   obtain⟨⟨k0,f0⟩,⟨k1,f1⟩,⟨k2,f2⟩⟩:=Ag (Aa aP).df;simp only[Aa HM]at k0 k1 k2;obtain⟨⟨l0,m0⟩,⟨l1,m1⟩,⟨l2,m2⟩⟩:=Ag (Aa aP).zr;go_wp2
   (try simp only[Exit.inBlock,Exit.then])
   have hi:=Aa aP;have g3:=hi.zr
   have g4:(((wr.setCell ⟨H+1,0,none⟩ (.string ⟨nm.toArray⟩)).setCell ⟨H+1,1,none⟩ (.string ⟨tx.toArray⟩)).setCell ⟨H+1,2,none⟩ (.slice (some ⟨bR,0,none⟩) M cap)).heap[H+1]?=some (.cells #[.string ⟨nm.toArray⟩,.string ⟨tx.toArray⟩,.slice (some ⟨bR,0,none⟩) M cap] 24):=by
    simp[World.setCell,Array.getElem?_modify,g3]
   refine qV (Ah rfl _ _ _ (H+1) _ rfl (Oc g4)) rfl ?_
   have aE:∀g,g≠H+1→(((wr.setCell ⟨H+1,0,none⟩ (.string ⟨nm.toArray⟩)).setCell ⟨H+1,1,none⟩ (.string ⟨tx.toArray⟩)).setCell ⟨H+1,2,none⟩ (.slice (some ⟨bR,0,none⟩) M cap)).heap[g]?=wr.heap[g]?:=fun g hg=>by
    rw[qC _ _ _ _ hg,qC _ _ _ _ hg,qC _ _ _ _ hg]
   have cL:=hi.low;have aB:L.length=ss.length:=hi.len;have eD:∀(j:Nat) (s:Ai),L[j]?=some s→(∀g,s.blk g→H+2≤g∧g≠bR)∧∃s0,ss[j]?=some s0∧s.bare=Kx s0.bare:=fun j s hj=>hi.new j s hj (by have:=(qI.1 hj).1;rw[aB,Aa HM]at this;omega)
   have cK:∀g,Me.blkL (some ⟨bR,0,none⟩) L g→H+2≤g:=fun g hg=>by
    rcases hg with⟨_,o,e⟩|⟨s,hs,hg⟩
    ·cases e;exact cL
    ·obtain⟨j,hj⟩:=zM hs;exact((eD j s hj).1 g hg).1
   refine⟨⟨nm,tx,some ⟨bR,0,none⟩,cap,L⟩,?_,⟨(hi.row.inL (fun s hs=>by obtain⟨j,hj⟩:=zM hs;exact hi.inn j s hj)).keep (fun g hg=>aE g (by have:=cK g hg;omega)),?_,eB⟩,fun g hg=>by have:=cK g hg;omega,?_,?_⟩
   ·unfold Af.val;simp only[aB,Aa HM]
   ·show L.length≤cap;rw[aB,Aa HM];exact dT
   ·unfold Af.bare Bw;simp only
    congr 1
    rw[List.map_map];apply List.ext_getElem?;intro j;rw[zJ,zJ];cases hj:L[j]? with
    |none=>
     have:ss[j]?=none:=by
      rw[List.getElem?_eq_none_iff]at hj ⊢;omega
     rw[this];rfl
    |some s=>
     obtain⟨_,s0,h0,hb⟩:=eD j s hj;rw[h0];simp only[Option.map_some,Function.comp,hb]
   ·exact((hi.bel.setCell (p:=⟨H+1,0,none⟩) (Nat.le_succ H) _).setCell (p:=⟨H+1,1,none⟩) (Nat.le_succ H) _).setCell (p:=⟨H+1,2,none⟩) (Nat.le_succ H) _
  |succ g'=>
   have gE:(i:Int)<(M:Int):=by omega
   have fW:IntKind.i64.wrap ((i:Int)+1)=(i:Int)+1:=qG _ (by omega);have hi:=Aa aP;have aB:L.length=M:=by rw[←Aa HM];exact hi.len
   obtain⟨s1,bJ⟩:=Ap aB (show i<M by omega);have cR:ss[i]?=some s1:=by rw[←bJ];exact(hi.old i (qJ _)).symm
   have cV:=hi.inn i s1 bJ;have cH:=Aa fB s1 (qN cR);have cM:=Aa fD s1 (qN cR);have cL:=hi.low;have fL:=hi.row.lt;have aC:=fun V (hV:Below wr.heap.size wr V)=>Mp s1.aa s1.ac s1.after V (cV.below hV).keys cH;have Z:=fun V (hV:Below wr.heap.size wr V)=>Rk s1.note V (cV.below hV).note cM;obtain⟨T,hT⟩:=qeX (s1.note.bare.cut 18);rw[hT]at Z;have bY:=hi.row.cells bJ;have fR:=fun t=>hi.row.frozen t;obtain⟨n1,a1,u1,eV,eU,bU,q1,aJ,aK,aH,⟨k1,t1,dQ,dK,eH,dD,dX,eT,l1⟩⟩:=s1;obtain⟨⟨c0,c1,c2,c3⟩,⟨c4,c5,c6,c7⟩,⟨c8,c9,c10,c11,c12⟩⟩:=bY;simp only[Ai.aV,Nd.kind,Nd.text,Nd.kV,Nd.dV,Nd.line,Nd.ka,Nd.kc,Nd.keys,Nd.da,Nd.dc,Nd.kids]at c0 c1 c2 c3 c4 c5 c6 c7 c8 c9 c10 c11 c12;simp only[Nd.val_eq]at Z;simp only at aC;obtain⟨N1,dC⟩:=qeX bU.length;obtain⟨N2,dZ⟩:=qeX eH.length;obtain⟨N3,dW⟩:=qeX eT.length;rw[dC]at c3 aC;rw[dZ]at c10 Z;rw[dW]at c11 Z;obtain⟨K,hK⟩:=qeX wr.heap.size;obtain⟨V1,eA,bO,r0,fT⟩:=As wr (.cells #[.string ⟨n1.toArray⟩,.string ⟨a1.toArray⟩,.string ⟨u1.toArray⟩,.slice eV N1 eU,.int .i64 q1,.int .i64 aJ,.int .i64 aK,.int .i64 aH,.int .u8 k1,.string ⟨t1.toArray⟩,.slice dQ N2 dK,.slice dD N3 dX,.int .i64 l1] 63) K hK;obtain⟨⟨k0,_⟩,⟨bX,_⟩,⟨k2,_⟩⟩:=Ag ((bO.block H (by omega)).trans hi.df);simp only[Aa HM]at k0 bX k2;obtain⟨⟨y0,_⟩,⟨y1,_⟩,⟨y2,_⟩,⟨y3,_⟩,⟨y4,_⟩,⟨y5,_⟩,⟨y6,_⟩,⟨y7,_⟩,⟨y8,_⟩,⟨y9,_⟩,⟨bW,_⟩,⟨bQ,_⟩,⟨bL,_⟩⟩:=Am r0;rw[hK]at aC Z;have cG:=aC V1 bO;have cJ:=Ab cG;have cF:=Ab Z;have eW:=Ab eA;have eF:=Ab bO;have dI:=Ab r0;have cB:=Ab bJ;have eN:=Ab dC;have HT:=Ab hT;clear cG aC Z eA bO r0 dC hi cR cV cH cM dZ dW bJ hT;go_upto_region 5 with fail
   try rw[hK]
   rw[Aa eW];go_upto_region 6 with(go_at_call 110;refine(Aa cJ).mono ?_;rintro e w2 ⟨bI,bE,rfl,dJ,aA⟩;have cU:=(aA.block K (by omega)).trans (Aa dI);obtain⟨_,_,_,⟨_,z3⟩,_⟩:=Am cU;have dP:=Ab cU;clear cU)
   have dM:=Aa eF;have cN:Below K wr w2:=dM.trans (aA.mono (by omega));obtain⟨W3,J⟩:=qeX (w2.setCell ⟨K,3,none⟩ (.slice bI N1 bE));rw[J]
   have r3:W3.heap[K]?=some (.cells #[.string ⟨n1.toArray⟩,.string ⟨a1.toArray⟩,.string ⟨u1.toArray⟩,.slice bI N1 bE,.int .i64 q1,.int .i64 aJ,.int .i64 aK,.int .i64 aH,.int .u8 k1,.string ⟨t1.toArray⟩,.slice dQ N2 dK,.slice dD N3 dX,.int .i64 l1] 63):=by
    have h:=Aa dP;rw[←J];simp[World.setCell,Array.getElem?_modify,h]
   have aT:∀g,g≠K→W3.heap[g]?=w2.heap[g]?:=fun g hg=>by rw[←J];exact qC _ _ _ _ hg
   have aI:Below K wr W3:=by rw[←J];exact cN.setCell (p:=⟨K,3,none⟩) (qJ K) _
   have gC:=aA.size;have fZ:W3.heap.size=w2.heap.size:=by rw[←J];simp
   have cC:=Aa cF W3 aI;have dE:=Ab dJ;have cZ:=Ab aT;have eM:=Ab aI;have cI:=Ab cC;have dY:=Ab r3;clear y0 y1 y2 y3 y4 y5 y6 y7 y8 y9 bW bQ bL k0 bX k2 z3 J aT cC dM cN dP dI cF cJ;obtain⟨_,_,_,_,_,_,_,_,⟨y8,_⟩,⟨y9,_⟩,⟨bW,_⟩,⟨bQ,_⟩,⟨bL,_⟩⟩:=Am r3;clear r3 aI;go_upto_region 7 with(go_at_call 111;refine(Aa cI).mono ?_;rintro e w4 ⟨k2,t2,aN,aR,bV,aS,aO,bZ,l2,rfl,eG,bF⟩;obtain⟨N4,dB⟩:∃n,bV.length=n:=⟨_,rfl⟩;obtain⟨N5,cQ⟩:∃n,bZ.length=n:=⟨_,rfl⟩;rw[dB,cQ];have eI:=Ab dB;have eK:=Ab cQ;clear dB cQ;have cX:=(bF.block K (by omega)).trans (Aa dY);obtain⟨_,_,_,_,_,_,_,_,⟨_,z8⟩,⟨_,z9⟩,⟨_,eR⟩,⟨_,fC⟩,⟨_,eZ⟩⟩:=Am cX;have dN:=Ab cX;clear cX)
   obtain⟨W5,aQ⟩:=qeX ((((((w4.setCell ⟨K,8,none⟩ (.int .u8 k2)).setCell ⟨K,9,none⟩ (.string ⟨t2.toArray⟩)).setCell ⟨K,10,none⟩ (.slice aN N4 aR)).setCell ⟨K,11,none⟩ (.slice aS N5 aO)).setCell ⟨K,12,none⟩ (.int .i64 l2)));rw[aQ]
   have r5:W5.heap[K]?=some (.cells #[.string ⟨n1.toArray⟩,.string ⟨a1.toArray⟩,.string ⟨u1.toArray⟩,.slice bI N1 bE,.int .i64 q1,.int .i64 aJ,.int .i64 aK,.int .i64 aH,.int .u8 k2,.string ⟨t2.toArray⟩,.slice aN N4 aR,.slice aS N5 aO,.int .i64 l2] 63):=by
    have h:=Aa dN;rw[←aQ];simp[World.setCell,Array.getElem?_modify,h]
   have aY:∀g,g≠K→W5.heap[g]?=w4.heap[g]?:=fun g hg=>by rw[←aQ,qC _ _ _ _ hg,qC _ _ _ _ hg,qC _ _ _ _ hg,qC _ _ _ _ hg,qC _ _ _ _ hg]
   have gI:=bF.size
   have bK:Below K wr W5:=by
    rw[←aQ];have bG:K≤K:=qJ K;exact(((((((Aa eM).trans (bF.mono (by omega)))).setCell (p:=⟨K,8,none⟩) bG _).setCell (p:=⟨K,9,none⟩) bG _).setCell (p:=⟨K,10,none⟩) bG _).setCell (p:=⟨K,11,none⟩) bG _).setCell (p:=⟨K,12,none⟩) bG _
   have gD:W5.heap.size=w4.heap.size:=by rw[←aQ];simp
   have hi:=Aa aP;obtain⟨⟨k0,_⟩,⟨bX,_⟩,⟨fI,_⟩⟩:=Ag ((bK.block H (by omega)).trans hi.df);simp only[Aa HM]at k0 bX fI;have I:∀t,W5.frozen? ⟨bR,t,none⟩=false:=fun t=>(hi.row.keep (bK.block bR (by omega))).frozen t;have fS:=I (i*13);have gG:=(I (i*13+1));have eE:=(I (i*13+2));have fP:=(I (i*13+3));have fY:=(I (i*13+4));have fU:=(I (i*13+5));have gF:=(I (i*13+6));have fN:=(I (i*13+7));have gB:=(I (i*13+8));have fX:=(I (i*13+9));have fM:=(I (i*13+10));have fK:=(I (i*13+11));have fJ:=(I (i*13+12));obtain⟨⟨x0,x1,x2,x3⟩,⟨x4,x5,x6,x7⟩,⟨x8,x9,fH,eX,eY⟩⟩:=(hi.row.keep (bK.block bR (by omega))).cells (Aa cB);simp only[Ai.aV,Nd.kind,Nd.text,Nd.kV,Nd.dV,Nd.line,Nd.ka,Nd.kc,Nd.keys,Nd.da,Nd.dc,Nd.kids]at x0 x1 x2 x3 x4 x5 x6 x7 x8 x9 fH eX eY;have fE:=Ab bK;have aW:=Ab aY;have fV:=Ab r5;have fG:=Ab eG;have eJ:=Ab bF;clear y8 y9 bW bQ bL z8 z9 eR fC eZ aQ aY bK hi I dN dY cI eG bF;obtain⟨⟨y0,_⟩,⟨y1,_⟩,⟨y2,_⟩,⟨y3,_⟩,⟨y4,_⟩,⟨y5,_⟩,⟨y6,_⟩,⟨y7,_⟩,⟨y8,_⟩,⟨y9,_⟩,⟨bW,_⟩,⟨bQ,_⟩,⟨bL,_⟩⟩:=Am r5;clear r5;go_upto_region 8 with fail
   obtain⟨W6,cT⟩:=qeX ((((((((((((((W5.setCell ⟨bR,i*13,none⟩ (.string ⟨n1.toArray⟩)).setCell ⟨bR,i*13+1,none⟩ (.string ⟨a1.toArray⟩)).setCell ⟨bR,i*13+2,none⟩ (.string ⟨u1.toArray⟩)).setCell ⟨bR,i*13+3,none⟩ (.slice bI N1 bE)).setCell ⟨bR,i*13+4,none⟩ (.int .i64 q1)).setCell ⟨bR,i*13+5,none⟩ (.int .i64 aJ)).setCell ⟨bR,i*13+6,none⟩ (.int .i64 aK)).setCell ⟨bR,i*13+7,none⟩ (.int .i64 aH)).setCell ⟨bR,i*13+8,none⟩ (.int .u8 k2)).setCell ⟨bR,i*13+9,none⟩ (.string ⟨t2.toArray⟩)).setCell ⟨bR,i*13+10,none⟩ (.slice aN N4 aR)).setCell ⟨bR,i*13+11,none⟩ (.slice aS N5 aO)).setCell ⟨bR,i*13+12,none⟩ (.int .i64 l2)));rw[cT];obtain⟨aL,aZ,bC⟩:=Aa (Aa fG);obtain⟨a3,bT,e3,dH,dG,cW,dA⟩:=(Aa (Aa dE)).slice;have ea:a3=bI:=by injection e3 with e _ _;exact e.symm
   have ec:bT=bE:=by injection e3 with _ _ e;exact e.symm
   clear e3;subst ea ec;have aM:∀g,g<w2.heap.size→g≠K→W5.heap[g]?=w2.heap[g]?:=fun g h1 h2=>(Aa aW g h2).trans (((Aa eJ).block g (by omega)).trans (Aa cZ g h2));have aD:Ai.In W5 ⟨n1,a1,u1,a3,bT,bU,q1,aJ,aK,aH,⟨k2,t2,aN,aR,bV,aS,aO,bZ,l2⟩⟩:=⟨cW.keep (fun r hn hr=>aM r (Ai.inS_lt cW hn hr) (by have:=dA r hn hr;omega)),dH,dG,aZ.keep (fun r hr=>Aa aW r (by have:=bC r hr;omega))⟩
   have aG:=(Aa aP).next (V':=W5) (s':=⟨n1,a1,u1,a3,bT,bU,q1,aJ,aK,aH,⟨k2,t2,aN,aR,bV,aS,aO,bZ,l2⟩⟩) (Aa cO) (Aa cB) (by rw[hK];exact Aa fE) aD (fun g hg=>by
    rw[hK];rcases hg with⟨hn,hr⟩|hr
    ·have:=dA g hn hr;omega
    ·have:=bC g hr;omega) (by unfold Ai.bare Kx;simp only;rw[aL,←Aa HT])
   have dS:W5.setCells bR (i*13) (Ai.cs ⟨n1,a1,u1,a3,bT,bU,q1,aJ,aK,aH,⟨k2,t2,aN,aR,bV,aS,aO,bZ,l2⟩⟩)=W6:=by
    rw[←cT,←Aa eN,←Aa eI,←Aa eK];rfl
   rw[dS]at aG;have cY:=Ab aG;clear aG dS cT aD aM cW dA aZ bC aL;go_wp2;go_roundg g'
   case measure=>omega
   case rel=>exact⟨i+1,_,by omega,by go_num,cY⟩
end Go.Proofs.YtefokfbgpfcbkaaGreat
